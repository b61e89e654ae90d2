/- StepsOrder, walked. -/
import Derived.Test.YtkjloeefcaadlaaM36
set_option linter.unusedSimpArgs false
set_option linter.unusedVariables false
namespace Go.Proofs.Ytkjloeefcaadlaa
open Go.RowKit Go.Shelf Go.Cs
attribute [local go_sem] Oper.semAt_some
def seqF (x : Nat) (l : List Dn) (j : Nat) : List Value := (momA DS x l j).cs
theorem own_cells {W : World} {N n sz : Nat} {e : TypeId} {v : Value} {xs : List Value} (h : W.ownsRow N e sz v n xs) {k : Nat} (hk : v.ownBlock = some k) : ∀ o, W.heap[k]? = some o → o.isCells = true := by
  intro o ho
  rcases h.2 with ⟨rfl, _⟩ | ⟨b, cap, cur, rfl, _, hb, _⟩
  · cases hk
  · cases hk
    rw [hb] at ho
    cases ho
    rfl
theorem own_ne89 {W : World} {N n D : Nat} {v : Value} {xs : List Value} {cs : Array Value} (h : W.ownsRow N 95 8 v n xs) (hD : W.heap[D]? = some (.cells cs 89 (0, 0))) : ¬ v.ownBlock = some D := by
  intro hk
  rcases h.2 with ⟨rfl, _⟩ | ⟨b, cap, cur, rfl, _, hb, _⟩
  · cases hk
  · cases hk
    rw [hb] at hD
    cases hD
/-- A moment more. -/
theorem opH_app95 {ops : Array Oper} {Q : Exit → Act → World → Prop} {j : Nat} {o : Oper} (d : Option Tmp) {a : Act} {K : Act → World → Prop} (hi : ops[j]? = some o) (hw : Region.wanted o (yielded ops a.tmps) = true) (hd : o.dst = d)
    {W : World} {base A : Nat} {s x : Operand} (hop : o.op = .call { callee := .builtin .append, args := #[s, x], argTypes := #[75, 75] }) {v : Value} {n : Nat} {xs : List Value} (hs : a.eval s = v) (hown : W.ownsRow base 95 8 v n xs)
    (hx : a.eval x = .slice (some ⟨A, 0, none⟩) 1 1) {mo : Mo} (hA : W.heap[A]? = some (.cells mo.cs.toArray 95 (0, 0))) (hn : n + 1 ≤ 1000) (hb : base ≤ W.heap.size)
    (hK : ∀ v' w', w'.ownsRow base 95 8 v' (n + 1) (xs ++ mo.cs) → W.grownBy w' v.ownBlock → (v'.ownBlock = v.ownBlock ∨ v'.ownBlock = some W.heap.size) → K (a.put d v') w') : wpOp Try.prog ops Q j K a W := by
  obtain ⟨i95, hi95, hz0, hz1, hz2⟩ := info_parts info95'
  obtain ⟨v', w', hr, h2, h3, h4⟩ := run_append (P := Try.prog) hop Try.underlying75 hi95 hz0 hz1 hz2 rfl (by decide) v n xs hs hown ⟨A, 0, none⟩ 1 1 mo.cs hx rfl (cells_new hA) (by
    intro u hu
    simp [Mo.cs] at hu
    rcases hu with rfl | rfl | rfl | rfl | rfl | rfl | rfl | rfl <;> rfl) (by unfold maxLen; omega) (by omega) hb (by decide)
  exact opH_value d hi hw hd hr (hK v' w' h2 h3 h4)
set_option maxRecDepth 100000 in
set_option maxHeartbeats 4000000 in
theorem order_no_yet (x : Nat) (la : Option Addr) (lc : Nat) (l : List Dn) (at' : Int) (w : World) (hx : x < 18446744073709551616) (hv : ReadsE w (.slice la l.length lc) l) (hno : newOk rightB x [l] = false ∨ 7 < l.length) :
    Calls Try.prog 12 #[.int .u64 x, .slice la l.length lc, .int .i64 at'] w fun e w' => e = .returned (.bool true) ∧ New w w' := by
  obtain ⟨hL, hN0⟩ := made_list hv
  have HC := Lib.hid (begun_S x _ [l] _ hx hL (many_one hv.1))
  obtain ⟨ok, hok⟩ : ∃ b, newOk rightB x [l] = b := ⟨_, rfl⟩
  rw [hok] at HC hno
  obtain ⟨m0, hm0⟩ : ∃ m, (if ok = true then newM x [l] else noneM) = m := ⟨_, rfl⟩
  rw [hm0] at HC
  have HK := Lib.hid wakes_any
  obtain ⟨n, hn⟩ : ∃ n, l.length = n := ⟨_, rfl⟩
  rw [hn] at HC hN0 hno ⊢
  have HN0 := Lib.hid hN0
  have Hno := Lib.hid hno
  clear hL hN0 hno hv hn hok hm0
  go_enter Try.func12, Try.ntmps12
  go_upto_region 2 with fail
  refine HC.out.mono ?_
  rintro e w1 ⟨v', rfl, hR, hN1⟩
  obtain ⟨ata, atc, aha, ahc, alv, rfl, hR'⟩ := hR.slices
  clear hR
  have hone := mach_ones m0.word m0.clock ata aha m0.ths.length atc m0.hist.length ahc
  have hA2 : (w1.alloc (.cells #[.int .u64 0, .int .i64 0, .slice none 0 0, .slice none 0 0] 77)).heap[w1.heap.size]? = some (.cells #[.int .u64 0, .int .i64 0, .slice none 0 0, .slice none 0 0] 77 (0, 0)) := World.alloc_heap_new w1 _
  obtain ⟨hNm, hBm, _⟩ := made_mach hR'
  unfold Z77 at hNm hBm
  have HNw := Lib.hid (HN0.out.trans hN1)
  clear hN1 HC HN0
  have hRm := hR'.new hNm
  clear hR'
  go_upto_region 2 with (refine op_skip rfl (run_store_row 77 (.tmp 7) (.tmp 19) rfl w1.heap.size rfl 77 [.int .u64 0, .int .i64 0, .slice none 0 0, .slice none 0 0] [.int .u64 (m0.word : Nat), .int .i64 m0.clock, .slice ata m0.ths.length atc, .slice aha m0.hist.length ahc] rfl hA2 info77 rfl hone) ?_)
  clear hA2 hone
  obtain ⟨W1, hW2⟩ : ∃ W, (w1.alloc (.cells #[.int .u64 0, .int .i64 0, .slice none 0 0, .slice none 0 0] 77)).setRow w1.heap.size #[.int .u64 (m0.word : Nat), .int .i64 m0.clock, .slice ata m0.ths.length atc, .slice aha m0.hist.length ahc] = W := ⟨_, rfl⟩
  obtain ⟨A, hB⟩ : ∃ B, w1.heap.size = B := ⟨_, rfl⟩
  rw [hW2] at hBm hRm hNm ⊢
  rw [hB] at hBm ⊢
  clear hW2 hB
  have HN := Lib.hid (HNw.out.trans hNm)
  clear hRm hNm hBm HNw
  cases ok with
  | false =>
    go_wp2_with fail
    refine (HK.out _).mono ?_
    rintro e w2 ⟨rfl, hN2⟩
    have HN2 := Lib.hid (HN.out.trans hN2)
    clear hN2
    go_wp2_with fail
    go_ret
    exact ⟨rfl, HN2.out⟩
  | true =>
    have h7 : decide ((7 : Int) < (n : Int)) = true := decide_eq_true (by
      rcases Hno.out with h | h
      · cases h
      · omega)
    go_wp2_with fail
    refine (HK.out _).mono ?_
    rintro e w2 ⟨rfl, hN2⟩
    have HN2 := Lib.hid (HN.out.trans hN2)
    clear hN2
    go_wp2_with fail
    go_ret
    exact ⟨rfl, HN2.out⟩
theorem op_value_gK {ops : Array Oper} {Q : Exit → Act → World → Prop} {rest : List Oper} {o : Oper} {a : Act} {w : World} {R : Value → World → Prop} (hw : Region.wanted o (yielded ops a.tmps) = true) (hr : ∃ v w', (execOp a.eval o).run Try.prog w = .ok (.value v) w' ∧ R v w') (h : ∀ v w', R v w' → wpList Try.prog ops Q rest (a.put o.dst v) w') : wpList Try.prog ops Q (o :: rest) a w := by
  obtain ⟨v, w', hr, hR⟩ := hr
  exact op_value_g hw hr (h v w' hR)
/-- Moments appended to an empty row. -/
theorem run_moments {o : Oper} {a : Act} {W : World} {base : Nat} {s x : Operand} (hop : o.op = .call { callee := .builtin .append, args := #[s, x], argTypes := #[75, 75] }) {E n qc : Nat} {qa : Option Addr} (hE : W.heap[E]? = some (.cells #[] 95 (0, 0)))
    (hs : a.eval s = .slice (some ⟨E, 0, none⟩) 0 0) (H : List Mo) (hn : H.length = n) (hx : a.eval x = .slice qa n qc) (hR : ReadsF W (.slice qa n qc) n 8 (mosF H)) (hb : base ≤ E) :
    ∃ v' W', (execOp a.eval o).run Try.prog W = .ok (.value v') W' ∧ (W'.ownsRow base 95 8 v' n (flatF n (mosF H)) ∧ W.grownBy W' (some E)) := by
  have hown : W.ownsRow base 95 8 (.slice (some ⟨E, 0, none⟩) 0 0) 0 [] := ⟨rfl, .inr ⟨E, 0, #[], rfl, hb, hE, Nat.le_refl _, by unfold maxLen; omega, rfl, rfl⟩⟩
  have hlt : E < W.heap.size := (Array.getElem?_eq_some_iff.1 hE).1
  obtain ⟨i0, hi, hz0, hz1, hz2⟩ := info_parts info95'
  have hl2 := hR.1
  obtain ⟨c1, c2⟩ := ReadsF.cells (by decide) (mosF_len _) hR
  cases qa with
  | none =>
    obtain rfl : n = 0 := c1 rfl
    refine ⟨_, W, ?_, hown, World.grownBy.refl W _⟩
    have hr : (Builtin.append_ #[75, 75] o.type #[.slice (some ⟨E, 0, none⟩) 0 0, .slice none 0 qc]).run Try.prog W = .ok (.slice (some ⟨E, 0, none⟩) 0 0) W := by
      simp [Builtin.append_, run_underlying Try.underlying75, sizeOf, typeInfo, hi, Builtin.lenOf, Builtin.firstCells, storeCells]
    simp [execOp, hop, resolve, invoke, builtin, hs, hx, hr, Result.andThen]
  | some ad =>
    have h1 : ∀ u ∈ flatF n (mosF H), u.oneCell' = true := by rw [← hn]; exact mosF_one H
    obtain ⟨v', w', hr, h2, h3, _⟩ := run_append_own (P := Try.prog) W base 75 o.type 95 i0 _ 8 64 Try.underlying75 hi hz0 hz1 hz2 rfl (by decide) _ 0 [] hown ad n qc (flatF n (mosF H)) (flatF_len (mosF_len _) n) (c2 ad rfl) h1 (by unfold maxLen; omega) (by omega) (by omega)
    refine ⟨v', w', ?_, by simpa using h2, h3⟩
    simp [execOp, hop, resolve, invoke, builtin, hs, hx, hr, Result.andThen]
theorem run_moment {o : Oper} {a : Act} {W : World} {base A n : Nat} {s x : Operand} (hop : o.op = .call { callee := .builtin .append, args := #[s, x], argTypes := #[75, 75] }) {v : Value} {xs : List Value} (hs : a.eval s = v) (hown : W.ownsRow base 95 8 v n xs)
    (hx : a.eval x = .slice (some ⟨A, 0, none⟩) 1 1) (mo : Mo) (hA : W.heap[A]? = some (.cells mo.cs.toArray 95 (0, 0))) (hn : n + 1 ≤ 1000) (hb : base ≤ W.heap.size) :
    ∃ v' w', (execOp a.eval o).run Try.prog W = .ok (.value v') w' ∧ (w'.ownsRow base 95 8 v' (n + 1) (xs ++ mo.cs) ∧ W.grownBy w' v.ownBlock) := by
  obtain ⟨i95, hi95, hz0, hz1, hz2⟩ := info_parts info95'
  obtain ⟨v', w', hr, h2, h3, h4⟩ := run_append (P := Try.prog) hop Try.underlying75 hi95 hz0 hz1 hz2 rfl (by decide) v n xs hs hown ⟨A, 0, none⟩ 1 1 mo.cs hx rfl (cells_new hA) (by
    intro u hu
    simp [Mo.cs] at hu
    rcases hu with rfl | rfl | rfl | rfl | rfl | rfl | rfl | rfl <;> rfl) (by unfold maxLen; omega) (by omega) hb (by decide)
  exact ⟨v', w', hr, h2, h3⟩
def moreM : Mo := ⟨0, ⟨4, 9, 0⟩, 99, -1, 0, false⟩
theorem seq_more {x : Nat} {l : List Dn} {n : Nat} (hn : l.length = n) (h7 : n ≤ 7) (h0 : rightB x = true) (hl : allD l = true) : linM DS rightB x (seqH DS x l n) (wordA DS x l n) = true ∧ linM DS rightB x (seqH DS x l n ++ [moreM]) (wordA DS x l n) = true := by
  subst hn
  have hL := seqH_len DS x l l.length
  refine ⟨order_yes h0 hl (by omega) (by omega) (fun i hi => seqH_at (D := DS) x l hi) (fun i h1 h2 => by omega), order_yes h0 hl (by rw [List.length_append, hL]; simp; omega) (by rw [List.length_append, hL]; omega) (fun i hi => ?_) (fun i h1 h2 => ?_)⟩
  · have : (seqH DS x l l.length ++ [moreM]).getD i .no = (seqH DS x l l.length).getD i .no := by simp [List.getD, List.getElem?_append_left (by omega : i < (seqH DS x l l.length).length)]
    rw [this]
    exact seqH_at (D := DS) x l hi
  · rw [List.length_append, hL] at h2
    obtain rfl : i = l.length := by simp at h2; omega
    have : (seqH DS x l l.length ++ [moreM]).getD l.length .no = moreM := by
      simp only [List.getD]
      rw [List.getElem?_append_right (by omega), hL]
      simp
    rw [this]
    exact ⟨rfl, rfl⟩
theorem seq_in {x : Nat} {l : List Dn} {n : Nat} (hn : l.length = n) (h : InLs l) : InH (seqH DS x l n) := by
  intro i hi
  rw [seqH_len] at hi
  rw [seqH_at (D := DS) x l hi]
  exact h i (by omega)
theorem more_in {H : List Mo} (h : InH H) : InH (H ++ [moreM]) := by
  intro i hi
  rw [List.length_append] at hi
  by_cases e : i < H.length
  · have : (H ++ [moreM]).getD i .no = H.getD i .no := by simp [List.getD, List.getElem?_append_left e]
    rw [this]
    exact h i e
  · have : (H ++ [moreM]).getD i .no = moreM := by
      simp only [List.getD]
      rw [List.getElem?_append_right (by omega)]
      have : i - H.length = 0 := by simp at hi; omega
      rw [this]
      rfl
    rw [this]
    exact ⟨⟨by decide, by decide⟩, by decide, by decide⟩
theorem seq_F {x : Nat} {l : List Dn} {n : Nat} : flatF n (seqF x l) = flatF n (mosF (seqH DS x l n)) := flatF_congr fun i hi => by
  unfold mosF seqF
  rw [seqH_at (D := DS) x l hi]
theorem more_F {H : List Mo} {n : Nat} (hn : H.length = n) : flatF n (mosF H) ++ moreM.cs = flatF (n + 1) (mosF (H ++ [moreM])) := by
  rw [flatF_succ]
  congr 1
  · refine flatF_congr fun i hi => ?_
    unfold mosF
    have : (H ++ [moreM]).getD i .no = H.getD i .no := by simp [List.getD, List.getElem?_append_left (by omega : i < H.length)]
    rw [this]
  · unfold mosF
    have : (H ++ [moreM]).getD n .no = moreM := by
      simp only [List.getD]
      rw [List.getElem?_append_right (by omega), hn]
      simp
    rw [this]
set_option maxRecDepth 100000 in
set_option maxHeartbeats 8000000 in
theorem order_walk (x : Nat) (la : Option Addr) (lc : Nat) (l : List Dn) (at' : Int) (w : World) (hx : x < 18446744073709551616) (hv : ReadsE w (.slice la l.length lc) l) (hin : InLs l) (hok : newOk rightB x [l] = true) (h7 : l.length ≤ 7) :
    Calls Try.prog 12 #[.int .u64 x, .slice la l.length lc, .int .i64 at'] w fun e w' => e = .returned (.bool true) ∧ New w w' := by
  obtain ⟨hL, hN0⟩ := made_list hv
  have HC := Lib.hid (begun_S x _ [l] _ hx hL (many_one hv.1))
  rw [hok, if_pos rfl] at HC
  obtain ⟨hrx, hall, _⟩ := newOk_one hok
  have HK := Lib.hid wakes_any
  have HV := Lib.hid hv
  have Hin := Lib.hid hin
  have Hfacts := Lib.hid (And.intro hrx hall)
  obtain ⟨n, hn⟩ : ∃ n, l.length = n := ⟨_, rfl⟩
  have Hn := Lib.hid hn
  rw [hn] at HC hN0 HV h7 ⊢
  have HN0 := Lib.hid hN0
  obtain ⟨m0, hm0⟩ : ∃ m, newM x [l] = m := ⟨_, rfl⟩
  rw [hm0] at HC
  have d7 : decide ((7 : Int) < (n : Int)) = false := decide_eq_false (by omega)
  clear hL hN0 hok hv hn hrx hall hm0 hin
  go_enter Try.func12, Try.ntmps12
  go_upto_region 2 with fail
  refine HC.out.mono ?_
  rintro e w1 ⟨v', rfl, hR, hN1⟩
  obtain ⟨ata, atc, aha, ahc, alv, rfl, hR'⟩ := hR.slices
  clear hR
  have hone := mach_ones m0.word m0.clock ata aha m0.ths.length atc m0.hist.length ahc
  have hA2 : (w1.alloc (.cells #[.int .u64 0, .int .i64 0, .slice none 0 0, .slice none 0 0] 77)).heap[w1.heap.size]? = some (.cells #[.int .u64 0, .int .i64 0, .slice none 0 0, .slice none 0 0] 77 (0, 0)) := World.alloc_heap_new w1 _
  obtain ⟨hNm, hBm, _⟩ := made_mach hR'
  unfold Z77 at hNm hBm
  have HNw := Lib.hid (HN0.out.trans hN1)
  clear hN1 HC HN0
  have hRm := hR'.new hNm
  clear hR'
  go_upto_region 2 with (refine op_skip rfl (run_store_row 77 (.tmp 7) (.tmp 19) rfl w1.heap.size rfl 77 [.int .u64 0, .int .i64 0, .slice none 0 0, .slice none 0 0] [.int .u64 (m0.word : Nat), .int .i64 m0.clock, .slice ata m0.ths.length atc, .slice aha m0.hist.length ahc] rfl hA2 info77 rfl hone) ?_)
  clear hA2 hone
  obtain ⟨W0, hW2⟩ : ∃ W, (w1.alloc (.cells #[.int .u64 0, .int .i64 0, .slice none 0 0, .slice none 0 0] 77)).setRow w1.heap.size #[.int .u64 (m0.word : Nat), .int .i64 m0.clock, .slice ata m0.ths.length atc, .slice aha m0.hist.length ahc] = W := ⟨_, rfl⟩
  obtain ⟨A, hB⟩ : ∃ B, w1.heap.size = B := ⟨_, rfl⟩
  rw [hW2] at hBm hRm hNm ⊢
  rw [hB] at hBm ⊢
  clear hW2 hB
  have HN := Lib.hid (HNw.out.trans hNm)
  clear hRm hNm hBm HNw
  obtain ⟨N0, hN0⟩ : ∃ N, W0.heap.size = N := ⟨_, rfl⟩
  go_wp2_with fail
  go_loopw [9, 10, 11] (fun c9 c10 c11 wr => ∃ i : Nat, i ≤ n ∧ c10 = .int .u64 (wordA DS x l i : Nat) ∧ c11 = .int .i64 (i : Nat) ∧ Hid (wr.ownsRow N0 95 8 c9 i (flatF i (seqF x l))) ∧ Hid (New W0 wr)) (fun _ _ c _ => n - (intOf c).toNat)
  case atStart => exact ⟨0, Nat.zero_le _, rfl, rfl, Lib.hid (World.ownsRow_nil _ _ _ _), Lib.hid (Mods.refl _ _)⟩
  case round =>
    obtain ⟨i, hi, rfl, rfl, hO, hNr⟩ := hrel
    by_cases hin' : i < n
    · have hid : decide ((i : Int) < (n : Int)) = true := decide_eq_true (by omega)
      have i0 : (0 : Int) ≤ (i : Int) := by omega
      have i1 : (i : Int) < (n : Int) := by omega
      obtain ⟨_, a0, c0, he, hc⟩ := HV.out.new HN.out
      injection he with he1 he2 he3
      subst he1
      obtain ⟨b, o, rfl, hrd0⟩ := hc i (by rw [Hn.out]; exact hin')
      obtain ⟨p, hp⟩ : ∃ p, l.getD i .no = p := ⟨_, rfl⟩
      rw [hp] at hrd0
      have Hrd := Lib.hid hrd0
      have hrd : wr.rangeAt b (o + i * 3) p.cs := fun j v hj => hNr.out.cell (hrd0 j v hj) id
      obtain ⟨y, hy⟩ : ∃ y, wordA DS x l i = y := ⟨_, rfl⟩
      have hyr : rightB y = true := by rw [← hy]; exact word_right Hfacts.out.1 i
      have HD := Lib.hid (does_refR y hyr p)
      obtain ⟨⟨z, sl, ok⟩, hr⟩ : ∃ r, DS y p = r := ⟨_, rfl⟩
      rw [hr] at HD
      have hword : wordA DS x l (i + 1) = z := by
        show (DS (wordA DS x l i) (l.getD i .no)).1 = z
        rw [hp, hy, hr]
      have hmom : seqF x l i = (momV p i sl ok).cs := by
        unfold seqF momA momV
        rw [hp, hy, hr]
      have Hw := Lib.hid (And.intro hword hmom)
      rw [hy]
      clear hp hy hyr hr hword hmom hc hrd0 he2 he3
      unfold ansV at HD
      go_upto_region 9 with fail
      go_wp2_with (refine op_value rfl (run_load_mid 93 (.tmp 40) rfl b (o + i * 3) rfl p.cs _ hrd Try.underlying93 rfl info93) ?_)
      refine (HD.out _).mono ?_
      rintro e wd ⟨rfl, hNd⟩
      have hA9 : (wd.alloc (.cells #[.int .i64 0, .bool false] 89)).heap[wd.heap.size]? = some (.cells #[.int .i64 0, .bool false] 89 (0, 0)) := World.alloc_heap_new wd _
      have hone9 : ∀ u ∈ ([.int .i64 (sl : Nat), .bool ok] : List Value), u.oneCell' = true := by
        intro u hu
        simp only [List.mem_cons, List.not_mem_nil, or_false] at hu
        rcases hu with rfl | rfl <;> rfl
      have hNl : New wd ((wd.alloc (.cells #[.int .i64 0, .bool false] 89)).setRow wd.heap.size #[.int .i64 (sl : Nat), .bool ok]) := ((Mods.refl _ wd).alloc _).setRow (Nat.le_refl _) _
      have hL9 := setRow_heap _ wd.heap.size _ #[.int .i64 (sl : Nat), .bool ok] 89 (0, 0) hA9
      go_upto_region 11 with (refine op_skip rfl (run_store_row 89 (.tmp 13) (.tmp 44) rfl wd.heap.size rfl 89 [.int .i64 0, .bool false] [.int .i64 (sl : Nat), .bool ok] rfl hA9 info89 rfl hone9) ?_)
      clear hA9 hone9
      have hNw := hNr.out.trans (hNd.trans hNl)
      have hown := (hNd.trans hNl).ownsRow hO.out fun _ _ => id
      obtain ⟨W5, hW5⟩ : ∃ W, (wd.alloc (.cells #[.int .i64 0, .bool false] 89)).setRow wd.heap.size #[.int .i64 (sl : Nat), .bool ok] = W := ⟨_, rfl⟩
      obtain ⟨D, hD9⟩ : ∃ D, wd.heap.size = D := ⟨_, rfl⟩
      rw [hW5] at hown hNw hL9 ⊢
      rw [hD9] at hL9 ⊢
      clear hW5 hD9 hNd hNl HD hrd hNr hO
      have q1 : IntKind.i64.wrap (2 * (i : Int)) = 2 * (i : Int) := wrap_small (by omega) (by omega)
      have q2 : IntKind.i64.wrap (2 * (i : Int) + 1) = 2 * (i : Int) + 1 := wrap_small (by omega) (by omega)
      have q3 : IntKind.i64.wrap (2 * (i : Int) + 2) = 2 * (i : Int) + 2 := wrap_small (by omega) (by omega)
      refine piece (fun a a' W' => ∃ A hv', a' = (a.put (some 46) (u9) |>.put (some 47) (.slice (some ⟨b, o, none⟩) n lc) |>.put (some 48) (.int .i64 (i : Nat)) |>.put (some 49) (.pointer (some ⟨b, o + i * 3, none⟩)) |>.put (some 50) (.agg p.cs.toArray) |>.put (some 51) (.int .i64 (i : Nat)) |>.put (some 52) (.int .i64 (2 * (i : Int))) |>.put (some 53) (.int .i64 (2 * (i : Int) + 1)) |>.put (some 54) (.int .i64 (i : Nat)) |>.put (some 55) (.int .i64 (2 * (i : Int))) |>.put (some 56) (.int .i64 (2 * (i : Int) + 2)) |>.put (some 57) (.agg #[.int .i64 (sl : Nat), .bool ok]) |>.put (some 58) (.agg #[.int .i64 0, .int .u8 (p.d : Nat), .int .i64 p.s, .int .i64 p.u, .int .i64 (2 * (i : Int) + 1), .int .i64 (2 * (i : Int) + 2), .int .i64 (sl : Nat), .bool ok]) |>.put (some 59) (.slice (some ⟨A, 0, none⟩) 1 1) |>.put (some 60) hv' |>.put (some 9) hv') ∧ W'.ownsRow N0 95 8 hv' (i + 1) (flatF i (seqF x l) ++ (momV p i sl ok).cs) ∧ New W0 W') ?_ ?_
      · refine wp_region_held (by kernel_rfl) (S := fun W => New W0 W ∧ W.heap[D]? = some (.cells #[.int .i64 (sl : Nat), .bool ok] 89 (0, 0))) ?_
        show wpAnyH _ _ _ _ _ _ _ _ W5.drew
        replace hown := (Mods.refl (fun _ => False) W5).drew.ownsRow hown fun _ _ => id
        have hS := And.intro hNw.drew ((Mods.refl (fun _ => False) W5).drew.heap hL9 id)
        obtain ⟨Wd, hWd⟩ : ∃ Wd, W5.drew = Wd := ⟨_, rfl⟩
        rw [hWd] at hown hS ⊢
        clear hWd hNw hL9
        refine anyH_take 0 (some 46) (u9) rfl rfl (by kernel_rfl) (by kernel_rfl) (by kernel_rfl) (fun _ _ _ h => h.elim) (.inl ⟨by rfl, fun W hW => by go_simp⟩) hS ?_
        simp only [Act.put, List.setIfInBounds_toArray, List.set_cons_succ, List.set_cons_zero]
        refine anyH_take 1 (some 47) (.slice (some ⟨b, o, none⟩) n lc) rfl rfl (by kernel_rfl) (by kernel_rfl) (by kernel_rfl) (fun _ _ _ h => h.elim) (.inl ⟨by rfl, fun W hW => by go_simp⟩) hS ?_
        simp only [Act.put, List.setIfInBounds_toArray, List.set_cons_succ, List.set_cons_zero]
        refine anyH_take 2 (some 48) (.int .i64 (i : Nat)) rfl rfl (by kernel_rfl) (by kernel_rfl) (by kernel_rfl) (fun _ _ _ h => h.elim) (.inl ⟨by rfl, fun W hW => by go_simp⟩) hS ?_
        simp only [Act.put, List.setIfInBounds_toArray, List.set_cons_succ, List.set_cons_zero]
        refine anyH_take 3 (some 49) (.pointer (some ⟨b, o + i * 3, none⟩)) rfl rfl (by kernel_rfl) (by kernel_rfl) (by kernel_rfl) (fun _ _ _ h => h.elim) (.inl ⟨by rfl, fun W hW => by go_simp⟩) hS ?_
        simp only [Act.put, List.setIfInBounds_toArray, List.set_cons_succ, List.set_cons_zero]
        refine anyH_take 4 (some 50) (.agg p.cs.toArray) rfl rfl (by kernel_rfl) (by kernel_rfl) (by kernel_rfl) (fun _ _ _ h => h.elim) (.inl ⟨by rfl, fun W hW => run_load_mid 93 (.tmp 49) rfl b (o + i * 3) rfl p.cs _ (fun j v hj => hW.1.cell (Hrd.out j v hj) id) Try.underlying93 rfl info93⟩) hS ?_
        simp only [Act.put, List.setIfInBounds_toArray, List.set_cons_succ, List.set_cons_zero]
        refine anyH_take 5 (some 51) (.int .i64 (i : Nat)) rfl rfl (by kernel_rfl) (by kernel_rfl) (by kernel_rfl) (fun _ _ _ h => h.elim) (.inl ⟨by rfl, fun W hW => by go_simp⟩) hS ?_
        simp only [Act.put, List.setIfInBounds_toArray, List.set_cons_succ, List.set_cons_zero]
        refine anyH_take 6 (some 52) (.int .i64 (2 * (i : Int))) rfl rfl (by kernel_rfl) (by kernel_rfl) (by kernel_rfl) (fun _ _ _ h => h.elim) (.inl ⟨by rfl, fun W hW => by go_simp⟩) hS ?_
        simp only [Act.put, List.setIfInBounds_toArray, List.set_cons_succ, List.set_cons_zero]
        refine anyH_take 7 (some 53) (.int .i64 (2 * (i : Int) + 1)) rfl rfl (by kernel_rfl) (by kernel_rfl) (by kernel_rfl) (fun _ _ _ h => h.elim) (.inl ⟨by rfl, fun W hW => by go_simp⟩) hS ?_
        simp only [Act.put, List.setIfInBounds_toArray, List.set_cons_succ, List.set_cons_zero]
        refine anyH_take 8 (some 54) (.int .i64 (i : Nat)) rfl rfl (by kernel_rfl) (by kernel_rfl) (by kernel_rfl) (fun _ _ _ h => h.elim) (.inl ⟨by rfl, fun W hW => by go_simp⟩) hS ?_
        simp only [Act.put, List.setIfInBounds_toArray, List.set_cons_succ, List.set_cons_zero]
        refine anyH_take 9 (some 55) (.int .i64 (2 * (i : Int))) rfl rfl (by kernel_rfl) (by kernel_rfl) (by kernel_rfl) (fun _ _ _ h => h.elim) (.inl ⟨by rfl, fun W hW => by go_simp⟩) hS ?_
        simp only [Act.put, List.setIfInBounds_toArray, List.set_cons_succ, List.set_cons_zero]
        refine anyH_take 10 (some 56) (.int .i64 (2 * (i : Int) + 2)) rfl rfl (by kernel_rfl) (by kernel_rfl) (by kernel_rfl) (fun _ _ _ h => h.elim) (.inl ⟨by rfl, fun W hW => by go_simp⟩) hS ?_
        simp only [Act.put, List.setIfInBounds_toArray, List.set_cons_succ, List.set_cons_zero]
        refine anyH_take 11 (some 57) (.agg #[.int .i64 (sl : Nat), .bool ok]) rfl rfl (by kernel_rfl) (by kernel_rfl) (by kernel_rfl) (fun _ _ _ h => h.elim) (.inl ⟨by rfl, fun W hW => run_load_row 89 (.tmp 13) rfl D rfl 89 #[.int .i64 (sl : Nat), .bool ok] (0, 0) _ hW.2 Try.underlying89 rfl info89⟩) hS ?_
        simp only [Act.put, List.setIfInBounds_toArray, List.set_cons_succ, List.set_cons_zero]
        refine anyH_take 12 (some 58) (.agg #[.int .i64 0, .int .u8 (p.d : Nat), .int .i64 p.s, .int .i64 p.u, .int .i64 (2 * (i : Int) + 1), .int .i64 (2 * (i : Int) + 2), .int .i64 (sl : Nat), .bool ok]) rfl rfl (by kernel_rfl) (by kernel_rfl) (by kernel_rfl) (fun _ _ _ h => h.elim) (.inl ⟨by rfl, fun W hW => by unfold Dn.cs; go_simp⟩) hS ?_
        simp only [Act.put, List.setIfInBounds_toArray, List.set_cons_succ, List.set_cons_zero]
        refine wpAnyH_all (rs := [13]) (by kernel_rfl) (by simp) ?_
        simp only [List.mem_cons, List.not_mem_nil, or_false, forall_eq_or_imp, forall_eq]
        refine opH_value (some 59) (v := .slice (some ⟨Wd.heap.size, 0, none⟩) 1 1) (w' := Wd.alloc (.cells #[.int .i64 0, .int .u8 (p.d : Nat), .int .i64 p.s, .int .i64 p.u, .int .i64 (2 * (i : Int) + 1), .int .i64 (2 * (i : Int) + 2), .int .i64 (sl : Nat), .bool ok] 95)) rfl (by rfl) rfl (by go_simp) ?_
        have hA := World.alloc_heap_new Wd (.cells #[.int .i64 0, .int .u8 (p.d : Nat), .int .i64 p.s, .int .i64 p.u, .int .i64 (2 * (i : Int) + 1), .int .i64 (2 * (i : Int) + 2), .int .i64 (sl : Nat), .bool ok] 95)
        have hNa : New Wd (Wd.alloc (.cells #[.int .i64 0, .int .u8 (p.d : Nat), .int .i64 p.s, .int .i64 p.u, .int .i64 (2 * (i : Int) + 1), .int .i64 (2 * (i : Int) + 2), .int .i64 (sl : Nat), .bool ok] 95)) := (Mods.refl _ _).alloc _
        refine ⟨⟨hS.1.trans hNa, hNa.heap hS.2 id⟩, ?_⟩
        simp only [Act.put, List.setIfInBounds_toArray, List.set_cons_succ, List.set_cons_zero]
        replace hS := And.intro (hS.1.trans hNa) (hNa.heap hS.2 id)
        replace hown := hNa.ownsRow hown fun _ _ => id
        obtain ⟨WA, hWA⟩ : ∃ W, Wd.alloc (.cells #[.int .i64 0, .int .u8 (p.d : Nat), .int .i64 p.s, .int .i64 p.u, .int .i64 (2 * (i : Int) + 1), .int .i64 (2 * (i : Int) + 2), .int .i64 (sl : Nat), .bool ok] 95) = W := ⟨_, rfl⟩
        obtain ⟨A, hAA⟩ : ∃ A, Wd.heap.size = A := ⟨_, rfl⟩
        rw [hWA] at hA hS hown ⊢
        rw [hAA] at hA ⊢
        clear hWA hAA hNa
        refine wpAnyH_all (rs := [14]) (by kernel_rfl) (by simp) ?_
        simp only [List.mem_cons, List.not_mem_nil, or_false, forall_eq_or_imp, forall_eq]
        refine opH_app95 (some 60) rfl (by rfl) rfl rfl (W := WA) (base := N0) (by rfl) hown (by rfl) (mo := momV p i sl ok) hA (by omega) (by have := hS.1.size; omega) ?_
        intro hv' WB hown' hgrow hblk
        have hS' : New W0 WB ∧ WB.heap[D]? = some (.cells #[.int .i64 (sl : Nat), .bool ok] 89 (0, 0)) := ⟨hS.1.grown hgrow (fun k hk => .inl (by have := hown.lt k hk; omega)), ((Mods.refl (fun b => u9.ownBlock = some b) WA).grown hgrow (fun k hk => .inr ⟨hk, own_cells hown hk⟩)).heap hS.2 (own_ne89 hown hS.2)⟩
        refine ⟨hS', ?_⟩
        simp only [Act.put, List.setIfInBounds_toArray, List.set_cons_succ, List.set_cons_zero]
        replace hS := hS'
        refine anyH_take 15 (some 9) (hv') rfl rfl (by kernel_rfl) (by kernel_rfl) (by kernel_rfl) (fun _ _ _ h => h.elim) (.inl ⟨by rfl, fun W hW => by go_simp⟩) hS ?_
        simp only [Act.put, List.setIfInBounds_toArray, List.set_cons_succ, List.set_cons_zero]
        refine wpAnyH_done (by kernel_rfl) ?_ _
        exact ⟨A, hv', rfl, hown', hS.1⟩
      · rintro a' W' ⟨A', hv', rfl, hown', hN'⟩
        simp only [Act.put, List.setIfInBounds_toArray, List.set_cons_succ, List.set_cons_zero]
        rw [← Hw.out.2, ← flatF_succ] at hown'
        have HO' := Lib.hid hown'
        have HN' := Lib.hid hN'
        clear hown hown' hN' hNw hL9 q1 q2 q3
        go_wp2_with fail
        go_roundw
        case rel => exact ⟨i + 1, by omega, by rw [Hw.out.1], by go_num, HO', HN'⟩
        case measure => simp [intOf]; omega
    · obtain rfl : n = i := by omega
      have hid : decide ((n : Int) < (n : Int)) = false := decide_eq_false (by omega)
      obtain ⟨qa, qc, rfl⟩ := owns_slice hO.out
      obtain ⟨HH, hHH⟩ : ∃ H, seqH DS x l n = H := ⟨_, rfl⟩
      have hlen : HH.length = n := by rw [← hHH]; exact seqH_len _ _ _ _
      have HHd := Lib.hid hHH
      have hO' := hO.out
      rw [seq_F, hHH] at hO'
      obtain ⟨hy1, hy2⟩ := seq_more Hn.out (by omega) Hfacts.out.1 Hfacts.out.2
      have hinH := seq_in (x := x) Hn.out Hin.out
      rw [hHH] at hy1 hy2 hinH
      obtain ⟨y, hy⟩ : ∃ y, wordA DS x l n = y := ⟨_, rfl⟩
      rw [hy] at hy1 hy2 ⊢
      have HRd : Hid (∀ W, New wr W → ReadsF W (.slice qa n qc) n 8 (mosF HH)) := Lib.hid (fun W hW => ReadsF.new (ReadsF.ofOwns (by decide) (mosF_len _) (by omega) hO') hW)
      have HLIN : Hid (∀ W, New wr W → Calls Try.prog 52 #[.int .u64 x, .slice qa n qc, .int .u64 y] W fun e w' => e = .returned (.bool true) ∧ New W w') := Lib.hid (fun W hW => by
        have h := HRd.out W hW
        rw [← hlen] at h
        have := linear_S x y _ HH W h hx hinH
        rw [hy1, hlen] at this
        exact this)
      have HLIN2 : Hid (∀ W v, W.ownsRow N0 95 8 v (n + 1) (flatF (n + 1) (mosF (HH ++ [moreM]))) → Calls Try.prog 52 #[.int .u64 x, v, .int .u64 y] W fun e w' => e = .returned (.bool true) ∧ New W w') := Lib.hid (fun W v hW => by
        have h := ReadsF.ofOwns (by decide) (mosF_len _) (by omega) hW
        have hl1 : (HH ++ [moreM]).length = n + 1 := by simp [hlen]
        rw [← hl1] at h
        have := linear_S x y _ (HH ++ [moreM]) W h hx (more_in hinH)
        rw [hy2] at this
        exact this)
      have HO2 := Lib.hid hO'
      have Hlen := Lib.hid hlen
      have HinH := Lib.hid hinH
      have Hy := Lib.hid hy
      clear hy1 hy2 hinH hO' hlen hHH hO hy
      go_upto_region 12 with fail
      go_wp2_with fail
      refine (HLIN.out _ (Mods.refl _ _)).mono ?_
      rintro e w5 ⟨rfl, hN5⟩
      have hE : (w5.alloc (.cells #[] 95)).heap[w5.heap.size]? = some (.cells #[] 95 (0, 0)) := World.alloc_heap_new w5 _
      have hRE := HRd.out _ (hN5.trans ((Mods.refl _ w5).alloc (.cells #[] 95)))
      have hb5 : N0 ≤ w5.heap.size := by have := (HN.out.trans (hNr.out.trans hN5)).size; have := (hNr.out.trans hN5).size; omega
      have H5 := Lib.hid (And.intro hN5 hb5)
      clear hN5 HLIN
      go_wp2_with (first | (refine op_value_gK (by rfl) (run_moments rfl hE (by rfl) HH Hlen.out (by rfl) hRE (Nat.le_refl _)) ?_; rintro v6 w6 ⟨hown6, hg6⟩; have hA6 := World.alloc_heap_new w6 (.cells moreM.cs.toArray 95); have hown7 := ((Mods.refl (fun _ => False) w6).alloc (.cells moreM.cs.toArray 95)).ownsRow hown6 (fun _ _ => id)) | (refine op_value_gK (by rfl) (run_moment rfl (by rfl) hown7 (by rfl) moreM hA6 (by omega) (by have := hg6.size; simp at this ⊢; omega)) ?_; rintro v8 w8 ⟨hown8, hg8⟩))
      rw [more_F Hlen.out] at hown8
      have hN6 : New w5 w6 := ((Mods.refl (fun _ => False) w5).alloc (.cells #[] 95)).grown hg6 (fun k hk => .inl (by cases hk; exact Nat.le_refl _))
      have hN8 : New w5 w8 := (hN6.alloc (.cells moreM.cs.toArray 95)).grown hg8 (fun k hk => .inl (hown7.lt k hk).1)
      have HL2 := Lib.hid (HLIN2.out w8 v8 (owns_mono hown8 hb5))
      have HN8 := Lib.hid (H5.out.1.trans hN8)
      clear hown8 hown7 hown6 hg6 hg8 hN6 hN8 hE hRE hA6 HLIN2
      refine HL2.out.mono ?_
      rintro e w9 ⟨rfl, hN9⟩
      have HN9 := Lib.hid (HN8.out.trans hN9)
      clear hN9 HL2 HN8 H5 hb5
      go_upto_region 14 with fail
      by_cases hbad : at' < 0 ∨ (n : Int) ≤ at'
      · have HKn := Lib.hid HK.out
        by_cases hb0 : at' < 0
        · have f1 : decide (at' < 0) = true := decide_eq_true hb0
          clear hbad
          go_wp2_with fail
          refine (HK.out _).mono ?_
          rintro e wz ⟨rfl, hNz⟩
          have HNz := Lib.hid (HN.out.trans (hNr.out.trans (HN9.out.trans hNz)))
          clear hNz
          go_wp2_with fail
          go_ret
          exact ⟨rfl, HNz.out⟩
        · have f1 : decide (at' < 0) = false := decide_eq_false hb0
          have f2 : decide ((n : Int) ≤ at') = true := decide_eq_true (by omega)
          clear hbad
          go_wp2_with fail
          refine (HK.out _).mono ?_
          rintro e wz ⟨rfl, hNz⟩
          have HNz := Lib.hid (HN.out.trans (hNr.out.trans (HN9.out.trans hNz)))
          clear hNz
          go_wp2_with fail
          go_ret
          exact ⟨rfl, HNz.out⟩
      · obtain ⟨k, rfl⟩ := Int.eq_ofNat_of_zero_le (show 0 ≤ at' by omega)
        have hkn : k < n := by omega
        have f1 : decide ((k : Int) < 0) = false := decide_eq_false (by omega)
        have f2 : decide ((n : Int) ≤ (k : Int)) = false := decide_eq_false (by omega)
        have k0 : (0 : Int) ≤ (k : Int) := by omega
        have k1 : (k : Int) < (n : Int) := by omega
        clear hbad
        have hown := (HN9.out).ownsRow HO2.out fun _ _ => id
        obtain ⟨g, rfl⟩ : ∃ g, qa = some ⟨g, 0, none⟩ := by
          rcases hown.2 with ⟨e, e0⟩ | ⟨g, cap, cur, e, _⟩
          · omega
          · cases e
            exact ⟨g, rfl⟩
        obtain ⟨mk, hmk⟩ : ∃ m, HH.getD k .no = m := ⟨_, rfl⟩
        have hcell : w9.cell? ⟨g, k * 8 + 6 + 1, none⟩ = some (.bool mk.ok) := by
          have := World.ownsRow.cells hown (g := g) rfl (k * 8 + 7) (.bool mk.ok) (by
            rw [flatF_at (by decide) (mosF_len _), if_pos (by omega), show (k * 8 + 7) / 8 = k by omega, show (k * 8 + 7) % 8 = 7 by omega]
            unfold mosF
            rw [hmk]
            rfl)
          rw [add_at] at this
          exact this
        have hfr : w9.frozen? ⟨g, k * 8 + 6 + 1, none⟩ = false := by
          rcases hown.2 with ⟨e, e0⟩ | ⟨g', cap, cur, e, _, hh, _⟩
          · cases e
          · cases e
            exact frozen_of_row _ _ _ _ _ hh
        have hown2 := own_set (mosF_len _) hown hkn (r := 7) (by decide) (.bool (!mk.ok))
        have e2 : flatF n (fun j => if j = k then (mosF HH k).set 7 (.bool (!mk.ok)) else mosF HH j) = flatF n (mosF (HH.set k { mk with ok := !mk.ok })) := flatF_congr fun j hj => by
          unfold mosF
          rw [getD_set]
          by_cases e : j = k
          · subst e
            rw [if_pos rfl, if_pos ⟨rfl, by have := Hlen.out; omega⟩, hmk]
            rfl
          · rw [if_neg e, if_neg (fun h => e h.1.symm)]
        rw [e2] at hown2
        have HB3 : Hid (Calls Try.prog 52 #[.int .u64 x, .slice (some ⟨g, 0, none⟩) n qc, .int .u64 y] (w9.setCell ⟨g, k * 8 + 6 + 1, none⟩ (.bool (!mk.ok))) fun e w' => e = .returned (.bool false) ∧ New (w9.setCell ⟨g, k * 8 + 6 + 1, none⟩ (.bool (!mk.ok))) w') := Lib.hid (by
          have h := ReadsF.ofOwns (by decide) (mosF_len _) (by omega) hown2
          have hl1 : (HH.set k { mk with ok := !mk.ok }).length = n := by rw [List.length_set]; exact Hlen.out
          rw [← hl1] at h
          have hinn : InH (HH.set k { mk with ok := !mk.ok }) := by
            intro i hi
            rw [getD_set]
            split
            · rw [← hmk]
              exact HinH.out k (by rw [Hlen.out]; exact hkn)
            · exact HinH.out i (by rw [List.length_set] at hi; exact hi)
          have hlin := linear_S x y _ (HH.set k { mk with ok := !mk.ok }) _ h hx hinn
          have hgood : ∀ j, j < n → HH.getD j .no = momA DS x l j := fun j hj => by rw [← HHd.out]; exact seqH_at (D := DS) x l hj
          rw [order_not (D := DS) (R := rightB) (w := x) (l := l) (by rw [hl1]; omega) (by rw [hl1, Hn.out]) (at' := k) (by rw [Hn.out]; exact hkn) (fun i hi hne => by rw [getD_set, if_neg (fun h => hne h.1.symm)]; exact hgood i (by rw [← Hn.out]; exact hi))
            (by rw [getD_set, if_pos ⟨rfl, by rw [Hlen.out]; exact hkn⟩, ← hmk, hgood k hkn]) y, hl1] at hlin
          exact hlin)
        have hNset : New W0 (w9.setCell ⟨g, k * 8 + 6 + 1, none⟩ (.bool (!mk.ok))) := (hNr.out.trans HN9.out).setCell (p := ⟨g, k * 8 + 6 + 1, none⟩) (.inl (by have := (hown.lt g rfl).1; show W0.heap.size ≤ g; omega)) _
        have HNs := Lib.hid (HN.out.trans hNset)
        clear hown hown2 e2 hmk hNset
        obtain ⟨ob, hob⟩ : ∃ b, mk.ok = b := ⟨_, rfl⟩
        rw [hob] at hcell HB3 HNs
        clear hob
        go_wp2_with fail
        refine HB3.out.mono ?_
        rintro e wy ⟨rfl, hNy⟩
        have HNy := Lib.hid (HNs.out.trans hNy)
        clear hNy HB3 HNs hcell hfr
        go_wp2_with fail
        refine (HK.out _).mono ?_
        rintro e wz ⟨rfl, hNz⟩
        have HNz := Lib.hid (HNy.out.trans hNz)
        clear hNz HNy
        go_wp2_with fail
        go_ret
        exact ⟨rfl, HNz.out⟩
end Go.Proofs.Ytkjloeefcaadlaa
