/- The document's machine at its beginning. -/
import Derived.Test.YtkjloeefcaadlaaP27
set_option linter.unusedSimpArgs false
set_option linter.unusedVariables false
namespace Go.Proofs.Ytkjloeefcaadlaa
open Go.RowKit Go.Shelf Go.Cs
attribute [local go_sem] Oper.semAt_some
/-- Deeds appended to an empty row. -/
theorem run_deeds {o : Oper} {a : Act} {W : World} {base : Nat} {s x : Operand} (hop : o.op = .call { callee := .builtin .append, args := #[s, x], argTypes := #[85, 85] }) {E n lc : Nat} {la : Option Addr} (hE : W.heap[E]? = some (.cells #[] 93 (0, 0)))
    (hs : a.eval s = .slice (some ⟨E, 0, none⟩) 0 0) (l : List Dn) (hn : l.length = n) (hx : a.eval x = .slice la n lc) (hR : ReadsE W (.slice la n lc) l) (hb : base ≤ E) :
    ∃ v' W', (execOp a.eval o).run Try.prog W = .ok (.value v') W' ∧ W'.ownsRow base 93 3 v' l.length (flatE l) ∧ W.grownBy W' (some E) := by
  subst hn
  have hown : W.ownsRow base 93 3 (.slice (some ⟨E, 0, none⟩) 0 0) 0 [] := ⟨rfl, .inr ⟨E, 0, #[], rfl, hb, hE, Nat.le_refl _, by unfold maxLen; omega, rfl, rfl⟩⟩
  have hlt : E < W.heap.size := (Array.getElem?_eq_some_iff.1 hE).1
  obtain ⟨i0, hi, hz0, hz1, hz2⟩ := info_parts info93'
  obtain ⟨hl, ao, cap, he, hc⟩ := hR
  cases he
  cases la with
  | none =>
    have hL : l = [] := by
      cases l with
      | nil => rfl
      | cons p t => obtain ⟨b, o, h, _⟩ := hc 0 (by simp); cases h
    subst hL
    refine ⟨_, W, ?_, hown, World.grownBy.refl W _⟩
    have hr : (Builtin.append_ #[85, 85] o.type #[.slice (some ⟨E, 0, none⟩) 0 0, .slice none 0 lc]).run Try.prog W = .ok (.slice (some ⟨E, 0, none⟩) 0 0) W := by
      simp [Builtin.append_, run_underlying Try.underlying85, sizeOf, typeInfo, hi, Builtin.lenOf, Builtin.firstCells, storeCells]
    have hx' : a.eval x = .slice none 0 lc := hx
    simp [execOp, hop, resolve, invoke, builtin, hs, hx', hr, Result.andThen]
  | some ad =>
    have hnews : ∀ j u, (flatE l)[j]? = some u → W.cell? (ad.add j) = some u := fun j u hj => by
      obtain ⟨h1, h2⟩ := flatE_at l j u hj
      obtain ⟨b, o, he, hr⟩ := hc (j / 3) h1
      cases he
      have := hr (j % 3) u h2
      rw [Addr.add_mid]
      rw [show o + j = o + j / 3 * 3 + j % 3 by omega]
      exact this
    obtain ⟨v', w', hr, h2, h3, _⟩ := run_append_own (P := Try.prog) W base 85 o.type 93 i0 _ 3 24 Try.underlying85 hi hz0 hz1 hz2 rfl (by decide) _ 0 [] hown ad l.length lc (flatE l) (flatE_len l) hnews (flatE_one l) (by unfold maxLen; omega) (by omega) (by omega)
    refine ⟨v', w', ?_, by simpa using h2, h3⟩
    simp [execOp, hop, resolve, invoke, builtin, hs, hx, hr, Result.andThen]
theorem opH_deeds {ops : Array Oper} {Q : Exit → Act → World → Prop} {j : Nat} {o : Oper} (d : Option Tmp) {a : Act} {K : Act → World → Prop} (hi : ops[j]? = some o) (hw : Region.wanted o (yielded ops a.tmps) = true) (hd : o.dst = d)
    {W : World} {base : Nat} {s x : Operand} (hop : o.op = .call { callee := .builtin .append, args := #[s, x], argTypes := #[85, 85] }) {E n lc : Nat} {la : Option Addr} (hE : W.heap[E]? = some (.cells #[] 93 (0, 0)))
    (hs : a.eval s = .slice (some ⟨E, 0, none⟩) 0 0) (l : List Dn) (hn : l.length = n) (hx : a.eval x = .slice la n lc) (hR : ReadsE W (.slice la n lc) l) (hb : base ≤ E)
    (hK : ∀ v' W', W'.ownsRow base 93 3 v' l.length (flatE l) → W.grownBy W' (some E) → K (a.put d v') W') : wpOp Try.prog ops Q j K a W := by
  obtain ⟨v', W', hr, h2, h3⟩ := run_deeds hop hE hs l hn hx hR hb
  exact opH_value d hi hw hd hr (hK v' W' h2 h3)
theorem opH_app {ops : Array Oper} {Q : Exit → Act → World → Prop} {j : Nat} {o : Oper} (d : Option Tmp) {a : Act} {K : Act → World → Prop} (hi : ops[j]? = some o) (hw : Region.wanted o (yielded ops a.tmps) = true) (hd : o.dst = d)
    {W : World} {base A : Nat} {s x : Operand} (hop : o.op = .call { callee := .builtin .append, args := #[s, x], argTypes := #[74, 74] }) {v : Value} {n : Nat} {xs : List Value} {qa : Option Addr} {m qc : Nat} (hs : a.eval s = v) (hown : W.ownsRow base 100 4 v n xs)
    (hx : a.eval x = .slice (some ⟨A, 0, none⟩) 1 1) (hA : W.heap[A]? = some (.cells #[.slice qa m qc, .bool false, .int .u64 0, .int .i64 (-1)] 100 (0, 0))) (_ : True) (hn : n + 1 ≤ 2000000) (hb : base ≤ W.heap.size)
    (hK : ∀ v' w', w'.ownsRow base 100 4 v' (n + 1) (xs ++ [.slice qa m qc, .bool false, .int .u64 0, .int .i64 (-1)]) → W.grownBy w' v.ownBlock → (v'.ownBlock = v.ownBlock ∨ v'.ownBlock = some W.heap.size) → K (a.put d v') w') : wpOp Try.prog ops Q j K a W := by
  obtain ⟨i100, hi100, hz0, hz1, hz2⟩ := info_parts info100'
  obtain ⟨v', w', hr, h2, h3, h4⟩ := run_append (P := Try.prog) hop Try.underlying74 hi100 hz0 hz1 hz2 rfl (by decide) v n xs hs hown ⟨A, 0, none⟩ 1 1 [.slice qa m qc, .bool false, .int .u64 0, .int .i64 (-1)] hx rfl (cells_new hA) (by simp [Value.oneCell']) (by unfold maxLen; omega) (by omega) hb (by decide)
  exact opH_value d hi hw hd hr (hK v' w' h2 h3 h4)
/-- Behind some of the threads. -/
def ZR (W : World) (A : Nat) : Prop := W.heap[A]? = some (.cells #[.int .u64 0, .int .i64 0, .slice none 0 0, .slice none 0 0] 77 (0, 0))
def NewAtR (w : World) (x : Nat) (ls : List (List Dn)) (k : Nat) (W : World) : Prop :=
  ∃ tv lv, MB W (w.heap.size + 1) x 0 tv (.slice none 0 0) ∧ MaO W (w.heap.size + 2) (newM x (ls.take k)) tv (.slice none 0 0) lv ∧ ZR W w.heap.size ∧ New w W ∧ ∀ j, j < k → allD (ls.getD j []) = true
theorem NewAtR.new {w W W' : World} {x k : Nat} {ls : List (List Dn)} (h : NewAtR w x ls k W) (hN : New W W') : NewAtR w x ls k W' := by
  obtain ⟨tv, lv, hB, hM, hZ, hN0, ha⟩ := h
  exact ⟨tv, lv, hB.new hN, hM.new hN, hN.heap hZ id, hN0.trans hN, ha⟩
theorem ZR.frozen {W : World} {A : Nat} (h : ZR W A) (j : Nat) : W.frozen? ⟨A, j, none⟩ = false := frozen_of_row _ _ _ _ _ h
theorem zero_ones : ∀ u ∈ ([.int .u64 0, .int .i64 0, .slice none 0 0, .slice none 0 0] : List Value), u.oneCell' = true := by
  intro u hu
  simp only [List.mem_cons, List.not_mem_nil, or_false] at hu
  rcases hu with rfl | rfl | rfl | rfl <;> rfl
set_option maxRecDepth 100000 in
set_option maxHeartbeats 8000000 in
theorem new_ref18 (x : Nat) (v : Value) (ls : List (List Dn)) (w : World) (hx : x < 18446744073709551616) (hv : ReadsLs w v ls) (hsum : ∀ k, k ≤ ls.length → manyTo ls k ≤ 4000000000000000000) :
    Calls Try.prog 92 #[.int .u64 x, v] w fun e w' => ∃ v', e = .returned (.tuple #[v', .bool (newOk rightB x ls)]) ∧ ReadsM w' v' (if newOk rightB x ls then newM x ls else noneM) ∧ New w w' := by
  have HW := Lib.hid (right_gen x hx)
  have HV := Lib.hid hv
  obtain ⟨hl, ao, cap, rfl, _⟩ := hv
  obtain ⟨r, hr⟩ : ∃ r, newOk rightB x ls = r := ⟨_, rfl⟩
  have Hr := Lib.hid hr
  rw [hr]
  obtain ⟨mm, hmm⟩ : ∃ mm, (if r = true then newM x ls else noneM) = mm := ⟨_, rfl⟩
  have Hmm := Lib.hid hmm
  rw [hmm]
  clear hmm
  have Hsum := Lib.hid hsum
  clear hsum
  obtain ⟨n, hn⟩ : ∃ n, ls.length = n := ⟨_, rfl⟩
  have Hn := Lib.hid hn
  rw [hn] at hl ⊢
  obtain ⟨rb, hrb⟩ : ∃ rb, rightB x = rb := ⟨_, rfl⟩
  have Hrb := Lib.hid hrb
  rw [hrb] at HW
  obtain ⟨W0, hW0⟩ : ∃ W0, (w.alloc (.cells #[.int .u64 0, .int .i64 0, .slice none 0 0, .slice none 0 0] 77)).alloc (.cells #[.int .u64 0, .int .i64 0, .slice none 0 0, .slice none 0 0] 77) = W0 := ⟨_, rfl⟩
  have hN0 : New w W0 := by rw [← hW0]; exact ((Mods.refl _ _).alloc _).alloc _
  have hZ0 : ZR W0 w.heap.size := by
    rw [← hW0]
    exact (show New (w.alloc (.cells #[.int .u64 0, .int .i64 0, .slice none 0 0, .slice none 0 0] 77)) _ from (Mods.refl _ _).alloc _).heap (World.alloc_heap_new w _) id
  have hB0 : MB W0 (w.heap.size + 1) 0 0 (.slice none 0 0) (.slice none 0 0) := by
    have := World.alloc_heap_new (w.alloc (.cells #[.int .u64 0, .int .i64 0, .slice none 0 0, .slice none 0 0] 77)) (.cells #[.int .u64 0, .int .i64 0, .slice none 0 0, .slice none 0 0] 77)
    rw [World.size_alloc, hW0] at this
    exact this
  clear hr hn hrb
  have hone1 : ∀ u ∈ ([.int .u64 x, .int .i64 0, .slice none 0 0, .slice none 0 0] : List Value), u.oneCell' = true := by
    intro u hu
    simp only [List.mem_cons, List.not_mem_nil, or_false] at hu
    rcases hu with rfl | rfl | rfl | rfl <;> rfl
  have hB1 : MB (W0.setRow (w.heap.size + 1) #[.int .u64 x, .int .i64 0, .slice none 0 0, .slice none 0 0]) (w.heap.size + 1) x 0 (.slice none 0 0) (.slice none 0 0) := setRow_heap W0 _ _ #[.int .u64 x, .int .i64 0, .slice none 0 0, .slice none 0 0] 77 (0, 0) hB0
  have hZ1 : ZR (W0.setRow (w.heap.size + 1) #[.int .u64 x, .int .i64 0, .slice none 0 0, .slice none 0 0]) w.heap.size := (mods_setRow hB0 #[.int .u64 x, .int .i64 0, .slice none 0 0, .slice none 0 0]).heap hZ0 (by omega)
  have HA0 : Hid (NewAtR w x ls 0 (W0.setRow (w.heap.size + 1) #[.int .u64 x, .int .i64 0, .slice none 0 0, .slice none 0 0])) := Lib.hid ⟨_, fun _ => .slice none 0 0, hB1, ⟨World.ownsRow_nil _ _ _ _, fun i hi => by simp [newM] at hi, fun i hi => by simp [newM] at hi, fun i hi => by simp [newM] at hi, World.ownsRow_nil _ _ _ _, by simp [newM]⟩,
    hZ1, hN0.setRow (by omega) _, fun j hj => by omega⟩
  have hB0' : W0.heap[w.heap.size + 1]? = some (.cells #[.int .u64 0, .int .i64 0, .slice none 0 0, .slice none 0 0] 77 (0, 0)) := hB0
  clear hB1 hZ1 hB0 hZ0 hN0
  go_enter Try.func92, Try.ntmps92
  go_wp2_with (refine op_skip rfl (run_store_row 77 (.tmp 6) (.tmp 11) rfl (w.heap.size + 1) rfl 77 [.int .u64 0, .int .i64 0, .slice none 0 0, .slice none 0 0] [.int .u64 x, .int .i64 0, .slice none 0 0, .slice none 0 0] rfl hB0' info77 rfl hone1) ?_)
  clear hB0' hW0
  go_loopw [7, 8] (fun c7 c8 wr => ∃ k : Nat, k ≤ n ∧ c7 = .int .i64 (manyTo ls k : Nat) ∧ c8 = .int .i64 (k : Nat) ∧ Hid (NewAtR w x ls k wr)) (fun _ c _ => n - (intOf c).toNat)
  case atStart => exact ⟨0, Nat.zero_le _, rfl, rfl, HA0⟩
  case round =>
    obtain ⟨k, hk, rfl, rfl, hA⟩ := hrel
    clear HA0
    by_cases hkn : k < n
    · have hkd : decide ((k : Int) < (n : Int)) = true := decide_eq_true (by omega)
      have k0 : (0 : Int) ≤ (k : Int) := by omega
      have k1 : (k : Int) < (n : Int) := by omega
      have hkl : k < ls.length := by rw [Hn.out]; exact hkn
      obtain ⟨_, a0, c0, he, hc⟩ := HV.out
      cases he
      obtain ⟨b, o, lvk, rfl, hcell, hE⟩ := hc k hkl
      obtain ⟨l, hlx⟩ : ∃ l, ls.getD k [] = l := ⟨_, rfl⟩
      rw [hlx] at hE
      have hms := manyTo_succ hkl
      rw [hlx] at hms
      have hmb := Hsum.out (k + 1) hkl
      rw [hms] at hmb
      have Hms := Lib.hid hms
      have Hlx := Lib.hid hlx
      obtain ⟨mt, hmt⟩ : ∃ mt, manyTo ls k = mt := ⟨_, rfl⟩
      rw [hmt] at hmb ⊢
      have Hmt := Lib.hid hmt
      have hN := hA.out.choose_spec.choose_spec.2.2.2.1
      have HE := Lib.hid hE
      have hcell' := hN.cell hcell id
      obtain ⟨hll, la, lc, hle, _⟩ := hE
      subst hle
      have m0 : (0 : Int) ≤ (mt : Int) := by omega
      have m1 : (mt : Int) + (l.length : Int) ≤ 4000000000000000000 := by omega
      have HCELL := Lib.hid hcell
      clear hms hlx hmt hmb hcell hc hN
      obtain ⟨wo, hwo⟩ : ∃ wo, wr = wo := ⟨_, rfl⟩
      rw [hwo] at hA hcell' ⊢
      clear hwo
      go_wp2_with fail
      go_loopw [9] (fun c9 wi => ∃ q : Nat, q ≤ l.length ∧ c9 = .int .i64 (q : Nat) ∧ Hid (∀ j, j < q → isDeed (l.getD j .no).d = true) ∧ Hid (NewAtR w x ls k wi)) (fun c _ => l.length - (intOf c).toNat)
      case atStart => exact ⟨0, Nat.zero_le _, rfl, Lib.hid (fun i hi => by omega), hA⟩
      case round =>
        obtain ⟨q, hq, rfl, hbef, hI⟩ := hrel
        clear hcell' hA
        have hcell' := (hI.out.choose_spec.choose_spec.2.2.2.1).cell HCELL.out id
        by_cases hql : q < l.length
        · have hqd : decide ((q : Int) < (l.length : Int)) = true := decide_eq_true (by omega)
          have q0 : (0 : Int) ≤ (q : Int) := by omega
          have q1 : (q : Int) < (l.length : Int) := by omega
          obtain ⟨_, a0, c0, he, hc⟩ := HE.out.new (hI.out.choose_spec.choose_spec.2.2.2.1)
          cases he
          obtain ⟨b2, bo, rfl, hrd⟩ := hc q hql
          obtain ⟨p, hp⟩ : ∃ p, l.getD q .no = p := ⟨_, rfl⟩
          rw [hp] at hrd
          have Hp := Lib.hid hp
          rename_i wi _ _ _ _ _
          have HD := Lib.hid (deed_ref p.d p.s p.u)
          obtain ⟨c, hcc⟩ : ∃ c, isDeed p.d = c := ⟨_, rfl⟩
          rw [hcc] at HD
          have Hc := Lib.hid hcc
          clear hp hcc hc
          go_upto_region 10 with fail
          go_wp2_with (refine op_value rfl (run_load_mid 93 (.tmp 39) rfl b2 (bo + q * 3) rfl p.cs _ hrd Try.underlying93 rfl info93) ?_)
          refine (HD.out _).mono ?_
          rintro e w2 ⟨rfl, hN2⟩
          have HI2 := Lib.hid (hI.out.new hN2)
          clear hN2 hrd hcell' HD hI
          cases c with
          | false =>
            have hrf : Hid (r = false) := Lib.hid (by
              rw [← Hr.out]
              unfold newOk
              have : ls.all allD = false := by
                rw [List.all_eq_false]
                refine ⟨_, getD_mem (d := []) hkl, ?_⟩
                rw [Hlx.out]
                unfold allD
                have : (l.all fun p => isD p.d) = false := by
                  rw [List.all_eq_false]
                  exact ⟨_, getD_mem (d := .no) hql, by rw [Hp.out, show isD p.d = false from Hc.out]; simp⟩
                rw [this]
                simp
              rw [this]
              simp)
            obtain ⟨tv, lv, _, _, hZ, hNz, _⟩ := HI2.out
            have HN := Lib.hid hNz
            clear hNz
            unfold ZR at hZ
            go_wp2_with (refine op_skip rfl (run_store_same 77 (.tmp 4) (.tmp 43) rfl w.heap.size rfl 77 [.int .u64 0, .int .i64 0, .slice none 0 0, .slice none 0 0] rfl hZ info77 zero_ones) ?_)
            refine bodyPost_ret (v := .tuple #[.agg #[.int .u64 0, .int .i64 0, .slice none 0 0, .slice none 0 0], .bool false]) (results_row2 rfl _ _ w.heap.size 77 _ (0, 0) _ rfl hZ Try.underlying77 rfl info77 rfl) rfl ?_
            have hm0 : mm = noneM := by rw [← Hmm.out, hrf.out]; rfl
            rw [hrf.out, hm0]
            exact ⟨_, rfl, zero_reads _, HN.out⟩
          | true =>
            have hnx : Hid (∀ j, j < q + 1 → isDeed (l.getD j .no).d = true) := Lib.hid (fun j hj => by
              by_cases hqk : j < q
              · exact hbef.out j hqk
              · obtain rfl : j = q := by omega
                rw [Hp.out]; exact Hc.out)
            go_wp2_with fail
            go_roundw
            case rel => exact ⟨q + 1, by omega, by go_num, hnx, HI2⟩
            case measure => simp [intOf]; omega
        · obtain rfl : q = l.length := by omega
          have hqd : decide ((l.length : Int) < (l.length : Int)) = false := decide_eq_false (by omega)
          have hall : Hid (allD l = true) := Lib.hid (by
            unfold allD
            rw [List.all_eq_true]
            intro p hp
            obtain ⟨j, hj, rfl⟩ := List.getElem_of_mem hp
            have := hbef.out j hj
            simpa [List.getD, hj, isD_eq] using this)
          go_upto_region 12 with fail
          obtain ⟨tv, lv0, hB, hM, hZ, hNw, hal⟩ := hI.out
          obtain ⟨ta, tc, rfl⟩ := owns_slice hM.ths
          have hmk : (newM x (ls.take k)).ths.length = k := by simp [newM]; omega
          obtain ⟨mk, hmkk⟩ : ∃ mk, newM x (ls.take k) = mk := ⟨_, rfl⟩
          rw [hmkk] at hB hM hmk
          have Hmk := Lib.hid hmkk
          have Hal := Lib.hid hal
          have hcell := HCELL.out
          clear hmkk hal hcell' hI hbef
          refine piece (fun a a' W' => ∃ qa qc A E va vc, a' = (a.put (some 44) (.pointer (some ⟨w.heap.size + 1, 2, none⟩)) |>.put (some 45) (.slice ta mk.ths.length tc) |>.put (some 46) (.slice (some ⟨E, 0, none⟩) 0 0) |>.put (some 47) (.slice (some ⟨b, o, none⟩) n cap) |>.put (some 48) (.int .i64 (k : Nat)) |>.put (some 49) (.pointer (some ⟨b, o + k, none⟩)) |>.put (some 50) (.slice la l.length lc) |>.put (some 51) (.slice qa l.length qc) |>.put (some 52) (.agg #[.slice qa l.length qc, .bool false, .int .u64 0, .int .i64 (-1)]) |>.put (some 53) (.slice (some ⟨A, 0, none⟩) 1 1) |>.put (some 54) (.slice va (mk.ths.length + 1) vc) |>.put (some 55) (.pointer (some ⟨w.heap.size + 1, 2, none⟩))) ∧ ∃ lv', MB W' (w.heap.size + 1) x 0 (.slice va (mk.ths.length + 1) vc) (.slice none 0 0) ∧ MaO W' (w.heap.size + 2) { mk with ths := mk.ths ++ [newT l] } (.slice va (mk.ths.length + 1) vc) (.slice none 0 0) lv' ∧ ZR W' w.heap.size ∧ New w W') ?_ ?_
          · refine wp_region_held (by kernel_rfl) (S := fun W => New w W) ?_
            show wpAnyH _ _ _ _ _ _ _ _ wr.drew
            have hS := hNw.drew
            replace hB := hB.new (Mods.refl _ wr).drew
            replace hM := hM.new (Mods.refl _ wr).drew
            replace hZ : ZR wr.drew w.heap.size := (Mods.refl (fun _ => False) wr).drew.heap hZ id
            obtain ⟨Wd, hWd⟩ : ∃ Wd, wr.drew = Wd := ⟨_, rfl⟩
            rw [hWd] at hB hM hZ hS ⊢
            have hD : New Wd Wd := Mods.refl _ _
            clear hWd hNw
            refine anyH_take 0 (some 44) (.pointer (some ⟨w.heap.size + 1, 2, none⟩)) rfl rfl (by kernel_rfl) (by kernel_rfl) (by kernel_rfl) (fun _ _ _ h => h.elim) (.inl ⟨by rfl, fun W hW => by go_simp⟩) hS ?_
            simp only [Act.put, List.setIfInBounds_toArray, List.set_cons_succ, List.set_cons_zero]
            refine anyH_take 3 (some 47) (.slice (some ⟨b, o, none⟩) n cap) rfl rfl (by kernel_rfl) (by kernel_rfl) (by kernel_rfl) (fun _ _ _ h => h.elim) (.inl ⟨by rfl, fun W hW => by go_simp⟩) hS ?_
            simp only [Act.put, List.setIfInBounds_toArray, List.set_cons_succ, List.set_cons_zero]
            refine anyH_take 4 (some 48) (.int .i64 (k : Nat)) rfl rfl (by kernel_rfl) (by kernel_rfl) (by kernel_rfl) (fun _ _ _ h => h.elim) (.inl ⟨by rfl, fun W hW => by go_simp⟩) hS ?_
            simp only [Act.put, List.setIfInBounds_toArray, List.set_cons_succ, List.set_cons_zero]
            refine anyH_take 5 (some 49) (.pointer (some ⟨b, o + k, none⟩)) rfl rfl (by kernel_rfl) (by kernel_rfl) (by kernel_rfl) (fun _ _ _ h => h.elim) (.inl ⟨by rfl, fun W hW => by go_simp⟩) hS ?_
            simp only [Act.put, List.setIfInBounds_toArray, List.set_cons_succ, List.set_cons_zero]
            refine anyH_take 6 (some 50) (.slice la l.length lc) rfl rfl (by kernel_rfl) (by kernel_rfl) (by kernel_rfl) (fun _ _ _ h => h.elim) (.inl ⟨by rfl, fun W hW => by have := (show New w W from hW).cell hcell id; go_simp⟩) hS ?_
            simp only [Act.put, List.setIfInBounds_toArray, List.set_cons_succ, List.set_cons_zero]
            refine wpAnyH_all (rs := [1, 2]) (by kernel_rfl) (by simp) ?_
            simp only [List.mem_cons, List.not_mem_nil, or_false, forall_eq_or_imp, forall_eq]
            refine ⟨?_, ?_⟩
            · refine opH_value (some 45) (v := .slice ta mk.ths.length tc) (w' := Wd) rfl (by rfl) rfl (by have := (hB.new hD).c2; go_simp) ?_
              refine ⟨hS, ?_⟩
              simp only [Act.put, List.setIfInBounds_toArray, List.set_cons_succ, List.set_cons_zero]
              refine wpAnyH_all (rs := [2]) (by kernel_rfl) (by simp) ?_
              simp only [List.mem_cons, List.not_mem_nil, or_false, forall_eq_or_imp, forall_eq]
              refine opH_value (some 46) (v := .slice (some ⟨Wd.heap.size, 0, none⟩) 0 0) (w' := Wd.alloc (.cells #[] 93)) rfl (by rfl) rfl (by go_simp) ?_
              refine ⟨hS.trans ((Mods.refl _ _).alloc _), ?_⟩
              simp only [Act.put, List.setIfInBounds_toArray, List.set_cons_succ, List.set_cons_zero]
              have hE := World.alloc_heap_new Wd (.cells #[] 93)
              have hEl0 : Wd.heap.size ≤ Wd.heap.size := hD.size
              replace hS := hS.trans ((Mods.refl _ _).alloc (.cells #[] 93))
              replace hD := hD.trans ((Mods.refl _ _).alloc (.cells #[] 93))
              obtain ⟨WE, hWa⟩ : ∃ W, Wd.alloc (.cells #[] 93) = W := ⟨_, rfl⟩
              obtain ⟨E, hAA⟩ : ∃ A, Wd.heap.size = A := ⟨_, rfl⟩
              have hEl : Wd.heap.size ≤ E := by omega
              rw [hWa] at hE hS hD ⊢
              rw [hAA] at hE ⊢
              clear hWa hAA hEl0
              refine wpAnyH_all (rs := [7]) (by kernel_rfl) (by simp) ?_
              simp only [List.mem_cons, List.not_mem_nil, or_false, forall_eq_or_imp, forall_eq]
              refine opH_deeds (some 51) rfl (by rfl) rfl rfl (W := WE) (base := w.heap.size) hE (by rfl) l rfl (by rfl) (HE.out.new hS) (by have := hB.lt; omega) ?_
              intro lvk WL hlk hg1
              have hNe : New w WL := hS.grown hg1 (fun k hk => .inl (by cases hk; have := hB.lt; omega))
              have hDe : New Wd WL := hD.grown hg1 (fun k hk => .inl (by cases hk; exact hEl))
              refine ⟨hNe, ?_⟩
              simp only [Act.put, List.setIfInBounds_toArray, List.set_cons_succ, List.set_cons_zero]
              obtain ⟨qa, qc, rfl⟩ := owns_slice hlk
              replace hS := hNe
              replace hD := hDe
              clear hNe hDe hg1 hE
              refine anyH_take 8 (some 52) (.agg #[.slice qa l.length qc, .bool false, .int .u64 0, .int .i64 (-1)]) rfl rfl (by kernel_rfl) (by kernel_rfl) (by kernel_rfl) (fun _ _ _ h => h.elim) (.inl ⟨by rfl, fun W hW => by go_simp⟩) hS ?_
              simp only [Act.put, List.setIfInBounds_toArray, List.set_cons_succ, List.set_cons_zero]
              refine wpAnyH_all (rs := [9]) (by kernel_rfl) (by simp) ?_
              simp only [List.mem_cons, List.not_mem_nil, or_false, forall_eq_or_imp, forall_eq]
              refine opH_value (some 53) (v := .slice (some ⟨WL.heap.size, 0, none⟩) 1 1) (w' := WL.alloc (.cells #[.slice qa l.length qc, .bool false, .int .u64 0, .int .i64 (-1)] 100)) rfl (by rfl) rfl (by go_simp) ?_
              refine ⟨hS.trans ((Mods.refl _ _).alloc _), ?_⟩
              simp only [Act.put, List.setIfInBounds_toArray, List.set_cons_succ, List.set_cons_zero]
              have hA := World.alloc_heap_new WL (.cells #[.slice qa l.length qc, .bool false, .int .u64 0, .int .i64 (-1)] 100)
              have hNa : New WL (WL.alloc (.cells #[.slice qa l.length qc, .bool false, .int .u64 0, .int .i64 (-1)] 100)) := (Mods.refl _ _).alloc _
              replace hS := hS.trans hNa
              replace hD := hD.trans hNa
              replace hlk := hNa.ownsRow hlk fun _ _ => id
              obtain ⟨WA, hWA⟩ : ∃ W, WL.alloc (.cells #[.slice qa l.length qc, .bool false, .int .u64 0, .int .i64 (-1)] 100) = W := ⟨_, rfl⟩
              obtain ⟨A, hAA⟩ : ∃ A, WL.heap.size = A := ⟨_, rfl⟩
              rw [hWA] at hA hS hD hlk ⊢
              rw [hAA] at hA ⊢
              clear hWA hAA hNa
              refine wpAnyH_all (rs := [10]) (by kernel_rfl) (by simp) ?_
              simp only [List.mem_cons, List.not_mem_nil, or_false, forall_eq_or_imp, forall_eq]
              refine opH_app (some 54) rfl (by rfl) rfl rfl (W := WA) (base := w.heap.size + 2) (by rfl) (hM.new hD).ths (by rfl) hA trivial (by omega) (by have := (hB.new hD).lt; omega) ?_
              intro tv' WB hown hgrow hblk
              obtain ⟨hM', hMd⟩ := (hM.new hD).push (newT l) (lvk := .slice qa l.length qc) hlk hll hown hgrow hblk (by omega)
              obtain ⟨va, vc, rfl⟩ := owns_slice hown
              have hB' : MB WB (w.heap.size + 1) x 0 (.slice ta mk.ths.length tc) (.slice none 0 0) := hMd.heap (hB.new hD) (fun e => (hB.new hD).apart (hM.new hD).ths (by decide) e rfl)
              have hZ' : ZR WB w.heap.size := hMd.heap (hD.heap hZ id) (fun e => (show MB _ w.heap.size 0 0 (.slice none 0 0) (.slice none 0 0) from hD.heap hZ id).apart (hM.new hD).ths (by decide) e rfl)
              have hN' : New w WB := ((Mods.ofNew hS).trans hMd).new (fun b hb => by have := hM.ths.lt b hb; omega)
              refine ⟨hN', ?_⟩
              simp only [Act.put, List.setIfInBounds_toArray, List.set_cons_succ, List.set_cons_zero]
              replace hS := hN'
              refine anyH_take 11 (some 55) (.pointer (some ⟨w.heap.size + 1, 2, none⟩)) rfl rfl (by kernel_rfl) (by kernel_rfl) (by kernel_rfl) (fun _ _ _ h => h.elim) (.inl ⟨by rfl, fun W hW => by go_simp⟩) hS ?_
              simp only [Act.put, List.setIfInBounds_toArray, List.set_cons_succ, List.set_cons_zero]
              refine wpAnyH_all (rs := [12]) (by kernel_rfl) (by simp) ?_
              simp only [List.mem_cons, List.not_mem_nil, or_false, forall_eq_or_imp, forall_eq]
              refine opH_skip none rfl (by rfl) rfl (w' := WB.setCell ⟨w.heap.size + 1, 2, none⟩ (.slice va (mk.ths.length + 1) vc)) (by have h1 := hB'.c2; have h2 := hB'.frozen 2; go_simp) ?_
              have hN'' := hN'.setCell (p := ⟨w.heap.size + 1, 2, none⟩) (.inl (by show w.heap.size ≤ w.heap.size + 1; omega)) (.slice va (mk.ths.length + 1) vc)
              refine ⟨hN'', ?_⟩
              simp only [Act.put, List.setIfInBounds_toArray, List.set_cons_succ, List.set_cons_zero]
              refine wpAnyH_done (by kernel_rfl) ?_ _
              exact ⟨qa, qc, A, E, va, vc, rfl, _, hB'.set2 _, MaO.setO hM' hB', (Below.heap_setCell _ _ _ _ (by simp)).trans hZ', hN''⟩
            · refine opH_value (some 46) (v := .slice (some ⟨Wd.heap.size, 0, none⟩) 0 0) (w' := Wd.alloc (.cells #[] 93)) rfl (by rfl) rfl (by go_simp) ?_
              refine ⟨hS.trans ((Mods.refl _ _).alloc _), ?_⟩
              simp only [Act.put, List.setIfInBounds_toArray, List.set_cons_succ, List.set_cons_zero]
              have hE := World.alloc_heap_new Wd (.cells #[] 93)
              have hEl0 : Wd.heap.size ≤ Wd.heap.size := hD.size
              replace hS := hS.trans ((Mods.refl _ _).alloc (.cells #[] 93))
              replace hD := hD.trans ((Mods.refl _ _).alloc (.cells #[] 93))
              obtain ⟨WE, hWa⟩ : ∃ W, Wd.alloc (.cells #[] 93) = W := ⟨_, rfl⟩
              obtain ⟨E, hAA⟩ : ∃ A, Wd.heap.size = A := ⟨_, rfl⟩
              have hEl : Wd.heap.size ≤ E := by omega
              rw [hWa] at hE hS hD ⊢
              rw [hAA] at hE ⊢
              clear hWa hAA hEl0
              refine wpAnyH_all (rs := [1, 7]) (by kernel_rfl) (by simp) ?_
              simp only [List.mem_cons, List.not_mem_nil, or_false, forall_eq_or_imp, forall_eq]
              refine ⟨?_, ?_⟩
              · refine opH_value (some 45) (v := .slice ta mk.ths.length tc) (w' := WE) rfl (by rfl) rfl (by have := (hB.new hD).c2; go_simp) ?_
                refine ⟨hS, ?_⟩
                simp only [Act.put, List.setIfInBounds_toArray, List.set_cons_succ, List.set_cons_zero]
                refine wpAnyH_all (rs := [7]) (by kernel_rfl) (by simp) ?_
                simp only [List.mem_cons, List.not_mem_nil, or_false, forall_eq_or_imp, forall_eq]
                refine opH_deeds (some 51) rfl (by rfl) rfl rfl (W := WE) (base := w.heap.size) hE (by rfl) l rfl (by rfl) (HE.out.new hS) (by have := hB.lt; omega) ?_
                intro lvk WL hlk hg1
                have hNe : New w WL := hS.grown hg1 (fun k hk => .inl (by cases hk; have := hB.lt; omega))
                have hDe : New Wd WL := hD.grown hg1 (fun k hk => .inl (by cases hk; exact hEl))
                refine ⟨hNe, ?_⟩
                simp only [Act.put, List.setIfInBounds_toArray, List.set_cons_succ, List.set_cons_zero]
                obtain ⟨qa, qc, rfl⟩ := owns_slice hlk
                replace hS := hNe
                replace hD := hDe
                clear hNe hDe hg1 hE
                refine anyH_take 8 (some 52) (.agg #[.slice qa l.length qc, .bool false, .int .u64 0, .int .i64 (-1)]) rfl rfl (by kernel_rfl) (by kernel_rfl) (by kernel_rfl) (fun _ _ _ h => h.elim) (.inl ⟨by rfl, fun W hW => by go_simp⟩) hS ?_
                simp only [Act.put, List.setIfInBounds_toArray, List.set_cons_succ, List.set_cons_zero]
                refine wpAnyH_all (rs := [9]) (by kernel_rfl) (by simp) ?_
                simp only [List.mem_cons, List.not_mem_nil, or_false, forall_eq_or_imp, forall_eq]
                refine opH_value (some 53) (v := .slice (some ⟨WL.heap.size, 0, none⟩) 1 1) (w' := WL.alloc (.cells #[.slice qa l.length qc, .bool false, .int .u64 0, .int .i64 (-1)] 100)) rfl (by rfl) rfl (by go_simp) ?_
                refine ⟨hS.trans ((Mods.refl _ _).alloc _), ?_⟩
                simp only [Act.put, List.setIfInBounds_toArray, List.set_cons_succ, List.set_cons_zero]
                have hA := World.alloc_heap_new WL (.cells #[.slice qa l.length qc, .bool false, .int .u64 0, .int .i64 (-1)] 100)
                have hNa : New WL (WL.alloc (.cells #[.slice qa l.length qc, .bool false, .int .u64 0, .int .i64 (-1)] 100)) := (Mods.refl _ _).alloc _
                replace hS := hS.trans hNa
                replace hD := hD.trans hNa
                replace hlk := hNa.ownsRow hlk fun _ _ => id
                obtain ⟨WA, hWA⟩ : ∃ W, WL.alloc (.cells #[.slice qa l.length qc, .bool false, .int .u64 0, .int .i64 (-1)] 100) = W := ⟨_, rfl⟩
                obtain ⟨A, hAA⟩ : ∃ A, WL.heap.size = A := ⟨_, rfl⟩
                rw [hWA] at hA hS hD hlk ⊢
                rw [hAA] at hA ⊢
                clear hWA hAA hNa
                refine wpAnyH_all (rs := [10]) (by kernel_rfl) (by simp) ?_
                simp only [List.mem_cons, List.not_mem_nil, or_false, forall_eq_or_imp, forall_eq]
                refine opH_app (some 54) rfl (by rfl) rfl rfl (W := WA) (base := w.heap.size + 2) (by rfl) (hM.new hD).ths (by rfl) hA trivial (by omega) (by have := (hB.new hD).lt; omega) ?_
                intro tv' WB hown hgrow hblk
                obtain ⟨hM', hMd⟩ := (hM.new hD).push (newT l) (lvk := .slice qa l.length qc) hlk hll hown hgrow hblk (by omega)
                obtain ⟨va, vc, rfl⟩ := owns_slice hown
                have hB' : MB WB (w.heap.size + 1) x 0 (.slice ta mk.ths.length tc) (.slice none 0 0) := hMd.heap (hB.new hD) (fun e => (hB.new hD).apart (hM.new hD).ths (by decide) e rfl)
                have hZ' : ZR WB w.heap.size := hMd.heap (hD.heap hZ id) (fun e => (show MB _ w.heap.size 0 0 (.slice none 0 0) (.slice none 0 0) from hD.heap hZ id).apart (hM.new hD).ths (by decide) e rfl)
                have hN' : New w WB := ((Mods.ofNew hS).trans hMd).new (fun b hb => by have := hM.ths.lt b hb; omega)
                refine ⟨hN', ?_⟩
                simp only [Act.put, List.setIfInBounds_toArray, List.set_cons_succ, List.set_cons_zero]
                replace hS := hN'
                refine anyH_take 11 (some 55) (.pointer (some ⟨w.heap.size + 1, 2, none⟩)) rfl rfl (by kernel_rfl) (by kernel_rfl) (by kernel_rfl) (fun _ _ _ h => h.elim) (.inl ⟨by rfl, fun W hW => by go_simp⟩) hS ?_
                simp only [Act.put, List.setIfInBounds_toArray, List.set_cons_succ, List.set_cons_zero]
                refine wpAnyH_all (rs := [12]) (by kernel_rfl) (by simp) ?_
                simp only [List.mem_cons, List.not_mem_nil, or_false, forall_eq_or_imp, forall_eq]
                refine opH_skip none rfl (by rfl) rfl (w' := WB.setCell ⟨w.heap.size + 1, 2, none⟩ (.slice va (mk.ths.length + 1) vc)) (by have h1 := hB'.c2; have h2 := hB'.frozen 2; go_simp) ?_
                have hN'' := hN'.setCell (p := ⟨w.heap.size + 1, 2, none⟩) (.inl (by show w.heap.size ≤ w.heap.size + 1; omega)) (.slice va (mk.ths.length + 1) vc)
                refine ⟨hN'', ?_⟩
                simp only [Act.put, List.setIfInBounds_toArray, List.set_cons_succ, List.set_cons_zero]
                refine wpAnyH_done (by kernel_rfl) ?_ _
                exact ⟨qa, qc, A, E, va, vc, rfl, _, hB'.set2 _, MaO.setO hM' hB', (Below.heap_setCell _ _ _ _ (by simp)).trans hZ', hN''⟩
              · refine opH_deeds (some 51) rfl (by rfl) rfl rfl (W := WE) (base := w.heap.size) hE (by rfl) l rfl (by rfl) (HE.out.new hS) (by have := hB.lt; omega) ?_
                intro lvk WL hlk hg1
                have hNe : New w WL := hS.grown hg1 (fun k hk => .inl (by cases hk; have := hB.lt; omega))
                have hDe : New Wd WL := hD.grown hg1 (fun k hk => .inl (by cases hk; exact hEl))
                refine ⟨hNe, ?_⟩
                simp only [Act.put, List.setIfInBounds_toArray, List.set_cons_succ, List.set_cons_zero]
                obtain ⟨qa, qc, rfl⟩ := owns_slice hlk
                replace hS := hNe
                replace hD := hDe
                clear hNe hDe hg1 hE
                refine anyH_take 8 (some 52) (.agg #[.slice qa l.length qc, .bool false, .int .u64 0, .int .i64 (-1)]) rfl rfl (by kernel_rfl) (by kernel_rfl) (by kernel_rfl) (fun _ _ _ h => h.elim) (.inl ⟨by rfl, fun W hW => by go_simp⟩) hS ?_
                simp only [Act.put, List.setIfInBounds_toArray, List.set_cons_succ, List.set_cons_zero]
                refine wpAnyH_all (rs := [1, 9]) (by kernel_rfl) (by simp) ?_
                simp only [List.mem_cons, List.not_mem_nil, or_false, forall_eq_or_imp, forall_eq]
                refine ⟨?_, ?_⟩
                · refine opH_value (some 45) (v := .slice ta mk.ths.length tc) (w' := WL) rfl (by rfl) rfl (by have := (hB.new hD).c2; go_simp) ?_
                  refine ⟨hS, ?_⟩
                  simp only [Act.put, List.setIfInBounds_toArray, List.set_cons_succ, List.set_cons_zero]
                  refine wpAnyH_all (rs := [9]) (by kernel_rfl) (by simp) ?_
                  simp only [List.mem_cons, List.not_mem_nil, or_false, forall_eq_or_imp, forall_eq]
                  refine opH_value (some 53) (v := .slice (some ⟨WL.heap.size, 0, none⟩) 1 1) (w' := WL.alloc (.cells #[.slice qa l.length qc, .bool false, .int .u64 0, .int .i64 (-1)] 100)) rfl (by rfl) rfl (by go_simp) ?_
                  refine ⟨hS.trans ((Mods.refl _ _).alloc _), ?_⟩
                  simp only [Act.put, List.setIfInBounds_toArray, List.set_cons_succ, List.set_cons_zero]
                  have hA := World.alloc_heap_new WL (.cells #[.slice qa l.length qc, .bool false, .int .u64 0, .int .i64 (-1)] 100)
                  have hNa : New WL (WL.alloc (.cells #[.slice qa l.length qc, .bool false, .int .u64 0, .int .i64 (-1)] 100)) := (Mods.refl _ _).alloc _
                  replace hS := hS.trans hNa
                  replace hD := hD.trans hNa
                  replace hlk := hNa.ownsRow hlk fun _ _ => id
                  obtain ⟨WA, hWA⟩ : ∃ W, WL.alloc (.cells #[.slice qa l.length qc, .bool false, .int .u64 0, .int .i64 (-1)] 100) = W := ⟨_, rfl⟩
                  obtain ⟨A, hAA⟩ : ∃ A, WL.heap.size = A := ⟨_, rfl⟩
                  rw [hWA] at hA hS hD hlk ⊢
                  rw [hAA] at hA ⊢
                  clear hWA hAA hNa
                  refine wpAnyH_all (rs := [10]) (by kernel_rfl) (by simp) ?_
                  simp only [List.mem_cons, List.not_mem_nil, or_false, forall_eq_or_imp, forall_eq]
                  refine opH_app (some 54) rfl (by rfl) rfl rfl (W := WA) (base := w.heap.size + 2) (by rfl) (hM.new hD).ths (by rfl) hA trivial (by omega) (by have := (hB.new hD).lt; omega) ?_
                  intro tv' WB hown hgrow hblk
                  obtain ⟨hM', hMd⟩ := (hM.new hD).push (newT l) (lvk := .slice qa l.length qc) hlk hll hown hgrow hblk (by omega)
                  obtain ⟨va, vc, rfl⟩ := owns_slice hown
                  have hB' : MB WB (w.heap.size + 1) x 0 (.slice ta mk.ths.length tc) (.slice none 0 0) := hMd.heap (hB.new hD) (fun e => (hB.new hD).apart (hM.new hD).ths (by decide) e rfl)
                  have hZ' : ZR WB w.heap.size := hMd.heap (hD.heap hZ id) (fun e => (show MB _ w.heap.size 0 0 (.slice none 0 0) (.slice none 0 0) from hD.heap hZ id).apart (hM.new hD).ths (by decide) e rfl)
                  have hN' : New w WB := ((Mods.ofNew hS).trans hMd).new (fun b hb => by have := hM.ths.lt b hb; omega)
                  refine ⟨hN', ?_⟩
                  simp only [Act.put, List.setIfInBounds_toArray, List.set_cons_succ, List.set_cons_zero]
                  replace hS := hN'
                  refine anyH_take 11 (some 55) (.pointer (some ⟨w.heap.size + 1, 2, none⟩)) rfl rfl (by kernel_rfl) (by kernel_rfl) (by kernel_rfl) (fun _ _ _ h => h.elim) (.inl ⟨by rfl, fun W hW => by go_simp⟩) hS ?_
                  simp only [Act.put, List.setIfInBounds_toArray, List.set_cons_succ, List.set_cons_zero]
                  refine wpAnyH_all (rs := [12]) (by kernel_rfl) (by simp) ?_
                  simp only [List.mem_cons, List.not_mem_nil, or_false, forall_eq_or_imp, forall_eq]
                  refine opH_skip none rfl (by rfl) rfl (w' := WB.setCell ⟨w.heap.size + 1, 2, none⟩ (.slice va (mk.ths.length + 1) vc)) (by have h1 := hB'.c2; have h2 := hB'.frozen 2; go_simp) ?_
                  have hN'' := hN'.setCell (p := ⟨w.heap.size + 1, 2, none⟩) (.inl (by show w.heap.size ≤ w.heap.size + 1; omega)) (.slice va (mk.ths.length + 1) vc)
                  refine ⟨hN'', ?_⟩
                  simp only [Act.put, List.setIfInBounds_toArray, List.set_cons_succ, List.set_cons_zero]
                  refine wpAnyH_done (by kernel_rfl) ?_ _
                  exact ⟨qa, qc, A, E, va, vc, rfl, _, hB'.set2 _, MaO.setO hM' hB', (Below.heap_setCell _ _ _ _ (by simp)).trans hZ', hN''⟩
                · refine opH_value (some 53) (v := .slice (some ⟨WL.heap.size, 0, none⟩) 1 1) (w' := WL.alloc (.cells #[.slice qa l.length qc, .bool false, .int .u64 0, .int .i64 (-1)] 100)) rfl (by rfl) rfl (by go_simp) ?_
                  refine ⟨hS.trans ((Mods.refl _ _).alloc _), ?_⟩
                  simp only [Act.put, List.setIfInBounds_toArray, List.set_cons_succ, List.set_cons_zero]
                  have hA := World.alloc_heap_new WL (.cells #[.slice qa l.length qc, .bool false, .int .u64 0, .int .i64 (-1)] 100)
                  have hNa : New WL (WL.alloc (.cells #[.slice qa l.length qc, .bool false, .int .u64 0, .int .i64 (-1)] 100)) := (Mods.refl _ _).alloc _
                  replace hS := hS.trans hNa
                  replace hD := hD.trans hNa
                  replace hlk := hNa.ownsRow hlk fun _ _ => id
                  obtain ⟨WA, hWA⟩ : ∃ W, WL.alloc (.cells #[.slice qa l.length qc, .bool false, .int .u64 0, .int .i64 (-1)] 100) = W := ⟨_, rfl⟩
                  obtain ⟨A, hAA⟩ : ∃ A, WL.heap.size = A := ⟨_, rfl⟩
                  rw [hWA] at hA hS hD hlk ⊢
                  rw [hAA] at hA ⊢
                  clear hWA hAA hNa
                  refine wpAnyH_all (rs := [1]) (by kernel_rfl) (by simp) ?_
                  simp only [List.mem_cons, List.not_mem_nil, or_false, forall_eq_or_imp, forall_eq]
                  refine opH_value (some 45) (v := .slice ta mk.ths.length tc) (w' := WA) rfl (by rfl) rfl (by have := (hB.new hD).c2; go_simp) ?_
                  refine ⟨hS, ?_⟩
                  simp only [Act.put, List.setIfInBounds_toArray, List.set_cons_succ, List.set_cons_zero]
                  refine wpAnyH_all (rs := [10]) (by kernel_rfl) (by simp) ?_
                  simp only [List.mem_cons, List.not_mem_nil, or_false, forall_eq_or_imp, forall_eq]
                  refine opH_app (some 54) rfl (by rfl) rfl rfl (W := WA) (base := w.heap.size + 2) (by rfl) (hM.new hD).ths (by rfl) hA trivial (by omega) (by have := (hB.new hD).lt; omega) ?_
                  intro tv' WB hown hgrow hblk
                  obtain ⟨hM', hMd⟩ := (hM.new hD).push (newT l) (lvk := .slice qa l.length qc) hlk hll hown hgrow hblk (by omega)
                  obtain ⟨va, vc, rfl⟩ := owns_slice hown
                  have hB' : MB WB (w.heap.size + 1) x 0 (.slice ta mk.ths.length tc) (.slice none 0 0) := hMd.heap (hB.new hD) (fun e => (hB.new hD).apart (hM.new hD).ths (by decide) e rfl)
                  have hZ' : ZR WB w.heap.size := hMd.heap (hD.heap hZ id) (fun e => (show MB _ w.heap.size 0 0 (.slice none 0 0) (.slice none 0 0) from hD.heap hZ id).apart (hM.new hD).ths (by decide) e rfl)
                  have hN' : New w WB := ((Mods.ofNew hS).trans hMd).new (fun b hb => by have := hM.ths.lt b hb; omega)
                  refine ⟨hN', ?_⟩
                  simp only [Act.put, List.setIfInBounds_toArray, List.set_cons_succ, List.set_cons_zero]
                  replace hS := hN'
                  refine anyH_take 11 (some 55) (.pointer (some ⟨w.heap.size + 1, 2, none⟩)) rfl rfl (by kernel_rfl) (by kernel_rfl) (by kernel_rfl) (fun _ _ _ h => h.elim) (.inl ⟨by rfl, fun W hW => by go_simp⟩) hS ?_
                  simp only [Act.put, List.setIfInBounds_toArray, List.set_cons_succ, List.set_cons_zero]
                  refine wpAnyH_all (rs := [12]) (by kernel_rfl) (by simp) ?_
                  simp only [List.mem_cons, List.not_mem_nil, or_false, forall_eq_or_imp, forall_eq]
                  refine opH_skip none rfl (by rfl) rfl (w' := WB.setCell ⟨w.heap.size + 1, 2, none⟩ (.slice va (mk.ths.length + 1) vc)) (by have h1 := hB'.c2; have h2 := hB'.frozen 2; go_simp) ?_
                  have hN'' := hN'.setCell (p := ⟨w.heap.size + 1, 2, none⟩) (.inl (by show w.heap.size ≤ w.heap.size + 1; omega)) (.slice va (mk.ths.length + 1) vc)
                  refine ⟨hN'', ?_⟩
                  simp only [Act.put, List.setIfInBounds_toArray, List.set_cons_succ, List.set_cons_zero]
                  refine wpAnyH_done (by kernel_rfl) ?_ _
                  exact ⟨qa, qc, A, E, va, vc, rfl, _, hB'.set2 _, MaO.setO hM' hB', (Below.heap_setCell _ _ _ _ (by simp)).trans hZ', hN''⟩
          · rintro a' W' ⟨qa, qc, A, E, va, vc, rfl, lv', hB, hM, hZ, hN⟩
            simp only [Act.put, List.setIfInBounds_toArray, List.set_cons_succ, List.set_cons_zero]
            have hnext : Hid (NewAtR w x ls (k + 1) W') := Lib.hid (by
              have e : newM x (ls.take (k + 1)) = { mk with ths := mk.ths ++ [newT l] } := by
                rw [← Hmk.out]
                unfold newM
                rw [List.take_succ_eq_append_getElem hkl, List.map_append]
                have : ls[k] = l := by have := Hlx.out; simpa [List.getD, hkl] using this
                rw [this]
                rfl
              refine ⟨_, lv', hB, by rw [e]; exact hM, hZ, hN, fun j hj => ?_⟩
              by_cases hjk : j < k
              · exact Hal.out j hjk
              · obtain rfl : j = k := by omega
                rw [Hlx.out]; exact hall.out)
            clear hB hM hN hZ hNw
            go_wp2_with fail
            go_roundw
            case rel => exact ⟨k + 1, by omega, by rw [Hms.out, Hmt.out]; simp, by go_num, hnext⟩
            case measure => simp [intOf]; omega
    · obtain rfl : k = n := by omega
      have hkd : decide ((k : Int) < (k : Int)) = false := decide_eq_false (by omega)
      obtain ⟨tv, lv0, hB, hM, hZ, hN, hall⟩ := hA.out
      have htk : ls.take k = ls := List.take_of_length_le (by rw [Hn.out]; exact Nat.le_refl _)
      rw [htk] at hM
      have hmt : manyTo ls k = manyL ls := by unfold manyTo; rw [htk]
      have hal : ls.all allD = true := by
        rw [List.all_eq_true]
        intro l hl
        obtain ⟨j, hj, rfl⟩ := List.getElem_of_mem hl
        have := hall j (by rw [← Hn.out]; exact hj)
        simpa [List.getD, hj] using this
      have hrv : r = (rb && (decide (k ≤ 3) && decide (manyL ls ≤ 8))) := by
        rw [← Hr.out]
        unfold newOk
        rw [Hrb.out, hal, Hn.out]
        simp
      rw [hmt]
      have hmb := Hsum.out k (by rw [Hn.out]; exact Nat.le_refl _)
      rw [hmt] at hmb
      obtain ⟨ta, tc, rfl⟩ := owns_slice hM.ths
      obtain ⟨mt, hmm⟩ : ∃ mt, manyL ls = mt := ⟨_, rfl⟩
      rw [hmm] at hrv hmb ⊢
      have HI := Lib.hid (show NewAtR w x ls k wr from hA.out)
      have HRV := Lib.hid hrv
      have htk' := Lib.hid htk
      clear hrv hmm hmt htk hal hall hM hB hZ hN hA hmb
      go_upto_region 13 with fail
      go_wp2_with fail
      refine (HW.out _).mono ?_
      rintro e w2 ⟨rfl, hN2⟩
      have HI2 := Lib.hid (HI.out.new hN2)
      clear hN2 HI HW
      by_cases hgood : rb = true ∧ k ≤ 3 ∧ mt ≤ 8
      · obtain ⟨g1, g2, g3⟩ := hgood
        have hrt : r = true := by rw [HRV.out, g1, decide_eq_true g2, decide_eq_true g3]; rfl
        have hm1 : mm = newM x ls := by rw [← Hmm.out, hrt]; rfl
        have Hrt := Lib.hid (And.intro hrt hm1)
        have d3 : decide ((3 : Int) < (k : Int)) = false := decide_eq_false (by omega)
        have d8 : decide ((8 : Int) < (mt : Int)) = false := decide_eq_false (by omega)
        obtain ⟨tv, lv, hB, hM, hZ, hN, _⟩ := HI2.out
        rw [htk'.out] at hM
        obtain ⟨ta, tc, rfl⟩ := owns_slice hM.ths
        have hone := maV_one hM
        have hZ4 : (maV (newM x ls) (.slice ta (newM x ls).ths.length tc) (.slice none 0 0)).toArray.size = 4 := rfl
        have hB' : w2.heap[w.heap.size + 1]? = some (.cells (maV (newM x ls) (.slice ta (newM x ls).ths.length tc) (.slice none 0 0)).toArray 77 (0, 0)) := hB
        have hZ' : w2.heap[w.heap.size]? = some (.cells #[.int .u64 0, .int .i64 0, .slice none 0 0, .slice none 0 0] 77 (0, 0)) := hZ
        have HMM := Lib.hid (And.intro hM hN)
        subst g1
        clear hrt hm1 HRV hB hZ hM hN hZ4
        go_wp2_with (first | (refine op_value rfl (run_load_row 77 (.tmp 6) rfl (w.heap.size + 1) rfl 77 (maV (newM x ls) (.slice ta (newM x ls).ths.length tc) (.slice none 0 0)).toArray (0, 0) _ hB' Try.underlying77 rfl info77) ?_) | (refine op_skip rfl (run_store_row 77 (.tmp 4) (.tmp 69) rfl w.heap.size rfl 77 [.int .u64 0, .int .i64 0, .slice none 0 0, .slice none 0 0] (maV (newM x ls) (.slice ta (newM x ls).ths.length tc) (.slice none 0 0)) rfl hZ' info77 rfl hone) ?_))
        have hZ2 := setRow_heap w2 w.heap.size _ (maV (newM x ls) (.slice ta (newM x ls).ths.length tc) (.slice none 0 0)).toArray 77 (0, 0) hZ'
        refine bodyPost_ret (v := .tuple #[.agg (maV (newM x ls) (.slice ta (newM x ls).ths.length tc) (.slice none 0 0)).toArray, .bool true]) (results_row2 rfl _ _ w.heap.size 77 _ (0, 0) _ rfl hZ2 Try.underlying77 rfl info77 rfl) rfl ?_
        rw [Hrt.out.1, Hrt.out.2]
        refine ⟨_, rfl, ⟨_, _, lv, rfl, ?_⟩, HMM.out.2.setRow (Nat.le_refl _) _⟩
        exact HMM.out.1.reads.keptI (HMM.out.1.reads.notIn (show MB w2 w.heap.size 0 0 (.slice none 0 0) (.slice none 0 0) from hZ').nb) (mods_setRow hZ' _)
      · have hrf : r = false := by
          rw [HRV.out]
          cases rb <;> simp at hgood ⊢
          omega
        have hm0 : mm = noneM := by rw [← Hmm.out, hrf]; rfl
        have Hrf := Lib.hid (And.intro hrf hm0)
        obtain ⟨tv, lv, _, _, hZ, hNz, _⟩ := HI2.out
        have HN := Lib.hid hNz
        unfold ZR at hZ
        clear hNz HI2 hrf hm0 HRV
        cases rb with
        | false =>
          go_wp2_with (refine op_skip rfl (run_store_same 77 (.tmp 4) (.tmp 68) rfl w.heap.size rfl 77 [.int .u64 0, .int .i64 0, .slice none 0 0, .slice none 0 0] rfl hZ info77 zero_ones) ?_)
          refine bodyPost_ret (v := .tuple #[.agg #[.int .u64 0, .int .i64 0, .slice none 0 0, .slice none 0 0], .bool false]) (results_row2 rfl _ _ w.heap.size 77 _ (0, 0) _ rfl hZ Try.underlying77 rfl info77 rfl) rfl ?_
          rw [Hrf.out.1, Hrf.out.2]
          exact ⟨_, rfl, zero_reads _, HN.out⟩
        | true =>
          by_cases g2 : 3 < k
          · have d3 : decide ((3 : Int) < (k : Int)) = true := decide_eq_true (by omega)
            go_wp2_with (refine op_skip rfl (run_store_same 77 (.tmp 4) (.tmp 68) rfl w.heap.size rfl 77 [.int .u64 0, .int .i64 0, .slice none 0 0, .slice none 0 0] rfl hZ info77 zero_ones) ?_)
            refine bodyPost_ret (v := .tuple #[.agg #[.int .u64 0, .int .i64 0, .slice none 0 0, .slice none 0 0], .bool false]) (results_row2 rfl _ _ w.heap.size 77 _ (0, 0) _ rfl hZ Try.underlying77 rfl info77 rfl) rfl ?_
            rw [Hrf.out.1, Hrf.out.2]
            exact ⟨_, rfl, zero_reads _, HN.out⟩
          · have d3 : decide ((3 : Int) < (k : Int)) = false := decide_eq_false (by omega)
            have d8 : decide ((8 : Int) < (mt : Int)) = true := decide_eq_true (by
              have : ¬ (mt ≤ 8) := fun h => hgood ⟨rfl, by omega, h⟩
              omega)
            clear hgood
            go_wp2_with (refine op_skip rfl (run_store_same 77 (.tmp 4) (.tmp 68) rfl w.heap.size rfl 77 [.int .u64 0, .int .i64 0, .slice none 0 0, .slice none 0 0] rfl hZ info77 zero_ones) ?_)
            refine bodyPost_ret (v := .tuple #[.agg #[.int .u64 0, .int .i64 0, .slice none 0 0, .slice none 0 0], .bool false]) (results_row2 rfl _ _ w.heap.size 77 _ (0, 0) _ rfl hZ Try.underlying77 rfl info77 rfl) rfl ?_
            rw [Hrf.out.1, Hrf.out.2]
            exact ⟨_, rfl, zero_reads _, HN.out⟩
end Go.Proofs.Ytkjloeefcaadlaa
