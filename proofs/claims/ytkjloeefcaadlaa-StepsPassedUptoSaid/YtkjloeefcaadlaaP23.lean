/- A machine at its beginning. -/
import Derived.Test.YtkjloeefcaadlaaP22
set_option linter.unusedSimpArgs false
set_option linter.unusedVariables false
namespace Go.Proofs.Ytkjloeefcaadlaa
open Go.RowKit Go.Shelf Go.Cs
attribute [local go_sem] Oper.semAt_some
/-- One thread more. -/
theorem MaO.push {W WB : World} {N N2 : Nat} {m : Ma} {tv hh tv' lvk : Value} {lv : Nat → Value} (h : MaO W N m tv hh lv) (t : Th) (hkr : W.ownsRow N2 93 3 lvk t.left.length (flatE t.left)) (hlen : t.left.length ≤ 5864062014805)
    (hown : WB.ownsRow N 100 4 tv' (m.ths.length + 1) (flatF m.ths.length (thsF m.ths lv) ++ t.cs lvk)) (hgrow : W.grownBy WB tv.ownBlock) (hblk : tv'.ownBlock = tv.ownBlock ∨ tv'.ownBlock = some W.heap.size) (hs : m.ths.length + 1 ≤ 2000000) :
    MaO WB N { m with ths := m.ths ++ [t] } tv' hh (fun q => if q = m.ths.length then lvk else lv q) ∧ Mods (fun b => tv.ownBlock = some b) W WB := by
  have hM : Mods (fun b => tv.ownBlock = some b) W WB := (Mods.refl _ W).grown hgrow fun k hk => .inr ⟨hk, fun o ho => by
    rcases h.ths.2 with ⟨e, _⟩ | ⟨b, _, _, e, _, hb, _⟩
    · rw [e] at hk; cases hk
    · rw [e] at hk
      cases hk
      rw [hb] at ho
      cases ho
      rfl⟩
  have hkr' := hM.ownsRow hkr fun b hb e => own_ne hkr h.ths (by decide) hb e
  have hnew : ∀ b, b < W.heap.size → tv.ownBlock ≠ some b → tv'.ownBlock ≠ some b := by
    intro b hlt hne
    rcases hblk with e | e
    · rw [e]; exact hne
    · rw [e]
      intro e2
      cases e2
      omega
  have hget : ∀ j, j < m.ths.length + 1 → (m.ths ++ [t]).getD j .no = if j = m.ths.length then t else m.ths.getD j .no := by
    intro j hj
    rw [getD_snoc]
    by_cases e : j = m.ths.length
    · rw [if_neg (by omega), if_pos e, if_pos e]
    · rw [if_pos (by omega), if_neg e]
  have hL : (m.ths ++ [t]).length = m.ths.length + 1 := by simp
  refine ⟨⟨?_, ?_, ?_, ?_, hM.ownsRow h.hist fun b hb e => own_ne h.hist h.ths (by decide) hb e, ?_⟩, hM⟩
  · show WB.ownsRow N 100 4 tv' (m.ths ++ [t]).length (flatF (m.ths ++ [t]).length (thsF (m.ths ++ [t]) _))
    rw [hL, flatF_succ]
    have e1 : flatF m.ths.length (thsF (m.ths ++ [t]) (fun q => if q = m.ths.length then lvk else lv q)) = flatF m.ths.length (thsF m.ths lv) := flatF_congr fun j hj => by
      unfold thsF
      rw [hget j (by omega), if_neg (by omega)]
      dsimp only
      rw [if_neg (by omega)]
    have e2 : thsF (m.ths ++ [t]) (fun q => if q = m.ths.length then lvk else lv q) m.ths.length = t.cs lvk := by
      unfold thsF
      rw [hget _ (by omega), if_pos rfl]
      dsimp only
      rw [if_pos rfl]
    rw [e1, e2]
    exact hown
  · intro j hj
    have hj : j < m.ths.length + 1 := by rw [← hL]; exact hj
    show ReadsE WB _ ((m.ths ++ [t]).getD j .no).left
    rw [hget j hj]
    by_cases e : j = m.ths.length
    · rw [if_pos e, if_pos e]
      exact ReadsE.ofOwns hlen hkr'
    · rw [if_neg e, if_neg e]
      exact (h.left j (by omega)).kept0 hM fun h0 b hb e2 => (h.apart j (by omega) h0 b hb).1 e2
  · intro j hj
    have hj : j < m.ths.length + 1 := by rw [← hL]; exact hj
    show 0 < ((m.ths ++ [t]).getD j .no).left.length → _
    rw [hget j hj]
    by_cases e : j = m.ths.length
    · rw [if_pos e, if_pos e]
      intro h0 b hb
      have hlt := (hkr.lt b hb).2
      exact ⟨hnew b hlt (own_ne hkr h.ths (by decide) hb), own_ne hkr h.hist (by decide) hb⟩
    · rw [if_neg e, if_neg e]
      intro h0 b hb
      have hlt := (h.left j (by omega)).lt h0 hb
      exact ⟨hnew b hlt (h.apart j (by omega) h0 b hb).1, (h.apart j (by omega) h0 b hb).2⟩
  · intro j hj
    have hj : j < m.ths.length + 1 := by rw [← hL]; exact hj
    show ∃ ao cap, _ = Value.slice ao ((m.ths ++ [t]).getD j .no).left.length cap ∧ ((m.ths ++ [t]).getD j .no).left.length ≤ cap
    rw [hget j hj]
    by_cases e : j = m.ths.length
    · rw [if_pos e, if_pos e]
      rcases hkr.2 with ⟨e1, e0⟩ | ⟨b, cp, cur, e1, _, _, hn, _⟩
      · exact ⟨none, 0, by rw [e0]; exact e1, by omega⟩
      · exact ⟨_, cp, e1, hn⟩
    · rw [if_neg e, if_neg e]
      exact h.caps j (by omega)
  · show (m.ths ++ [t]).length ≤ _ ∧ _
    rw [hL]
    exact ⟨hs, h.small.2⟩
/-- A slice of slices of deeds. -/
def ReadsLs (W : World) (v : Value) (ls : List (List Dn)) : Prop :=
  ls.length ≤ 2000000 ∧ ∃ ao cap, v = .slice ao ls.length cap ∧ ∀ i, i < ls.length → ∃ b o lv, ao = some ⟨b, o, none⟩ ∧ W.cell? ⟨b, o + i, none⟩ = some lv ∧ ReadsE W lv (ls.getD i [])
theorem ReadsLs.new {W W' : World} {v : Value} {ls : List (List Dn)} (h : ReadsLs W v ls) (hN : New W W') : ReadsLs W' v ls := by
  obtain ⟨hl, ao, cap, rfl, hc⟩ := h
  refine ⟨hl, ao, cap, rfl, fun i hi => ?_⟩
  obtain ⟨b, o, lv, rfl, h1, h2⟩ := hc i hi
  exact ⟨b, o, lv, rfl, hN.cell h1 id, h2.new hN⟩
/-- Behind some of the threads. -/
def NewAt (w : World) (x : Nat) (ls : List (List Dn)) (k : Nat) (W : World) : Prop :=
  ∃ tv lv, MB W w.heap.size x 0 tv (.slice none 0 0) ∧ MaO W (w.heap.size + 1) (newM x (ls.take k)) tv (.slice none 0 0) lv ∧ New w W ∧ ∀ j, j < k → allD (ls.getD j []) = true
def manyTo (ls : List (List Dn)) (k : Nat) : Nat := manyL (ls.take k)
theorem manyTo_succ {ls : List (List Dn)} {k : Nat} (hk : k < ls.length) : manyTo ls (k + 1) = manyTo ls k + (ls.getD k []).length := by
  unfold manyTo manyL
  rw [List.take_succ_eq_append_getElem hk, List.map_append, List.sum_append]
  simp only [List.map_cons, List.map_nil, List.sum_cons, List.sum_nil, Nat.add_zero, List.getD, List.getElem?_eq_getElem hk, Option.getD_some]
theorem zero_reads (W : World) : ReadsM W (.agg #[.int .u64 0, .int .i64 0, .slice none 0 0, .slice none 0 0]) (if false = true then newM 0 [] else noneM) := by
  rw [if_neg (by simp)]
  exact ⟨.slice none 0 0, .slice none 0 0, fun _ => .slice none 0 0, rfl, ⟨by simp [noneM], none, 0, rfl, fun i hi => by simp [noneM] at hi⟩, fun i hi => by simp [noneM] at hi, ⟨by simp [noneM], none, 0, rfl, fun i hi => by simp [noneM] at hi⟩⟩
theorem MaO.setO {W : World} {N O x : Nat} {c : Int} {m : Ma} {a b a' b' : Option Addr} {n n' cp cp' q q' r r' : Nat} {lv : Nat → Value} {o : Nat} {u : Value} (h : MaO W N m (.slice a n cp) (.slice a' n' cp') lv) (hB : MB W O x c (.slice b q r) (.slice b' q' r')) : MaO (W.setCell ⟨O, o, none⟩ u) N m (.slice a n cp) (.slice a' n' cp') lv :=
  ⟨own_other h.ths (fun {_} e => hB.apart h.ths (by decide) e) _ _, fun j hj => (h.left j hj).kept0 (setMods _ _ _ _) fun h0 _ hb => hB.left_ne (h.left j hj) h0 hb, h.apart, h.caps, own_other h.hist (fun {_} e => hB.apart h.hist (by decide) e) _ _, h.small⟩
theorem info73e : (Try.prog.info? 85).map (·.size) = some 1 := by kernel_rfl
set_option maxRecDepth 100000 in
set_option maxHeartbeats 4000000 in
theorem new_S (x : Nat) (v : Value) (ls : List (List Dn)) (w : World) (hx : x < 18446744073709551616) (hv : ReadsLs w v ls) (hsum : ∀ k, k ≤ ls.length → manyTo ls k ≤ 4000000000000000000) :
    Calls Try.prog 48 #[.int .u64 x, v] w fun e w' => ∃ v', e = .returned (.tuple #[v', .bool (newOk rightB x ls)]) ∧ ReadsM w' v' (if newOk rightB x ls then newM x ls else noneM) ∧ New w w' := by
  have HW := Lib.hid (right_any x hx)
  have HV := Lib.hid hv
  obtain ⟨hl, ao, cap, rfl, _⟩ := hv
  obtain ⟨r, hr⟩ : ∃ r, newOk rightB x ls = r := ⟨_, rfl⟩
  have Hr := Lib.hid hr
  rw [hr]
  have Hsum := Lib.hid hsum
  clear hsum
  obtain ⟨n, hn⟩ : ∃ n, ls.length = n := ⟨_, rfl⟩
  have Hn := Lib.hid hn
  rw [hn] at hl ⊢
  obtain ⟨rb, hrb⟩ : ∃ rb, rightB x = rb := ⟨_, rfl⟩
  have Hrb := Lib.hid hrb
  rw [hrb] at HW
  have hB : MB (w.alloc (.cells #[.int .u64 0, .int .i64 0, .slice none 0 0, .slice none 0 0] 77)) w.heap.size 0 0 (.slice none 0 0) (.slice none 0 0) := World.alloc_heap_new w _
  have hN0 : New w (w.alloc (.cells #[.int .u64 0, .int .i64 0, .slice none 0 0, .slice none 0 0] 77)) := (Mods.refl _ _).alloc _
  clear hr hn hrb
  refine calls_of_marks Try.func48 rfl ?_
  simp only [Try.ntmps48, List.size_toArray, List.length_cons, List.length_nil, Nat.reduceAdd, Nat.reduceSub, Array.replicate_succ, Array.replicate_zero, List.push_toArray, List.append_toArray, List.nil_append, List.cons_append]
  go_wp2_with fail
  refine wp_scope_fwd 0 (fun a W => ∃ (c2 c3 c6 c7 c8 c9 c10 c11 c12 c13 c14 c15 c16 c17 c18 c19 c20 c21 c22 c23 c24 c25 c26 c27 c28 c29 c30 c31 c32 c33 c34 c35 c36 c37 c38 c39 c40 c41 c42 c43 c44 : Value), a = ⟨#[.int .u64 x, .slice ao n cap, c2, c3, .pointer (some ⟨w.heap.size, 0, none⟩), .bool false, c6, c7, c8, c9, c10, c11, c12, c13, c14, c15, c16, c17, c18, c19, c20, c21, c22, c23, c24, c25, c26, c27, c28, c29, c30, c31, c32, c33, c34, c35, c36, c37, c38, c39, c40, c41, c42, c43, c44], []⟩ ∧ (∃ y tv, MB W w.heap.size y 0 tv (.slice none 0 0)) ∧ New w W ∧ r = false) rfl ?first ?pass
  case pass =>
    rintro a W ⟨c2, c3, c6, c7, c8, c9, c10, c11, c12, c13, c14, c15, c16, c17, c18, c19, c20, c21, c22, c23, c24, c25, c26, c27, c28, c29, c30, c31, c32, c33, c34, c35, c36, c37, c38, c39, c40, c41, c42, c43, c44, rfl, ⟨y, tv, hB⟩, hN, rf⟩
    have HN := Lib.hid hN
    have hrf := Lib.hid rf
    clear hN rf hN0
    have hone0 : ∀ u ∈ ([.int .u64 0, .int .i64 0, .slice none 0 0, .slice none 0 0] : List Value), u.oneCell' = true := by
      intro u hu
      simp only [List.mem_cons, List.not_mem_nil, or_false] at hu
      rcases hu with rfl | rfl | rfl | rfl <;> rfl
    go_wp2_with (refine op_skip rfl (run_store_row 77 (.tmp 4) (.tmp 44) rfl w.heap.size rfl 77 [.int .u64 (y : Nat), .int .i64 0, tv, .slice none 0 0] [.int .u64 0, .int .i64 0, .slice none 0 0, .slice none 0 0] rfl hB info77 rfl hone0) ?_)
    have hB5 := setRow_heap W w.heap.size _ [.int .u64 0, .int .i64 0, .slice none 0 0, .slice none 0 0].toArray 77 (0, 0) hB
    refine marks_none rfl (v := .tuple #[.agg #[.int .u64 0, .int .i64 0, .slice none 0 0, .slice none 0 0], .bool false]) (results_row2 rfl _ _ w.heap.size 77 _ (0, 0) _ rfl hB5 Try.underlying77 rfl info77 rfl) ?_
    rw [hrf.out]
    exact ⟨_, rfl, zero_reads _, HN.out.setRow (Nat.le_refl _) _⟩
  case first =>
    cases rb with
    | false =>
      have hrf : r = false := by rw [← Hr.out]; unfold newOk; rw [Hrb.out]; rfl
      have Hrf := Lib.hid hrf
      clear hrf
      go_wp2_with fail
      refine (HW.out _).mono ?_
      rintro e w1 ⟨rfl, hN1⟩
      have HF := Lib.hid (And.intro (hB.new hN1) (hN0.trans hN1))
      clear hN1
      go_wp2_with fail
      exact wp_goto (And.intro rfl ⟨_, _, _, _, _, _, _, _, _, _, _, _, _, _, _, _, _, _, _, _, _, _, _, _, _, _, _, _, _, _, _, _, _, _, _, _, _, _, _, _, _, rfl, ⟨_, _, HF.out.1⟩, HF.out.2, Hrf.out⟩)
    | true =>
      by_cases h3 : 3 < n
      · have hrf : r = false := by rw [← Hr.out]; unfold newOk; rw [decide_eq_false (by rw [Hn.out]; omega : ¬ ls.length ≤ 3)]; simp
        have Hrf := Lib.hid hrf
        have d1 : decide ((3 : Int) < (n : Int)) = true := decide_eq_true (by omega)
        clear hrf
        go_wp2_with fail
        refine (HW.out _).mono ?_
        rintro e w1 ⟨rfl, hN1⟩
        have HF := Lib.hid (And.intro (hB.new hN1) (hN0.trans hN1))
        clear hN1
        go_wp2_with fail
        exact wp_goto (And.intro rfl ⟨_, _, _, _, _, _, _, _, _, _, _, _, _, _, _, _, _, _, _, _, _, _, _, _, _, _, _, _, _, _, _, _, _, _, _, _, _, _, _, _, _, rfl, ⟨_, _, HF.out.1⟩, HF.out.2, Hrf.out⟩)
      have d1 : decide ((3 : Int) < (n : Int)) = false := decide_eq_false (by omega)
      go_wp2_with fail
      refine (HW.out _).mono ?_
      rintro e w1 ⟨rfl, hN1⟩
      have hB1 := hB.new hN1
      have c0 := hB1.c0
      have f0 := hB1.frozen 0
      have hB2 := hB1.set0 x
      have hN2 : New w (w1.setCell ⟨w.heap.size, 0, none⟩ (.int .u64 x)) := (hN0.trans hN1).setCell (p := ⟨w.heap.size, 0, none⟩) (.inl (Nat.le_refl _)) _
      have H0 : Hid (NewAt w x ls 0 (w1.setCell ⟨w.heap.size, 0, none⟩ (.int .u64 x))) := Lib.hid ⟨_, fun _ => .slice none 0 0, hB2, ⟨World.ownsRow_nil _ _ _ _, fun i hi => by simp [newM] at hi, fun i hi => by simp [newM] at hi, fun i hi => by simp [newM] at hi, World.ownsRow_nil _ _ _ _, by simp [newM]⟩, hN2, fun j hj => by omega⟩
      clear hB1 hB2 hN2 hN1 hB hN0
      go_wp2_with fail
      clear c0 f0
      go_loopw [6, 21] (fun c6 c wr => ∃ k : Nat, k ≤ n ∧ c6 = .int .i64 (manyTo ls k : Nat) ∧ c = .int .i64 (k : Nat) ∧ Hid (NewAt w x ls k wr)) (fun _ c _ => n - (intOf c).toNat)
      case atStart => exact ⟨0, Nat.zero_le _, rfl, rfl, H0⟩
      case round =>
        obtain ⟨k, hk, rfl, rfl, hA⟩ := hrel
        clear H0
        by_cases hkn : k < n
        · have hkd : decide ((k : Int) < (n : Int)) = true := decide_eq_true (by omega)
          have k0 : (0 : Int) ≤ (k : Int) := by omega
          have k1 : (k : Int) < (n : Int) := by omega
          have hkl : k < ls.length := by rw [Hn.out]; exact hkn
          obtain ⟨_, a0, c0, he, hc⟩ := HV.out
          cases he
          obtain ⟨b, o, lvk, rfl, hcell, hE⟩ := hc k hkl
          obtain ⟨l, hlx⟩ : ∃ l, ls.getD k [] = l := ⟨_, rfl⟩
          rw [hlx] at hE
          have hms := manyTo_succ hkl
          rw [hlx] at hms
          have hmb := Hsum.out (k + 1) hkl
          rw [hms] at hmb
          have Hms := Lib.hid hms
          have Hlx := Lib.hid hlx
          obtain ⟨mt, hmt⟩ : ∃ mt, manyTo ls k = mt := ⟨_, rfl⟩
          rw [hmt] at hmb ⊢
          have Hmt := Lib.hid hmt
          have hN := hA.out.choose_spec.choose_spec.2.2.1
          have HE := Lib.hid hE
          have HA := Lib.hid (all_S lvk l wr (hE.new hN))
          have hcell' := hN.cell hcell id
          obtain ⟨hll, la, lc, hle, _⟩ := hE
          subst hle
          obtain ⟨c, hc'⟩ : ∃ c, allD l = c := ⟨_, rfl⟩
          rw [show (l.all fun p => isDeed p.d) = c from hc'] at HA
          have Hc := Lib.hid hc'
          have m0 : (0 : Int) ≤ (mt : Int) := by omega
          have m1 : (mt : Int) + (l.length : Int) ≤ 4000000000000000000 := by omega
          clear hms hlx hmt hmb hcell hc hc' hN
          go_wp2_with fail
          refine HA.out.mono ?_
          rintro e w3 ⟨rfl, hN3⟩
          obtain ⟨tv, lv0, hB, hM, hN, hall⟩ := hA.out
          cases c with
          | false =>
            have hrf : r = false := by
              rw [← Hr.out]
              unfold newOk
              have : ls.all allD = false := by
                rw [List.all_eq_false]
                exact ⟨_, getD_mem (d := []) hkl, by rw [Hlx.out, Hc.out]; simp⟩
              rw [this]
              simp
            have Hrf := Lib.hid hrf
            have HF := Lib.hid (And.intro (hB.new hN3) (hN.trans hN3))
            clear hrf hB hM hN hall hN3 hcell' HA
            go_wp2_with fail
            exact wp_goto (And.intro rfl ⟨_, _, _, _, _, _, _, _, _, _, _, _, _, _, _, _, _, _, _, _, _, _, _, _, _, _, _, _, _, _, _, _, _, _, _, _, _, _, _, _, _, rfl, ⟨_, _, HF.out.1⟩, HF.out.2, Hrf.out⟩)
          | true =>
            obtain ⟨ta, tc, rfl⟩ := owns_slice hM.ths
            have hmk : (newM x (ls.take k)).ths.length = k := by simp [newM]; omega
            obtain ⟨mk, hmkk⟩ : ∃ mk, newM x (ls.take k) = mk := ⟨_, rfl⟩
            rw [hmkk] at hB hM hmk
            have Hmk := Lib.hid hmkk
            have Hall := Lib.hid hall
            have hB3 := hB.new hN3
            have hM3 := hM.new hN3
            have hNw := hN.trans hN3
            have HC : Hid (∀ W, New w W → Calls Try.prog 98 #[.slice la l.length lc] W fun e w' => ∃ v', e = .returned v' ∧ w'.ownsRow W.heap.size 93 3 v' l.length (flatE l) ∧ New W w') := Lib.hid (fun W hW => clone_deeds _ _ W (HE.out.new hW))
            obtain ⟨i100, hi100, hz0, hz1, hz2⟩ := info_parts info100'
            clear hB hM hN hN3 hmkk hall hcell' HA
            go_upto_region 9 with fail
            refine piece (fun a a' W' => ∃ qa qc A va vc, a' = (a.put (some 32) (.pointer (some ⟨w.heap.size, 2, none⟩)) |>.put (some 33) (.slice ta mk.ths.length tc) |>.put (some 34) (.slice la l.length lc) |>.put (some 35) (.slice qa l.length qc) |>.put (some 36) (.agg #[.slice qa l.length qc, .bool false, .int .u64 0, .int .i64 (-1)]) |>.put (some 37) (.slice (some ⟨A, 0, none⟩) 1 1) |>.put (some 38) (.slice va (mk.ths.length + 1) vc) |>.put (some 39) (.pointer (some ⟨w.heap.size, 2, none⟩))) ∧ ∃ lv', MB W' w.heap.size x 0 (.slice va (mk.ths.length + 1) vc) (.slice none 0 0) ∧ MaO W' (w.heap.size + 1) { mk with ths := mk.ths ++ [newT l] } (.slice va (mk.ths.length + 1) vc) (.slice none 0 0) lv' ∧ New w W') ?_ ?_
            · refine (wpIn_wide (n := 0)).1 ?_
              refine wpIn_region_any (by kernel_rfl) ?_
              show wpAnyIn _ _ _ _ _ _ _ _ _ w3.drew
              have hB := hB3.new (Mods.refl _ w3).drew
              have hM := hM3.new (Mods.refl _ w3).drew
              have hN := hNw.drew
              obtain ⟨Wd, hWd⟩ : ∃ Wd, w3.drew = Wd := ⟨_, rfl⟩
              rw [hWd] at hB hM hN ⊢
              clear hWd hB3 hM3 hNw
              refine any_take 0 (some 32) (.pointer (some ⟨w.heap.size, 2, none⟩)) rfl rfl (by kernel_rfl) (by kernel_rfl) (by kernel_rfl) (fun _ _ _ h => h.elim) (.value rfl fun w => by go_simp) ?_
              simp only [Act.put, List.setIfInBounds_toArray, List.set_cons_succ, List.set_cons_zero]
              refine any_take 2 (some 34) (.slice la l.length lc) rfl rfl (by kernel_rfl) (by kernel_rfl) (by kernel_rfl) (fun _ _ _ h => h.elim) (.value rfl fun w => by go_simp) ?_
              simp only [Act.put, List.setIfInBounds_toArray, List.set_cons_succ, List.set_cons_zero]
              refine wpAnyIn_all (rs := [1, 3]) (by kernel_rfl) (by simp) ?_
              simp only [List.mem_cons, List.not_mem_nil, or_false, forall_eq_or_imp, forall_eq]
              refine ⟨?_, ?_⟩
              · refine opIn_value (some 33) (v := .slice ta mk.ths.length tc) (w' := Wd) rfl rfl rfl rfl (by have := hB.c2; go_simp) ?_
                simp only [Act.put, List.setIfInBounds_toArray, List.set_cons_succ, List.set_cons_zero]
                refine wpAnyIn_all (rs := [3]) (by kernel_rfl) (by simp) ?_
                simp only [List.mem_cons, List.not_mem_nil, or_false, forall_eq_or_imp, forall_eq]
                refine opIn_call' (some 35) rfl rfl rfl rfl 98 #[.slice la l.length lc] (by go_simp) ((HC.out _ hN).mono ?_)
                rintro e W2 ⟨lvk, rfl, hlk, hN2⟩
                obtain ⟨qa, qc, rfl⟩ := owns_slice hlk
                refine ⟨_, rfl, ?_⟩
                simp only [Act.put, List.setIfInBounds_toArray, List.set_cons_succ, List.set_cons_zero]
                replace hB := hB.new hN2
                replace hM := hM.new hN2
                replace hN := hN.trans hN2
                clear hN2
                refine any_take 4 (some 36) (.agg #[.slice qa l.length qc, .bool false, .int .u64 0, .int .i64 (-1)]) rfl rfl (by kernel_rfl) (by kernel_rfl) (by kernel_rfl) (fun _ _ _ h => h.elim) (.value rfl fun w => by go_simp) ?_
                simp only [Act.put, List.setIfInBounds_toArray, List.set_cons_succ, List.set_cons_zero]
                refine wpAnyIn_all (rs := [5]) (by kernel_rfl) (by simp) ?_
                simp only [List.mem_cons, List.not_mem_nil, or_false, forall_eq_or_imp, forall_eq]
                refine opIn_value (some 37) (v := .slice (some ⟨W2.heap.size, 0, none⟩) 1 1) (w' := W2.alloc (.cells #[.slice qa l.length qc, .bool false, .int .u64 0, .int .i64 (-1)] 100)) rfl rfl rfl rfl (by go_simp) ?_
                simp only [Act.put, List.setIfInBounds_toArray, List.set_cons_succ, List.set_cons_zero]
                have hA := World.alloc_heap_new W2 (.cells #[.slice qa l.length qc, .bool false, .int .u64 0, .int .i64 (-1)] 100)
                have hNa : New W2 (W2.alloc (.cells #[.slice qa l.length qc, .bool false, .int .u64 0, .int .i64 (-1)] 100)) := (Mods.refl _ _).alloc _
                replace hB := hB.new hNa
                replace hM := hM.new hNa
                replace hN := hN.trans hNa
                replace hlk := hNa.ownsRow hlk fun _ _ => id
                obtain ⟨WA, hWA⟩ : ∃ W, W2.alloc (.cells #[.slice qa l.length qc, .bool false, .int .u64 0, .int .i64 (-1)] 100) = W := ⟨_, rfl⟩
                obtain ⟨A, hAA⟩ : ∃ A, W2.heap.size = A := ⟨_, rfl⟩
                rw [hWA] at hA hB hM hN hlk ⊢
                rw [hAA] at hA ⊢
                clear hWA hAA hNa
                refine wpAnyIn_all (rs := [6]) (by kernel_rfl) (by simp) ?_
                simp only [List.mem_cons, List.not_mem_nil, or_false, forall_eq_or_imp, forall_eq]
                refine opIn_append (some 38) (base := w.heap.size + 1) (e := 100) rfl rfl rfl rfl rfl Try.underlying74 hi100 hz0 hz1 hz2 rfl (by decide) (.slice ta mk.ths.length tc) mk.ths.length (flatF mk.ths.length (thsF mk.ths lv0)) rfl hM.ths ⟨A, 0, none⟩ 1 1 [.slice qa l.length qc, .bool false, .int .u64 0, .int .i64 (-1)] rfl rfl (cells_new hA) (by simp [Value.oneCell']) (by unfold maxLen; omega) (by omega) (by have := hB.lt; omega) (by decide) ?_
                intro tv' WB hown hgrow hblk
                simp only [Act.put, List.setIfInBounds_toArray, List.set_cons_succ, List.set_cons_zero]
                obtain ⟨hM', hMd⟩ := hM.push (newT l) (lvk := .slice qa l.length qc) hlk hll hown hgrow hblk (by omega)
                obtain ⟨va, vc, rfl⟩ := owns_slice hown
                have hB' : MB WB w.heap.size x 0 (.slice ta mk.ths.length tc) (.slice none 0 0) := hMd.heap hB (fun e => hB.apart hM.ths (by decide) e rfl)
                have hN' : New w WB := ((Mods.ofNew hN).trans hMd).new (fun b hb => by have := hM.ths.lt b hb; omega)
                refine any_take 7 (some 39) (.pointer (some ⟨w.heap.size, 2, none⟩)) rfl rfl (by kernel_rfl) (by kernel_rfl) (by kernel_rfl) (fun _ _ _ h => h.elim) (.value rfl fun w => by go_simp) ?_
                simp only [Act.put, List.setIfInBounds_toArray, List.set_cons_succ, List.set_cons_zero]
                refine wpAnyIn_all (rs := [8]) (by kernel_rfl) (by simp) ?_
                simp only [List.mem_cons, List.not_mem_nil, or_false, forall_eq_or_imp, forall_eq]
                refine opIn_skip none rfl rfl rfl rfl (w' := WB.setCell ⟨w.heap.size, 2, none⟩ (.slice va (mk.ths.length + 1) vc)) (by have h1 := hB'.c2; have h2 := hB'.frozen 2; go_simp) ?_
                simp only [Act.put, List.setIfInBounds_toArray, List.set_cons_succ, List.set_cons_zero]
                refine wpAnyIn_done (by kernel_rfl) ?_ _
                exact ⟨qa, qc, A, va, vc, rfl, _, hB'.set2 _, MaO.setO hM' hB', hN'.setCell (p := ⟨w.heap.size, 2, none⟩) (.inl (Nat.le_refl _)) _⟩
              · refine opIn_call' (some 35) rfl rfl rfl rfl 98 #[.slice la l.length lc] (by go_simp) ((HC.out _ hN).mono ?_)
                rintro e W2 ⟨lvk, rfl, hlk, hN2⟩
                obtain ⟨qa, qc, rfl⟩ := owns_slice hlk
                refine ⟨_, rfl, ?_⟩
                simp only [Act.put, List.setIfInBounds_toArray, List.set_cons_succ, List.set_cons_zero]
                replace hB := hB.new hN2
                replace hM := hM.new hN2
                replace hN := hN.trans hN2
                clear hN2
                refine any_take 4 (some 36) (.agg #[.slice qa l.length qc, .bool false, .int .u64 0, .int .i64 (-1)]) rfl rfl (by kernel_rfl) (by kernel_rfl) (by kernel_rfl) (fun _ _ _ h => h.elim) (.value rfl fun w => by go_simp) ?_
                simp only [Act.put, List.setIfInBounds_toArray, List.set_cons_succ, List.set_cons_zero]
                refine wpAnyIn_all (rs := [1, 5]) (by kernel_rfl) (by simp) ?_
                simp only [List.mem_cons, List.not_mem_nil, or_false, forall_eq_or_imp, forall_eq]
                refine ⟨?_, ?_⟩
                · refine opIn_value (some 33) (v := .slice ta mk.ths.length tc) (w' := W2) rfl rfl rfl rfl (by have := hB.c2; go_simp) ?_
                  simp only [Act.put, List.setIfInBounds_toArray, List.set_cons_succ, List.set_cons_zero]
                  refine wpAnyIn_all (rs := [5]) (by kernel_rfl) (by simp) ?_
                  simp only [List.mem_cons, List.not_mem_nil, or_false, forall_eq_or_imp, forall_eq]
                  refine opIn_value (some 37) (v := .slice (some ⟨W2.heap.size, 0, none⟩) 1 1) (w' := W2.alloc (.cells #[.slice qa l.length qc, .bool false, .int .u64 0, .int .i64 (-1)] 100)) rfl rfl rfl rfl (by go_simp) ?_
                  simp only [Act.put, List.setIfInBounds_toArray, List.set_cons_succ, List.set_cons_zero]
                  have hA := World.alloc_heap_new W2 (.cells #[.slice qa l.length qc, .bool false, .int .u64 0, .int .i64 (-1)] 100)
                  have hNa : New W2 (W2.alloc (.cells #[.slice qa l.length qc, .bool false, .int .u64 0, .int .i64 (-1)] 100)) := (Mods.refl _ _).alloc _
                  replace hB := hB.new hNa
                  replace hM := hM.new hNa
                  replace hN := hN.trans hNa
                  replace hlk := hNa.ownsRow hlk fun _ _ => id
                  obtain ⟨WA, hWA⟩ : ∃ W, W2.alloc (.cells #[.slice qa l.length qc, .bool false, .int .u64 0, .int .i64 (-1)] 100) = W := ⟨_, rfl⟩
                  obtain ⟨A, hAA⟩ : ∃ A, W2.heap.size = A := ⟨_, rfl⟩
                  rw [hWA] at hA hB hM hN hlk ⊢
                  rw [hAA] at hA ⊢
                  clear hWA hAA hNa
                  refine wpAnyIn_all (rs := [6]) (by kernel_rfl) (by simp) ?_
                  simp only [List.mem_cons, List.not_mem_nil, or_false, forall_eq_or_imp, forall_eq]
                  refine opIn_append (some 38) (base := w.heap.size + 1) (e := 100) rfl rfl rfl rfl rfl Try.underlying74 hi100 hz0 hz1 hz2 rfl (by decide) (.slice ta mk.ths.length tc) mk.ths.length (flatF mk.ths.length (thsF mk.ths lv0)) rfl hM.ths ⟨A, 0, none⟩ 1 1 [.slice qa l.length qc, .bool false, .int .u64 0, .int .i64 (-1)] rfl rfl (cells_new hA) (by simp [Value.oneCell']) (by unfold maxLen; omega) (by omega) (by have := hB.lt; omega) (by decide) ?_
                  intro tv' WB hown hgrow hblk
                  simp only [Act.put, List.setIfInBounds_toArray, List.set_cons_succ, List.set_cons_zero]
                  obtain ⟨hM', hMd⟩ := hM.push (newT l) (lvk := .slice qa l.length qc) hlk hll hown hgrow hblk (by omega)
                  obtain ⟨va, vc, rfl⟩ := owns_slice hown
                  have hB' : MB WB w.heap.size x 0 (.slice ta mk.ths.length tc) (.slice none 0 0) := hMd.heap hB (fun e => hB.apart hM.ths (by decide) e rfl)
                  have hN' : New w WB := ((Mods.ofNew hN).trans hMd).new (fun b hb => by have := hM.ths.lt b hb; omega)
                  refine any_take 7 (some 39) (.pointer (some ⟨w.heap.size, 2, none⟩)) rfl rfl (by kernel_rfl) (by kernel_rfl) (by kernel_rfl) (fun _ _ _ h => h.elim) (.value rfl fun w => by go_simp) ?_
                  simp only [Act.put, List.setIfInBounds_toArray, List.set_cons_succ, List.set_cons_zero]
                  refine wpAnyIn_all (rs := [8]) (by kernel_rfl) (by simp) ?_
                  simp only [List.mem_cons, List.not_mem_nil, or_false, forall_eq_or_imp, forall_eq]
                  refine opIn_skip none rfl rfl rfl rfl (w' := WB.setCell ⟨w.heap.size, 2, none⟩ (.slice va (mk.ths.length + 1) vc)) (by have h1 := hB'.c2; have h2 := hB'.frozen 2; go_simp) ?_
                  simp only [Act.put, List.setIfInBounds_toArray, List.set_cons_succ, List.set_cons_zero]
                  refine wpAnyIn_done (by kernel_rfl) ?_ _
                  exact ⟨qa, qc, A, va, vc, rfl, _, hB'.set2 _, MaO.setO hM' hB', hN'.setCell (p := ⟨w.heap.size, 2, none⟩) (.inl (Nat.le_refl _)) _⟩
                · refine opIn_value (some 37) (v := .slice (some ⟨W2.heap.size, 0, none⟩) 1 1) (w' := W2.alloc (.cells #[.slice qa l.length qc, .bool false, .int .u64 0, .int .i64 (-1)] 100)) rfl rfl rfl rfl (by go_simp) ?_
                  simp only [Act.put, List.setIfInBounds_toArray, List.set_cons_succ, List.set_cons_zero]
                  have hA := World.alloc_heap_new W2 (.cells #[.slice qa l.length qc, .bool false, .int .u64 0, .int .i64 (-1)] 100)
                  have hNa : New W2 (W2.alloc (.cells #[.slice qa l.length qc, .bool false, .int .u64 0, .int .i64 (-1)] 100)) := (Mods.refl _ _).alloc _
                  replace hB := hB.new hNa
                  replace hM := hM.new hNa
                  replace hN := hN.trans hNa
                  replace hlk := hNa.ownsRow hlk fun _ _ => id
                  obtain ⟨WA, hWA⟩ : ∃ W, W2.alloc (.cells #[.slice qa l.length qc, .bool false, .int .u64 0, .int .i64 (-1)] 100) = W := ⟨_, rfl⟩
                  obtain ⟨A, hAA⟩ : ∃ A, W2.heap.size = A := ⟨_, rfl⟩
                  rw [hWA] at hA hB hM hN hlk ⊢
                  rw [hAA] at hA ⊢
                  clear hWA hAA hNa
                  refine wpAnyIn_all (rs := [1]) (by kernel_rfl) (by simp) ?_
                  simp only [List.mem_cons, List.not_mem_nil, or_false, forall_eq_or_imp, forall_eq]
                  refine opIn_value (some 33) (v := .slice ta mk.ths.length tc) (w' := WA) rfl rfl rfl rfl (by have := hB.c2; go_simp) ?_
                  simp only [Act.put, List.setIfInBounds_toArray, List.set_cons_succ, List.set_cons_zero]
                  refine wpAnyIn_all (rs := [6]) (by kernel_rfl) (by simp) ?_
                  simp only [List.mem_cons, List.not_mem_nil, or_false, forall_eq_or_imp, forall_eq]
                  refine opIn_append (some 38) (base := w.heap.size + 1) (e := 100) rfl rfl rfl rfl rfl Try.underlying74 hi100 hz0 hz1 hz2 rfl (by decide) (.slice ta mk.ths.length tc) mk.ths.length (flatF mk.ths.length (thsF mk.ths lv0)) rfl hM.ths ⟨A, 0, none⟩ 1 1 [.slice qa l.length qc, .bool false, .int .u64 0, .int .i64 (-1)] rfl rfl (cells_new hA) (by simp [Value.oneCell']) (by unfold maxLen; omega) (by omega) (by have := hB.lt; omega) (by decide) ?_
                  intro tv' WB hown hgrow hblk
                  simp only [Act.put, List.setIfInBounds_toArray, List.set_cons_succ, List.set_cons_zero]
                  obtain ⟨hM', hMd⟩ := hM.push (newT l) (lvk := .slice qa l.length qc) hlk hll hown hgrow hblk (by omega)
                  obtain ⟨va, vc, rfl⟩ := owns_slice hown
                  have hB' : MB WB w.heap.size x 0 (.slice ta mk.ths.length tc) (.slice none 0 0) := hMd.heap hB (fun e => hB.apart hM.ths (by decide) e rfl)
                  have hN' : New w WB := ((Mods.ofNew hN).trans hMd).new (fun b hb => by have := hM.ths.lt b hb; omega)
                  refine any_take 7 (some 39) (.pointer (some ⟨w.heap.size, 2, none⟩)) rfl rfl (by kernel_rfl) (by kernel_rfl) (by kernel_rfl) (fun _ _ _ h => h.elim) (.value rfl fun w => by go_simp) ?_
                  simp only [Act.put, List.setIfInBounds_toArray, List.set_cons_succ, List.set_cons_zero]
                  refine wpAnyIn_all (rs := [8]) (by kernel_rfl) (by simp) ?_
                  simp only [List.mem_cons, List.not_mem_nil, or_false, forall_eq_or_imp, forall_eq]
                  refine opIn_skip none rfl rfl rfl rfl (w' := WB.setCell ⟨w.heap.size, 2, none⟩ (.slice va (mk.ths.length + 1) vc)) (by have h1 := hB'.c2; have h2 := hB'.frozen 2; go_simp) ?_
                  simp only [Act.put, List.setIfInBounds_toArray, List.set_cons_succ, List.set_cons_zero]
                  refine wpAnyIn_done (by kernel_rfl) ?_ _
                  exact ⟨qa, qc, A, va, vc, rfl, _, hB'.set2 _, MaO.setO hM' hB', hN'.setCell (p := ⟨w.heap.size, 2, none⟩) (.inl (Nat.le_refl _)) _⟩
            · rintro a' W' ⟨qa, qc, A, va, vc, rfl, lv', hB, hM, hN⟩
              simp only [Act.put, List.setIfInBounds_toArray, List.set_cons_succ, List.set_cons_zero]
              have hnext : Hid (NewAt w x ls (k + 1) W') := Lib.hid (by
                have e : newM x (ls.take (k + 1)) = { mk with ths := mk.ths ++ [newT l] } := by
                  rw [← Hmk.out]
                  unfold newM
                  rw [List.take_succ_eq_append_getElem hkl, List.map_append]
                  have : ls[k] = l := by have := Hlx.out; simpa [List.getD, hkl] using this
                  rw [this]
                  rfl
                refine ⟨_, lv', hB, by rw [e]; exact hM, hN, fun j hj => ?_⟩
                by_cases hjk : j < k
                · exact Hall.out j hjk
                · obtain rfl : j = k := by omega
                  rw [Hlx.out]; exact Hc.out)
              clear hB hM hN hB3 hM3 hNw
              go_wp2_with fail
              go_roundw
              case rel => exact ⟨k + 1, by omega, by rw [Hms.out, Hmt.out]; simp, by go_num, hnext⟩
              case measure => simp [intOf]; omega
        · obtain rfl : k = n := by omega
          have hkd : decide ((k : Int) < (k : Int)) = false := decide_eq_false (by omega)
          obtain ⟨tv, lv0, hB, hM, hN, hall⟩ := hA.out
          have htk : ls.take k = ls := List.take_of_length_le (by rw [Hn.out]; exact Nat.le_refl _)
          rw [htk] at hM
          have hmt : manyTo ls k = manyL ls := by unfold manyTo; rw [htk]
          have hal : ls.all allD = true := by
            rw [List.all_eq_true]
            intro l hl
            obtain ⟨j, hj, rfl⟩ := List.getElem_of_mem hl
            have := hall j (by rw [← Hn.out]; exact hj)
            simpa [List.getD, hj] using this
          have hrv : r = decide (manyL ls ≤ 8) := by
            rw [← Hr.out]
            unfold newOk
            rw [Hrb.out, hal, decide_eq_true (by rw [Hn.out]; omega : ls.length ≤ 3)]
            simp
          rw [hmt]
          obtain ⟨ta, tc, rfl⟩ := owns_slice hM.ths
          obtain ⟨mt, hmm⟩ : ∃ mt, manyL ls = mt := ⟨_, rfl⟩
          rw [hmm] at hrv ⊢
          have HM := Lib.hid hM
          have HN := Lib.hid hN
          by_cases h8 : mt ≤ 8
          · have d8 : decide ((mt : Int) ≤ 8) = true := decide_eq_true (by omega)
            have hrf : Hid (r = true) := Lib.hid (by rw [hrv, decide_eq_true h8])
            have hone := maV_one hM
            have hl1 : (Try.prog.info? 77).map (·.size) = some (maV (newM x ls) (.slice ta (newM x ls).ths.length tc) (.slice none 0 0)).toArray.size := info77
            have hB' : wr.heap[w.heap.size]? = some (.cells (maV (newM x ls) (.slice ta (newM x ls).ths.length tc) (.slice none 0 0)).toArray 77 (0, 0)) := hB
            clear hrv hmt htk hal hM hN hall hB hmm
            go_upto_region 12 with fail
            go_wp2_with (first | (refine op_value rfl (run_load_row 77 (.tmp 4) rfl w.heap.size rfl 77 (maV (newM x ls) (.slice ta (newM x ls).ths.length tc) (.slice none 0 0)).toArray (0, 0) _ hB' Try.underlying77 rfl hl1) ?_) | (refine op_skip rfl (run_store_same 77 (.tmp 4) (.tmp 43) rfl w.heap.size rfl 77 (maV (newM x ls) (.slice ta (newM x ls).ths.length tc) (.slice none 0 0)) rfl hB' info77 hone) ?_))
            refine marks_none rfl (v := .tuple #[.agg (maV (newM x ls) (.slice ta (newM x ls).ths.length tc) (.slice none 0 0)).toArray, .bool true]) (results_row2 rfl _ _ w.heap.size 77 _ (0, 0) _ rfl hB' Try.underlying77 rfl hl1 rfl) ?_
            rw [hrf.out]
            exact ⟨_, rfl, ⟨_, _, lv0, rfl, HM.out.reads⟩, HN.out⟩
          · have d8 : decide ((mt : Int) ≤ 8) = false := decide_eq_false (by omega)
            have hrf : Hid (r = false) := Lib.hid (by rw [hrv, decide_eq_false h8])
            clear hrv hmt htk hal hM hN hall hmm
            go_upto_region 13 with fail
            apply wp_label
            go_upto_region 13 with fail
            obtain ⟨y, hy⟩ : ∃ y, x = y := ⟨_, rfl⟩
            obtain ⟨W, hW⟩ : ∃ W, wr = W := ⟨_, rfl⟩
            obtain ⟨tv, htv⟩ : ∃ tv, Value.slice ta (newM x ls).ths.length tc = tv := ⟨_, rfl⟩
            rw [hW] at hB HN ⊢
            rw [htv, hy] at hB
            clear htv hW
            have hone0 : ∀ u ∈ ([.int .u64 0, .int .i64 0, .slice none 0 0, .slice none 0 0] : List Value), u.oneCell' = true := by
              intro u hu
              simp only [List.mem_cons, List.not_mem_nil, or_false] at hu
              rcases hu with rfl | rfl | rfl | rfl <;> rfl
            go_wp2_with (refine op_skip rfl (run_store_row 77 (.tmp 4) (.tmp 44) rfl w.heap.size rfl 77 [.int .u64 (y : Nat), .int .i64 0, tv, .slice none 0 0] [.int .u64 0, .int .i64 0, .slice none 0 0, .slice none 0 0] rfl hB info77 rfl hone0) ?_)
            have hB5 := setRow_heap W w.heap.size _ [.int .u64 0, .int .i64 0, .slice none 0 0, .slice none 0 0].toArray 77 (0, 0) hB
            refine marks_none rfl (v := .tuple #[.agg #[.int .u64 0, .int .i64 0, .slice none 0 0, .slice none 0 0], .bool false]) (results_row2 rfl _ _ w.heap.size 77 _ (0, 0) _ rfl hB5 Try.underlying77 rfl info77 rfl) ?_
            rw [hrf.out]
            exact ⟨_, rfl, zero_reads _, HN.out.setRow (Nat.le_refl _) _⟩
end Go.Proofs.Ytkjloeefcaadlaa
