/- What the document tells of two threads: plain. -/
import Derived.Test.YtkjloeefcaadlaaM23
import Derived.OrdersHeld
set_option linter.unusedSimpArgs false
set_option linter.unusedVariables false
namespace Go.Proofs.Ytkjloeefcaadlaa
open Go.RowKit Go.Shelf Go.Cs
def wl : List Dn := [⟨1, 3, 2⟩, ⟨2, 0, 0⟩]
def wm0 : Ma := newM 0 [wl, wl]
def wm1 : Ma := (runM DS rightB wm0 [0, 1, 0, 1, 1, 1]).1
def wm2 : Ma := (runM DS rightB wm1 [0, 0, 1, 1, 1, 1]).1
def wbad : List Mo := wm1.hist.set 0 { wm1.hist.getD 0 .no with slot := 0, ok := false }
theorem wk_ok : newOk rightB 0 [wl, wl] = true := by decide +kernel
theorem wk_n : (runM DS rightB wm0 [0, 1, 0, 1, 1, 1]).2 = 6 := by decide +kernel
theorem wk_step : (stepM DS rightB wm0 2).2 = false := by decide +kernel
theorem wk_does : DS wm1.word ⟨2, 0, 0⟩ = (0, 3, true) := by decide +kernel
theorem wk_len : wm1.hist.length = 2 ∧ wm2.hist.length = 4 ∧ wm1.ths.length = 2 ∧ wm1.clock = 6 := by decide +kernel
theorem wk_h0 : (wm1.hist.getD 0 .no).en = 3 ∧ (wm1.hist.getD 0 .no).ok = true ∧ (wm1.hist.getD 1 .no).en = 6 ∧ (wm1.hist.getD 1 .no).ok = false := by decide +kernel
theorem wk_right : rightM rightB wm2 = true := by decide +kernel
theorem wk_lin2 : linM DS rightB 0 wm2.hist wm2.word = true := by decide +kernel
theorem wk_lin1 : linM DS rightB 0 wm1.hist wm1.word = true := by decide +kernel
theorem wk_bad : linM DS rightB 0 wbad wm1.word = false := by decide +kernel
theorem wk_same : sameM wm2 wm2 = true ∧ sameM wm2 wm1 = false := by decide +kernel
/-- In range, the history, too. -/
def InMH (m : Ma) : Prop := InM m ∧ InH m.hist
theorem InMH.step {m : Ma} (h : InMH m) (i : Int) : InMH (stepM DS rightB m i).1 := by
  refine ⟨h.1.step i, ?_⟩
  by_cases hm : mayM rightB m i = true
  · obtain ⟨hr, k, rfl, hk, hl⟩ := mayM_iff.1 hm
    rw [stepM_go hm]
    unfold goM
    split
    · next hld =>
      unfold swapM
      split
      · exact h.2
      · intro q hq
        rw [List.length_set] at hq
        rw [getD_set]
        split
        · next e =>
          obtain ⟨e1, e2⟩ := e
          exact h.2 _ (by rw [e1]; exact e2)
        · exact h.2 q hq
    · unfold readM
      dsimp only
      split
      · intro q hq
        rw [List.length_append, List.length_singleton] at hq
        rw [getD_snoc]
        split
        · next e => exact h.2 q e
        · split
          · exact h.1.left k hk 0 hl
          · omega
      · exact h.2
  · rw [stepM_no (by simpa using hm)]
    exact h.2
theorem InMH.run {m : Ma} (h : InMH m) (is : List Int) : InMH (runM DS rightB m is).1 := by
  induction is generalizing m with
  | nil => exact h
  | cons i is ih =>
    rw [runM_cons]
    exact ih (h.step i)
theorem InMH.new {x : Nat} {ls : List (List Dn)} (hx : x < 18446744073709551616) (hl : ∀ l ∈ ls, InLs l) : InMH (newM x ls) := by
  have hg : ∀ i, i < (newM x ls).ths.length → ∃ l ∈ ls, (newM x ls).ths.getD i .no = newT l := by
    intro i hi
    have hi : i < ls.length := by simpa [newM] using hi
    refine ⟨ls[i], List.getElem_mem hi, ?_⟩
    show (ls.map newT).getD i .no = _
    simp [List.getD, hi]
  refine ⟨⟨hx, ?_, ?_⟩, fun i hi => by simp [newM] at hi⟩
  · intro i hi
    obtain ⟨l, _, e⟩ := hg i hi
    rw [e]
    exact Nat.zero_lt_succ _
  · intro i hi
    obtain ⟨l, hm, e⟩ := hg i hi
    rw [e]
    exact hl l hm
theorem wl_in : InLs wl := by
  intro i hi
  have : i = 0 ∨ i = 1 := by have : i < 2 := hi; omega
  rcases this with rfl | rfl <;> exact ⟨by decide, by decide⟩
theorem wm0_in : InMH wm0 := InMH.new (Nat.zero_lt_succ _) fun l hl => by
  simp at hl
  subst hl
  exact wl_in
theorem wm1_in : InMH wm1 := wm0_in.run _
theorem wm2_in : InMH wm2 := wm1_in.run _
theorem wbad_in : InH wbad := by
  intro i hi
  unfold wbad at hi ⊢
  rw [List.length_set] at hi
  rw [getD_set]
  split
  · exact wm1_in.2 0 (by rw [wk_len.1]; decide)
  · exact wm1_in.2 i hi
/-- A call in a region whose loads are taken first. -/
theorem opH_call {P : Program} {ops : Array Oper} {Q : Exit → Act → World → Prop} {i : Nat} {o : Oper} (d : Option Tmp) {a : Act} {w : World} {K : Act → World → Prop} (hi : ops[i]? = some o) (hw : Region.wanted o (yielded ops a.tmps) = true) (hd : o.dst = d)
    (f : FuncId) (args : Array Value) (h : (execOp a.eval o).run P w = .ok (.enter f args) w) (hc : Calls P f args w fun e w' => ∃ v, e = .returned v ∧ K (a.put d v) w') : wpOp P ops Q i K a w := by
  subst hd
  unfold Go.wpOp
  simp only [hi, hw, if_true, Oper.wp, h, Oper.upon]
  refine .inl (hc.mono ?_)
  rintro e w' ⟨v, rfl, hk⟩
  exact hk
theorem opH_value {P : Program} {ops : Array Oper} {Q : Exit → Act → World → Prop} {i : Nat} {o : Oper} (d : Option Tmp) {v : Value} {a : Act} {w w' : World} {K : Act → World → Prop} (hi : ops[i]? = some o) (hw : Region.wanted o (yielded ops a.tmps) = true) (hd : o.dst = d)
    (h : (execOp a.eval o).run P w = .ok (.value v) w') (hK : K (a.put d v) w') : wpOp P ops Q i K a w := by
  subst hd
  unfold Go.wpOp
  simp only [hi, hw, if_true, Oper.wp, h, Oper.upon]
  first | exact hK | exact .inl hK
theorem opH_skip {P : Program} {ops : Array Oper} {Q : Exit → Act → World → Prop} {i : Nat} {o : Oper} (d : Option Tmp) {a : Act} {w w' : World} {K : Act → World → Prop} (hi : ops[i]? = some o) (hw : Region.wanted o (yielded ops a.tmps) = true) (hd : o.dst = d)
    (h : (execOp a.eval o).run P w = .ok .skip w') (hK : K (a.put d undef) w') : wpOp P ops Q i K a w := by
  subst hd
  unfold Go.wpOp
  simp only [hi, hw, if_true, Oper.wp, h, Oper.upon]
  first | exact hK | exact .inl hK
/-- Number i goes first, where it yields v in every world that meets S. -/
theorem anyH_take {P : Program} {ops : Array Oper} {Q : Exit → Act → World → Prop} {md : Region.Mode} {S : World → Prop} (i : Nat) {oi : Oper} (d : Option Tmp) (v : Value) {fuel : Nat} {listed : Array Bool} {a : Act} {w : World} (hi : ops[i]? = some oi) (hd : oi.dst = d)
    (hs : Region.noSelect ops = true) (hf : Region.free md ops listed i = true) (hr : (Region.ready md ops listed).contains i = true)
    (hQ : ∀ c a w, Q (.panic c) (a.put d v) w → Q (.panic c) a w) (hy : YieldsIf P ops S oi v a) (hS : S w)
    (h : wpAnyH P md ops Q S fuel (listed.setIfInBounds i true) (a.put d v) w) : wpAnyH P md ops Q S (fuel + 1) listed a w := by
  subst hd
  exact wpAnyH_take hi hs hf hr hQ hy hS h
end Go.Proofs.Ytkjloeefcaadlaa
/- Machines that are too great. -/
namespace Go.Proofs.Ytkjloeefcaadlaa
open Go.RowKit Go.Shelf Go.Cs
attribute [local go_sem] Oper.semAt_some
def greatB (m : Ma) : Bool := ((List.range (min m.ths.length 6)).any fun i => decide (20 < (m.ths.getD i .no).left.length)) || (decide (5 < m.ths.length) || decide (40 < m.hist.length))
set_option maxRecDepth 100000 in
set_option maxHeartbeats 4000000 in
theorem great_S (v : Value) (m : Ma) (w : World) (hv : ReadsM w v m) : Calls Try.prog 56 #[v] w fun e w' => e = .returned (.bool (greatB m)) ∧ New w w' := by
  obtain ⟨tv, hh, lv, rfl, hR⟩ := hv
  obtain ⟨⟨ao, cap, rfl⟩, ⟨ho, hcap, rfl⟩⟩ := hR.slices
  have hsm := hR.ths.1
  have HR := Lib.hid hR
  have hB : MB (w.alloc (.cells (maV m (.slice ao m.ths.length cap) (.slice ho m.hist.length hcap)).toArray 77)) w.heap.size m.word m.clock (.slice ao m.ths.length cap) (.slice ho m.hist.length hcap) := World.alloc_heap_new w _
  have hN : New w (w.alloc (.cells (maV m (.slice ao m.ths.length cap) (.slice ho m.hist.length hcap)).toArray 77)) := (Mods.refl _ _).alloc _
  obtain ⟨W, hW⟩ : ∃ W, w.alloc (.cells (maV m (.slice ao m.ths.length cap) (.slice ho m.hist.length hcap)).toArray 77) = W := ⟨_, rfl⟩
  have hW' : w.alloc (.cells #[.int .u64 (m.word : Nat), .int .i64 m.clock, .slice ao m.ths.length cap, .slice ho m.hist.length hcap] 77) = W := hW
  rw [hW] at hB hN
  obtain ⟨r, hr⟩ : ∃ r, greatB m = r := ⟨_, rfl⟩
  have Hr := Lib.hid hr
  rw [hr]
  have HB := Lib.hid hB
  have c2 := hB.c2
  have c3 := hB.c3
  have hRW := Lib.hid (hR.new hN)
  clear hr hR hB hW
  unfold maV
  go_enter Try.func56, Try.ntmps56
  go_wp2_with fail
  try rw [hW']
  clear hW'
  go_loop [3] (fun c => ∃ k : Nat, k ≤ m.ths.length ∧ k ≤ 6 ∧ c = .int .i64 (k : Nat) ∧ Hid (∀ q, q < k → (m.ths.getD q .no).left.length ≤ 20)) (fun c => 7 - (intOf c).toNat)
  case atStart => exact ⟨0, Nat.zero_le _, by decide, rfl, Lib.hid (fun i hi => by omega)⟩
  case round =>
    obtain ⟨k, hk, hk6, rfl, hbef⟩ := hrel
    by_cases hkn : k < m.ths.length
    · have hkd : decide ((k : Int) < (m.ths.length : Int)) = true := decide_eq_true (by omega)
      by_cases h5 : k ≤ 5
      · have h5d : decide ((k : Int) ≤ 5) = true := decide_eq_true (by omega)
        have k0 : (0 : Int) ≤ (k : Int) := by omega
        have k1 : (k : Int) < (m.ths.length : Int) := by omega
        obtain ⟨b, o, cap', hv, hra⟩ := hRW.out.thread hkn
        cases hv
        obtain ⟨_, la, lc, hle, _⟩ := hRW.out.left k hkn
        obtain ⟨t, ht⟩ : ∃ t, m.ths.getD k .no = t := ⟨_, rfl⟩
        rw [ht] at hra hle
        have Ht := Lib.hid ht
        have a0 : W.cell? ⟨b, o + k * 4, none⟩ = some (.slice la t.left.length lc) := by
          have := hra 0 (lv k) rfl
          rw [hle] at this
          exact this
        clear hra hle ht
        by_cases h20 : 20 < t.left.length
        · have d20 : decide ((20 : Int) < (t.left.length : Int)) = true := decide_eq_true (by omega)
          have hrf : Hid (r = true) := Lib.hid (by
            rw [← Hr.out]
            unfold greatB
            rw [Bool.or_eq_true]
            left
            rw [List.any_eq_true]
            exact ⟨k, List.mem_range.2 (by omega), by rw [Ht.out]; exact decide_eq_true h20⟩)
          have HN := Lib.hid hN
          go_wp2_with fail
          go_ret
          exact ⟨by rw [hrf.out]; rfl, HN.out⟩
        · have d20 : decide ((20 : Int) < (t.left.length : Int)) = false := decide_eq_false (by omega)
          have hnx : Hid (∀ q, q < k + 1 → (m.ths.getD q .no).left.length ≤ 20) := Lib.hid (fun q hq => by
            by_cases hqk : q < k
            · exact hbef.out q hqk
            · obtain rfl : q = k := by omega
              rw [Ht.out]; omega)
          go_wp2_with fail
          go_round
          case rel => exact ⟨k + 1, by omega, by omega, by go_num, hnx⟩
          case measure => simp [intOf]; omega
      · have h5d : decide ((k : Int) ≤ 5) = false := decide_eq_false (by omega)
        have h5n : decide ((5 : Int) < (m.ths.length : Int)) = true := decide_eq_true (by omega)
        have hrf : Hid (r = true) := Lib.hid (by
          rw [← Hr.out]
          unfold greatB
          rw [decide_eq_true (by omega : 5 < m.ths.length)]
          simp)
        have HN := Lib.hid hN
        go_wp2_with fail
        go_ret
        exact ⟨by rw [hrf.out]; rfl, HN.out⟩
    · obtain rfl : k = m.ths.length := by omega
      have hkd : decide ((m.ths.length : Int) < (m.ths.length : Int)) = false := decide_eq_false (by omega)
      have hany : ((List.range (min m.ths.length 6)).any fun i => decide (20 < (m.ths.getD i .no).left.length)) = false := by
        rw [List.any_eq_false]
        intro q hq
        have := hbef.out q (by have := List.mem_range.1 hq; omega)
        simp only [decide_eq_true_eq]
        omega
      have hrv : r = (decide (5 < m.ths.length) || decide (40 < m.hist.length)) := by rw [← Hr.out]; unfold greatB; rw [hany]; rfl
      have HN := Lib.hid hN
      by_cases h5 : 5 < m.ths.length
      · have h5d : decide ((5 : Int) < (m.ths.length : Int)) = true := decide_eq_true (by omega)
        have hrf : Hid (r = true) := Lib.hid (by rw [hrv, decide_eq_true h5]; rfl)
        clear hrv hany
        go_wp2_with fail
        go_ret
        exact ⟨by rw [hrf.out]; rfl, HN.out⟩
      · have h5d : decide ((5 : Int) < (m.ths.length : Int)) = false := decide_eq_false (by omega)
        have hrf : Hid (r = decide (40 < m.hist.length)) := Lib.hid (by rw [hrv, decide_eq_false h5]; rfl)
        have hcast : decide ((40 : Int) < (m.hist.length : Int)) = decide (40 < m.hist.length) := by
          by_cases h : 40 < m.hist.length
          · rw [decide_eq_true h, decide_eq_true (by omega)]
          · rw [decide_eq_false h, decide_eq_false (by omega)]
        clear hrv hany
        go_wp2_with fail
        go_ret
        exact ⟨by rw [hrf.out]; simp, HN.out⟩
end Go.Proofs.Ytkjloeefcaadlaa
