/- A step of a thread. -/
import Derived.Test.YtkjloeefcaadlaaP17
import Derived.Test.YtkjloeefcaadlaaP18
import Derived.Test.YtkjloeefcaadlaaP01
import Derived.ProofKit
import Derived.Deep.Slices
import Derived.Deep.Fields
import Derived.OpenShut
import Derived.Test.YtkjloeefcaadlaaP05
set_option linter.unusedSimpArgs false
set_option linter.unusedVariables false
namespace Go.Proofs.Ytkjloeefcaadlaa
open Go.RowKit Go.Shelf Go.Cs
attribute [local go_sem] Oper.semAt_some
theorem turnF_lt' (x : Nat) (s u : Int) (hx : x < 18446744073709551616) : (turnF x s u).1 < 18446744073709551616 := by
  unfold turnF
  split
  · exact pushF_lt _ _ _ (outF_lt _ _ hx)
  · exact hx
theorem bestF_lt' (x : Nat) (hx : x < 18446744073709551616) : (bestF x).1 < 18446744073709551616 := by
  unfold bestF
  split
  · exact outF_lt _ _ hx
  · exact hx
theorem DS_lt {w : Nat} (p : Dn) (hw : w < 18446744073709551616) : (DS w p).1 < 18446744073709551616 := by
  unfold DS doesS
  split
  · split
    · exact pushF_lt _ _ _ hw
    · exact hw
  · split
    · split
      · exact bestF_lt' _ hw
      · exact hw
    · split
      · split
        · exact turnF_lt' _ _ _ hw
        · exact hw
      · split
        · split
          · exact outF_lt _ _ hw
          · exact hw
        · exact hw
/-- In range it stays. -/
theorem InM.go {m : Ma} (h : InM m) {i : Nat} (hi : i < m.ths.length) : InM (goM DS m i) := by
  have hs : ∀ (t' : Th), t'.seen < 18446744073709551616 → InLs t'.left → (∀ k, k < (m.ths.set i t').length → ((m.ths.set i t').getD k .no).seen < 18446744073709551616) ∧ ∀ k, k < (m.ths.set i t').length → InLs ((m.ths.set i t').getD k .no).left := by
    intro t' h1 h2
    refine ⟨fun k hk => ?_, fun k hk => ?_⟩ <;> rw [List.length_set] at hk <;> rw [getD_set] <;> split
    · exact h1
    · exact h.seen k hk
    · exact h2
    · exact h.left k hk
  have hd : InLs ((m.ths.getD i .no).left.drop 1) := by
    intro k hk
    have := h.left i hi (k + 1) (by rw [List.length_drop] at hk; omega)
    have e1 : ((m.ths.getD i .no).left.drop 1).getD k .no = (m.ths.getD i .no).left.getD (k + 1) .no := by simp [List.getD, Nat.add_comm]
    rw [e1]
    exact this
  unfold goM
  split
  · unfold swapM
    split
    · obtain ⟨a, b⟩ := hs { m.ths.getD i .no with loaded := false, seen := 0 } (Nat.zero_lt_succ _) (h.left i hi)
      exact ⟨h.word, a, b⟩
    · obtain ⟨a, b⟩ := hs ⟨(m.ths.getD i .no).left.drop 1, false, 0, -1⟩ (Nat.zero_lt_succ _) hd
      refine ⟨?_, a, b⟩
      show (if _ then _ else _) < _
      split
      · exact DS_lt _ (h.seen i hi)
      · exact h.word
  · obtain ⟨a, b⟩ := hs (readT { m with clock := m.clock + 1 } (m.ths.getD i .no)) h.word (h.left i hi)
    exact ⟨h.word, a, b⟩
theorem InM.step {m : Ma} (h : InM m) (i : Int) : InM (stepM DS rightB m i).1 := by
  by_cases hm : mayM rightB m i = true
  · obtain ⟨_, k, rfl, hk, _⟩ := mayM_iff.1 hm
    rw [stepM_go hm]
    exact h.go hk
  · rw [stepM_no (by simpa using hm)]
    exact h
/-- The machine told in the result's variable. -/
theorem told {W : World} {N R : Nat} {m : Ma} {tv hh : Value} {lv : Nat → Value} (hM : MaO W N m tv hh lv) (hR : MB W R 0 0 (.slice none 0 0) (.slice none 0 0)) : ReadsM (W.setRow R (maV m tv hh).toArray) (.agg (maV m tv hh).toArray) m := by
  have hS := mods_setRow hR (maV m tv hh).toArray
  have hr := hM.reads
  exact ⟨tv, hh, lv, rfl, hr.ths.kept hS fun g hg e => hR.apart hM.ths (by decide) hg e, fun j hj => (hr.left j hj).kept0 hS fun h0 b hb e => hR.left_ne (hr.left j hj) h0 hb e, hr.hist.kept hS fun g hg e => hR.apart hM.hist (by decide) hg e⟩
theorem maV_one {W : World} {N : Nat} {m : Ma} {tv hh : Value} {lv : Nat → Value} (hM : MaO W N m tv hh lv) : ∀ u ∈ maV m tv hh, u.oneCell' = true := by
  obtain ⟨_, _, rfl⟩ := owns_slice hM.ths
  obtain ⟨_, _, rfl⟩ := owns_slice hM.hist
  intro u hu
  simp [maV] at hu
  rcases hu with rfl | rfl | rfl | rfl <;> rfl
theorem MaO.new {W W' : World} {N : Nat} {m : Ma} {tv hh : Value} {lv : Nat → Value} (h : MaO W N m tv hh lv) (hN : New W W') : MaO W' N m tv hh lv :=
  ⟨hN.ownsRow h.ths fun _ _ => id, fun j hj => (h.left j hj).new hN, h.apart, h.caps, hN.ownsRow h.hist fun _ _ => id, h.small⟩
theorem MaO.clock {W : World} {O N x : Nat} {c : Int} {m : Ma} {a a' : Option Addr} {cap cap' : Nat} {lv : Nat → Value} (h : MaO W N m (.slice a m.ths.length cap) (.slice a' m.hist.length cap') lv) (hB : MB W O x c (.slice a m.ths.length cap) (.slice a' m.hist.length cap')) (d : Int) :
    MaO (W.setCell ⟨O, 1, none⟩ (.int .i64 d)) N { m with clock := d } (.slice a m.ths.length cap) (.slice a' m.hist.length cap') lv :=
  ⟨own_other h.ths (fun {_} e => hB.apart h.ths (by decide) e) _ _, fun j hj => (h.left j hj).kept0 (setMods _ _ _ _) fun h0 _ hb => hB.left_ne (h.left j hj) h0 hb, h.apart, h.caps, own_other h.hist (fun {_} e => hB.apart h.hist (by decide) e) _ _, h.small⟩
theorem swapM_clock {D : Nat → Dn → Nat × Nat × Bool} {m : Ma} {i : Nat} {t : Th} : (swapM D m i t).clock = m.clock := by
  unfold swapM
  split <;> rfl
theorem Wr_new {W : World} {w : World} {O N : Nat} {tv hh : Value} {n nh sz sz' : Nat} {e e' : TypeId} {xs ys : List Value} (hO : w.heap.size ≤ O) (hN : w.heap.size ≤ N) (h1 : W.ownsRow N e sz tv n xs) (h2 : W.ownsRow N e' sz' hh nh ys) : ∀ b, Wr O tv hh b → w.heap.size ≤ b := by
  rintro b (rfl | h | h)
  · exact hO
  · have := h1.lt b h; omega
  · have := h2.lt b h; omega
def StepPost (w : World) (m : Ma) (r : Ma × Bool) (e : Ending) (w' : World) : Prop := ∃ v', e = .returned (.tuple #[v', .bool r.2]) ∧ ReadsM w' v' r.1 ∧ New w w'
set_option maxRecDepth 100000 in
set_option maxHeartbeats 4000000 in
theorem step_S (v : Value) (m : Ma) (i : Int) (w : World) (hv : ReadsM w v m) (hin : InM m) (hlen : m.hist.length < 2000000) :
    Calls Try.prog 49 #[v, .int .i64 i] w (StepPost w m (stepM DS rightB m i)) := by
  obtain ⟨tv, hh, lv, rfl, hR⟩ := hv
  have HO := Lib.hid (own_any · m)
  have HR := Lib.hid fun v w h => right_S v m w h hin.word
  obtain ⟨b, hb⟩ : ∃ b, rightM rightB m = b := ⟨_, rfl⟩
  rw [hb] at HR
  have Hb := Lib.hid hb
  have Hin := Lib.hid hin
  clear hb hin
  obtain ⟨ao, cap, rfl⟩ : ∃ ao cap, tv = .slice ao m.ths.length cap := by obtain ⟨_, ao, cap, h, _⟩ := hR.ths; exact ⟨ao, cap, h⟩
  obtain ⟨ho, hcap, rfl⟩ : ∃ ao cap, hh = .slice ao m.hist.length cap := by obtain ⟨_, ao, cap, h, _⟩ := hR.hist; exact ⟨ao, cap, h⟩
  obtain ⟨W0, hW0⟩ : ∃ W, (w.alloc (.cells #[.int .u64 (m.word : Nat), .int .i64 m.clock, .slice ao m.ths.length cap, .slice ho m.hist.length hcap] 77)).alloc (.cells #[.int .u64 0, .int .i64 0, .slice none 0 0, .slice none 0 0] 77) = W := ⟨_, rfl⟩
  have hB : MB W0 w.heap.size m.word m.clock (.slice ao m.ths.length cap) (.slice ho m.hist.length hcap) := by
    rw [← hW0]
    exact MB.new (World.alloc_heap_new w _) ((Mods.refl _ _).alloc _)
  have hC : MB W0 (w.heap.size + 1) 0 0 (.slice none 0 0) (.slice none 0 0) := by
    rw [← hW0]
    have := World.alloc_heap_new (w.alloc (.cells #[.int .u64 (m.word : Nat), .int .i64 m.clock, .slice ao m.ths.length cap, .slice ho m.hist.length hcap] 77)) (.cells #[.int .u64 0, .int .i64 0, .slice none 0 0, .slice none 0 0] 77)
    rw [World.size_alloc] at this
    exact this
  have hN : New w W0 := by rw [← hW0]; exact ((Mods.refl _ _).alloc _).alloc _
  have hl77 : (Try.prog.info? 77).map (·.size) = some (#[.int .u64 (m.word : Nat), .int .i64 m.clock, .slice ao m.ths.length cap, .slice ho m.hist.length hcap] : Array Value).size := info77
  have hRM : ReadsM W0 (.agg #[.int .u64 (m.word : Nat), .int .i64 m.clock, .slice ao m.ths.length cap, .slice ho m.hist.length hcap]) m := ⟨_, _, lv, rfl, hR.new hN⟩
  have HRd := Lib.hid hR
  clear hR
  unfold maV
  go_enter Try.func49, Try.ntmps49
  go_upto_region 1 with fail
  try rw [hW0]
  clear hW0
  go_wp2_with (refine op_value rfl (run_load_row 77 (.tmp 2) rfl w.heap.size rfl 77 #[.int .u64 (m.word : Nat), .int .i64 m.clock, .slice ao m.ths.length cap, .slice ho m.hist.length hcap] (0, 0) _ hB Try.underlying77 rfl hl77) ?_)
  refine (HO.out _ _ hRM).mono ?_
  rintro e w1 ⟨tv', hh', lv', rfl, hM, hN1⟩
  have hone := maV_one hM
  have hNa : New w1 (w1.alloc (.cells (maV m tv' hh').toArray 77)) := (Mods.refl _ _).alloc _
  have hD := World.alloc_heap_new w1 (.cells (maV m tv' hh').toArray 77)
  go_upto_region 2 with (refine op_skip rfl (run_store_new 77 (.tmp 6) (.tmp 8) rfl 77 [.int .u64 0, .int .i64 0, .slice none 0 0, .slice none 0 0] (maV m tv' hh') rfl rfl info77 rfl hone) ?_)
  obtain ⟨ta, tc, rfl⟩ := owns_slice hM.ths
  obtain ⟨ha, hc', rfl⟩ := owns_slice hM.hist
  have hM2 := hM.new hNa
  have hN2 := (hN.trans hN1).trans hNa
  have hB2 := (hB.new hN1).new hNa
  have hC2 := (hC.new hN1).new hNa
  have hRM2 := (hRM.new hN1).new hNa
  obtain ⟨W2, hW2⟩ : ∃ W, w1.alloc (.cells (maV m (.slice ta m.ths.length tc) (.slice ha m.hist.length hc')).toArray 77) = W := ⟨_, rfl⟩
  obtain ⟨O, hOO⟩ : ∃ O, w1.heap.size = O := ⟨_, rfl⟩
  have hwO : w.heap.size ≤ O := by rw [← hOO]; exact Nat.le_trans hN.size hN1.size
  have hwN : w.heap.size ≤ W0.heap.size := hN.size
  have hCO : w.heap.size + 1 < O := by rw [← hOO]; exact Nat.lt_of_lt_of_le hC.lt hN1.size
  rw [hW2] at hM2 hN2 hB2 hC2 hRM2 hD ⊢
  rw [hOO] at hD ⊢
  replace hD : MB W2 O m.word m.clock (.slice ta m.ths.length tc) (.slice ha m.hist.length hc') := hD
  clear hW2 hOO hone hNa hB hC hN hRM hN1 hM HO
  go_wp2_with (refine op_value rfl (run_load_row 77 (.tmp 2) rfl w.heap.size rfl 77 #[.int .u64 (m.word : Nat), .int .i64 m.clock, .slice ao m.ths.length cap, .slice ho m.hist.length hcap] (0, 0) _ hB2 Try.underlying77 rfl hl77) ?_)
  refine (HR.out _ _ hRM2).mono ?_
  rintro e w3 ⟨rfl, hN3⟩
  -- BEHIND
  have hM := hM2.new hN3
  have hD := hD.new hN3
  have hC := hC2.new hN3
  have hB := hB2.new hN3
  have HN := Lib.hid (hN2.trans hN3)
  have hRr := HRd.out.new HN.out
  clear hM2 hC2 hB2 hRM2 hN2 hN3 HR
  have c2 := hB.c2
  cases b with
  | false =>
    clear c2
    have HS : Hid (stepM DS rightB m i = (m, false)) := Lib.hid (stepM_no (by unfold mayM; rw [Hb.out]; rfl))
    have hx : (Try.prog.info? 77).map (·.size) = some (maV (m) (.slice ta m.ths.length tc) (.slice ha m.hist.length hc')).toArray.size := info77
    have hx2 : (Try.prog.info? 77).map (·.size) = some (maV (m) (.slice ta m.ths.length tc) (.slice ha m.hist.length hc')).length := info77
    have hD' : w3.heap[O]? = some (.cells (maV (m) (.slice ta m.ths.length tc) (.slice ha m.hist.length hc')).toArray 77 (0, 0)) := hD
    have hone := maV_one hM
    go_upto_region 3 with fail
    go_wp2_with (first | (refine op_value rfl (run_load_row 77 (.tmp 6) rfl O rfl 77 (maV (m) (.slice ta m.ths.length tc) (.slice ha m.hist.length hc')).toArray (0, 0) _ hD' Try.underlying77 rfl hx) ?_) | (refine op_skip rfl (run_store_row 77 (.tmp 4) (.tmp 33) rfl (w.heap.size + 1) rfl 77 [.int .u64 0, .int .i64 0, .slice none 0 0, .slice none 0 0] (maV (m) (.slice ta m.ths.length tc) (.slice ha m.hist.length hc')) rfl hC hx2 rfl hone) ?_))
    have hC' := setRow_heap w3 (w.heap.size + 1) _ (maV (m) (.slice ta m.ths.length tc) (.slice ha m.hist.length hc')).toArray 77 (0, 0) hC
    refine bodyPost_ret (v := .tuple #[.agg (maV (m) (.slice ta m.ths.length tc) (.slice ha m.hist.length hc')).toArray, .bool false]) (results_row2 rfl _ _ (w.heap.size + 1) 77 _ (0, 0) _ rfl hC' Try.underlying77 rfl hx rfl) rfl ?_
    rw [HS.out]
    exact ⟨_, rfl, told hM hC, HN.out.setRow (by omega) _⟩
  | true =>
    by_cases r1 : i < 0
    · have d1 : decide (i < 0) = true := decide_eq_true r1
      have R1 := Lib.hid r1
      clear r1
      have HS : Hid (stepM DS rightB m i = (m, false)) := Lib.hid (stepM_no (by unfold mayM; rw [decide_eq_false (by have := R1.out; omega : ¬ (0 : Int) ≤ i)]; simp))
      have hx : (Try.prog.info? 77).map (·.size) = some (maV (m) (.slice ta m.ths.length tc) (.slice ha m.hist.length hc')).toArray.size := info77
      have hx2 : (Try.prog.info? 77).map (·.size) = some (maV (m) (.slice ta m.ths.length tc) (.slice ha m.hist.length hc')).length := info77
      have hD' : w3.heap[O]? = some (.cells (maV (m) (.slice ta m.ths.length tc) (.slice ha m.hist.length hc')).toArray 77 (0, 0)) := hD
      have hone := maV_one hM
      go_upto_region 3 with fail
      go_wp2_with (first | (refine op_value rfl (run_load_row 77 (.tmp 6) rfl O rfl 77 (maV (m) (.slice ta m.ths.length tc) (.slice ha m.hist.length hc')).toArray (0, 0) _ hD' Try.underlying77 rfl hx) ?_) | (refine op_skip rfl (run_store_row 77 (.tmp 4) (.tmp 33) rfl (w.heap.size + 1) rfl 77 [.int .u64 0, .int .i64 0, .slice none 0 0, .slice none 0 0] (maV (m) (.slice ta m.ths.length tc) (.slice ha m.hist.length hc')) rfl hC hx2 rfl hone) ?_))
      have hC' := setRow_heap w3 (w.heap.size + 1) _ (maV (m) (.slice ta m.ths.length tc) (.slice ha m.hist.length hc')).toArray 77 (0, 0) hC
      refine bodyPost_ret (v := .tuple #[.agg (maV (m) (.slice ta m.ths.length tc) (.slice ha m.hist.length hc')).toArray, .bool false]) (results_row2 rfl _ _ (w.heap.size + 1) 77 _ (0, 0) _ rfl hC' Try.underlying77 rfl hx rfl) rfl ?_
      rw [HS.out]
      exact ⟨_, rfl, told hM hC, HN.out.setRow (by omega) _⟩
    have d1 : decide (i < 0) = false := decide_eq_false r1
    by_cases r2 : (m.ths.length : Int) ≤ i
    · have d2 : decide ((m.ths.length : Int) ≤ i) = true := decide_eq_true r2
      have R2 := Lib.hid r2
      clear r2 r1
      have HS : Hid (stepM DS rightB m i = (m, false)) := Lib.hid (stepM_no (by unfold mayM; rw [decide_eq_false (by have := R2.out; omega : ¬ i < (m.ths.length : Int))]; simp))
      have hx : (Try.prog.info? 77).map (·.size) = some (maV (m) (.slice ta m.ths.length tc) (.slice ha m.hist.length hc')).toArray.size := info77
      have hx2 : (Try.prog.info? 77).map (·.size) = some (maV (m) (.slice ta m.ths.length tc) (.slice ha m.hist.length hc')).length := info77
      have hD' : w3.heap[O]? = some (.cells (maV (m) (.slice ta m.ths.length tc) (.slice ha m.hist.length hc')).toArray 77 (0, 0)) := hD
      have hone := maV_one hM
      go_upto_region 3 with fail
      go_wp2_with (first | (refine op_value rfl (run_load_row 77 (.tmp 6) rfl O rfl 77 (maV (m) (.slice ta m.ths.length tc) (.slice ha m.hist.length hc')).toArray (0, 0) _ hD' Try.underlying77 rfl hx) ?_) | (refine op_skip rfl (run_store_row 77 (.tmp 4) (.tmp 33) rfl (w.heap.size + 1) rfl 77 [.int .u64 0, .int .i64 0, .slice none 0 0, .slice none 0 0] (maV (m) (.slice ta m.ths.length tc) (.slice ha m.hist.length hc')) rfl hC hx2 rfl hone) ?_))
      have hC' := setRow_heap w3 (w.heap.size + 1) _ (maV (m) (.slice ta m.ths.length tc) (.slice ha m.hist.length hc')).toArray 77 (0, 0) hC
      refine bodyPost_ret (v := .tuple #[.agg (maV (m) (.slice ta m.ths.length tc) (.slice ha m.hist.length hc')).toArray, .bool false]) (results_row2 rfl _ _ (w.heap.size + 1) 77 _ (0, 0) _ rfl hC' Try.underlying77 rfl hx rfl) rfl ?_
      rw [HS.out]
      exact ⟨_, rfl, told hM hC, HN.out.setRow (by omega) _⟩
    have d2 : decide ((m.ths.length : Int) ≤ i) = false := decide_eq_false r2
    obtain ⟨k, rfl⟩ := Int.eq_ofNat_of_zero_le (Int.not_lt.1 r1)
    have hk : k < m.ths.length := by omega
    obtain ⟨t, ht⟩ : ∃ t, m.ths.getD k .no = t := ⟨_, rfl⟩
    obtain ⟨g, o, cap', hv, hra⟩ := hRr.thread hk
    cases hv
    have hlf := hRr.left k hk
    rw [ht] at hra hlf
    obtain ⟨_, lao, lc, hle, _⟩ := hlf
    have a0 : w3.cell? ⟨g, o + k * 4, none⟩ = some (.slice lao t.left.length lc) := by
      have := hra 0 (lv k) rfl
      rw [hle] at this
      exact this
    have k0 : (0 : Int) ≤ (k : Int) := by omega
    have k1 : (k : Int) < (m.ths.length : Int) := by omega
    have Ht := Lib.hid ht
    clear hra hle hRr ht
    by_cases r3 : t.left.length = 0
    · have f3 : t.left = [] := List.eq_nil_of_length_eq_zero r3
      have F3 := Lib.hid f3
      have d3 : ((t.left.length : Int) == 0) = true := by rw [r3]; rfl
      clear f3 r1 r2
      rw [r3] at a0
      clear d3 r3
      have HS : Hid (stepM DS rightB m k = (m, false)) := Lib.hid (stepM_no (by unfold mayM; rw [Int.toNat_natCast, Ht.out, F3.out]; simp))
      have hx : (Try.prog.info? 77).map (·.size) = some (maV (m) (.slice ta m.ths.length tc) (.slice ha m.hist.length hc')).toArray.size := info77
      have hx2 : (Try.prog.info? 77).map (·.size) = some (maV (m) (.slice ta m.ths.length tc) (.slice ha m.hist.length hc')).length := info77
      have hD' : w3.heap[O]? = some (.cells (maV (m) (.slice ta m.ths.length tc) (.slice ha m.hist.length hc')).toArray 77 (0, 0)) := hD
      have hone := maV_one hM
      go_upto_region 3 with fail
      go_wp2_with (first | (refine op_value rfl (run_load_row 77 (.tmp 6) rfl O rfl 77 (maV (m) (.slice ta m.ths.length tc) (.slice ha m.hist.length hc')).toArray (0, 0) _ hD' Try.underlying77 rfl hx) ?_) | (refine op_skip rfl (run_store_row 77 (.tmp 4) (.tmp 33) rfl (w.heap.size + 1) rfl 77 [.int .u64 0, .int .i64 0, .slice none 0 0, .slice none 0 0] (maV (m) (.slice ta m.ths.length tc) (.slice ha m.hist.length hc')) rfl hC hx2 rfl hone) ?_))
      have hC' := setRow_heap w3 (w.heap.size + 1) _ (maV (m) (.slice ta m.ths.length tc) (.slice ha m.hist.length hc')).toArray 77 (0, 0) hC
      refine bodyPost_ret (v := .tuple #[.agg (maV (m) (.slice ta m.ths.length tc) (.slice ha m.hist.length hc')).toArray, .bool false]) (results_row2 rfl _ _ (w.heap.size + 1) 77 _ (0, 0) _ rfl hC' Try.underlying77 rfl hx rfl) rfl ?_
      rw [HS.out]
      exact ⟨_, rfl, told hM hC, HN.out.setRow (by omega) _⟩
    have d3 : ((t.left.length : Int) == 0) = false := by rw [beq_eq_false_iff_ne]; omega
    have R3 := Lib.hid r3
    have hmay : mayM rightB m k = true := mayM_iff.2 ⟨Hb.out, k, rfl, hk, by rw [Ht.out]; omega⟩
    have Hmay := Lib.hid hmay
    clear hmay
    go_upto_region 4 with fail
    obtain ⟨x1, x2, x3, x4, x5⟩ := rightM_iff.1 Hb.out
    have hth := x5 k hk
    rw [Ht.out] at hth
    obtain ⟨hall, hmom⟩ := hth
    have hseen := Hin.out.seen k hk
    have hleft := Hin.out.left k hk
    rw [Ht.out] at hseen hleft
    have Hs := Lib.hid (And.intro hseen (And.intro hleft hmom))
    clear hseen hleft hmom hall x3 x4 x5
    have HS : Hid (stepM DS rightB m k = (goM DS m k, true)) := Lib.hid (stepM_go Hmay.out)
    obtain ⟨g', tc', hv⟩ := hM.row hk
    cases hv
    have c1 := hD.c1
    have c2' := hD.c2
    have fr1 := hD.frozen 1
    have hgO : g' ≠ O := hD.apart hM.ths (by decide) rfl
    have hgO1 : ¬ g' = O := hgO
    have hgO2 : ¬ O = g' := fun e => hgO e.symm
    have e1 : w3.cell? ⟨g', k * 4 + 1, none⟩ = some (.bool t.loaded) := by
      rw [(own_thread hM.ths hk 1 (by decide)).1, Ht.out]
      rfl
    have hM4 := MaO.clock hM hD (m.clock + 1)
    have hD4 := hD.set1 (m.clock + 1)
    have hC4 := hC.other (C := O) (o := 1) (by omega) (.int .i64 (m.clock + 1))
    have HN4 := Lib.hid (HN.out.setCell (p := ⟨O, 1, none⟩) (.inl hwO) (.int .i64 (m.clock + 1)))
    have HM4 := Lib.hid (And.intro hM4 (And.intro hD4 hC4))
    clear hM hD hC hB c2 a0 d1 d2 d3 r1 r2 r3 hM4 hD4 hC4 HN
    cases hld : t.loaded with
    | true =>
      have Hld := Lib.hid hld
      rw [hld] at e1
      clear hld
      go_upto_region 6 with fail
      obtain ⟨hM4, hD4, hC4⟩ := HM4.out
      obtain ⟨W4, hW4⟩ : ∃ W, w3.setCell ⟨O, 1, none⟩ (.int .i64 (m.clock + 1)) = W := ⟨_, rfl⟩
      rw [hW4] at hM4 hD4 hC4 HN4 ⊢
      clear hW4 HM4 e1 c1 c2' fr1
      have HC : Hid (Calls Try.prog 99 #[.pointer (some ⟨O, 0, none⟩), .int .i64 k] W4 fun e W' => (∃ v, e = .returned v) ∧ ∃ lv', MB W' O (swapM DS { m with clock := m.clock + 1 } k t).word (m.clock + 1) (.slice (some ⟨g', 0, none⟩) m.ths.length tc) (.slice ha m.hist.length hc') ∧ MaO W' W0.heap.size (swapM DS { m with clock := m.clock + 1 } k t) (.slice (some ⟨g', 0, none⟩) m.ths.length tc) (.slice ha m.hist.length hc') lv' ∧ Mods (Wr O (.slice (some ⟨g', 0, none⟩) m.ths.length tc) (.slice ha m.hist.length hc')) W4 W') := Lib.hid (by
        obtain ⟨hseen, hleft, hmom⟩ := Hs.out
        rcases hmom with ⟨_, h⟩ | ⟨j, j1, j2, j3, j4⟩
        · rw [Hld.out] at h; cases h
        · exact swaps_any W4 O W0.heap.size { m with clock := m.clock + 1 } _ _ lv' k j t hk Ht.out j3 j1 j2 hseen hleft hD4 hM4)
      have hwr := Wr_new (w := w) (O := O) hwO hwN hM4.ths hM4.hist
      have hnr : ¬ Wr O (.slice (some ⟨g', 0, none⟩) m.ths.length tc) (.slice ha m.hist.length hc') (w.heap.size + 1) := by
        rintro (e | e | e)
        · omega
        · exact hC4.apart hM4.ths (by decide) e rfl
        · exact hC4.apart hM4.hist (by decide) e rfl
      have Hnr := Lib.hid hnr
      have Hwr := Lib.hid hwr
      clear hwr hnr hM4 hD4
      go_wp2_with fail
      refine HC.out.mono ?_
      rintro e w5 ⟨⟨v5, rfl⟩, lv5, hD, hM, hMd⟩
      have hC := hMd.heap hC4 Hnr.out
      have HN := Lib.hid (((Mods.ofNew HN4.out).trans hMd).new Hwr.out)
      obtain ⟨m5, hm5⟩ : ∃ x, swapM DS { m with clock := m.clock + 1 } k t = x := ⟨_, rfl⟩
      have HS : Hid (stepM DS rightB m k = (m5, true)) := Lib.hid (by rw [HS.out, ← hm5]; unfold goM; rw [Ht.out, Hld.out]; rfl)
      have hc5 : m5.clock = m.clock + 1 := by rw [← hm5]; exact swapM_clock
      rw [hm5, ← hc5] at hD
      rw [hm5] at hM
      clear hm5 hMd hC4 HN4 HC hc5
      have hx : (Try.prog.info? 77).map (·.size) = some (maV (m5) (.slice (some ⟨g', 0, none⟩) m.ths.length tc) (.slice ha m.hist.length hc')).toArray.size := info77
      have hx2 : (Try.prog.info? 77).map (·.size) = some (maV (m5) (.slice (some ⟨g', 0, none⟩) m.ths.length tc) (.slice ha m.hist.length hc')).length := info77
      have hD' : w5.heap[O]? = some (.cells (maV (m5) (.slice (some ⟨g', 0, none⟩) m.ths.length tc) (.slice ha m.hist.length hc')).toArray 77 (0, 0)) := hD
      have hone := maV_one hM
      go_upto_region 8 with fail
      go_wp2_with (first | (refine op_value rfl (run_load_row 77 (.tmp 6) rfl O rfl 77 (maV (m5) (.slice (some ⟨g', 0, none⟩) m.ths.length tc) (.slice ha m.hist.length hc')).toArray (0, 0) _ hD' Try.underlying77 rfl hx) ?_) | (refine op_skip rfl (run_store_row 77 (.tmp 4) (.tmp 48) rfl (w.heap.size + 1) rfl 77 [.int .u64 0, .int .i64 0, .slice none 0 0, .slice none 0 0] (maV (m5) (.slice (some ⟨g', 0, none⟩) m.ths.length tc) (.slice ha m.hist.length hc')) rfl hC hx2 rfl hone) ?_))
      have hC' := setRow_heap w5 (w.heap.size + 1) _ (maV (m5) (.slice (some ⟨g', 0, none⟩) m.ths.length tc) (.slice ha m.hist.length hc')).toArray 77 (0, 0) hC
      refine bodyPost_ret (v := .tuple #[.agg (maV (m5) (.slice (some ⟨g', 0, none⟩) m.ths.length tc) (.slice ha m.hist.length hc')).toArray, .bool true]) (results_row2 rfl _ _ (w.heap.size + 1) 77 _ (0, 0) _ rfl hC' Try.underlying77 rfl hx rfl) rfl ?_
      rw [HS.out]
      exact ⟨_, rfl, told hM hC, HN.out.setRow (by omega) _⟩
    | false =>
      have Hld := Lib.hid hld
      rw [hld] at e1
      have Hl0 := Lib.hid (Nat.pos_of_ne_zero R3.out)
      clear hld
      go_upto_region 7 with fail
      obtain ⟨hM4, hD4, hC4⟩ := HM4.out
      obtain ⟨W4, hW4⟩ : ∃ W, w3.setCell ⟨O, 1, none⟩ (.int .i64 (m.clock + 1)) = W := ⟨_, rfl⟩
      rw [hW4] at hM4 hD4 hC4 HN4 ⊢
      clear hW4 HM4 e1 c1 c2' fr1
      have HC := Lib.hid (reads_any W4 O W0.heap.size { m with clock := m.clock + 1 } _ _ lv' k t hk Ht.out Hl0.out hD4 hM4 hlen)
      have hwr := Wr_new (w := w) (O := O) hwO hwN hM4.ths hM4.hist
      have hnr : ¬ Wr O (.slice (some ⟨g', 0, none⟩) m.ths.length tc) (.slice ha m.hist.length hc') (w.heap.size + 1) := by
        rintro (e | e | e)
        · omega
        · exact hC4.apart hM4.ths (by decide) e rfl
        · exact hC4.apart hM4.hist (by decide) e rfl
      have Hnr := Lib.hid hnr
      have Hwr := Lib.hid hwr
      clear hwr hnr hM4 hD4
      go_wp2_with fail
      refine HC.out.mono ?_
      rintro e w5 ⟨⟨v5, rfl⟩, hh5, hD, hM, hMd⟩
      have hC := hMd.heap hC4 Hnr.out
      have HN := Lib.hid (((Mods.ofNew HN4.out).trans hMd).new Hwr.out)
      obtain ⟨m5, hm5⟩ : ∃ x, readM { m with clock := m.clock + 1 } k t = x := ⟨_, rfl⟩
      have HS : Hid (stepM DS rightB m k = (m5, true)) := Lib.hid (by rw [HS.out, ← hm5]; unfold goM; rw [Ht.out, Hld.out]; rfl)
      have hc5 : m5.clock = m.clock + 1 := by rw [← hm5]; rfl
      have hw5 : m5.word = m.word := by rw [← hm5]; rfl
      replace hD : MB w5 O m5.word m5.clock (.slice (some ⟨g', 0, none⟩) m.ths.length tc) hh5 := by rw [hc5, hw5]; exact hD
      rw [hm5] at hM
      clear hm5 hMd hC4 HN4 HC hc5 hw5
      obtain ⟨a5, c5, rfl⟩ := owns_slice hM.hist
      have hx : (Try.prog.info? 77).map (·.size) = some (maV (m5) (.slice (some ⟨g', 0, none⟩) m.ths.length tc) (.slice a5 m5.hist.length c5)).toArray.size := info77
      have hx2 : (Try.prog.info? 77).map (·.size) = some (maV (m5) (.slice (some ⟨g', 0, none⟩) m.ths.length tc) (.slice a5 m5.hist.length c5)).length := info77
      have hD' : w5.heap[O]? = some (.cells (maV (m5) (.slice (some ⟨g', 0, none⟩) m.ths.length tc) (.slice a5 m5.hist.length c5)).toArray 77 (0, 0)) := hD
      have hone := maV_one hM
      go_upto_region 8 with fail
      go_wp2_with (first | (refine op_value rfl (run_load_row 77 (.tmp 6) rfl O rfl 77 (maV (m5) (.slice (some ⟨g', 0, none⟩) m.ths.length tc) (.slice a5 m5.hist.length c5)).toArray (0, 0) _ hD' Try.underlying77 rfl hx) ?_) | (refine op_skip rfl (run_store_row 77 (.tmp 4) (.tmp 48) rfl (w.heap.size + 1) rfl 77 [.int .u64 0, .int .i64 0, .slice none 0 0, .slice none 0 0] (maV (m5) (.slice (some ⟨g', 0, none⟩) m.ths.length tc) (.slice a5 m5.hist.length c5)) rfl hC hx2 rfl hone) ?_))
      have hC' := setRow_heap w5 (w.heap.size + 1) _ (maV (m5) (.slice (some ⟨g', 0, none⟩) m.ths.length tc) (.slice a5 m5.hist.length c5)).toArray 77 (0, 0) hC
      refine bodyPost_ret (v := .tuple #[.agg (maV (m5) (.slice (some ⟨g', 0, none⟩) m.ths.length tc) (.slice a5 m5.hist.length c5)).toArray, .bool true]) (results_row2 rfl _ _ (w.heap.size + 1) 77 _ (0, 0) _ rfl hC' Try.underlying77 rfl hx rfl) rfl ?_
      rw [HS.out]
      exact ⟨_, rfl, told hM hC, HN.out.setRow (by omega) _⟩
end Go.Proofs.Ytkjloeefcaadlaa
/- The way from a law's walk to its row: what was there reads as it did, for of it nothing has turned. -/
namespace Go.Cs
open Go.RowKit Go.ChangeAt
variable {H : Type} {enc : TypeId × Value → H} {P : Program}
theorem post_new {f : Func} {s : ChangeSpec} {apart fresh handsOn : Bool} {W W' : World} {args : Array Value} {v : Value} {ds gs : List (DataW H)} {before pa pv : List MemPlace}
    (hW : DataW.Whole enc P f.params.toList s.vars apart W args.toList ds gs before)
    (hres : ∀ (b : Nat) (sp : Nat → Bool) (hd : Bool), DataW.TrodAll enc P W' b sp hd f.resultTypes.toList (v.resultList f.resultTypes.size) (s.fn H (ds ++ gs)).results [])
    (hargs : ∀ sp : Nat → Bool, (∀ p ∈ before, sp p.block = true) → DataW.TrodAll enc P W' 0 sp true f.params.toList args.toList (s.fn H (ds ++ gs)).args pa)
    (hvars : ∀ sp : Nat → Bool, (∀ p ∈ before, sp p.block = true) → DataW.TrodVars enc P W' sp s.vars (s.fn H (ds ++ gs)).vars pv)
    (hps : before = pa ++ pv) (hN : New W W') : s.post enc P f apart fresh handsOn false W args v W' := by
  have hold : ∀ p ∈ before, (fun b => decide (b < W.heap.size)) p.block = true := fun p hp => by simpa using hW.lt p hp
  refine ⟨ds, gs, before, [], pa, pv, hW, hres _ _ _, hargs _ hold, hvars _ hold, World.keptBut_mono (fun p hp => ⟨hp, ?_⟩) (hN.toBelow.frame (may := (· ∈ before))), fun h => by cases h⟩
  rw [hps, List.mem_append] at hp
  exact Or.inr hp
end Go.Cs
/- A law's row, whatever its parameters: true is answered, and of what was there nothing has turned. Slices of structs opened. -/
namespace Go.Cs
open Go.RowKit Go.ChangeAt Go.ChangeShapes Go.WideShapes Go.Deep
variable {H : Type} {enc : TypeId × Value → H} {P : Program}
/-- What was read reads as it did. -/
theorem trodAll_new (hl : laidOutB P = true) {sp : Nat → Bool} {W W' : World} (hN : New W W') : ∀ {ts : List TypeId} {vs : List Value} {ds : List (DataW H)} {ps : List MemPlace}, (∀ t ∈ ts, P.readableRec t = true ∧ t < P.types.size) →
    DataW.TrodAll enc P W 0 (fun _ => true) true ts vs ds ps → (∀ p ∈ ps, p.block < W.heap.size) → (∀ p ∈ ps, sp p.block = true) → DataW.TrodAll enc P W' 0 sp true ts vs ds ps
  | [], [], [], _, _, h, _, _ => h
  | t :: ts, v :: vs, d :: ds, _, hr, ⟨p, q, h, hs, e⟩, hlt, hsp => by
    subst e
    have h1 := hr t (by simp)
    exact ⟨p, q, WideElems.Trod_stays hl h1.1 h1.2 h (fun x hx => hN.toBelow.same (hlt x (by simp [hx]))) (fun x hx => hsp x (by simp [hx])),
      trodAll_new hl hN (fun t ht => hr t (by simp [ht])) hs (fun x hx => hlt x (by simp [hx])) (fun x hx => hsp x (by simp [hx])), rfl⟩
theorem post_law {f : Func} {s : ChangeSpec} {apart fresh handsOn : Bool} {W W' : World} {args : Array Value} {v : Value} {ds gs : List (DataW H)} {before : List MemPlace}
    (hW : DataW.Whole enc P f.params.toList s.vars apart W args.toList ds gs before) (hv : s.vars = []) (hl : laidOutB P = true) (hr : (f.params.toList.all fun t => P.readableRec t && decide (t < P.types.size)) = true)
    (hres : ∀ (b : Nat) (sp : Nat → Bool) (hd : Bool), DataW.TrodAll enc P W' b sp hd f.resultTypes.toList (v.resultList f.resultTypes.size) (s.fn H (ds ++ gs)).results [])
    (hfa : (s.fn H (ds ++ gs)).args = ds) (hfv : (s.fn H (ds ++ gs)).vars = []) (hN : New W W') : s.post enc P f apart fresh handsOn false W args v W' := by
  have hW' := hW
  obtain ⟨p, q, hA, hV, rfl, hfz, hnd⟩ := hW
  rw [hv] at hV
  obtain ⟨rfl, rfl⟩ := trodVars_none hV
  refine post_new (pa := p) (pv := []) hW' hres (fun sp hsp => ?_) (fun sp hsp => ?_) rfl hN
  · rw [hfa]
    refine trodAll_new hl hN (fun t ht => ?_) hA (fun x hx => hW'.lt x (by simp [hx])) (fun x hx => hsp x (by simp [hx]))
    have := List.all_eq_true.1 hr t ht
    simpa using this
  · rw [hv, hfv]
    exact hV
/-- A slice of structs, each field of one cell: nil, or its cells. -/
theorem open_structs {w : World} {base : Nat} {spare : Nat → Bool} {held : Bool} {t e : TypeId} {fs : Array Field} {fuel : Nat} {cs : List Value} {x : DataW H × List MemPlace} (ht : P.underlying t = some (.slice e)) (he : P.underlying e = some (.struct fs))
    (hone : oneCellFields P fs = true) (hC : P.cellsOf e = fs.size) (h : DataW.trod enc P w base spare held fuel t cs = some x) :
    cs = [.slice none 0 0] ∨ ∃ (a : Addr) (len cap : Nat), cs = [.slice (some a) len cap] ∧ len ≤ cap ∧ cap ≤ maxLen ∧
      ∀ i, i < len → ∀ (j : Nat) (f : Field), fs[j]? = some f → ∃ (v : Value) (y : DataW H × List MemPlace) (n : Nat), w.cell? (a.add (i * fs.size + j)) = some v ∧ DataW.trod enc P w base spare held n f.type [v] = some y := by
  rcases open_slice ht h with h0 | ⟨a, len, cap, m, n, D, Pl, hcs, hb, hl, hm, hmm, hx, hi⟩
  · exact .inl h0.1
  · refine .inr ⟨a, len, cap, hcs, hl, hm, fun i hil j f hj => ?_⟩
    obtain ⟨cs', hc, ht'⟩ := hi i (by rw [hmm]; split <;> omega)
    obtain ⟨ys, n', _, _, hlen, hys, hf⟩ := DataW.trod_struct he ht'
    obtain ⟨_, hcl, hat⟩ := World.cells?_some hc
    obtain ⟨ho, hk⟩ := hone_of hone j f hj
    have hjl : j < fs.size := (Array.getElem?_eq_some_iff.1 hj).1
    have hj' : j < cs'.length := by omega
    have hv := hat j (by omega)
    rw [List.getElem?_eq_getElem hj', Go.Deep.add_add, hC] at hv
    have hft := hf j f hj
    rw [ho, hk, show (cs'.drop j).take 1 = [cs'[j]] by rw [List.drop_eq_getElem_cons hj']; rfl, List.getElem?_eq_getElem (by omega)] at hft
    exact ⟨_, _, _, hv, hft⟩
end Go.Cs
/- Deeds and numbers that came in as arguments: opened. -/
namespace Go.Proofs.Ytkjloeefcaadlaa
open Go.RowKit Go.Shelf Go.Cs Go.ChangeShapes Go.WideShapes Go.ChangeAt Go.Deep
theorem c22 : Try.prog.cellsOf 22 = 1 := by kernel_rfl
theorem c3 : Try.prog.cellsOf 3 = 1 := by kernel_rfl
theorem c4 : Try.prog.cellsOf 4 = 1 := by kernel_rfl
theorem c5 : Try.prog.cellsOf 5 = 1 := by kernel_rfl
theorem c85 : Try.prog.cellsOf 85 = 1 := by kernel_rfl
theorem c74 : Try.prog.cellsOf 74 = 1 := by kernel_rfl
theorem c75 : Try.prog.cellsOf 75 = 1 := by kernel_rfl
theorem c93 : Try.prog.cellsOf 93 = 3 := by kernel_rfl
theorem c89 : Try.prog.cellsOf 89 = 2 := by kernel_rfl
theorem c95 : Try.prog.cellsOf 95 = 8 := by kernel_rfl
theorem c100 : Try.prog.cellsOf 100 = 4 := by kernel_rfl
theorem c77 : Try.prog.cellsOf 77 = 4 := by kernel_rfl
section
variable {H : Type} {enc : TypeId × Value → H} {w : World} {base : Nat} {spare : Nat → Bool} {held : Bool}
theorem spot_none {a : Addr} {v : Value} (h : w.cell? a = some v) : a.spot = none := by
  obtain ⟨b, o, sp⟩ := a
  cases sp with
  | none => rfl
  | some x =>
    unfold World.cell? at h
    split at h <;> simp_all
set_option maxRecDepth 100000 in
/-- A slice's elements, each by its cells. -/
theorem open_elems {t e C : Nat} {v : Value} {fuel : Nat} {x : DataW H × List MemPlace} (ht : Try.prog.underlying t = some (.slice e)) (hC : Try.prog.cellsOf e = C) (h0 : 0 < C) (h : DataW.trod enc Try.prog w base spare held fuel t [v] = some x) :
    ∃ (ao : Option Addr) (len cap : Nat), v = .slice ao len cap ∧ len ≤ cap ∧ cap ≤ 9223372036854775807 ∧ ∀ i, i < len → ∃ b o, ao = some ⟨b, o, none⟩ ∧ ∃ (cs : List Value) (y : DataW H × List MemPlace) (n : Nat), cs.length = C ∧ w.rangeAt b (o + i * C) cs ∧ DataW.trod enc Try.prog w base spare held n e cs = some y := by
  rcases open_slice ht h with hn | ⟨a, len, cap, m, n, D, Pl, hcs, hb, hl, hm, hmm, hx, hi⟩
  · obtain rfl : v = .slice none 0 0 := by simpa using hn.1
    exact ⟨none, 0, 0, rfl, Nat.le_refl _, by omega, fun i hi => by omega⟩
  · obtain rfl : v = .slice (some a) len cap := by simpa using hcs
    unfold maxLen at hm
    refine ⟨some a, len, cap, rfl, hl, by omega, fun i hil => ?_⟩
    obtain ⟨cs', hc, ht'⟩ := hi i (by rw [hmm]; split <;> omega)
    obtain ⟨_, hcl, hat⟩ := World.cells?_some hc
    rw [hC] at hcl hat
    obtain ⟨cs0, hc0, _⟩ := hi 0 (by rw [hmm]; split <;> omega)
    obtain ⟨_, hcl0, hat0⟩ := World.cells?_some hc0
    rw [hC] at hcl0 hat0
    obtain ⟨b, o, sp⟩ := a
    have hs := hat0 0 h0
    rw [List.getElem?_eq_getElem (by omega)] at hs
    have hsp := spot_none hs
    obtain rfl : sp = none := by simpa [Addr.add] using hsp
    refine ⟨b, o, rfl, cs', _, n, hcl, fun j u hj => ?_, ht'⟩
    have hjl : j < C := by
      rcases Nat.lt_or_ge j C with h | h
      · exact h
      · rw [List.getElem?_eq_none (by omega)] at hj; cases hj
    have := hat j hjl
    rw [hj, Addr.add_mid, Addr.add_mid] at this
    exact this
theorem three {l : List Value} (h : l.length = 3) : ∃ a b c, l = [a, b, c] := by
  match l, h with
  | [a, b, c], _ => exact ⟨a, b, c, rfl⟩
theorem four {l : List Value} (h : l.length = 4) : ∃ a b c d, l = [a, b, c, d] := by
  match l, h with
  | [a, b, c, d], _ => exact ⟨a, b, c, d, rfl⟩
theorem eight {l : List Value} (h : l.length = 8) : ∃ a b c d e f g i, l = [a, b, c, d, e, f, g, i] := by
  match l, h with
  | [a, b, c, d, e, f, g, i], _ => exact ⟨a, b, c, d, e, f, g, i, rfl⟩
theorem take_some {α : Type} {xs : List α} {k n : Nat} (h : xs.length = n) (hk : k < n) : ∃ y, xs[k]? = some y := ⟨_, List.getElem?_eq_getElem (by omega)⟩
set_option maxRecDepth 100000 in
theorem open_deed {cs : List Value} {n : Nat} {y : DataW H × List MemPlace} (hl : cs.length = 3) (h : DataW.trod enc Try.prog w base spare held n 93 cs = some y) : ∃ p : Dn, cs = p.cs ∧ InD p := by
  obtain ⟨xs, m, _, _, _, hxl, hg⟩ := DataW.trod_struct Try.underlying93 h
  obtain ⟨a, b, c, rfl⟩ := three hl
  have h0 : DataW.trod enc Try.prog w base spare held m 5 ((([a, b, c] : List Value).drop 0).take (Try.prog.cellsOf 5)) = xs[0]? := hg 0 _ rfl
  have h1 : DataW.trod enc Try.prog w base spare held m 3 ((([a, b, c] : List Value).drop 1).take (Try.prog.cellsOf 3)) = xs[1]? := hg 1 _ rfl
  have h2 : DataW.trod enc Try.prog w base spare held m 3 ((([a, b, c] : List Value).drop 2).take (Try.prog.cellsOf 3)) = xs[2]? := hg 2 _ rfl
  obtain ⟨y0, e0⟩ := take_some hxl (show 0 < _ by decide)
  obtain ⟨y1, e1⟩ := take_some hxl (show 1 < _ by decide)
  obtain ⟨y2, e2⟩ := take_some hxl (show 2 < _ by decide)
  rw [c5, e0] at h0
  rw [c3, e1] at h1
  rw [c3, e2] at h2
  obtain ⟨z0, q0, _, w0⟩ := DataW.trod_int Try.underlying5 h0
  obtain ⟨z1, q1, _, w1⟩ := DataW.trod_int Try.underlying3 h1
  obtain ⟨z2, q2, _, w2⟩ := DataW.trod_int Try.underlying3 h2
  obtain rfl : a = .int .u8 z0 := by simpa using q0
  obtain rfl : b = .int .i64 z1 := by simpa using q1
  obtain rfl : c = .int .i64 z2 := by simpa using q2
  have b0 : 0 ≤ z0 := by
    have := bounds_u8 w0
    omega
  obtain ⟨d, rfl⟩ := Int.eq_ofNat_of_zero_le b0
  exact ⟨⟨d, z1, z2⟩, rfl, bounds_i64 w1, bounds_i64 w2⟩
theorem choose_list {α : Type} (n : Nat) (R : Nat → α → Prop) (d : α) (h : ∀ i, i < n → ∃ a, R i a) : ∃ L : List α, L.length = n ∧ ∀ i, i < n → R i (L.getD i d) := by
  induction n with
  | zero => exact ⟨[], rfl, fun i hi => by omega⟩
  | succ n ih =>
    obtain ⟨L, hL, hR⟩ := ih fun i hi => h i (by omega)
    obtain ⟨a, ha⟩ := h n (by omega)
    refine ⟨L ++ [a], by simp [hL], fun i hi => ?_⟩
    by_cases e : i < n
    · have : (L ++ [a]).getD i d = L.getD i d := by simp [List.getD, List.getElem?_append_left (by omega : i < L.length)]
      rw [this]
      exact hR i e
    · obtain rfl : i = n := by omega
      have : (L ++ [a]).getD i d = a := by simp [List.getD, ← hL]
      rw [this]
      exact ha
set_option maxRecDepth 100000 in
/-- A slice of deeds. -/
theorem open_deeds {v : Value} {fuel : Nat} {x : DataW H × List MemPlace} (h : DataW.trod enc Try.prog w base spare held fuel 85 [v] = some x) :
    ∃ (ao : Option Addr) (L : List Dn) (cap : Nat), v = .slice ao L.length cap ∧ L.length ≤ cap ∧ cap ≤ 9223372036854775807 ∧ (L.length ≤ 5864062014805 → ReadsE w v L) ∧ InLs L := by
  obtain ⟨ao, len, cap, rfl, h1, h2, hi⟩ := open_elems Try.underlying85 c93 (by decide) h
  obtain ⟨L, rfl, hR⟩ := choose_list len (fun i p => (∃ b o, ao = some ⟨b, o, none⟩ ∧ w.rangeAt b (o + i * 3) p.cs) ∧ InD p) Dn.no (fun i hil => by
    obtain ⟨b, o, hao, cs, y, n, hcl, hra, ht⟩ := hi i hil
    obtain ⟨p, rfl, hp⟩ := open_deed hcl ht
    exact ⟨p, ⟨b, o, hao, hra⟩, hp⟩)
  exact ⟨ao, L, cap, rfl, h1, h2, fun hl => ⟨hl, ao, cap, rfl, fun i hi => (hR i hi).1⟩, fun i hi => (hR i hi).2⟩
set_option maxRecDepth 100000 in
/-- A slice of numbers. -/
theorem open_list44 {v : Value} {d : DataW H} {ps : List MemPlace} {r : Reach} {b0 : Nat} (hv : Value.okWide Try.prog w r b0 44 v) (h : DataW.Trod enc Try.prog w base spare held 44 v d ps) :
    ∃ (ao : Option Addr) (is : List Int) (cap : Nat), v = .slice ao is.length cap ∧ is.length ≤ cap ∧ ReadsI .i64 w v is ∧ ∀ n ∈ is, -9223372036854775808 ≤ n ∧ n ≤ 9223372036854775807 := by
  obtain ⟨a0, len0, cap0, rfl⟩ := okWide_slice Try.underlying44 hv
  obtain ⟨fuel, hf⟩ := h
  obtain ⟨ao, len, cap, he, h1, h2, hi⟩ := open_elems (v := .slice a0 len0 cap0) Try.underlying44 c3 (by decide) hf
  cases he
  obtain ⟨L, rfl, hR⟩ := choose_list len0 (fun i (z : Int) => (∃ b o, a0 = some ⟨b, o, none⟩ ∧ w.cell? ⟨b, o + i, none⟩ = some (.int .i64 z)) ∧ -9223372036854775808 ≤ z ∧ z ≤ 9223372036854775807) 0 (fun i hil => by
    obtain ⟨b, o, hao, cs, y, n, hcl, hra, ht⟩ := hi i hil
    obtain ⟨z, rfl, _, wz⟩ := DataW.trod_int Try.underlying3 ht
    refine ⟨z, ⟨b, o, hao, ?_⟩, bounds_i64 wz⟩
    have := hra 0 _ rfl
    rw [Nat.mul_one] at this
    exact this)
  refine ⟨a0, L, cap0, rfl, h1, ⟨by omega, a0, cap0, rfl, fun i hi => (hR i hi).1⟩, fun n hn => ?_⟩
  obtain ⟨i, hi, rfl⟩ := List.getElem_of_mem hn
  have := (hR i hi).2
  simpa [List.getD, hi] using this
end
end Go.Proofs.Ytkjloeefcaadlaa
/- Moments, machines compared. -/
namespace Go.Proofs.Ytkjloeefcaadlaa
open Go.RowKit Go.Shelf Go.Cs
attribute [local go_sem] Oper.semAt_some
theorem stood89 : Try.prog.stoodInHeld 89 = false := by kernel_rfl
theorem guard89 : Try.prog.eqGuardType Try.prog.depth 89 = false := by kernel_rfl
theorem stood95 : Try.prog.stoodInHeld 95 = false := by kernel_rfl
theorem guard95 : Try.prog.eqGuardType Try.prog.depth 95 = false := by kernel_rfl
theorem partAgg (t : TypeId) (d : TypeDesc) (n : Nat) (h : Try.prog.underlying t = some d) (hd : (match d with | .struct _ | .array _ _ => true | _ => false) = true) (hi : (Try.prog.info? t).map (·.size) = some n) (cs : Array Value) (i : Nat) (w : World) : (Go.part t cs i).run Try.prog w = .ok (.agg (cs.extract i (i + n))) w := by
  have hagg : (isAgg t).run Try.prog w = .ok true w := by
    unfold isAgg
    rw [Sem.run_bind, run_underlying h w]
    cases d <;> simp_all
  have hs : (sizeOf t).run Try.prog w = .ok n w := by
    obtain ⟨i, hi1, hi2⟩ := Option.map_eq_some_iff.1 hi
    unfold sizeOf typeInfo
    simp [hi1, hi2, go_sem]
  unfold Go.part
  rw [Sem.run_bind, hagg]
  simp [Sem.run_bind, hs]
def aCs (s : Int) (o : Bool) : List Value := [.int .i64 s, .bool o]
theorem eq_answer (d : Nat) (s s' : Int) (o o' : Bool) (w : World) : (Op.equalIn (d + 2) 89 (.agg (aCs s o).toArray) (.agg (aCs s' o').toArray)).run Try.prog w = .ok (s == s' && o == o') w := by
  rw [show d + 2 = (d + 1) + 1 from rfl, run_equalIn_agg w (d + 1) 89 _ _ (by unfold Program.fieldsOf; rw [Try.underlying89]) stood89]
  unfold Program.fieldsOf
  rw [Try.underlying89]
  have h0 := fun (s : Int) (o : Bool) w => partAt 3 _ Try.underlying3 rfl (aCs s o).toArray 0 (.int .i64 s) w rfl
  have h1 := fun (s : Int) (o : Bool) w => partAt 4 _ Try.underlying4 rfl (aCs s o).toArray 1 (.bool o) w rfl
  have e0 := fun w => run_equalIn_int w d 3 .i64 .i64 s s' Try.underlying3
  have e1 := fun w => run_equalIn_bool w d 4 o o' Try.underlying4
  have n1 : ("Slot" ≠ "_") = True := by simp
  have n2 : ("Ok" ≠ "_") = True := by simp
  simp only [Op.eqFields, n1, n2, if_true, Sem.run_bind, h0, e0, Result.andThen_ok]
  cases hb : (s == s') <;> cases o <;> cases o' <;> simp [Sem.run_bind, h1, e1]
def mEq (a b : Mo) : Bool := a.thread == b.thread && (dEq a.deed b.deed && (a.beg == b.beg && (a.en == b.en && (a.slot == b.slot && a.ok == b.ok))))
theorem eq_moment (d : Nat) (a b : Mo) (w : World) : (Op.equalIn (d + 3) 95 (.agg a.cs.toArray) (.agg b.cs.toArray)).run Try.prog w = .ok (mEq a b) w := by
  rw [show d + 3 = (d + 2) + 1 from rfl, run_equalIn_agg w (d + 2) 95 _ _ (by unfold Program.fieldsOf; rw [Try.underlying95]) stood95]
  unfold Program.fieldsOf
  rw [Try.underlying95]
  have h0 := fun (r : Mo) w => partAt 3 _ Try.underlying3 rfl r.cs.toArray 0 (.int .i64 r.thread) w rfl
  have h1 : ∀ (r : Mo) w, (Go.part 93 r.cs.toArray 1).run Try.prog w = .ok (.agg r.deed.cs.toArray) w := fun r w => partAgg 93 _ 3 Try.underlying93 rfl info93 r.cs.toArray 1 w
  have h2 := fun (r : Mo) w => partAt 3 _ Try.underlying3 rfl r.cs.toArray 4 (.int .i64 r.beg) w rfl
  have h3 := fun (r : Mo) w => partAt 3 _ Try.underlying3 rfl r.cs.toArray 5 (.int .i64 r.en) w rfl
  have h4 : ∀ (r : Mo) w, (Go.part 89 r.cs.toArray 6).run Try.prog w = .ok (.agg (aCs r.slot r.ok).toArray) w := fun r w => partAgg 89 _ 2 Try.underlying89 rfl info89 r.cs.toArray 6 w
  have e0 := fun w => run_equalIn_int w (d + 1) 3 .i64 .i64 a.thread b.thread Try.underlying3
  have e1 := fun w => eq_deed d a.deed b.deed w
  have e2 := fun w => run_equalIn_int w (d + 1) 3 .i64 .i64 a.beg b.beg Try.underlying3
  have e3 := fun w => run_equalIn_int w (d + 1) 3 .i64 .i64 a.en b.en Try.underlying3
  have e4 := fun w => eq_answer d a.slot b.slot a.ok b.ok w
  have n1 : ("Thread" ≠ "_") = True := by simp
  have n2 : ("Deed" ≠ "_") = True := by simp
  have n3 : ("Begin" ≠ "_") = True := by simp
  have n4 : ("End" ≠ "_") = True := by simp
  have n5 : ("Answer" ≠ "_") = True := by simp
  unfold mEq
  obtain ⟨r, hr⟩ : ∃ r, (a.slot == b.slot && a.ok == b.ok) = r := ⟨_, rfl⟩
  rw [hr] at e4 ⊢
  cases r <;> simp only [Op.eqFields, n1, n2, n3, n4, n5, if_true, Sem.run_bind, h0, e0, Result.andThen_ok] <;>
  cases (a.thread == b.thread) <;> cases hb : dEq a.deed b.deed <;> cases hc : (a.beg == b.beg) <;> cases hd : (a.en == b.en) <;> simp [Sem.run_bind, h0, h1, h2, h3, h4, e0, e1, e2, e3, e4, hb, hc, hd]
theorem run_neq_moment {o : Oper} {a : Act} {w : World} (x y : Operand) (ho : o.op = .binOp .neq 95 x y 95) (p q : Mo) (hx : a.eval x = .agg p.cs.toArray) (hy : a.eval y = .agg q.cs.toArray) :
    (execOp a.eval o).run Try.prog w = .ok (.value (.bool (!(mEq p q)))) w := by
  have he := eq_moment 9997 p q w
  unfold execOp
  simp only [ho, hx, hy, Sem.run_bind, run_eqGuard_agg w .neq 95 x y _ _ guard95, Result.andThen_ok, run_neq_struct w 95 _ _]
  rw [show (10000 : Nat) = 9997 + 3 from rfl, he]
  simp
theorem run_eql_answer {o : Oper} {a : Act} {w : World} (x y : Operand) (ho : o.op = .binOp .eql 89 x y 89) (s s' : Int) (b b' : Bool) (hx : a.eval x = .agg (aCs s b).toArray) (hy : a.eval y = .agg (aCs s' b').toArray) :
    (execOp a.eval o).run Try.prog w = .ok (.value (.bool (s == s' && b == b'))) w := by
  have he := eq_answer 9998 s s' b b' w
  unfold execOp
  simp only [ho, hx, hy, Sem.run_bind, run_eqGuard_agg w .eql 89 x y _ _ guard89, Result.andThen_ok, run_eql_struct w 89 _ _]
  rw [show (10000 : Nat) = 9998 + 2 from rfl, he]
  simp
end Go.Proofs.Ytkjloeefcaadlaa
/- Machines compared. -/
namespace Go.Proofs.Ytkjloeefcaadlaa
open Go.RowKit Go.Shelf Go.Cs
attribute [local go_sem] Oper.semAt_some
def eqH (L M : List Mo) : Bool := decide (L.length = M.length) && (List.range L.length).all fun i => mEq (L.getD i .no) (M.getD i .no)
set_option maxHeartbeats 2000000 in
theorem equal_moments (v v' : Value) (L M : List Mo) (w : World) (hv : ReadsF w v L.length 8 (mosF L)) (hv' : ReadsF w v' M.length 8 (mosF M)) :
    Calls Try.prog 143 #[v, v'] w fun e w' => e = .returned (.bool (eqH L M)) ∧ New w w' := by
  obtain ⟨hl, ao, cap, rfl, hc⟩ := hv
  obtain ⟨hl', ao', cap', rfl, hc'⟩ := hv'
  by_cases hlen : L.length = M.length
  · obtain ⟨r, hr⟩ : ∃ r, eqH L M = r := ⟨_, rfl⟩
    have Hr := Lib.hid hr
    rw [hr]
    rw [← hlen] at hc' hl' ⊢
    obtain ⟨n, hn⟩ : ∃ n, L.length = n := ⟨_, rfl⟩
    have Hn := Lib.hid hn
    have Hlen := Lib.hid hlen
    rw [hn] at hl hc hc' ⊢
    have Hc := Lib.hid hc
    have Hc' := Lib.hid hc'
    clear hr hn hlen hc hc' hl'
    go_enter Try.func143, Try.ntmps143
    go_wp2_with fail
    go_loopw [5, 13] (fun _ c wr => ∃ k : Nat, k ≤ n ∧ c = .int .i64 k ∧ Hid (∀ i, i < k → mEq (L.getD i .no) (M.getD i .no) = true) ∧ New w wr) (fun _ c _ => n - (intOf c).toNat)
    case atStart => exact ⟨0, Nat.zero_le _, rfl, Lib.hid (fun i hi => by omega), Mods.refl _ _⟩
    case round =>
      obtain ⟨k, hk, rfl, hbef, hN⟩ := hrel
      by_cases hkn : k < n
      · have hkd : decide ((k : Int) < (n : Int)) = true := decide_eq_true (by omega)
        obtain ⟨b, o, rfl, hr⟩ := Hc.out k hkn
        obtain ⟨b', o', rfl, hr'⟩ := Hc'.out k hkn
        have hr : wr.drew.rangeAt b (o + k * 8) (L.getD k .no).cs := fun j v hv => hN.drew.cell (hr j v hv) id
        have hr' : wr.drew.rangeAt b' (o' + k * 8) (M.getD k .no).cs := fun j v hv => hN.drew.cell (hr' j v hv) id
        obtain ⟨p, hp⟩ : ∃ p, L.getD k .no = p := ⟨_, rfl⟩
        obtain ⟨q, hq⟩ : ∃ p, M.getD k .no = p := ⟨_, rfl⟩
        have Hp := Lib.hid hp
        have Hq := Lib.hid hq
        rw [hp] at hr
        rw [hq] at hr'
        clear hp hq
        go_upto_region 6 with fail
        refine (wpIn_wide (n := 0)).1 ?_
        refine wpIn_region_any (by kernel_rfl) ?_
        show wpAnyIn _ _ _ _ _ _ _ _ _ wr.drew
        refine any_take 0 (some 16) (.slice (some ⟨b, o, none⟩) n cap) rfl rfl (by kernel_rfl) (by kernel_rfl) (by kernel_rfl) (fun _ _ _ h => h) (.value rfl fun w => by go_simp) ?_
        refine any_take 1 (some 17) (.int .i64 k) rfl rfl (by kernel_rfl) (by kernel_rfl) (by kernel_rfl) (fun _ _ _ h => h) (.value rfl fun w => by go_simp) ?_
        refine any_take 2 (some 18) (.pointer (some ⟨b, o + k * 8, none⟩)) rfl rfl (by kernel_rfl) (by kernel_rfl) (by kernel_rfl) (fun _ _ _ h => h) (.value rfl fun w => by go_simp) ?_
        refine any_take 4 (some 20) (.slice (some ⟨b', o', none⟩) n cap') rfl rfl (by kernel_rfl) (by kernel_rfl) (by kernel_rfl) (fun _ _ _ h => h) (.value rfl fun w => by go_simp) ?_
        refine any_take 5 (some 21) (.int .i64 k) rfl rfl (by kernel_rfl) (by kernel_rfl) (by kernel_rfl) (fun _ _ _ h => h) (.value rfl fun w => by go_simp) ?_
        refine any_take 6 (some 22) (.pointer (some ⟨b', o' + k * 8, none⟩)) rfl rfl (by kernel_rfl) (by kernel_rfl) (by kernel_rfl) (fun _ _ _ h => h) (.value rfl fun w => by go_simp) ?_
        simp only [Act.put, List.setIfInBounds_toArray, List.set_cons_succ, List.set_cons_zero]
        refine wpAnyIn_all (rs := [3, 7]) (by kernel_rfl) (by simp) ?_
        simp only [List.mem_cons, List.not_mem_nil, or_false, forall_eq_or_imp, forall_eq]
        refine ⟨?ord1, ?ord2⟩
        case' ord1 =>
          refine opIn_value (some 19) (v := .agg p.cs.toArray) (w' := wr.drew) rfl rfl rfl rfl (run_load_mid 95 (.tmp 18) rfl b (o + k * 8) rfl p.cs _ hr Try.underlying95 rfl info95) ?_
          refine wpAnyIn_all (rs := [7]) (by kernel_rfl) (by simp) ?_
          simp only [List.mem_cons, List.not_mem_nil, or_false, forall_eq]
          refine opIn_value (some 23) (v := .agg q.cs.toArray) (w' := wr.drew) rfl rfl rfl rfl (run_load_mid 95 (.tmp 22) rfl b' (o' + k * 8) rfl q.cs _ hr' Try.underlying95 rfl info95) ?_
        case' ord2 =>
          refine opIn_value (some 23) (v := .agg q.cs.toArray) (w' := wr.drew) rfl rfl rfl rfl (run_load_mid 95 (.tmp 22) rfl b' (o' + k * 8) rfl q.cs _ hr' Try.underlying95 rfl info95) ?_
          refine wpAnyIn_all (rs := [3]) (by kernel_rfl) (by simp) ?_
          simp only [List.mem_cons, List.not_mem_nil, or_false, forall_eq]
          refine opIn_value (some 19) (v := .agg p.cs.toArray) (w' := wr.drew) rfl rfl rfl rfl (run_load_mid 95 (.tmp 18) rfl b (o + k * 8) rfl p.cs _ hr Try.underlying95 rfl info95) ?_
        all_goals
          simp only [Act.put, List.setIfInBounds_toArray, List.set_cons_succ, List.set_cons_zero]
          refine wpAnyIn_all (rs := [8]) (by kernel_rfl) (by simp) ?_
          simp only [List.mem_cons, List.not_mem_nil, or_false, forall_eq]
          refine opIn_value (some 24) (v := .bool (!(mEq p q))) (w' := wr.drew) rfl rfl rfl rfl (run_neq_moment (.tmp 19) (.tmp 23) rfl p q rfl rfl) ?_
          simp only [Act.put, List.setIfInBounds_toArray, List.set_cons_succ, List.set_cons_zero]
          refine wpAnyIn_done (by kernel_rfl) ?_ _
          obtain ⟨t, ht⟩ : ∃ t, mEq p q = t := ⟨_, rfl⟩
          have Ht := Lib.hid ht
          rw [ht]
          clear ht hr hr'
          cases t with
          | true =>
            have hnext : Hid (∀ i, i < k + 1 → mEq (L.getD i .no) (M.getD i .no) = true) := Lib.hid (fun i hi => by
              by_cases h : i < k
              · exact hbef.out i h
              · obtain rfl : i = k := by omega
                rw [Hp.out, Hq.out]; exact Ht.out)
            clear hbef
            go_wp2_with fail
            go_roundw
            case rel => exact ⟨k + 1, by omega, by go_num, hnext, hN.drew⟩
            case measure => simp [intOf]; omega
          | false =>
            have hR : r = false := by
              rw [← Hr.out, eqH]
              have : ((List.range L.length).all fun i => mEq (L.getD i .no) (M.getD i .no)) = false := by
                rw [List.all_eq_false]
                exact ⟨k, List.mem_range.2 (by rw [Hn.out]; exact hkn), by rw [Hp.out, Hq.out, Ht.out]; simp⟩
              rw [this, Bool.and_false]
            clear hbef
            go_wp2_with fail
            go_ret
            exact ⟨by rw [hR]; rfl, hN.drew⟩
      · obtain rfl : k = n := by omega
        have hkd : decide ((k : Int) < (k : Int)) = false := decide_eq_false (by omega)
        have hR : r = true := by
          rw [← Hr.out, eqH, decide_eq_true Hlen.out, Bool.true_and, List.all_eq_true]
          intro i hi
          exact hbef.out i (by have := List.mem_range.1 hi; have := Hn.out; omega)
        clear hbef
        go_wp2_with fail
        go_ret
        exact ⟨by rw [hR]; rfl, hN⟩
  · have hR : eqH L M = false := by rw [eqH, decide_eq_false hlen, Bool.false_and]
    rw [hR]
    obtain ⟨n, hn⟩ : ∃ n, L.length = n := ⟨_, rfl⟩
    obtain ⟨m, hm⟩ : ∃ n, M.length = n := ⟨_, rfl⟩
    rw [hn, hm] at hlen ⊢
    have e : ((n : Int) != (m : Int)) = true := by simp; omega
    have e' : (n != m) = true := by simpa using hlen
    clear hR hc hc' hn hm hlen
    go_enter Try.func143, Try.ntmps143
    go_wp2_with fail
    go_ret
    exact ⟨rfl, Mods.refl _ _⟩
def thEq (a b : Th) : Bool := a.loaded == b.loaded && (a.seen == b.seen && (a.moment == b.moment && eqE a.left b.left))
set_option maxHeartbeats 2000000 in
theorem same_thread (a b : Th) (lv lv' : Value) (w : World) (hv : ReadsE w lv a.left) (hv' : ReadsE w lv' b.left) :
    Calls Try.prog 140 #[.agg (a.cs lv).toArray, .agg (b.cs lv').toArray] w fun e w' => e = .returned (.bool (thEq a b)) ∧ New w w' := by
  have hN0 : New w ((w.alloc (.cells (a.cs lv).toArray 100)).alloc (.cells (b.cs lv').toArray 100)) := ((Mods.refl _ _).alloc _).alloc _
  have HE := Lib.hid (equal_deeds lv lv' a.left b.left _ (hv.new hN0) (hv'.new hN0))
  obtain ⟨_, ao, ac, rfl, _⟩ := hv
  obtain ⟨_, bo, bc, rfl, _⟩ := hv'
  obtain ⟨al, ald, asn, amo⟩ := a
  obtain ⟨bl, bld, bsn, bmo⟩ := b
  unfold thEq
  dsimp only at HE ⊢
  obtain ⟨r, hr⟩ : ∃ r, eqE al bl = r := ⟨_, rfl⟩
  rw [hr] at HE ⊢
  clear hr
  unfold Th.cs at *
  by_cases h1 : ald = bld
  · subst h1
    by_cases h2 : asn = bsn
    · subst h2
      by_cases h3 : amo = bmo
      · subst h3
        go_enter Try.func140, Try.ntmps140
        go_wp2_with fail
        refine HE.out.mono ?_
        rintro e w1 ⟨rfl, hN1⟩
        go_wp2_with fail
        go_ret
        exact ⟨by simp, hN0.trans hN1⟩
      · have e3 : (amo == bmo) = false := by simpa using h3
        rw [e3]
        clear h3 HE
        go_enter Try.func140, Try.ntmps140
        go_wp2_with fail
        go_ret
        exact ⟨by simp, hN0⟩
    · have e2 : ((asn : Int) == (bsn : Int)) = false := by simp; omega
      have e2' : (asn == bsn) = false := by simpa using h2
      rw [e2']
      clear h2 e2' HE
      go_enter Try.func140, Try.ntmps140
      go_wp2_with fail
      go_ret
      exact ⟨by simp, hN0⟩
  · have e1 : (ald == bld) = false := by simpa using h1
    rw [e1]
    clear h1 HE
    go_enter Try.func140, Try.ntmps140
    go_wp2_with fail
    go_ret
    exact ⟨by simp, hN0⟩
end Go.Proofs.Ytkjloeefcaadlaa
/- A law for a range over a function that writes memory of its own, whose values are told by the world. -/
namespace Go.Cs
open Go.RowKit
variable {P : Program}
/-- The iterator yields n values, in order, each as V says, and writes blocks of T; what E says holds when it is through; G is what the rounds keep. -/
def IterAtV (P : Program) (g : Nat) (lb : Array Value) (n : Nat) (V : Nat → Array Value → World → Prop) (G : World → Prop) (S T : Nat → Prop) (E : World → Prop) (W : World) : Prop :=
  ∀ (l : Nat) (J Jx : Nat → World → Prop), (∀ k, ∀ A A', J k A → Mods T A A' → J k A') → (∀ k, ∀ A A', Jx k A → Mods T A A' → Jx k A') → (∀ k A, J k A → G A) →
    (∀ k x W1, k < n → V k x W1 → J k W1 → Mods (fun b => S b ∨ T b) W W1 → YieldAt Fence.wide 0 P l x W1 fun e W' =>
      (e = .returned (.bool true) ∧ J (k + 1) W' ∧ Mods S W1 W') ∨ (e = .returned (.bool false) ∧ Jx (k + 1) W')) →
    J 0 W →
    Calls P g (#[.func (.yield l) #[] #[]] ++ lb) W fun e W' => (∃ v, e = .returned v) ∧ ((J n W' ∧ E W') ∨ ∃ k, k ≤ n ∧ Jx k W')
theorem rangeListV_core (r : Option Nat)
    {g : Operand} {ps : Array Tmp} {assign body : Code} {Q : Exit → Act → World → Prop} {a : Act} {w : World}
    {gf : Nat} {lb : Array Value} (hg : a.eval g = .func (.func gf) #[] lb) (eg : ∀ args w, (callFunc gf args).run P w = .ok (.enter gf args) w)
    (n : Nat) (V : Nat → Array Value → World → Prop) (G : World → Prop) (S T : Nat → Prop) (E : World → Prop) (hE : Stab w.heap.size E) (hit : ∀ W, New w W → IterAtV P gf lb n V G S T E W) (hps : ∀ k x W, V k x W → x.size = ps.size)
    (W0 : World) (hW0 : New w W0) (mark : List Deferred) (d : Nat)
    (henter : ∀ fn, (Instr.enterLoop fn a.tmps ps assign body r).run P w = .ok (W0.heap.size, mark) (W0.alloc (.loop { state := .ready, pending := none, fn, tmps := a.tmps, params := ps, assign, body, defers := d })))
    (I : Nat → World → Prop) (Ix : Code → Nat → World → Prop) (hIT : ∀ k A A', I k A → Mods T A A' → I k A') (hIxT : ∀ c k A A', Ix c k A → Mods T A A' → Ix c k A') (hIG : ∀ k A, I k A → G A) (hI : ∀ k, Stab w.heap.size (I k)) (hIx : ∀ c k, Stab w.heap.size (Ix c k)) (h0 : I 0 w)
    (hround : ∀ (l k : Nat) (x : Array Value) (W : World), k < n → V k x W → w.heap.size ≤ l → (∃ r, W.heap[l]? = some (.loop r)) → I k W →
      assign.wpIn (Fr (some l)) 0 P (Exit.then (fun a1 W1 => Mods S W W1 ∧ ∀ W2, Quiet w.heap.size W1 W2 → (∃ r, W2.heap[l]? = some (.loop r)) → body.wpIn (Fr (some l)) 0 P (roundQ S I Ix (k + 1) W2) a1 W2) (fun _ _ _ => False))
        { tmps := (ps.zip x).foldl (fun t (p, v) => t.setIfInBounds p v) a.tmps, defers := [] } W)
    (hdone : ∀ W, I n W → E W → Others W0 W → Q .normal { a with defers := mark ++ a.defers } W)
    (hstop : ∀ c k W, k ≤ n → Ix c k W → Others W0 W → c.wpIn (Fr r) 0 P Q { a with defers := mark ++ a.defers } W) :
    (Code.rangeFunc g ps assign body).wpIn (Fr r) 0 P Q a w := by
  refine wpIn_rangeFunc ?_
  intro fn _
  obtain ⟨rec, hrec⟩ : ∃ rec : LoopState → Option Code → Loop, rec = fun st pe => { state := st, pending := pe, fn, tmps := a.tmps, params := ps, assign, body, defers := d } := ⟨_, rfl⟩
  obtain ⟨W1, hW1⟩ : ∃ W1, W0.alloc (.loop (rec .ready none)) = W1 := ⟨_, rfl⟩
  obtain ⟨l, hl0⟩ : ∃ l, W0.heap.size = l := ⟨_, rfl⟩
  have hL1 : W1.heap[l]? = some (.loop (rec .ready none)) := by rw [← hW1, ← hl0]; exact World.alloc_heap_new W0 _
  have hN1 : New w W1 := by rw [← hW1]; exact hW0.alloc _
  have hwl : w.heap.size ≤ l := by rw [← hl0]; exact hW0.size
  have hC1 : Others W0 W1 := fun k o hk _ => by
    rw [← hW1]; exact (Below.heap_alloc W0 _ k (Array.getElem?_eq_some_iff.1 hk).1).trans hk
  refine ⟨l, mark, W1, { target := .fn (.func gf) lb, args := #[.func (.yield l) #[] #[]] }, W1, gf,
    #[.func (.yield l) #[] #[]] ++ lb, W1, ?_, ?_, fun _ _ => trivial, ?_, fun h => by simp [Fence.wide] at h, ?_⟩
  · rw [← hW1, hrec, ← hl0]; exact henter fn
  · simp only [resolve, hg]
    simp [go_sem]
  · simp [invoke, go_sem, eg]
  · have hlW0 : ∀ {k : Nat} {o : Obj}, W0.heap[k]? = some o → k ≠ l := fun hk => by have := (Array.getElem?_eq_some_iff.1 hk).1; omega
    have hput : ∀ (W : World) (o : Obj), Others W0 W → Others W0 (W.putObj l o) := fun W o h k o' hk ho =>
      (World.putObj_heap_other (hlW0 hk)).trans (h k o' hk ho)
    refine Calls.mono (R := fun e W' => (∃ v, e = .returned v) ∧
        (((I n W' ∧ W'.heap[l]? = some (.loop (rec .ready none)) ∧ Others W0 W') ∧ E W') ∨
          ∃ k, k ≤ n ∧ ∃ c, Ix c k W' ∧ W'.heap[l]? = some (.loop (rec .done (some c))) ∧ Others W0 W')) ?_ ?_ |> callsIn_wide.2
    · refine hit W1 hN1 l
        (fun k W => I k W ∧ W.heap[l]? = some (.loop (rec .ready none)) ∧ Others W0 W)
        (fun k W => ∃ c, Ix c k W ∧ W.heap[l]? = some (.loop (rec .done (some c))) ∧ Others W0 W)
        (fun k A A' h hn => ⟨hIT k A A' h.1 hn, hn.block _ _ h.2.1 (.inr rfl), fun j o hj ho => hn.block _ _ (h.2.2 j o hj ho) (.inr ho)⟩)
        (fun k A A' h hn => by
          obtain ⟨c, h1, h2, h3⟩ := h
          exact ⟨c, hIxT c k A A' h1 hn, hn.block _ _ h2 (.inr rfl), fun j o hj ho => hn.block _ _ (h3 j o hj ho) (.inr ho)⟩)
        (fun k A h => hIG k A h.1) ?_ ⟨hI 0 w W1 h0 (hN1.quiet _), hL1, hC1⟩
      rintro k x W hkn hx ⟨hi, hl, hk⟩ _
      have hy := run_yield (P := P) (args := x) hl (by rw [hrec]; exact hps k x W hx)
      rw [hrec] at hy
      refine ⟨fn, _, assign, body, hy, roundIn_of_wpIn trivial (wpIn_mono (hround l k x W hkn hx hwl ⟨_, hl⟩ hi) ?_)⟩
      clear hy
      rintro e a1 Wa he
      cases e with
      | normal =>
        obtain ⟨hma, hb⟩ := he
        have hla := hma.block _ _ hl (.inr rfl)
        have hka : Others W0 Wa := fun j o hj ho => hma.block _ _ (hk j o hj ho) (.inr ho)
        have hlt : l < Wa.heap.size := (Array.getElem?_eq_some_iff.1 hla).1
        refine ⟨_, run_beginRound hla (by rw [hrec]), ?_⟩
        obtain ⟨Wb, hWb⟩ : ∃ Wb, Wa.putObj l (.loop { rec .ready none with state := .busy }) = Wb := ⟨_, rfl⟩
        have hl2 : Wb.heap[l]? = some (.loop { rec .ready none with state := .busy }) := by rw [← hWb]; exact World.putObj_heap_same hlt
        have hk2 : Others W0 Wb := by rw [← hWb]; exact hput _ _ hka
        have hqb : Quiet w.heap.size Wa Wb := by rw [← hWb]; exact Quiet.putObj _ hla rfl hwl
        rw [hWb]
        refine wpIn_mono (hb Wb hqb ⟨_, hl2⟩) ?_
        have fin : ∀ (jump : Option Code) (W3 : World), Mods S Wb W3 →
            (Instr.endRound l jump).run P W3 = .ok (.bool jump.isNone) (W3.putObj l (.loop (rec (if jump.isNone then .ready else .done) jump))) ∧
            W3.heap[l]? = some (.loop { rec .ready none with state := .busy }) ∧
            (W3.putObj l (.loop (rec (if jump.isNone then .ready else .done) jump))).heap[l]? = some (.loop (rec (if jump.isNone then .ready else .done) jump)) ∧
            Others W0 (W3.putObj l (.loop (rec (if jump.isNone then .ready else .done) jump))) := fun jump W3 hm3 => by
          have hl3 := hm3.block _ _ hl2 (.inr rfl)
          have := run_endRound (P := P) jump hl3
          rw [hrec] at this ⊢
          exact ⟨this, by rw [hrec] at hl3; exact hl3, World.putObj_heap_same (Array.getElem?_eq_some_iff.1 hl3).1, hput _ _ fun j o hj ho => hm3.block _ _ (hk2 j o hj ho) (.inr ho)⟩
        rintro e a3 W3 hp
        cases e with
        | normal =>
          obtain ⟨hm3, hi3⟩ := hp
          obtain ⟨hr, hl3, hl4, hk4⟩ := fin none W3 hm3
          refine ⟨_, _, hr, .inl ⟨rfl, ⟨hI _ _ _ hi3 (Quiet.putObj _ hl3 rfl hwl), hl4, hk4⟩, ?_⟩⟩
          refine ⟨(hm3.os.trans hqb.os).trans hma.os, (hm3.tape.trans hqb.tape).trans hma.tape, (hm3.output.trans hqb.output).trans hma.output, ?_, ?_⟩
          · simp only [World.putObj_size]; exact Nat.le_trans hma.size (Nat.le_trans hqb.size hm3.size)
          · intro j o hj ho
            by_cases e : j = l
            · subst e; rw [hl] at hj; cases hj; exact hl4
            · refine (World.putObj_heap_other e).trans (hm3.block _ _ ?_ ho)
              rw [← hWb]; exact (World.putObj_heap_other e).trans (hma.block _ _ hj ho)
        | ret =>
          obtain ⟨hm3, hi3⟩ := hp
          obtain ⟨hr, hl3, hl4, hk4⟩ := fin (some .ret) W3 hm3
          exact ⟨_, _, hr, .inr ⟨rfl, .ret, hIx _ _ _ _ hi3 (Quiet.putObj _ hl3 rfl hwl), hl4, hk4⟩⟩
        | exit id =>
          obtain ⟨hm3, hi3⟩ := hp
          obtain ⟨hr, hl3, hl4, hk4⟩ := fin (some (.exit id)) W3 hm3
          exact ⟨_, _, hr, .inr ⟨rfl, .exit id, hIx _ _ _ _ hi3 (Quiet.putObj _ hl3 rfl hwl), hl4, hk4⟩⟩
        | goto t =>
          obtain ⟨hm3, hi3⟩ := hp
          obtain ⟨hr, hl3, hl4, hk4⟩ := fin (some (.goto t)) W3 hm3
          exact ⟨_, _, hr, .inr ⟨rfl, .goto t, hIx _ _ _ _ hi3 (Quiet.putObj _ hl3 rfl hwl), hl4, hk4⟩⟩
        | panic ch => exact hp.elim
        | outgrown => exact hp.elim
      | exit id => exact he.elim
      | goto t => exact he.elim
      | ret => exact he.elim
      | panic ch => exact he.elim
      | outgrown => exact he.elim
    · rintro e W2 ⟨⟨v, rfl⟩, (⟨⟨hi, hl, hk⟩, hEE⟩ | ⟨k, hkl, c, hi, hl, hk⟩)⟩
      · exact ⟨none, _, by have := run_endLoop (P := P) hl (by rw [hrec]; simp); rw [hrec] at this; exact this, hdone _ (hI _ _ _ hi (Quiet.putObj _ hl rfl hwl)) (hE _ _ hEE (Quiet.putObj _ hl rfl hwl)) (hput _ _ hk)⟩
      · exact ⟨some c, _, by have := run_endLoop (P := P) hl (by rw [hrec]; simp); rw [hrec] at this; exact this, hstop c k _ hkl (hIx _ _ _ _ hi (Quiet.putObj _ hl rfl hwl)) (hput _ _ hk)⟩
theorem wp_rangeListV {g : Operand} {ps : Array Tmp} {assign body : Code} {Q : Exit → Act → World → Prop} {a : Act} {w : World}
    {gf : Nat} {lb : Array Value} (hg : a.eval g = .func (.func gf) #[] lb) (eg : ∀ args w, (callFunc gf args).run P w = .ok (.enter gf args) w)
    (n : Nat) (V : Nat → Array Value → World → Prop) (G : World → Prop) (S T : Nat → Prop) (E : World → Prop) (hE : Stab w.heap.size E) (hit : ∀ W, New w W → IterAtV P gf lb n V G S T E W) (hps : ∀ k x W, V k x W → x.size = ps.size)
    (I : Nat → World → Prop) (Ix : Code → Nat → World → Prop) (hIT : ∀ k A A', I k A → Mods T A A' → I k A') (hIxT : ∀ c k A A', Ix c k A → Mods T A A' → Ix c k A') (hIG : ∀ k A, I k A → G A) (hI : ∀ k, Stab w.heap.size (I k)) (hIx : ∀ c k, Stab w.heap.size (Ix c k)) (h0 : I 0 w)
    (hround : ∀ (l k : Nat) (x : Array Value) (W : World), k < n → V k x W → w.heap.size ≤ l → (∃ r, W.heap[l]? = some (.loop r)) → I k W →
      assign.wpIn (Fr (some l)) 0 P (Exit.then (fun a1 W1 => Mods S W W1 ∧ ∀ W2, Quiet w.heap.size W1 W2 → (∃ r, W2.heap[l]? = some (.loop r)) → body.wpIn (Fr (some l)) 0 P (roundQ S I Ix (k + 1) W2) a1 W2) (fun _ _ _ => False))
        { tmps := (ps.zip x).foldl (fun t (p, v) => t.setIfInBounds p v) a.tmps, defers := [] } W)
    (hdone : ∀ W, I n W → E W → W.heap[w.heap.size]? = some (.deferred (some [])) → Q .normal { a with defers := { target := .collected w.heap.size, args := #[] } :: a.defers } W)
    (hstop : ∀ c k W, k ≤ n → Ix c k W → W.heap[w.heap.size]? = some (.deferred (some [])) → c.wp P Q { a with defers := { target := .collected w.heap.size, args := #[] } :: a.defers } W) :
    (Code.rangeFunc g ps assign body).wp P Q a w := by
  refine (wpIn_wide (n := 0)).1 ?_
  refine rangeListV_core (P := P) none hg eg n V G S T E hE hit hps (w.alloc (.deferred (some []))) ((Mods.refl _ _).alloc _) [{ target := .collected w.heap.size, args := #[] }] w.heap.size ?_ I Ix hIT hIxT hIG hI hIx h0 hround ?_ ?_
  · intro fn
    rw [World.size_alloc]
    exact run_enterLoop_outer _ _ _ _ _
  · intro W hi hEE ho
    exact hdone W hi hEE (ho _ _ (World.alloc_heap_new w _) rfl)
  · intro c k W hk hi ho
    exact (wpIn_wide (n := 0)).2 (hstop c k W hk hi (ho _ _ (World.alloc_heap_new w _) rfl))
end Go.Cs
/- Runs: the machines that are handed out. -/
namespace Go.Proofs.Ytkjloeefcaadlaa
open Go.RowKit Go.Shelf Go.Cs
attribute [local go_sem] Oper.semAt_some
/-- A block without a Bool, and without a byte. -/
def NB (W : World) (b : Nat) : Prop := ∀ j v, W.cell? ⟨b, j, none⟩ = some v → (∀ x, v ≠ .bool x) ∧ ∀ z, v ≠ .int .u8 z
theorem NB.of_row {W : World} {b : Nat} {cs : List Value} {t : TypeId} {fr : Nat × Nat} (h : W.heap[b]? = some (.cells cs.toArray t fr)) (hc : ∀ v ∈ cs, (∀ x, v ≠ .bool x) ∧ ∀ z, v ≠ .int .u8 z) : NB W b := by
  intro j v hv
  rw [cell_of_row _ _ _ _ _ _ h] at hv
  simp only [List.getElem?_toArray] at hv
  exact hc v (List.mem_of_getElem? hv)
theorem MB.nb {W : World} {O x n n' : Nat} {c : Int} {a a' : Option Addr} {cp cp' : Nat} (hB : MB W O x c (.slice a n cp) (.slice a' n' cp')) : NB W O := by
  refine NB.of_row (cs := [.int .u64 x, .int .i64 c, .slice a n cp, .slice a' n' cp']) hB ?_
  intro v hv
  simp only [List.mem_cons, List.not_mem_nil, or_false] at hv
  rcases hv with rfl | rfl | rfl | rfl <;> exact ⟨(fun _ e => by cases e), (fun _ e => by cases e)⟩
theorem NB.new {W W' : World} {b : Nat} (h : NB W b) (hlt : b < W.heap.size) (hN : New W W') : NB W' b := by
  intro j v hv
  obtain ⟨o, ho⟩ : ∃ o, W.heap[b]? = some o := ⟨_, Array.getElem?_eq_getElem hlt⟩
  have := World.cell?_of_block (w := W) (w' := W') (a := ⟨b, j, none⟩) ((hN.heap ho id).trans ho.symm)
  rw [this] at hv
  exact h j v hv
theorem ReadsF.kept0 {W W' : World} {v : Value} {n sz : Nat} {f : Nat → List Value} (h : ReadsF W v n sz f) {S : Nat → Prop} (hN : Mods S W W') (hS : 0 < n → ∀ g, v.ownBlock = some g → ¬ S g) : ReadsF W' v n sz f := by
  rcases Nat.eq_zero_or_pos n with h0 | h0
  · obtain ⟨hl, ao, cap, rfl, _⟩ := h
    exact ⟨hl, ao, cap, rfl, fun i hi => by omega⟩
  · exact h.kept hN (hS h0)
theorem ReadsF.no {W : World} {v : Value} {n sz : Nat} {f : Nat → List Value} (h : ReadsF W v n sz f) (h0 : 0 < n) {r : Nat} {u : Value} (hu : (f 0)[r]? = some u) (hb : (∃ x, u = .bool x) ∨ ∃ z, u = .int .u8 z) {g : Nat} (hg : v.ownBlock = some g) : ¬ NB W g := by
  obtain ⟨_, ao, cap, rfl, hc⟩ := h
  obtain ⟨b, o, rfl, hr⟩ := hc 0 h0
  cases hg
  intro hn
  have := hn _ _ (hr r u hu)
  rcases hb with ⟨x, rfl⟩ | ⟨z, rfl⟩
  · exact this.1 x rfl
  · exact this.2 z rfl
theorem ReadsE.no {W : World} {v : Value} {L : List Dn} (h : ReadsE W v L) (h0 : 0 < L.length) {g : Nat} (hg : v.ownBlock = some g) : ¬ NB W g := by
  obtain ⟨_, ao, cap, rfl, hc⟩ := h
  obtain ⟨b, o, rfl, hr⟩ := hc 0 h0
  cases hg
  intro hn
  exact (hn _ _ (hr 0 _ rfl)).2 _ rfl
theorem MaR.keptN {W W' : World} {m : Ma} {tv hh : Value} {lv : Nat → Value} (h : MaR W m tv hh lv) {S : Nat → Prop} (hN : Mods S W W') (hS : ∀ b, S b → NB W b) : MaR W' m tv hh lv :=
  ⟨h.ths.kept0 hN fun h0 g hg hs => h.ths.no h0 (r := 1) rfl (.inl ⟨_, rfl⟩) hg (hS g hs),
   fun i hi => (h.left i hi).kept0 hN fun h0 g hg hs => (h.left i hi).no h0 hg (hS g hs),
   h.hist.kept0 hN fun h0 g hg hs => h.hist.no h0 (r := 1) rfl (.inr ⟨_, rfl⟩) hg (hS g hs)⟩
theorem ReadsM.keptN {W W' : World} {v : Value} {m : Ma} (h : ReadsM W v m) {S : Nat → Prop} (hN : Mods S W W') (hS : ∀ b, S b → NB W b) : ReadsM W' v m := by
  obtain ⟨tv, hh, lv, rfl, hR⟩ := h
  exact ⟨tv, hh, lv, rfl, hR.keptN hN hS⟩
/-- The machines behind the steps that are done. -/
def ysM (m : Ma) : List Int → List Ma
  | [] => []
  | i :: is => (if (stepM DS rightB m i).2 then [(stepM DS rightB m i).1] else []) ++ ysM (stepM DS rightB m i).1 is
theorem ysM_len (m : Ma) (is : List Int) : (ysM m is).length = (runM DS rightB m is).2 := by
  induction is generalizing m with
  | nil => rfl
  | cons i is ih =>
    unfold ysM runM
    rw [List.length_append, ih]
    split <;> simp
theorem ysM_last (m : Ma) (is : List Int) : (m :: ysM m is).getD (ysM m is).length m = (runM DS rightB m is).1 := by
  induction is generalizing m with
  | nil => rfl
  | cons i is ih =>
    have ih := ih (stepM DS rightB m i).1
    rw [runM_cons]
    unfold ysM
    by_cases h : (stepM DS rightB m i).2 = true
    · rw [if_pos h]
      simp only [List.singleton_append, List.length_cons, List.getD_cons_succ] at ih ⊢
      rw [← ih]
      simp only [List.getD]
      generalize (stepM DS rightB m i).1 = a
      have : (ysM a is).length < (a :: ysM a is).length := by simp
      rw [List.getElem?_eq_getElem this]
      rfl
    · rw [if_neg h]
      have e : (stepM DS rightB m i).1 = m := by
        unfold stepM at h ⊢
        split
        · next h2 => rw [if_pos h2] at h; exact absurd rfl h
        · rfl
      rw [e] at ih ⊢
      simpa using ih
theorem step_len (m : Ma) (i : Int) : (stepM DS rightB m i).1.hist.length ≤ m.hist.length + 1 := by
  unfold stepM
  split
  · unfold goM
    split
    · unfold swapM
      split
      · simp
      · simp
    · unfold readM
      simp only
      split <;> simp
  · simp
end Go.Proofs.Ytkjloeefcaadlaa
/- The iterator behind a run. -/
namespace Go.Proofs.Ytkjloeefcaadlaa
open Go.RowKit Go.Shelf Go.Cs
attribute [local go_sem] Oper.semAt_some
def MBM (W : World) (M : Nat) (m : Ma) : Prop := ∃ tv hh lv, MB W M m.word m.clock tv hh ∧ MaR W m tv hh lv
theorem MaR.slices {W : World} {m : Ma} {tv hh : Value} {lv : Nat → Value} (h : MaR W m tv hh lv) : (∃ ao cap, tv = .slice ao m.ths.length cap) ∧ ∃ ao cap, hh = .slice ao m.hist.length cap := by
  obtain ⟨_, ao, cap, e, _⟩ := h.ths
  obtain ⟨_, ao', cap', e', _⟩ := h.hist
  exact ⟨⟨ao, cap, e⟩, ⟨ao', cap', e'⟩⟩
theorem MBM.mods {W W' : World} {M : Nat} {m : Ma} (h : MBM W M m) {S : Nat → Prop} (hN : Mods S W W') (hM : ¬ S M) (hS : ∀ b, S b → NB W b) : MBM W' M m := by
  obtain ⟨tv, hh, lv, hB, hR⟩ := h
  exact ⟨tv, hh, lv, hN.heap hB hM, hR.keptN hN hS⟩
theorem MBM.nb {W : World} {M : Nat} {m : Ma} (h : MBM W M m) : NB W M := by
  obtain ⟨tv, hh, lv, hB, hR⟩ := h
  obtain ⟨⟨_, _, rfl⟩, ⟨_, _, rfl⟩⟩ := hR.slices
  exact hB.nb
/-- A machine written into its variable. -/
theorem MBM.set {W : World} {M : Nat} {m m' : Ma} (h : MBM W M m) {tv hh : Value} {lv : Nat → Value} (hR : MaR W m' tv hh lv) : MBM (W.setRow M (maV m' tv hh).toArray) M m' := by
  have hnb := h.nb
  obtain ⟨tv0, hh0, lv0, hB, _⟩ := h
  exact ⟨tv, hh, lv, setRow_heap W M _ (maV m' tv hh).toArray 77 (0, 0) hB, hR.keptN (mods_setRow hB _) (fun b hb => by subst hb; exact hnb)⟩
theorem maV_oneR {W : World} {m : Ma} {tv hh : Value} {lv : Nat → Value} (hM : MaR W m tv hh lv) : ∀ u ∈ maV m tv hh, u.oneCell' = true := by
  obtain ⟨⟨_, _, rfl⟩, ⟨_, _, rfl⟩⟩ := hM.slices
  intro u hu
  simp [maV] at hu
  rcases hu with rfl | rfl | rfl | rfl <;> rfl
def VM (m : Ma) (is : List Int) (M k : Nat) (x : Array Value) (W : World) : Prop := ∃ m' v, (ysM m is)[k]? = some m' ∧ x = #[v] ∧ ReadsM W v m' ∧ NB W M
/-- Behind some of the picks. -/
def DoneAt (m : Ma) (is : List Int) (PB M : Nat) (pv : Value) (T : Nat → Prop) (W0 : World) (j : Nat) (c : Nat) (mj : Ma) (W : World) : Prop :=
  (∃ pre, ysM m is = pre ++ ysM mj (is.drop j) ∧ pre.length = c) ∧ InM mj ∧ mj.hist.length ≤ m.hist.length + j ∧ MBM W M mj ∧ Boxed W PB 44 pv ∧ ReadsI .i64 W pv is ∧ Mods T W0 W
theorem opIn_value1g {r : Option Nat} {ops : Array Oper} {Q : Exit → Act → World → Prop} {rest : List Oper} {o : Oper} {a : Act} {w w' : World} {v : Value} (hp : plainOp o = true) (hw : Region.wanted o (yielded ops a.tmps) = true) (hr : (execOp a.eval o).run Try.prog w = .ok (.value v) w') (h : wpListIn (Fr r) 0 Try.prog ops Q rest (a.put o.dst v) w') : wpListIn (Fr r) 0 Try.prog ops Q (o :: rest) a w := by
  simp only [wpListIn, hw, if_true, Oper.wpIn, semAt_plain hp, hr]
  exact ⟨fun _ _ => trivial, h⟩
/-- What the next round finds. -/
theorem DoneAt.next {m : Ma} {is : List Int} {PB M : Nat} {pv : Value} {T : Nat → Prop} {W0 W W' : World} {j c c' : Nat} {mj m' : Ma} {ok : Bool} (h : DoneAt m is PB M pv T W0 j c mj W) (hj : j < is.length) (hs : stepM DS rightB mj (is.getD j 0) = (m', ok)) (hc : c' = c + if ok then 1 else 0)
    (hM : MBM W' M m') (hP : Boxed W' PB 44 pv) (hR : ReadsI .i64 W' pv is) (hMd : Mods T W W') : DoneAt m is PB M pv T W0 (j + 1) c' m' W' := by
  obtain ⟨⟨pre, e1, e2⟩, hin, hle, _, _, _, hm⟩ := h
  have hd : is.drop j = is.getD j 0 :: is.drop (j + 1) := by
    rw [List.drop_eq_getElem_cons hj]
    simp [List.getD, hj]
  have hi := hin.step (is.getD j 0)
  have hl := step_len mj (is.getD j 0)
  rw [hs] at hi hl
  refine ⟨⟨pre ++ (if ok then [m'] else []), ?_, ?_⟩, hi, by have hl : m'.hist.length ≤ mj.hist.length + 1 := hl; omega, hM, hP, hR, hm.trans hMd⟩
  · rw [e1, hd]
    show _ ++ ((if (stepM DS rightB mj (is.getD j 0)).2 = true then [(stepM DS rightB mj (is.getD j 0)).1] else []) ++ ysM (stepM DS rightB mj (is.getD j 0)).1 (is.drop (j + 1))) = _
    rw [hs, List.append_assoc]
  · rw [List.length_append, e2, hc]
    cases ok <;> rfl
theorem DoneAt.val {m : Ma} {is : List Int} {PB M : Nat} {pv : Value} {T : Nat → Prop} {W0 W : World} {j c : Nat} {mj m' : Ma} (h : DoneAt m is PB M pv T W0 j c mj W) (hj : j < is.length) (hs : stepM DS rightB mj (is.getD j 0) = (m', true)) : (ysM m is)[c]? = some m' := by
  obtain ⟨⟨pre, e1, e2⟩, _⟩ := h
  have hd : is.drop j = is.getD j 0 :: is.drop (j + 1) := by
    rw [List.drop_eq_getElem_cons hj]
    simp [List.getD, hj]
  rw [e1, hd]
  have : ysM mj (is.getD j 0 :: is.drop (j + 1)) = m' :: ysM m' (is.drop (j + 1)) := by
    show (if (stepM DS rightB mj (is.getD j 0)).2 = true then [(stepM DS rightB mj (is.getD j 0)).1] else []) ++ ysM (stepM DS rightB mj (is.getD j 0)).1 (is.drop (j + 1)) = _
    rw [hs]
    rfl
  rw [this, List.getElem?_append_right (by omega), e2]
  simp
theorem DoneAt.through {m : Ma} {is : List Int} {PB M : Nat} {pv : Value} {T : Nat → Prop} {W0 W : World} {j c : Nat} {mj : Ma} (h : DoneAt m is PB M pv T W0 j c mj W) (hj : is.length ≤ j) : (ysM m is).length = c := by
  obtain ⟨⟨pre, e1, e2⟩, _⟩ := h
  rw [List.drop_eq_nil_of_le hj] at e1
  rw [e1]
  simpa [ysM] using e2
set_option maxRecDepth 100000 in
set_option maxHeartbeats 4000000 in
theorem done_iter (PB M R C : Nat) (is : List Int) (pv : Value) (m : Ma) (W : World) (h1 : M ≠ R) (h2 : M ≠ C) (h3 : PB ≠ R) (h4 : PB ≠ C) (h5 : PB ≠ M) (hin : InM m) (hlen : m.hist.length + is.length < 2000000)
    (hM : MBM W M m) (hP : Boxed W PB 44 pv) (hR : ReadsI .i64 W pv is) (hk : ∀ A A', ReadsI .i64 A pv is → Mods (fun b => b = R ∨ b = C ∨ b = M) A A' → ReadsI .i64 A' pv is) :
    IterAtV Try.prog 152 [.pointer (some ⟨PB, 0, none⟩), .pointer (some ⟨M, 0, none⟩)].toArray (ysM m is).length (VM m is M) (fun A => NB A R ∧ NB A C) (fun b => b = R ∨ b = C) (fun b => b = M) (fun _ => True) W := by
  intro lp J Jx hJ hJx hG hY h0
  refine (callsIn_wide (n := 0)).1 (callsIn_of_wp Try.func152 rfl trivial ?_ rfl)
  simp only [Try.ntmps152, List.size_toArray, List.length_cons, List.length_nil, Nat.reduceAdd, Nat.reduceSub, Array.replicate_succ, Array.replicate_zero, List.push_toArray, List.append_toArray, List.nil_append, List.cons_append]
  have hA := Lib.hid (show DoneAt m is PB M pv (fun b => (b = R ∨ b = C) ∨ b = M) W 0 0 m W from ⟨⟨[], rfl, rfl⟩, hin, Nat.le_refl _, hM, hP, hR, Mods.refl _ _⟩)
  have cP := hP.cell
  have Hk := Lib.hid hk
  have HJ := Lib.hid hJ
  have HJx := Lib.hid hJx
  have HG := Lib.hid hG
  have HY := Lib.hid hY
  have HJ0 := Lib.hid h0
  obtain ⟨hpl, pao, pcap, rfl, _⟩ := hR
  clear hk hJ hJx hG hY h0 hP hM hin
  gi_wp2_with fail
  gi_loopw [10] (fun i wr => ∃ j c mj, j ≤ is.length ∧ i = .int .i64 (j : Nat) ∧ Hid (J c wr) ∧ Hid (DoneAt m is PB M (.slice pao is.length pcap) (fun b => (b = R ∨ b = C) ∨ b = M) W j c mj wr)) (fun i _ => is.length - (intOf i).toNat)
  case atStart => exact ⟨0, 0, m, Nat.zero_le _, rfl, HJ0, hA⟩
  case round =>
    clear hA HJ0 cP
    obtain ⟨j, c, mj, hj, rfl, hJj, hA⟩ := hrel
    by_cases hjl : j < is.length
    · have hjd : decide ((j : Int) < (is.length : Int)) = true := decide_eq_true (by omega)
      have j0 : (0 : Int) ≤ (j : Int) := by omega
      have j1 : (j : Int) < (is.length : Int) := by omega
      obtain ⟨_, hin, hle, ⟨tv, hh, lv, hB, hR⟩, hP, hrp, hMd⟩ := hA.out
      obtain ⟨_, pa, pc, hpe, hpr⟩ := hrp
      cases hpe
      obtain ⟨pb, po, rfl, hpc⟩ := hpr j hjl
      obtain ⟨pj, hpj⟩ : ∃ x, is.getD j 0 = x := ⟨_, rfl⟩
      rw [hpj] at hpc
      have Hpj := Lib.hid hpj
      have HS := Lib.hid (step_S (.agg (maV mj tv hh).toArray) mj pj wr ⟨tv, hh, lv, rfl, hR⟩ hin (by omega))
      have hl77 : (Try.prog.info? 77).map (·.size) = some (maV mj tv hh).toArray.size := info77
      have hB' : wr.heap[M]? = some (.cells (maV mj tv hh).toArray 77 (0, 0)) := hB
      obtain ⟨⟨m', ok⟩, hst⟩ : ∃ x, stepM DS rightB mj pj = x := ⟨_, rfl⟩
      rw [hst] at HS
      have Hst := Lib.hid hst
      have Hle := Lib.hid (And.intro hin hle)
      clear hst hin hle hpj hB hR hP hMd hpr
      gi_wp2_with (refine opIn_value1 rfl rfl (run_load_row 77 (.tmp 2) rfl M rfl 77 (maV mj tv hh).toArray (0, 0) _ hB' Try.underlying77 rfl hl77) ?_)
      refine at_round HS.out ?_
      rintro e w1 ⟨v1, rfl, ⟨tv1, hh1, lv1, rfl, hR1⟩, hN1⟩
      dsimp only at hR1
      have hone := maV_oneR hR1
      have hNa : New w1 (w1.alloc (.cells (maV m' tv1 hh1).toArray 77)) := (Mods.refl _ _).alloc _
      have hX := World.alloc_heap_new w1 (.cells (maV m' tv1 hh1).toArray 77)
      obtain ⟨_, _, _, hMj, hPj, hrj, _⟩ := hA.out
      have hM2 : MBM (w1.alloc (.cells (maV m' tv1 hh1).toArray 77)) M mj := (hMj.mods hN1 id fun _ f => f.elim).mods hNa id fun _ f => f.elim
      have hP2 := (hN1.trans hNa).boxed hPj id
      have hr2 := hrj.new (hN1.trans hNa)
      have hR2 := hR1.new hNa
      have hNN := hN1.trans hNa
      have hl2 : (Try.prog.info? 77).map (·.size) = some (maV m' tv1 hh1).toArray.size := info77
      have hl3 : (Try.prog.info? 77).map (·.size) = some (maV m' tv1 hh1).length := info77
      have hXM : w1.heap.size ≠ M := by
        have := (Array.getElem?_eq_some_iff.1 (show wr.heap[M]? = some _ from hB')).1
        have := hN1.size
        omega
      have hBa : (w1.alloc (.cells (maV m' tv1 hh1).toArray 77)).heap[M]? = some (.cells (maV mj tv hh).toArray 77 (0, 0)) := hNN.heap hB' id
      have hSet := mods_setRow hBa (maV m' tv1 hh1).toArray
      have hX3 := hSet.heap hX hXM
      have hM3 := hM2.set hR2
      have hP3 := hSet.boxed hP2 h5
      have hr3 := Hk.out _ _ hr2 (hSet.mono fun _ e => .inr (.inr e))
      have hRX := hR2.keptN hSet fun b hb => by subst hb; exact hM2.nb
      have hMT : Mods (fun b => b = M) wr ((w1.alloc (.cells (maV m' tv1 hh1).toArray 77)).setRow M (maV m' tv1 hh1).toArray) := (Mods.ofNew hNN).trans hSet
      have hJ3 := HJ.out _ _ _ hJj.out hMT
      have F3 := Lib.hid (And.intro hM3 (And.intro hP3 (And.intro hr3 (And.intro hRX (And.intro hMT hJ3)))))
      clear hM2 hP2 hr2 hR2 hNN hMj hPj hrj hR1 hSet hM3 hP3 hr3 hRX hMT hJ3 hNa HS
      have hbl : (maV mj tv hh).length = (maV m' tv1 hh1).length := rfl
      cases ok with
      | false =>
        gi_wp2_with (first | (refine opIn_skip1 rfl rfl (run_store_new 77 (.tmp 6) (.tmp 18) rfl 77 [.int .u64 0, .int .i64 0, .slice none 0 0, .slice none 0 0] (maV m' tv1 hh1) rfl rfl info77 rfl hone) ?_) | (refine opIn_value1 rfl rfl (run_load_row 77 (.tmp 6) rfl w1.heap.size rfl 77 (maV m' tv1 hh1).toArray (0, 0) _ hX Try.underlying77 rfl hl2) ?_) | (refine opIn_skip1 rfl rfl (run_store_row 77 (.tmp 2) (.tmp 20) rfl M rfl 77 (maV mj tv hh) (maV m' tv1 hh1) rfl hBa hl3 hbl hone) ?_))
        refine ⟨fun f hf => (by cases hf), ?_⟩
        gi_wp2_with fail
        go_roundw
        case rel =>
          obtain ⟨hM3, hP3, hr3, hRX, hMT, hJ3⟩ := F3.out
          exact ⟨j + 1, c, m', by omega, by go_num, Lib.hid hJ3, Lib.hid (hA.out.next hjl (by rw [Hpj.out]; exact Hst.out) (by simp) hM3 hP3 hr3 (hMT.mono fun _ e => .inr e))⟩
        case measure => simp [intOf]; omega
      | true =>
        have hval := hA.out.val hjl (by rw [Hpj.out]; exact Hst.out)
        have hcn : c < (ysM m is).length := by
          rcases Nat.lt_or_ge c (ysM m is).length with h | h
          · exact h
          · rw [List.getElem?_eq_none h] at hval; cases hval
        obtain ⟨fn, tmps, assign, body, hy, hRd⟩ := HY.out c #[.agg (maV m' tv1 hh1).toArray] _ hcn ⟨m', _, hval, rfl, ⟨_, _, _, rfl, F3.out.2.2.2.1⟩, F3.out.1.nb⟩ F3.out.2.2.2.2.2 (hA.out.2.2.2.2.2.2.trans (F3.out.2.2.2.2.1.mono fun _ e => .inr e))
        have Hval := Lib.hid hval
        clear hval
        gi_wp2_with (first | (refine opIn_skip1 rfl rfl (run_store_new 77 (.tmp 6) (.tmp 18) rfl 77 [.int .u64 0, .int .i64 0, .slice none 0 0, .slice none 0 0] (maV m' tv1 hh1) rfl rfl info77 rfl hone) ?_) | (refine opIn_value1 rfl rfl (run_load_row 77 (.tmp 6) rfl w1.heap.size rfl 77 (maV m' tv1 hh1).toArray (0, 0) _ hX Try.underlying77 rfl hl2) ?_) | (refine opIn_skip1 rfl rfl (run_store_row 77 (.tmp 2) (.tmp 20) rfl M rfl 77 (maV mj tv hh) (maV m' tv1 hh1) rfl hBa hl3 hbl hone) ?_) | (refine opIn_value1g rfl (by rfl) (run_load_row 77 (.tmp 6) rfl w1.heap.size rfl 77 (maV m' tv1 hh1).toArray (0, 0) _ hX3 Try.underlying77 rfl hl2) ?_))
        refine ⟨rfl, hRd.mono ?_⟩
        rintro e W3 (⟨rfl, hJ4, hm3⟩ | ⟨rfl, hJx3⟩)
        · have hnext : Hid (DoneAt m is PB M (.slice (some ⟨pb, po, none⟩) is.length pcap) (fun b => (b = R ∨ b = C) ∨ b = M) W (j + 1) (c + 1) m' W3) := Lib.hid (by
            obtain ⟨hM3, hP3, hr3, hRX, hMT, hJ3⟩ := F3.out
            have hg := HG.out _ _ hJ3
            refine hA.out.next hjl (by rw [Hpj.out]; exact Hst.out) rfl (hM3.mods hm3 ?_ ?_) (hm3.boxed hP3 ?_) (Hk.out _ _ hr3 (hm3.mono fun _ e => ?_)) ((hMT.mono fun _ e => .inr e).trans (hm3.mono fun _ e => .inl e))
            · rintro (e | e)
              · exact h1 e
              · exact h2 e
            · rintro b (rfl | rfl)
              · exact hg.1
              · exact hg.2
            · rintro (e | e)
              · exact h3 e
              · exact h4 e
            · rcases e with e | e
              · exact .inl e
              · exact .inr (.inl e))
          have HJ4 := Lib.hid hJ4
          clear hJ4 hm3 F3 hX hX3 hBa hB' HY
          gi_wp2
          go_roundw
          case rel => exact ⟨j + 1, c + 1, m', by omega, by go_num, HJ4, hnext⟩
          case measure => simp [intOf]; omega
        · have HJ4 := Lib.hid hJx3
          clear hJx3 F3 hX hX3 hBa hB' HY
          gi_wp2
          refine bodyPost_ret (results_none rfl _ _ _) rfl ?_
          exact ⟨⟨_, rfl⟩, .inr ⟨c + 1, by omega, HJ4.out⟩⟩
    · have hjd : decide ((j : Int) < (is.length : Int)) = false := decide_eq_false (by omega)
      have Hc := Lib.hid (hA.out.through (by omega))
      clear HY
      gi_wp2_with fail
      refine bodyPost_end (results_none rfl _ _ _) rfl ?_
      exact ⟨⟨_, rfl⟩, .inl ⟨by rw [Hc.out]; exact hJj.out, trivial⟩⟩
end Go.Proofs.Ytkjloeefcaadlaa
