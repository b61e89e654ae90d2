/- A variable that holds a machine. -/
import Derived.Test.YtkjloeefcaadlaaM27
set_option linter.unusedSimpArgs false
set_option linter.unusedVariables false
namespace Go.Proofs.Ytkjloeefcaadlaa
open Go.RowKit Go.Shelf Go.Cs
attribute [local go_sem] Oper.semAt_some
def Z77 : Obj := .cells #[.int .u64 0, .int .i64 0, .slice none 0 0, .slice none 0 0] 77 (0, 0)
/-- A variable that holds a machine. -/
def VA (W : World) (B : Nat) (m : Ma) : Prop := ∃ ta tc ha hc lv, MB W B m.word m.clock (.slice ta m.ths.length tc) (.slice ha m.hist.length hc) ∧ MaR W m (.slice ta m.ths.length tc) (.slice ha m.hist.length hc) lv
theorem VA.new {W W' : World} {B : Nat} {m : Ma} (h : VA W B m) (hN : New W W') : VA W' B m := by
  obtain ⟨ta, tc, ha, hc, lv, h1, h2⟩ := h
  exact ⟨ta, tc, ha, hc, lv, h1.new hN, h2.new hN⟩
theorem ReadsM.slices {W : World} {v : Value} {m : Ma} (h : ReadsM W v m) : ∃ ta tc ha hc lv, v = .agg #[.int .u64 (m.word : Nat), .int .i64 m.clock, .slice ta m.ths.length tc, .slice ha m.hist.length hc] ∧ MaR W m (.slice ta m.ths.length tc) (.slice ha m.hist.length hc) lv := by
  obtain ⟨tv, hh, lv, rfl, hR⟩ := h
  obtain ⟨⟨ao, cap, rfl⟩, ⟨ho, hcap, rfl⟩⟩ := hR.slices
  exact ⟨_, _, _, _, lv, rfl, hR⟩
/-- A machine laid into a variable that was made for it. -/
theorem made_mach {W : World} {m : Ma} {ta ha : Option Addr} {tc hc : Nat} {lv : Nat → Value} (hR : MaR W m (.slice ta m.ths.length tc) (.slice ha m.hist.length hc) lv) :
    New W ((W.alloc Z77).setRow W.heap.size #[.int .u64 (m.word : Nat), .int .i64 m.clock, .slice ta m.ths.length tc, .slice ha m.hist.length hc]) ∧
    MB ((W.alloc Z77).setRow W.heap.size #[.int .u64 (m.word : Nat), .int .i64 m.clock, .slice ta m.ths.length tc, .slice ha m.hist.length hc]) W.heap.size m.word m.clock (.slice ta m.ths.length tc) (.slice ha m.hist.length hc) ∧
    VA ((W.alloc Z77).setRow W.heap.size #[.int .u64 (m.word : Nat), .int .i64 m.clock, .slice ta m.ths.length tc, .slice ha m.hist.length hc]) W.heap.size m := by
  have hA := World.alloc_heap_new W Z77
  have hN : New W ((W.alloc Z77).setRow W.heap.size #[.int .u64 (m.word : Nat), .int .i64 m.clock, .slice ta m.ths.length tc, .slice ha m.hist.length hc]) := ((Mods.refl _ W).alloc _).setRow (Nat.le_refl _) _
  have hB : MB _ W.heap.size m.word m.clock (.slice ta m.ths.length tc) (.slice ha m.hist.length hc) := setRow_heap _ W.heap.size _ #[.int .u64 (m.word : Nat), .int .i64 m.clock, .slice ta m.ths.length tc, .slice ha m.hist.length hc] 77 (0, 0) hA
  exact ⟨hN, hB, _, _, _, _, lv, hB, hR.new hN⟩
theorem mach_ones (x : Nat) (c : Int) (ta ha : Option Addr) (n tc k hc : Nat) : ∀ u ∈ ([.int .u64 x, .int .i64 c, .slice ta n tc, .slice ha k hc] : List Value), u.oneCell' = true := by
  intro u hu
  simp only [List.mem_cons, List.not_mem_nil, or_false] at hu
  rcases hu with rfl | rfl | rfl | rfl <;> rfl
end Go.Proofs.Ytkjloeefcaadlaa
/- Machines that are too great, of any size. -/
namespace Go.Proofs.Ytkjloeefcaadlaa
open Go.RowKit Go.Shelf Go.Cs
attribute [local go_sem] Oper.semAt_some
def greatN (n k : Nat) (Ls : Nat → Nat) : Bool := ((List.range (min n 6)).any fun i => decide (20 < Ls i)) || (decide (5 < n) || decide (40 < k))
theorem info77g : (Try.prog.info? 77).map (·.size) = some 4 := by kernel_rfl
set_option maxRecDepth 100000 in
set_option maxHeartbeats 4000000 in
theorem great_G (x : Nat) (c : Int) (ao ho : Option Addr) (n cap h hcap : Nat) (Ls : Nat → Nat) (w : World) (hsm : n ≤ 9223372036854775807) (hcl : ∀ i, i < n → i < 6 → ∃ b o la lc, ao = some ⟨b, o, none⟩ ∧ w.cell? ⟨b, o + i * 4, none⟩ = some (.slice la (Ls i) lc)) :
    Calls Try.prog 56 #[.agg #[.int .u64 x, .int .i64 c, .slice ao n cap, .slice ho h hcap]] w fun e w' => e = .returned (.bool (greatN n h Ls)) ∧ New w w' := by
  have hB : MB (w.alloc (.cells #[.int .u64 x, .int .i64 c, .slice ao n cap, .slice ho h hcap] 77)) w.heap.size x c (.slice ao n cap) (.slice ho h hcap) := World.alloc_heap_new w _
  have hN : New w (w.alloc (.cells #[.int .u64 x, .int .i64 c, .slice ao n cap, .slice ho h hcap] 77)) := (Mods.refl _ _).alloc _
  obtain ⟨W, hW⟩ : ∃ W, w.alloc (.cells #[.int .u64 x, .int .i64 c, .slice ao n cap, .slice ho h hcap] 77) = W := ⟨_, rfl⟩
  have hW' := hW
  rw [hW] at hB hN
  obtain ⟨r, hr⟩ : ∃ r, greatN n h Ls = r := ⟨_, rfl⟩
  have Hr := Lib.hid hr
  rw [hr]
  have c2 := hB.c2
  have c3 := hB.c3
  have HC := Lib.hid hcl
  clear hr hB hW hcl
  go_enter Try.func56, Try.ntmps56
  go_wp2_with fail
  try rw [hW']
  clear hW'
  go_loop [3] (fun c => ∃ k : Nat, k ≤ n ∧ k ≤ 6 ∧ c = .int .i64 (k : Nat) ∧ Hid (∀ q, q < k → Ls q ≤ 20)) (fun c => 7 - (intOf c).toNat)
  case atStart => exact ⟨0, Nat.zero_le _, by decide, rfl, Lib.hid (fun i hi => by omega)⟩
  case round =>
    obtain ⟨k, hk, hk6, rfl, hbef⟩ := hrel
    by_cases hkn : k < n
    · have hkd : decide ((k : Int) < (n : Int)) = true := decide_eq_true (by omega)
      by_cases h5 : k ≤ 5
      · have h5d : decide ((k : Int) ≤ 5) = true := decide_eq_true (by omega)
        have k0 : (0 : Int) ≤ (k : Int) := by omega
        have k1 : (k : Int) < (n : Int) := by omega
        obtain ⟨b, o, la, lc, rfl, a0⟩ := HC.out k hkn (by omega)
        replace a0 := hN.cell a0 id
        obtain ⟨t, ht⟩ : ∃ t, Ls k = t := ⟨_, rfl⟩
        rw [ht] at a0
        have Ht := Lib.hid ht
        clear ht
        by_cases h20 : 20 < t
        · have d20 : decide ((20 : Int) < (t : Int)) = true := decide_eq_true (by omega)
          have hrf : Hid (r = true) := Lib.hid (by
            rw [← Hr.out]
            unfold greatN
            rw [Bool.or_eq_true]
            left
            rw [List.any_eq_true]
            exact ⟨k, List.mem_range.2 (by omega), by rw [Ht.out]; exact decide_eq_true h20⟩)
          have HN := Lib.hid hN
          go_wp2_with fail
          go_ret
          exact ⟨by rw [hrf.out]; rfl, HN.out⟩
        · have d20 : decide ((20 : Int) < (t : Int)) = false := decide_eq_false (by omega)
          have hnx : Hid (∀ q, q < k + 1 → Ls q ≤ 20) := Lib.hid (fun q hq => by
            by_cases hqk : q < k
            · exact hbef.out q hqk
            · obtain rfl : q = k := by omega
              rw [Ht.out]; omega)
          go_wp2_with fail
          go_round
          case rel => exact ⟨k + 1, by omega, by omega, by go_num, hnx⟩
          case measure => simp [intOf]; omega
      · have h5d : decide ((k : Int) ≤ 5) = false := decide_eq_false (by omega)
        have h5n : decide ((5 : Int) < (n : Int)) = true := decide_eq_true (by omega)
        have hrf : Hid (r = true) := Lib.hid (by
          rw [← Hr.out]
          unfold greatN
          rw [decide_eq_true (by omega : 5 < n)]
          simp)
        have HN := Lib.hid hN
        go_wp2_with fail
        go_ret
        exact ⟨by rw [hrf.out]; rfl, HN.out⟩
    · obtain rfl : n = k := by omega
      have hkd : decide ((n : Int) < (n : Int)) = false := decide_eq_false (by omega)
      have hany : ((List.range (min n 6)).any fun i => decide (20 < Ls i)) = false := by
        rw [List.any_eq_false]
        intro q hq
        have := hbef.out q (by have := List.mem_range.1 hq; omega)
        simp only [decide_eq_true_eq]
        omega
      have hrv : r = (decide (5 < n) || decide (40 < h)) := by rw [← Hr.out]; unfold greatN; rw [hany]; rfl
      have HN := Lib.hid hN
      by_cases h5 : 5 < n
      · have h5d : decide ((5 : Int) < (n : Int)) = true := decide_eq_true (by omega)
        have hrf : Hid (r = true) := Lib.hid (by rw [hrv, decide_eq_true h5]; rfl)
        clear hrv hany
        go_wp2_with fail
        go_ret
        exact ⟨by rw [hrf.out]; rfl, HN.out⟩
      · have h5d : decide ((5 : Int) < (n : Int)) = false := decide_eq_false (by omega)
        have hrf : Hid (r = decide (40 < h)) := Lib.hid (by rw [hrv, decide_eq_false h5]; rfl)
        have hcast : decide ((40 : Int) < (h : Int)) = decide (40 < h) := by
          by_cases h : 40 < h
          · rw [decide_eq_true h, decide_eq_true (by omega)]
          · rw [decide_eq_false h, decide_eq_false (by omega)]
        clear hrv hany
        go_wp2_with fail
        go_ret
        exact ⟨by rw [hrf.out]; simp, HN.out⟩
end Go.Proofs.Ytkjloeefcaadlaa
