/- The document's answer: names, methods, values, plain fields, trailers. -/
import Derived.Test.YtkjghojdfjhhkaaDoorM05
set_option linter.unusedSimpArgs false
set_option linter.unusedVariables false
namespace Go.Proofs.YtkjghojdfjhhkaaDoor
open Go.RowKit Go.Shelf Go.Cs
attribute [local go_sem] Oper.semAt_some
theorem empty_size (s : ByteArray) : (!s.data.toList.isEmpty) = decide (0 < s.size) := by
  have h : s.data.toList.length = s.size := by simp
  cases hl : s.data.toList with
  | nil => rw [hl] at h; simp at h; simp [← h]
  | cons a t => rw [hl] at h; simp at h; simp; omega
set_option maxHeartbeats 1000000 in
theorem name_ref (s : ByteArray) (w : World) (hs : s.size ≤ 9223372036854775807) :
    Calls Tryd.prog 43 #[.string s] w fun e w' => e = .returned (.bool (nameB s.data.toList)) ∧ w' = w := by
  have HB : Hid (nameB s.data.toList = ((s.data.toList.all (fun c => smallB c || false)) && !s.data.toList.isEmpty)) := Lib.hid rfl
  obtain ⟨r, hr⟩ : ∃ r, nameB s.data.toList = r := ⟨_, rfl⟩
  rw [hr] at HB ⊢
  clear hr
  go_enter Tryd.func43, Tryd.ntmps43
  go_wp2_with fail
  go_loop [3] (fun i => ∃ k : Nat, k ≤ s.size ∧ i = .int .i64 k ∧ Hid (∀ j, j < k → (smallB (gb s j) || false) = true)) (fun i => s.size - (intOf i).toNat)
  case atStart => exact ⟨0, Nat.zero_le _, rfl, Lib.hid fun j hj => by omega⟩
  case round =>
    obtain ⟨k, hk, rfl, hbef⟩ := hrel
    by_cases hlt : k < s.size
    · have hix := run_idx s k hlt
      have HS := Lib.hid (small_ref (gb s k))
      obtain ⟨n, hn⟩ : ∃ n, (gb s k).toNat = n := ⟨_, rfl⟩
      rw [hn] at hix HS
      clear hn
      cases hsm : smallB (gb s k) with
      | true =>
        rw [hsm] at HS
        have hnext : Hid (∀ j, j < k + 1 → (smallB (gb s j) || false) = true) := Lib.hid fun j hj => by
          by_cases h : j < k
          · exact hbef.out j h
          · obtain rfl : j = k := by omega
            rw [hsm]; rfl
        clear hbef hsm
        go_wp2_with (go_at_call 79; refine (HS.out _).mono ?_; rintro e w' ⟨rfl, rfl⟩)
        go_round
        case rel => exact ⟨k + 1, by omega, by go_num, hnext⟩
        case measure => simp [intOf]; omega
      | false =>
        rw [hsm] at HS
        have hR : r = false := by
          rw [HB.out, any_gb s _ hlt (by rw [hsm]; rfl)]; rfl
        subst hR
        clear hbef hsm HB
        go_wp2_with (go_at_call 79; refine (HS.out _).mono ?_; rintro e w' ⟨rfl, rfl⟩)
        go_ret
        exact ⟨rfl, rfl⟩
    · obtain rfl : k = s.size := by omega
      have hR : r = decide (0 < s.size) := by
        rw [HB.out, (all_gb s _).2 hbef.out, Bool.true_and, empty_size]
      have HR := Lib.hid hR
      clear hbef hR HB
      go_wp2_with fail
      go_ret
      exact ⟨by rw [HR.out]; rfl, rfl⟩
set_option maxHeartbeats 1000000 in
theorem method_ref (s : ByteArray) (w : World) (hs : s.size ≤ 9223372036854775807) :
    Calls Tryd.prog 74 #[.string s] w fun e w' => e = .returned (.bool (methodB s.data.toList)) ∧ w' = w := by
  have HB : Hid (methodB s.data.toList = ((s.data.toList.all (fun c => smallB c || upperB c)) && !s.data.toList.isEmpty)) := Lib.hid rfl
  obtain ⟨r, hr⟩ : ∃ r, methodB s.data.toList = r := ⟨_, rfl⟩
  rw [hr] at HB ⊢
  clear hr
  go_enter Tryd.func74, Tryd.ntmps74
  go_wp2_with fail
  go_loop [3] (fun i => ∃ k : Nat, k ≤ s.size ∧ i = .int .i64 k ∧ Hid (∀ j, j < k → (smallB (gb s j) || upperB (gb s j)) = true)) (fun i => s.size - (intOf i).toNat)
  case atStart => exact ⟨0, Nat.zero_le _, rfl, Lib.hid fun j hj => by omega⟩
  case round =>
    obtain ⟨k, hk, rfl, hbef⟩ := hrel
    by_cases hlt : k < s.size
    · have hix := run_idx s k hlt
      have HS := Lib.hid (small_ref (gb s k))
      have HU : Hid (upperB (gb s k) = (decide (65 ≤ (gb s k).toNat) && decide ((gb s k).toNat ≤ 90))) := Lib.hid rfl
      obtain ⟨n, hn⟩ : ∃ n, (gb s k).toNat = n := ⟨_, rfl⟩
      rw [hn] at hix HS HU
      clear hn
      have hnext : (smallB (gb s k) || upperB (gb s k)) = true → Hid (∀ j, j < k + 1 → (smallB (gb s j) || upperB (gb s j)) = true) := fun hg => Lib.hid fun j hj => by
        by_cases h : j < k
        · exact hbef.out j h
        · obtain rfl : j = k := by omega
          exact hg
      have hstop : (smallB (gb s k) || upperB (gb s k)) = false → r = false := fun hg => by
        rw [HB.out, any_gb s _ hlt hg]; rfl
      cases hsm : smallB (gb s k) with
      | true =>
        rw [hsm] at HS hnext hstop
        have hh := hnext rfl
        clear hbef hsm hnext hstop
        go_wp2_with (go_at_call 79; refine (HS.out _).mono ?_; rintro e w' ⟨rfl, rfl⟩)
        go_round
        case rel => exact ⟨k + 1, by omega, by go_num, hh⟩
        case measure => simp [intOf]; omega
      | false =>
        rw [hsm] at HS hnext hstop
        by_cases hu : 65 ≤ n ∧ n ≤ 90
        · have hh := hnext (by rw [HU.out]; simp [hu.1, hu.2])
          obtain ⟨h1, h2⟩ := hu
          have d1 : decide ((n : Int) < 65) = false := decide_eq_false (by omega)
          have d2 : decide ((90 : Int) < (n : Int)) = false := decide_eq_false (by omega)
          clear hbef hsm hnext hstop
          go_wp2_with (go_at_call 79; refine (HS.out _).mono ?_; rintro e w' ⟨rfl, rfl⟩)
          go_round
          case rel => exact ⟨k + 1, by omega, by go_num, hh⟩
          case measure => simp [intOf]; omega
        · have hR := hstop (by rw [HU.out]; simp; omega)
          subst hR
          clear hbef hsm hnext hstop HB
          by_cases h1 : n < 65
          · have d1 : decide ((n : Int) < 65) = true := decide_eq_true (by omega)
            clear hu
            go_wp2_with (go_at_call 79; refine (HS.out _).mono ?_; rintro e w' ⟨rfl, rfl⟩)
            go_ret
            exact ⟨rfl, rfl⟩
          · have h2 : 90 < n := by omega
            have d1 : decide ((n : Int) < 65) = false := decide_eq_false (by omega)
            have d2 : decide ((90 : Int) < (n : Int)) = true := decide_eq_true (by omega)
            clear hu
            go_wp2_with (go_at_call 79; refine (HS.out _).mono ?_; rintro e w' ⟨rfl, rfl⟩)
            go_ret
            exact ⟨rfl, rfl⟩
    · obtain rfl : k = s.size := by omega
      have hR : r = decide (0 < s.size) := by
        rw [HB.out, (all_gb s _).2 hbef.out, Bool.true_and, empty_size]
      have HR := Lib.hid hR
      clear hbef hR HB
      go_wp2_with fail
      go_ret
      exact ⟨by rw [HR.out]; rfl, rfl⟩
theorem blank_ref (c : UInt8) (w : World) : Calls Tryd.prog 82 #[.int .u8 (c.toNat : Nat)] w fun e w' => e = .returned (.bool (blanks.contains c)) ∧ w' = w := by
  have hB : blanks.contains c = (decide (c.toNat = 32) || decide (c.toNat = 9)) := by
    rw [Bool.eq_iff_iff]
    simp [blanks, ← UInt8.toNat_inj]
  obtain ⟨n, hn⟩ : ∃ n, c.toNat = n := ⟨_, rfl⟩
  rw [hn] at hB
  obtain ⟨b, hb⟩ : ∃ b, blanks.contains c = b := ⟨_, rfl⟩
  rw [hb] at hB ⊢
  have HB := Lib.hid hB
  rw [hn]
  clear hn hB hb
  by_cases h1 : n = 32
  · subst h1
    go_enter Tryd.func82, Tryd.ntmps82
    go_wp2_with fail
    go_ret
    exact ⟨by rw [HB.out]; rfl, rfl⟩
  · have e1 : ((n : Int) == 32) = false := by rw [beq_eq_false_iff_ne]; omega
    have e2 : ((n : Int) == 9) = decide (n = 9) := by rw [Bool.eq_iff_iff]; simp; omega
    have H1 := Lib.hid h1
    clear h1
    go_enter Tryd.func82, Tryd.ntmps82
    go_wp2_with fail
    go_ret
    exact ⟨by rw [HB.out, decide_eq_false H1.out]; rfl, rfl⟩
set_option maxHeartbeats 1000000 in
set_option maxRecDepth 100000 in
theorem value_ref (s : ByteArray) (w : World) (hs : s.size ≤ 9223372036854775807) :
    Calls Tryd.prog 45 #[.string s] w fun e w' => e = .returned (.bool (valueB s.data.toList)) ∧ w' = w := by
  have HB := Lib.hid (valueB_ends s.data.toList)
  obtain ⟨r, hr⟩ : ∃ r, valueB s.data.toList = r := ⟨_, rfl⟩
  rw [hr] at HB ⊢
  clear hr
  have hlen : s.data.toList.length = s.size := by simp
  rw [hlen] at HB
  clear hlen
  go_enter Tryd.func45, Tryd.ntmps45
  go_wp2_with fail
  go_loop [3] (fun i => ∃ k : Nat, k ≤ s.size ∧ i = .int .i64 k ∧ Hid (∀ j, j < k → (!bads.contains (gb s j)) = true)) (fun i => s.size - (intOf i).toNat)
  case atStart => exact ⟨0, Nat.zero_le _, rfl, Lib.hid fun j hj => by omega⟩
  case round =>
    obtain ⟨k, hk, rfl, hbef⟩ := hrel
    by_cases hlt : k < s.size
    · have hix := run_idx s k hlt
      have HU : Hid (bads.contains (gb s k) = (decide ((gb s k).toNat = 0) || (decide ((gb s k).toNat = 10) || decide ((gb s k).toNat = 13)))) := Lib.hid (by
        rw [Bool.eq_iff_iff]
        simp [bads, ← UInt8.toNat_inj])
      obtain ⟨n, hn⟩ : ∃ n, (gb s k).toNat = n := ⟨_, rfl⟩
      rw [hn] at hix HU
      clear hn
      by_cases hb : n = 0 ∨ n = 10 ∨ n = 13
      · have hR : r = false := by
          rw [HB.out, any_gb s _ hlt (by rw [HU.out]; rcases hb with h | h | h <;> simp [h])]; rfl
        subst hR
        clear hbef HB
        rcases hb with rfl | rfl | rfl
        all_goals
          go_wp2_with fail
          go_ret
          exact ⟨rfl, rfl⟩
      · have hh : Hid (∀ j, j < k + 1 → (!bads.contains (gb s j)) = true) := Lib.hid fun j hj => by
          by_cases h : j < k
          · exact hbef.out j h
          · obtain rfl : j = k := by omega
            rw [HU.out]
            have h1 : ¬ n = 0 := fun h => hb (.inl h)
            have h2 : ¬ n = 10 := fun h => hb (.inr (.inl h))
            have h3 : ¬ n = 13 := fun h => hb (.inr (.inr h))
            simp [h1, h2, h3]
        have e1 : ((n : Int) == 0) = false := by rw [beq_eq_false_iff_ne]; omega
        have e2 : ((n : Int) == 10) = false := by rw [beq_eq_false_iff_ne]; omega
        have e3 : ((n : Int) == 13) = false := by rw [beq_eq_false_iff_ne]; omega
        clear hbef hb
        go_wp2_with fail
        go_round
        case rel => exact ⟨k + 1, by omega, by go_num, hh⟩
        case measure => simp [intOf]; omega
    · obtain rfl : k = s.size := by omega
      have hR := HB.out
      rw [(all_gb s _).2 hbef.out, Bool.true_and] at hR
      clear hbef HB
      by_cases h0 : s.size = 0
      · have hr : r = true := by
          rw [hR]
          have : s.data.toList = [] := List.length_eq_zero_iff.1 (by simp [h0])
          rw [this]; rfl
        have Hr := Lib.hid hr
        have e0 : ((s.size : Int) == 0) = true := by rw [beq_iff_eq]; omega
        clear hr hR h0
        go_wp2_with fail
        go_ret
        exact ⟨by rw [Hr.out]; rfl, rfl⟩
      · have e0 : ((s.size : Int) == 0) = false := by rw [beq_eq_false_iff_ne]; omega
        have h0' : 0 < s.size := by omega
        have hg0 := gb_eq s 0 h0'
        have hi1 := run_idx s (s.size - 1) (by omega)
        rw [show ((s.size - 1 : Nat) : Int) = (s.size : Int) - 1 by omega] at hi1
        have hr : r = (!blanks.contains (gb s 0) && !blanks.contains (gb s (s.size - 1))) := by
          rw [hR]
          have : s.data.toList.isEmpty = false := by
            cases hl : s.data.toList with
            | nil => have : s.data.toList.length = s.size := by simp
                     rw [hl] at this; simp at this; omega
            | cons a t => rfl
          rw [this]; rfl
        have H0 := Lib.hid (blank_ref (s[0]'h0'))
        have H1 := Lib.hid (blank_ref (gb s (s.size - 1)))
        rw [← hg0] at hr
        obtain ⟨y, hy⟩ : ∃ x, (gb s (s.size - 1)).toNat = x := ⟨_, rfl⟩
        obtain ⟨b0, hb0⟩ : ∃ b, blanks.contains (s[0]'h0') = b := ⟨_, rfl⟩
        obtain ⟨b1, hb1⟩ : ∃ b, blanks.contains (gb s (s.size - 1)) = b := ⟨_, rfl⟩
        rw [hy] at hi1 H1
        rw [hb0] at H0 hr
        rw [hb1] at H1 hr
        have hpos : (1 : Int) ≤ (s.size : Int) := by omega
        clear hy hb0 hb1 hR h0 hlt hg0
        cases b0 with
        | true =>
          obtain rfl : r = false := hr
          go_wp2_with fail
          refine (H0.out _).mono ?_
          rintro e w' ⟨rfl, rfl⟩
          go_wp2_with fail
          go_ret
          exact ⟨rfl, rfl⟩
        | false =>
          have Hr : Hid (r = !b1) := Lib.hid hr
          clear hr
          go_wp2_with fail
          refine (H0.out _).mono ?_
          rintro e w' ⟨rfl, rfl⟩
          go_wp2_with fail
          refine (H1.out _).mono ?_
          rintro e w' ⟨rfl, rfl⟩
          go_wp2_with fail
          go_ret
          exact ⟨by rw [Hr.out]; rfl, rfl⟩
end Go.Proofs.YtkjghojdfjhhkaaDoor
