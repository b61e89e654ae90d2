/- Tokens; how many bytes are so (the program). -/
import Derived.Test.YtihmnkbkigkjjaaDoorZ1
import Derived.Test.YtihmnkbkigkjjaaDoorShelf
namespace Go.Proofs.YtihmnkbkigkjjaaDoor
open Go.RowKit Go.Shelf Go.Cs
attribute [local go_sem] Oper.semAt_some
set_option linter.unusedVariables false
set_option linter.unusedSimpArgs false
theorem marks_o (c : UInt8) : decide (Lib.indexByte Bare.marks c < 0) = !Bare.marks.contains c := by
  have := Lib.contains_iff_indexByte Bare.marks c
  rw [this, ← decide_not]
  exact decide_eq_decide.2 (by omega)
set_option maxHeartbeats 2000000 in
set_option maxRecDepth 100000 in
theorem token_any (s : ByteArray) (w : World) (hs : s.size ≤ 9223372036854775807) :
    Calls Tryd.prog 13 #[.string s] w fun e w' => e = .returned (.bool (Bare.tokB (bl s))) ∧ w' = w := by
  have HB := Lib.hid (tokB_at (bl s))
  obtain ⟨r, hr⟩ : ∃ r, Bare.tokB (bl s) = r := ⟨_, rfl⟩
  rw [hr] at HB ⊢
  clear hr
  go_enter Tryd.func13, Tryd.ntmps13
  go_wp2_with fail
  go_loop [7] (fun c => ∃ k : Nat, k ≤ s.size ∧ c = .int .i64 k ∧ Hid (∀ j, j < k → tokAt j (gb s j) = true)) (fun c => s.size - (intOf c).toNat)
  case atStart => exact ⟨0, Nat.zero_le _, rfl, Lib.hid fun i hi => by omega⟩
  case round =>
    obtain ⟨k, hk, rfl, hbef⟩ := hrel
    by_cases hlt : k < s.size
    · have hkd : decide ((k : Int) < (s.size : Int)) = true := decide_eq_true (by omega)
      have hix := run_idx s k hlt
      have hnext : tokAt k (gb s k) = true → Hid (∀ j, j < k + 1 → tokAt j (gb s j) = true) := fun hg => Lib.hid fun i hi => by
        by_cases hik : i < k
        · exact hbef.out i hik
        · obtain rfl : i = k := by omega
          exact hg
      have hstop : tokAt k (gb s k) = false → r = false := fun hg => by
        rw [Bool.eq_false_iff]
        intro h
        have := (HB.out.1 h).2 k _ (gb_get s k hlt)
        rw [hg] at this; cases this
      have Hbad := Lib.hid (tok_bad k (gb s k))
      have HL := Lib.hid (letter_p (gb s k))
      have HD := Lib.hid (digit_p (gb s k))
      have Ho := marks_o (gb s k)
      have hback : ((gb s k).toNat : Int).toNat.toUInt8 = gb s k := by simp
      have h42 : ((gb s k) == 42) = decide (((gb s k).toNat : Int) = 42) := by
        rw [Bool.eq_iff_iff, beq_iff_eq, decide_eq_true_eq, ← UInt8.toNat_inj]
        show (gb s k).toNat = 42 ↔ _
        omega
      have hk0 : (k == 0) = decide ((k : Int) = 0) := by
        rw [Bool.eq_iff_iff, beq_iff_eq, decide_eq_true_eq]; omega
      rw [h42, hk0] at Hbad
      clear hbef h42 hk0
      have HK : ∀ W, Calls Tryd.prog 29 #[.string ⟨#[33, 35, 36, 37, 38, 39, 42, 43, 45, 46, 94, 95, 96, 124, 126, 58, 47]⟩, .int .u8 ((gb s k).toNat : Nat)] W fun e w' => e = .returned (.int .i64 (Lib.indexByte Bare.marks (gb s k))) ∧ w' = W := fun W =>
        (Tryd.strings_IndexByte _ _ W).mono (by rintro e w' ⟨rfl, hw⟩; rw [hback]; exact ⟨rfl, hw⟩)
      have HK := Lib.hid HK
      obtain ⟨o, ho⟩ : ∃ o, Lib.indexByte Bare.marks (gb s k) = o := ⟨_, rfl⟩
      rw [ho] at HK Ho
      obtain ⟨T, hT⟩ : ∃ x, tokAt k (gb s k) = x := ⟨_, rfl⟩
      obtain ⟨L, hL⟩ : ∃ x, Bare.letB (gb s k) = x := ⟨_, rfl⟩
      obtain ⟨D, hD⟩ : ∃ x, Bare.digB (gb s k) = x := ⟨_, rfl⟩
      obtain ⟨M, hM⟩ : ∃ x, Bare.marks.contains (gb s k) = x := ⟨_, rfl⟩
      rw [hT] at Hbad hnext hstop
      rw [hL] at Hbad HL
      rw [hD] at Hbad HD
      rw [hM] at Hbad Ho
      obtain ⟨n, hn⟩ : ∃ x, (gb s k).toNat = x := ⟨_, rfl⟩
      rw [hn] at HL HD HK Hbad hix
      clear ho hT hL hD hM hn hback
      obtain ⟨E, hE⟩ : ∃ x, decide ((n : Int) = 42) = x := ⟨_, rfl⟩
      have hE2 : ((n : Int) == 42) = E := hE
      have hE3 : ((n : Int) != 42) = !E := by rw [← hE2]; rfl
      obtain ⟨Z, hZ⟩ : ∃ x, decide ((k : Int) = 0) = x := ⟨_, rfl⟩
      have hZ2 : ((k : Int) == 0) = Z := hZ
      rw [hE, hZ] at Hbad
      have hcase : (L = true ∧ T = true) ∨ (L = false ∧ E = true ∧ T = true) ∨ (L = false ∧ E = false ∧ Z = true ∧ T = false) ∨ (L = false ∧ E = false ∧ Z = false ∧ D = true ∧ T = true) ∨ (L = false ∧ E = false ∧ Z = false ∧ D = false ∧ M = true ∧ T = true) ∨ (L = false ∧ E = false ∧ Z = false ∧ D = false ∧ M = false ∧ T = false) := by
        have := Hbad.out
        revert this
        cases L <;> cases E <;> cases Z <;> cases D <;> cases M <;> cases T <;> simp
      clear Hbad
      rcases hcase with ⟨rfl, rfl⟩ | ⟨rfl, rfl, rfl⟩ | ⟨rfl, rfl, rfl, rfl⟩ | ⟨rfl, rfl, rfl, rfl, rfl⟩ | ⟨rfl, rfl, rfl, rfl, rfl, rfl⟩ | ⟨rfl, rfl, rfl, rfl, rfl, rfl⟩
      all_goals
        try simp only [Bool.not_true, Bool.not_false] at Ho
        try simp only [Bool.not_true, Bool.not_false] at hE3
        first
        | (have hh := hnext rfl
           clear hnext hstop
           go_wp2_with (first | (go_at_call 20; refine (HL.out _).mono ?_; rintro e w' ⟨rfl, rfl⟩) | (go_at_call 18; refine (HD.out _).mono ?_; rintro e w' ⟨rfl, rfl⟩) | (go_at_call 29; refine (HK.out _).mono ?_; rintro e w' ⟨rfl, rfl⟩))
           go_round
           case rel => exact ⟨k + 1, by omega, by go_num, hh⟩
           case measure => simp [intOf]; omega)
        | (have hh := hstop rfl
           clear hnext hstop
           subst hh
           go_wp2_with (first | (go_at_call 20; refine (HL.out _).mono ?_; rintro e w' ⟨rfl, rfl⟩) | (go_at_call 18; refine (HD.out _).mono ?_; rintro e w' ⟨rfl, rfl⟩) | (go_at_call 29; refine (HK.out _).mono ?_; rintro e w' ⟨rfl, rfl⟩))
           go_ret
           exact ⟨rfl, rfl⟩)
    · obtain rfl : k = s.size := by omega
      have hkd : decide ((s.size : Int) < (s.size : Int)) = false := decide_eq_false (by omega)
      have hr : r = decide (s.size ≠ 0) := by
        rw [Bool.eq_iff_iff, HB.out, decide_eq_true_eq]
        have hl := bl_len s
        constructor
        · rintro ⟨h, -⟩ h0
          exact h (List.length_eq_zero_iff.1 (by omega))
        · intro h
          refine ⟨fun e => h (by rw [← hl, e]; rfl), fun k c hk => ?_⟩
          obtain ⟨h1, rfl⟩ := get_gb hk
          exact hbef.out k h1
      have hq' := empty_toList s
      have hr2 : r = !decide (s.size = 0) := by rw [hr, ← decide_not]
      obtain ⟨z, hz⟩ : ∃ z, decide (s.size = 0) = z := ⟨_, rfl⟩
      rw [hz] at hq' hr2
      clear hz hr HB hbef
      subst hr2
      go_wp2_with fail
      go_ret
      exact ⟨by simp [hq'], rfl⟩
set_option maxHeartbeats 2000000 in
set_option maxRecDepth 100000 in
/-- How many bytes are so. -/
theorem run_any (g : Nat) (lb : Array Value) (p : UInt8 → Bool) (hg : PredB g lb p) (eg : ∀ args w, (callFunc g args).run Tryd.prog w = .ok (.enter g args) w) (s : ByteArray) (w : World) (hs : s.size ≤ 9223372036854775807) :
    Calls Tryd.prog 39 #[.string s, .func (.func g) #[] lb] w fun e w' => e = .returned (.int .i64 (((bl s).takeWhile p).length : Nat)) ∧ w' = w := by
  have HG := Lib.hid hg
  have HB := Lib.hid (Bare.while_at p (bl s))
  clear hg
  obtain ⟨r, hr⟩ : ∃ r, ((bl s).takeWhile p).length = r := ⟨_, rfl⟩
  rw [hr] at HB ⊢
  clear hr
  go_enter Tryd.func39, Tryd.ntmps39
  go_wp2_with fail
  go_loop [8] (fun c => ∃ k : Nat, k ≤ s.size ∧ c = .int .i64 k ∧ Hid (∀ j, j < k → p (gb s j) = true)) (fun c => s.size - (intOf c).toNat)
  case atStart => exact ⟨0, Nat.zero_le _, rfl, Lib.hid fun i hi => by omega⟩
  case round =>
    obtain ⟨k, hk, rfl, hbef⟩ := hrel
    by_cases hlt : k < s.size
    · have hkd : decide ((k : Int) < (s.size : Int)) = true := decide_eq_true (by omega)
      have hix := run_idx s k hlt
      have HP := Lib.hid (HG.out (gb s k))
      obtain ⟨T, hT⟩ : ∃ x, p (gb s k) = x := ⟨_, rfl⟩
      have hnext : T = true → Hid (∀ j, j < k + 1 → p (gb s j) = true) := fun hg => Lib.hid fun i hi => by
        by_cases hik : i < k
        · exact hbef.out i hik
        · obtain rfl : i = k := by omega
          rw [hT]; exact hg
      have hstop : T = false → r = k := fun hg => by
        refine HB.out k (by rw [bl_len]; exact hk) (fun j hj c hc => ?_) (fun c hc => ?_)
        · obtain ⟨_, rfl⟩ := get_gb hc
          exact hbef.out j hj
        · obtain ⟨_, rfl⟩ := get_gb hc
          rw [hT]; exact hg
      rw [hT] at HP
      obtain ⟨n, hn⟩ : ∃ x, (gb s k).toNat = x := ⟨_, rfl⟩
      rw [hn] at HP hix
      clear hT hn hbef
      cases T with
      | true =>
        have hh := hnext rfl
        clear hnext hstop
        go_wp2_with fail
        refine (HP.out _).mono ?_
        rintro e w' ⟨rfl, rfl⟩
        go_wp2_with fail
        go_round
        case rel => exact ⟨k + 1, by omega, by go_num, hh⟩
        case measure => simp [intOf]; omega
      | false =>
        have hh := hstop rfl
        clear hnext hstop
        subst hh
        go_wp2_with fail
        refine (HP.out _).mono ?_
        rintro e w' ⟨rfl, rfl⟩
        go_wp2_with fail
        go_ret
        exact ⟨rfl, rfl⟩
    · obtain rfl : k = s.size := by omega
      have hkd : decide ((s.size : Int) < (s.size : Int)) = false := decide_eq_false (by omega)
      have hr : r = s.size := HB.out s.size (by rw [bl_len]; exact Nat.le_refl _) (fun j hj c hc => by
        obtain ⟨_, rfl⟩ := get_gb hc
        exact hbef.out j hj) (fun c hc => by
        obtain ⟨h, _⟩ := get_gb hc
        omega)
      subst hr
      clear HB hbef
      go_wp2_with fail
      go_ret
      exact ⟨rfl, rfl⟩
/-- Whether all bytes are plain. -/
theorem fits3_any (s : ByteArray) (w : World) (hs : s.size ≤ 9223372036854775807) :
    Calls Tryd.prog 35 #[.string s] w fun e w' => e = .returned (.bool ((bl s).all Bare.plnB)) ∧ w' = w := by
  have HB := Lib.hid (all_gb s Bare.plnB)
  obtain ⟨r, hr⟩ : ∃ r, (bl s).all Bare.plnB = r := ⟨_, rfl⟩
  rw [hr] at HB ⊢
  clear hr
  go_enter Tryd.func35, Tryd.ntmps35
  go_wp2_with fail
  go_loop [6] (fun c => ∃ k : Nat, k ≤ s.size ∧ c = .int .i64 k ∧ Hid (∀ j, j < k → Bare.plnB (gb s j) = true)) (fun c => s.size - (intOf c).toNat)
  case atStart => exact ⟨0, Nat.zero_le _, rfl, Lib.hid fun i hi => by omega⟩
  case round =>
    obtain ⟨k, hk, rfl, hbef⟩ := hrel
    by_cases hlt : k < s.size
    · have hkd : decide ((k : Int) < (s.size : Int)) = true := decide_eq_true (by omega)
      have hix := run_idx s k hlt
      have HP := Lib.hid (plain_p (gb s k))
      obtain ⟨T, hT⟩ : ∃ x, Bare.plnB (gb s k) = x := ⟨_, rfl⟩
      have hnext : T = true → Hid (∀ j, j < k + 1 → Bare.plnB (gb s j) = true) := fun hg => Lib.hid fun i hi => by
        by_cases hik : i < k
        · exact hbef.out i hik
        · obtain rfl : i = k := by omega
          rw [hT]; exact hg
      have hstop : T = false → r = false := fun hg => by
        rw [Bool.eq_false_iff]
        intro h
        have := HB.out.1 h k hlt
        rw [hT, hg] at this; cases this
      rw [hT] at HP
      obtain ⟨n, hn⟩ : ∃ x, (gb s k).toNat = x := ⟨_, rfl⟩
      rw [hn] at HP hix
      clear hT hn hbef
      cases T with
      | true =>
        have hh := hnext rfl
        clear hnext hstop
        go_wp2_with (go_at_call 36; refine (HP.out _).mono ?_; rintro e w' ⟨rfl, rfl⟩)
        go_round
        case rel => exact ⟨k + 1, by omega, by go_num, hh⟩
        case measure => simp [intOf]; omega
      | false =>
        have hh := hstop rfl
        clear hnext hstop
        subst hh
        go_wp2_with (go_at_call 36; refine (HP.out _).mono ?_; rintro e w' ⟨rfl, rfl⟩)
        go_ret
        exact ⟨rfl, rfl⟩
    · obtain rfl : k = s.size := by omega
      have hkd : decide ((s.size : Int) < (s.size : Int)) = false := decide_eq_false (by omega)
      have hr : r = true := HB.out.2 hbef.out
      subst hr
      clear HB hbef
      go_wp2_with fail
      go_ret
      exact ⟨rfl, rfl⟩
theorem fits4_any (s : ByteArray) (w : World) : Calls Tryd.prog 37 #[.string s] w fun e w' => e = .returned (.bool true) ∧ w' = w := by
  go_enter Tryd.func37, Tryd.ntmps37
  go_wp2_with fail
  go_ret
  exact ⟨rfl, rfl⟩
end Go.Proofs.YtihmnkbkigkjjaaDoor
