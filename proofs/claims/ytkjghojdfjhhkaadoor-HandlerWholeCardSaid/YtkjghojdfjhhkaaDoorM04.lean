/- Names and methods. -/
import Derived.Test.YtkjghojdfjhhkaaDoorM03
set_option linter.unusedSimpArgs false
set_option linter.unusedVariables false
namespace Go.Proofs.YtkjghojdfjhhkaaDoor
open Go.RowKit Go.Shelf Go.Cs
attribute [local go_sem] Oper.semAt_some
/-- A function of a byte. -/
def PredB (g : Nat) (p : UInt8 → Bool) : Prop := ∀ (c : UInt8) (w : World), Calls Tryd.prog g #[.int .u8 (c.toNat : Nat)] w fun e w' => e = .returned (.bool (p c)) ∧ w' = w
theorem pred_no : PredB 78 (fun _ => false) := by
  intro c w
  go_enter Tryd.func78, Tryd.ntmps78
  go_wp2_with fail
  go_ret
  exact ⟨rfl, rfl⟩
theorem pred_upper : PredB 88 upperB := by
  intro c w
  unfold upperB
  obtain ⟨n, hn⟩ : ∃ n, c.toNat = n := ⟨_, rfl⟩
  rw [hn]
  clear hn
  by_cases h1 : 65 ≤ n
  · by_cases h2 : n ≤ 90
    · go_enter Tryd.func88, Tryd.ntmps88
      go_wp2_with fail
      go_ret
      exact ⟨by simp [h1, h2]; omega, rfl⟩
    · go_enter Tryd.func88, Tryd.ntmps88
      go_wp2_with fail
      go_ret
      exact ⟨by simp [h1, h2]; omega, rfl⟩
  · go_enter Tryd.func88, Tryd.ntmps88
    go_wp2_with fail
    go_ret
    exact ⟨by simp [show ¬ 65 ≤ n from h1], rfl⟩
/-- A text's bytes, in a row of their own. -/
theorem bytes_of (s : ByteArray) (w : World) : ∃ cap W', (convert 9 22 (.string s)).run Tryd.prog w = .ok (.slice (some ⟨w.heap.size, 0, none⟩) s.size cap) W' ∧ New w W' ∧
    ∀ (i : Nat) (h : i < s.size), W'.cell? ⟨w.heap.size, i, none⟩ = some (.int .u8 ((s[i]'h).toNat : Nat)) := by
  refine ⟨_, _, run_bytes_of_string w 9 22 5 s Tryd.underlying9 Tryd.underlying22 Tryd.underlying5, (Mods.refl _ _).drew.alloc _, fun i h => ?_⟩
  have hh := World.alloc_heap_new w.drew (.cells (bytesRow s (grownCap w s.size 0 5)) 5 ((bytesRow s (grownCap w s.size 0 5)).size, (bytesRow s (grownCap w s.size 0 5)).size + 1))
  rw [show w.drew.heap.size = w.heap.size from rfl] at hh
  have := bytesRow_at s (grownCap w s.size 0 5) i h
  unfold World.cell?
  rw [hh]
  exact this
set_option maxHeartbeats 2000000 in
set_option maxRecDepth 100000 in
theorem token_any (g : Nat) (p : UInt8 → Bool) (hg : PredB g p) (eg : ∀ args w, (callFunc g args).run Tryd.prog w = .ok (.enter g args) w) (s : ByteArray) (w : World) (hs : s.size ≤ 9223372036854775807) :
    Calls Tryd.prog 77 #[.string s, .func (.func g) #[] #[]] w fun e w' => e = .returned (.bool (tokenB p s.data.toList)) ∧ New w w' := by
  have HG := Lib.hid hg
  clear hg
  obtain ⟨cap, W', hcv, hN, hc⟩ := bytes_of s w
  have HC := Lib.hid hc
  clear hc
  have HB : Hid (tokenB p s.data.toList = (s.data.toList.all (fun c => smallB c || p c) && !s.data.toList.isEmpty)) := Lib.hid rfl
  obtain ⟨r, hr⟩ : ∃ r, tokenB p s.data.toList = r := ⟨_, rfl⟩
  rw [hr] at HB ⊢
  clear hr
  go_enter Tryd.func77, Tryd.ntmps77
  go_wp2_with fail
  go_loop [10] (fun c => ∃ k : Nat, k ≤ s.size ∧ c = .int .i64 k ∧ Hid (∀ (i : Nat) (h : i < s.size), i < k → (smallB s[i] || p s[i]) = true)) (fun c => s.size - (intOf c).toNat)
  case atStart => exact ⟨0, Nat.zero_le _, rfl, Lib.hid fun i h hi => by omega⟩
  case round =>
    obtain ⟨k, hk, rfl, hbef⟩ := hrel
    by_cases hlt : k < s.size
    · have hcell := HC.out k hlt
      have hx := Lib.data_getElem? s k hlt
      obtain ⟨x, hxx⟩ : ∃ x : UInt8, s[k]'hlt = x := ⟨_, rfl⟩
      rw [hxx] at hcell hx
      have Hx := Lib.hid hx
      have Hxx := Lib.hid hxx
      clear hx hxx
      have hnext : (smallB x || p x) = true → Hid (∀ (i : Nat) (h : i < s.size), i < k + 1 → (smallB s[i] || p s[i]) = true) := fun hg => Lib.hid fun i h hi => by
        by_cases hik : i < k
        · exact hbef.out i h hik
        · obtain rfl : i = k := by omega
          rw [Hxx.out]; exact hg
      have hstop : (smallB x || p x) = false → r = false := fun hg => by
        rw [HB.out]
        have : (s.data.toList.all fun c => smallB c || p c) = false := by
          rw [List.all_eq_false]
          exact ⟨x, List.mem_of_getElem? Hx.out, by rw [hg]; simp⟩
        rw [this, Bool.false_and]
      clear hbef
      have Hsm : Hid (smallB x = ((decide (97 ≤ x.toNat) && decide (x.toNat ≤ 122)) || ((decide (48 ≤ x.toNat) && decide (x.toNat ≤ 57)) || marks.contains x))) := Lib.hid rfl
      have Hcon := Lib.hid (Lib.contains_iff_indexByte marks x)
      have hback : ((x.toNat : Int)).toNat.toUInt8 = x := by simp
      obtain ⟨n, hn⟩ : ∃ n, x.toNat = n := ⟨_, rfl⟩
      rw [hn] at hcell hback
      have hg' := HG.out x
      rw [hn] at hg'
      have HG' := Lib.hid hg'
      clear hg'
      rw [hn] at Hsm
      obtain ⟨sm, hsm⟩ : ∃ b, smallB x = b := ⟨_, rfl⟩
      rw [hsm] at Hsm hnext hstop
      obtain ⟨px, hpx⟩ : ∃ b, p x = b := ⟨_, rfl⟩
      rw [hpx] at HG' hnext hstop
      clear hsm hpx hn Hx Hxx
      have HK : ∀ W, Calls Tryd.prog 93 #[.string ⟨#[33, 35, 36, 37, 38, 39, 42, 43, 45, 46, 94, 95, 96, 124, 126]⟩, .int .u8 (n : Nat)] W fun e w' => e = .returned (.int .i64 (Lib.indexByte marks x)) ∧ w' = W := fun W =>
        (Tryd.strings_IndexByte _ _ W).mono (by rintro e w' ⟨rfl, hw⟩; rw [hback]; exact ⟨rfl, hw⟩)
      have HK := Lib.hid HK
      clear hback
      obtain ⟨o, ho⟩ : ∃ o, Lib.indexByte marks x = o := ⟨_, rfl⟩
      obtain ⟨mk, hmk⟩ : ∃ b, marks.contains x = b := ⟨_, rfl⟩
      rw [ho] at HK Hcon
      rw [hmk] at Hcon Hsm
      clear ho hmk
      have hall : (97 ≤ n ∧ n ≤ 122) ∨ (48 ≤ n ∧ n ≤ 57) ∨ (n < 48 ∨ (57 < n ∧ n < 97) ∨ 122 < n) := by omega
      rcases hall with h1 | h1 | h1
      · have hs : sm = true := by rw [Hsm.out]; simp [h1.1, h1.2]
        have hh := hnext (by rw [hs]; rfl)
        obtain ⟨h1, h2⟩ := h1
        clear hs hnext hstop
        go_wp2_with fail
        go_round
        case rel => exact ⟨k + 1, by omega, by go_num, hh⟩
        case measure => simp [intOf]; omega
      · have hs : sm = true := by rw [Hsm.out]; simp [h1.1, h1.2]
        have hh := hnext (by rw [hs]; rfl)
        obtain ⟨h1, h2⟩ := h1
        clear hs hnext hstop
        go_wp2_with fail
        go_round
        case rel => exact ⟨k + 1, by omega, by go_num, hh⟩
        case measure => simp [intOf]; omega
      · have hs : sm = mk := by
          rw [Hsm.out]
          have e1 : (decide (97 ≤ n) && decide (n ≤ 122)) = false := by simp; omega
          have e2 : (decide (48 ≤ n) && decide (n ≤ 57)) = false := by simp; omega
          rw [e1, e2]; simp
        cases mk with
        | true =>
          have hh := hnext (by rw [hs]; rfl)
          have hge : decide (0 ≤ o) = true := Hcon.out.symm
          clear hs hnext hstop
          rcases h1 with h1 | ⟨h1, h2⟩ | h1
          · have d1 : decide ((97 : Int) ≤ (n : Int)) = false := decide_eq_false (by omega)
            have d3 : decide ((48 : Int) ≤ (n : Int)) = false := decide_eq_false (by omega)
            go_wp2_with (go_at_call 93; refine (HK.out _).mono ?_; rintro e w' ⟨rfl, rfl⟩)
            go_round
            case rel => exact ⟨k + 1, by omega, by go_num, hh⟩
            case measure => simp [intOf]; omega
          · have d1 : decide ((97 : Int) ≤ (n : Int)) = false := decide_eq_false (by omega)
            have d3 : decide ((48 : Int) ≤ (n : Int)) = true := decide_eq_true (by omega)
            have d4 : decide ((n : Int) ≤ 57) = false := decide_eq_false (by omega)
            go_wp2_with (go_at_call 93; refine (HK.out _).mono ?_; rintro e w' ⟨rfl, rfl⟩)
            go_round
            case rel => exact ⟨k + 1, by omega, by go_num, hh⟩
            case measure => simp [intOf]; omega
          · have d1 : decide ((97 : Int) ≤ (n : Int)) = true := decide_eq_true (by omega)
            have d2 : decide ((n : Int) ≤ 122) = false := decide_eq_false (by omega)
            have d3 : decide ((48 : Int) ≤ (n : Int)) = true := decide_eq_true (by omega)
            have d4 : decide ((n : Int) ≤ 57) = false := decide_eq_false (by omega)
            go_wp2_with (go_at_call 93; refine (HK.out _).mono ?_; rintro e w' ⟨rfl, rfl⟩)
            go_round
            case rel => exact ⟨k + 1, by omega, by go_num, hh⟩
            case measure => simp [intOf]; omega
        | false =>
          have hlo : decide (0 ≤ o) = false := Hcon.out.symm
          subst hs
          cases px with
          | true =>
            have hh := hnext rfl
            clear hnext hstop
            rcases h1 with h1 | ⟨h1, h2⟩ | h1
            · have d1 : decide ((97 : Int) ≤ (n : Int)) = false := decide_eq_false (by omega)
              have d3 : decide ((48 : Int) ≤ (n : Int)) = false := decide_eq_false (by omega)
              go_wp2_with (first | (go_at_call 93; refine (HK.out _).mono ?_; rintro e w' ⟨rfl, rfl⟩) | (refine (HG'.out _).mono ?_; rintro e w' ⟨rfl, rfl⟩))
              go_round
              case rel => exact ⟨k + 1, by omega, by go_num, hh⟩
              case measure => simp [intOf]; omega
            · have d1 : decide ((97 : Int) ≤ (n : Int)) = false := decide_eq_false (by omega)
              have d3 : decide ((48 : Int) ≤ (n : Int)) = true := decide_eq_true (by omega)
              have d4 : decide ((n : Int) ≤ 57) = false := decide_eq_false (by omega)
              go_wp2_with (first | (go_at_call 93; refine (HK.out _).mono ?_; rintro e w' ⟨rfl, rfl⟩) | (refine (HG'.out _).mono ?_; rintro e w' ⟨rfl, rfl⟩))
              go_round
              case rel => exact ⟨k + 1, by omega, by go_num, hh⟩
              case measure => simp [intOf]; omega
            · have d1 : decide ((97 : Int) ≤ (n : Int)) = true := decide_eq_true (by omega)
              have d2 : decide ((n : Int) ≤ 122) = false := decide_eq_false (by omega)
              have d3 : decide ((48 : Int) ≤ (n : Int)) = true := decide_eq_true (by omega)
              have d4 : decide ((n : Int) ≤ 57) = false := decide_eq_false (by omega)
              go_wp2_with (first | (go_at_call 93; refine (HK.out _).mono ?_; rintro e w' ⟨rfl, rfl⟩) | (refine (HG'.out _).mono ?_; rintro e w' ⟨rfl, rfl⟩))
              go_round
              case rel => exact ⟨k + 1, by omega, by go_num, hh⟩
              case measure => simp [intOf]; omega
          | false =>
            have hh := hstop rfl
            clear hnext hstop
            rcases h1 with h1 | ⟨h1, h2⟩ | h1
            · have d1 : decide ((97 : Int) ≤ (n : Int)) = false := decide_eq_false (by omega)
              have d3 : decide ((48 : Int) ≤ (n : Int)) = false := decide_eq_false (by omega)
              go_wp2_with (first | (go_at_call 93; refine (HK.out _).mono ?_; rintro e w' ⟨rfl, rfl⟩) | (refine (HG'.out _).mono ?_; rintro e w' ⟨rfl, rfl⟩))
              go_ret
              exact ⟨by rw [hh]; rfl, hN⟩
            · have d1 : decide ((97 : Int) ≤ (n : Int)) = false := decide_eq_false (by omega)
              have d3 : decide ((48 : Int) ≤ (n : Int)) = true := decide_eq_true (by omega)
              have d4 : decide ((n : Int) ≤ 57) = false := decide_eq_false (by omega)
              go_wp2_with (first | (go_at_call 93; refine (HK.out _).mono ?_; rintro e w' ⟨rfl, rfl⟩) | (refine (HG'.out _).mono ?_; rintro e w' ⟨rfl, rfl⟩))
              go_ret
              exact ⟨by rw [hh]; rfl, hN⟩
            · have d1 : decide ((97 : Int) ≤ (n : Int)) = true := decide_eq_true (by omega)
              have d2 : decide ((n : Int) ≤ 122) = false := decide_eq_false (by omega)
              have d3 : decide ((48 : Int) ≤ (n : Int)) = true := decide_eq_true (by omega)
              have d4 : decide ((n : Int) ≤ 57) = false := decide_eq_false (by omega)
              go_wp2_with (first | (go_at_call 93; refine (HK.out _).mono ?_; rintro e w' ⟨rfl, rfl⟩) | (refine (HG'.out _).mono ?_; rintro e w' ⟨rfl, rfl⟩))
              go_ret
              exact ⟨by rw [hh]; rfl, hN⟩
    · obtain rfl : k = s.size := by omega
      have hR : r = !s.data.toList.isEmpty := by
        rw [HB.out]
        have : (s.data.toList.all fun c => smallB c || p c) = true := by
          rw [List.all_eq_true]
          intro x hx
          obtain ⟨i, hi⟩ := List.getElem?_of_mem hx
          obtain ⟨h1, h2⟩ := get_list s i x hi
          have := hbef.out i h2 h2
          have e := Lib.data_getElem? s i h2
          rw [hi] at e
          rw [← Option.some.inj e] at this
          exact this
        rw [this, Bool.true_and]
      have Hr := Lib.hid hR
      clear hR hbef
      go_wp2_with fail
      go_ret
      exact ⟨by rw [Hr.out]; simp [Lib.toList_data], hN⟩
theorem name_any (s : ByteArray) (w : World) (hs : s.size ≤ 9223372036854775807) :
    Calls Tryd.prog 42 #[.string s] w fun e w' => e = .returned (.bool (nameB s.data.toList)) ∧ New w w' := by
  have H := Lib.hid (fun w => token_any 78 _ pred_no (enters_of Tryd.func78 (by kernel_rfl) rfl) s w hs)
  clear hs
  go_enter Tryd.func42, Tryd.ntmps42
  go_wp2_with (go_at_call 77; refine (H.out _).mono ?_; rintro e w' ⟨rfl, hN⟩)
  go_ret
  exact ⟨rfl, hN⟩
theorem method_any (s : ByteArray) (w : World) (hs : s.size ≤ 9223372036854775807) :
    Calls Tryd.prog 69 #[.string s] w fun e w' => e = .returned (.bool (methodB s.data.toList)) ∧ New w w' := by
  have H := Lib.hid (fun w => token_any 88 _ pred_upper (enters_of Tryd.func88 (by kernel_rfl) rfl) s w hs)
  clear hs
  go_enter Tryd.func69, Tryd.ntmps69
  go_wp2_with (go_at_call 77; refine (H.out _).mono ?_; rintro e w' ⟨rfl, hN⟩)
  go_ret
  exact ⟨rfl, hN⟩
end Go.Proofs.YtkjghojdfjhhkaaDoor
