/- RequestBytes, walked. -/
import Derived.Test.YtkjghojdfjhhkaaDoorM18
set_option linter.unusedSimpArgs false
set_option linter.unusedVariables false
namespace Go.Proofs.YtkjghojdfjhhkaaDoor
open Go.RowKit Go.Shelf Go.Cs
attribute [local go_sem] Oper.semAt_some
def notBad (c : UInt8) : Bool := !bads.contains c
/-- The bytes so far. -/
def soFar (p : UInt8 → Bool) (s : ByteArray) (k : Nat) : Bool := (s.data.toList.take k).all p
theorem soFar_0 (p : UInt8 → Bool) (s : ByteArray) : soFar p s 0 = true := rfl
theorem soFar_all (p : UInt8 → Bool) (s : ByteArray) : soFar p s s.size = s.data.toList.all p := by
  unfold soFar
  rw [List.take_of_length_le (by simp)]
theorem soFar_step (p : UInt8 → Bool) (s : ByteArray) (k : Nat) (h : k < s.size) : soFar p s (k + 1) = (soFar p s k && p (gb s k)) := by
  have e := Lib.data_getElem? s k h
  rw [gb_eq s k h] at e
  unfold soFar
  rw [List.take_add_one, e, List.all_append]
  simp
theorem one_list (s : ByteArray) (k : Nat) (h : k < s.size) : (s.extract k (k + 1)).data.toList = [gb s k] := by
  have e := Lib.data_getElem? s k h
  rw [gb_eq s k h] at e
  have hl : s.data.toList.length = s.size := by simp
  rw [ByteArray.data_extract, Array.toList_extract]
  rw [List.extract_eq_take_drop, Nat.add_sub_cancel_left]
  rw [List.drop_eq_getElem_cons (by omega)]
  rw [List.getElem?_eq_getElem (by omega)] at e
  rw [Option.some.inj e]
  rfl
theorem value_ones : ∀ k : Fin 256, (valueB [UInt8.ofNat k.1] || (decide (((UInt8.ofNat k.1).toNat : Int) = 32) || decide (((UInt8.ofNat k.1).toNat : Int) = 9))) = notBad (UInt8.ofNat k.1) ∧ valueB [UInt8.ofNat k.1] = (notBad (UInt8.ofNat k.1) && !blanks.contains (UInt8.ofNat k.1)) := by decide +kernel
theorem value_one (c : UInt8) : (valueB [c] || (decide ((c.toNat : Int) = 32) || decide ((c.toNat : Int) = 9))) = notBad c ∧ valueB [c] = (notBad c && !blanks.contains c) := by
  have h := value_ones ⟨c.toNat, UInt8.toNat_lt _⟩
  rw [show UInt8.ofNat c.toNat = c from UInt8.ofNat_toNat] at h
  exact h
theorem name_one (c : UInt8) : nameB [c] = smallB c := by simp [nameB, tokenB]
theorem nameB_all (s : ByteArray) : nameB s.data.toList = (s.data.toList.all smallB && decide (0 < s.size)) := by
  show ((s.data.toList.all fun c => smallB c || false) && !s.data.toList.isEmpty) = _
  rw [empty_size]
  simp
theorem nameB_app (s t : ByteArray) : nameB (s ++ t).data.toList = (s.data.toList.all smallB && ((decide (t.size = 0) || nameB t.data.toList) && decide (0 < s.size + t.size))) := by
  rw [nameB_all, nameB_all, ByteArray.data_append, Array.toList_append, List.all_append, ByteArray.size_append]
  by_cases h : t.size = 0
  · have e : t.data.toList = [] := List.length_eq_zero_iff.1 (by simpa using h)
    rw [e, h]
    simp
  · have e : decide (0 < t.size) = true := decide_eq_true (by omega)
    have e2 : decide (0 < s.size + t.size) = true := decide_eq_true (by omega)
    rw [e, e2, decide_eq_false h]
    simp
theorem valueB_all (s : ByteArray) : valueB s.data.toList = (s.data.toList.all notBad && (decide (s.size = 0) || (valueB [gb s 0] && valueB [gb s (s.size - 1)]))) := by
  rw [valueB_ends]
  have hl : s.data.toList.length = s.size := by simp
  by_cases h : s.size = 0
  · have e : s.data.toList = [] := List.length_eq_zero_iff.1 (by omega)
    rw [e, h]
    rfl
  · have e1 : s.data.toList.isEmpty = false := by
      cases hs : s.data.toList with
      | nil => rw [hs] at hl; simp at hl; omega
      | cons a t => rfl
    rw [e1, decide_eq_false h, hl, (value_one _).2, (value_one _).2]
    show (s.data.toList.all notBad && (false || (!blanks.contains (gb s 0) && !blanks.contains (gb s (s.size - 1))))) = _
    cases ha : s.data.toList.all notBad with
    | false => rfl
    | true =>
      rw [(all_gb s notBad).1 ha 0 (by omega), (all_gb s notBad).1 ha (s.size - 1) (by omega)]
      simp
set_option maxHeartbeats 4000000 in
set_option maxRecDepth 100000 in
theorem bytes_law (s t : ByteArray) (w : World) (hs : s.size ≤ 9223372036854775807) (ht : t.size ≤ 9223372036854775807) (hT : Tab w) :
    Calls Tryd.prog 10 #[.string s, .string t] w fun e w' => e = .returned (.bool true) ∧ New w w' := by
  have HW := Lib.hid (fun W (hN : New w W) => (wakes_any W (hT.new hN)).mono fun e w' h => show e = .returned (.bool true) ∧ New w w' from ⟨h.1, hN.trans h.2⟩)
  have hN0 : New w w := Mods.refl _ _
  clear hT
  by_cases hgreat : 100 < s.size ∨ 100 < t.size
  · have hd : Hid (decide ((100 : Int) < (s.size : Int)) = true ∨ (decide ((100 : Int) < (s.size : Int)) = false ∧ decide ((100 : Int) < (t.size : Int)) = true)) := Lib.hid (by
      simp only [decide_eq_false_iff_not, decide_eq_true_eq]
      omega)
    clear hgreat
    go_enter Tryd.func10, Tryd.ntmps10
    rcases hd.out with d1 | ⟨d1, d2⟩
    · go_wp2_with fail
      refine (HW.out _ hN0).mono ?_
      rintro e w1 ⟨rfl, hN1⟩
      go_wp2_with fail
      go_ret
      exact ⟨rfl, hN1⟩
    · go_wp2_with fail
      refine (HW.out _ hN0).mono ?_
      rintro e w1 ⟨rfl, hN1⟩
      go_wp2_with fail
      go_ret
      exact ⟨rfl, hN1⟩
  have hs1 : s.size ≤ 100 := by omega
  have ht1 : t.size ≤ 100 := by omega
  have d1 : decide ((100 : Int) < (s.size : Int)) = false := decide_eq_false (by omega)
  have d2 : decide ((100 : Int) < (t.size : Int)) = false := decide_eq_false (by omega)
  clear hgreat hs ht
  have HNm := Lib.hid (fun (x : ByteArray) (b : Bool) (hb : nameB x.data.toList = b) (hx : x.size ≤ 1000) W (hN : New w W) => (name_any x W (by omega)).mono fun e w' h => show e = .returned (.bool b) ∧ New w w' from ⟨by rw [h.1, hb], hN.trans h.2⟩)
  have HVl := Lib.hid (fun (x : ByteArray) (b : Bool) (hb : valueB x.data.toList = b) (hx : x.size ≤ 1000) W (hN : New w W) => (value_any x W (by omega)).mono fun e w' h => show e = .returned (.bool b) ∧ New w w' from ⟨by rw [h.1, hb], hN.trans h.2⟩)
  go_enter Tryd.func10, Tryd.ntmps10
  go_wp2_with fail
  go_loopw [5, 6, 7] (fun a b c wr => ∃ k : Nat, k ≤ s.size ∧ c = .int .i64 k ∧ a = .bool (soFar smallB s k) ∧ b = .bool (soFar notBad s k) ∧ New w wr) (fun _ _ c _ => s.size - (intOf c).toNat)
  case atStart => exact ⟨0, Nat.zero_le _, rfl, rfl, rfl, hN0⟩
  case round =>
    obtain ⟨k, hk, rfl, rfl, rfl, hN⟩ := hrel
    by_cases hlt : k < s.size
    · have hkd : decide ((k : Int) < (s.size : Int)) = true := decide_eq_true (by omega)
      have hix := run_idx s k hlt
      have hsl : ∀ W, (Instr.slice 9 (.string s) (some (.int .i64 (k : Int))) (some (.int .i64 ((k : Int) + 1))) none).run Tryd.prog W = .ok (.string (s.extract k (k + 1))) W := fun W => by
        rw [run_slice_string_if W 9 s .i64 .i64 _ _ Tryd.underlying9, if_pos (by omega), if_pos (by omega)]
        congr 1
      have h1 := one_list s k hlt
      have hz1 : (s.extract k (k + 1)).size ≤ 1000 := by rw [ByteArray.size_extract]; omega
      obtain ⟨x, hx⟩ : ∃ x, s.extract k (k + 1) = x := ⟨_, rfl⟩
      rw [hx] at hsl h1 hz1
      have hv := value_one (gb s k)
      have HNx := Lib.hid (HNm.out x _ (by rw [h1, name_one]) hz1)
      have HVx := Lib.hid (HVl.out x _ (by rw [h1]) hz1)
      have HS1 := Lib.hid (soFar_step smallB s k hlt)
      have HS2 := Lib.hid (soFar_step notBad s k hlt)
      rw [← hv.1] at HS2
      clear hx h1 hz1 hv
      obtain ⟨g, hg⟩ : ∃ x, (gb s k).toNat = x := ⟨_, rfl⟩
      rw [hg] at HS2 hix
      obtain ⟨y, hy⟩ : ∃ x, smallB (gb s k) = x := ⟨_, rfl⟩
      obtain ⟨z, hz⟩ : ∃ x, valueB [gb s k] = x := ⟨_, rfl⟩
      rw [hy] at HS1 HNx
      rw [hz] at HS2 HVx
      clear hg hy hz
      obtain ⟨c1, hc1⟩ : ∃ x, decide ((g : Int) = 32) = x := ⟨_, rfl⟩
      obtain ⟨c2, hc2⟩ : ∃ x, decide ((g : Int) = 9) = x := ⟨_, rfl⟩
      rw [hc1, hc2] at HS2
      have hb1 : ((g : Int) == 32) = c1 := hc1
      have hb2 : ((g : Int) == 9) = c2 := hc2
      obtain ⟨n0, hn0⟩ : ∃ x, soFar smallB s k = x := ⟨_, rfl⟩
      obtain ⟨v0, hv0⟩ : ∃ x, soFar notBad s k = x := ⟨_, rfl⟩
      rw [hn0] at HS1 ⊢
      rw [hv0] at HS2 ⊢
      clear hn0 hv0
      have fin : ∀ W, New w W → True := fun _ _ => trivial
      cases n0 <;> cases v0 <;> cases z <;> cases c1 <;> cases c2
      all_goals
        go_wp2_with (first | (go_at_call 42; refine (HNx.out _ (by assumption)).mono ?_; rintro e w1 ⟨rfl, hN1⟩) | (go_at_call 44; refine (HVx.out _ (by assumption)).mono ?_; rintro e w2 ⟨rfl, hN2⟩))
        go_roundw
        case rel => exact ⟨k + 1, by omega, by go_num, by rw [HS1.out]; rfl, by rw [HS2.out]; rfl, by assumption⟩
        case measure => simp [intOf]; omega
    · obtain rfl : k = s.size := by omega
      have hkd : decide ((s.size : Int) < (s.size : Int)) = false := decide_eq_false (by omega)
      rw [soFar_all, soFar_all]
      have hna := nameB_all s
      have hva := valueB_all s
      have hnt := nameB_app s t
      have hcat : ∀ W, (binOp .add 9 (.string s) (.string t)).run Tryd.prog W = .ok (.string (s ++ t)) W := fun W => by rw [binOp_string_add]; exact run_string_add_sum W s t (by omega)
      have hxz : (s ++ t).size = s.size + t.size := ByteArray.size_append
      obtain ⟨nt, hntt⟩ : ∃ x, nameB t.data.toList = x := ⟨_, rfl⟩
      rw [hntt] at hnt
      have HNt := Lib.hid (HNm.out t _ hntt (by omega))
      obtain ⟨A, hA⟩ : ∃ x, s.data.toList.all smallB = x := ⟨_, rfl⟩
      obtain ⟨B, hB⟩ : ∃ x, s.data.toList.all notBad = x := ⟨_, rfl⟩
      rw [hA] at hna hnt ⊢
      rw [hB] at hva ⊢
      by_cases h0 : s.size = 0
      · have hs0 : s.data.toList = [] := List.length_eq_zero_iff.1 (by simpa using h0)
        obtain rfl : A = true := by rw [← hA, hs0]; rfl
        obtain rfl : B = true := by rw [← hB, hs0]; rfl
        have e0 : decide ((s.size : Int) = 0) = true := decide_eq_true (by omega)
        have e1 : ((s.size : Int) == 0) = true := e0
        have e2 : decide (0 < (s.size : Int)) = false := decide_eq_false (by omega)
        obtain ⟨tz, htz⟩ : ∃ x, decide (t.size = 0) = x := ⟨_, rfl⟩
        have htz1 : decide ((t.size : Int) = 0) = tz := by rw [← htz]; exact decide_eq_decide.2 (by omega)
        have htz2 : ((t.size : Int) == 0) = tz := htz1
        have htz3 : decide (0 < ((s ++ t).size : Int)) = !tz := by
          rw [← htz, ← decide_not]; exact decide_eq_decide.2 (by omega)
        have htz5 : decide (0 < (t.size : Int)) = !tz := by
          rw [← htz, ← decide_not]; exact decide_eq_decide.2 (by omega)
        have htz6 : decide (0 < t.size) = !tz := by
          rw [← htz, ← decide_not]; exact decide_eq_decide.2 (by omega)
        have htz4 : decide (0 < s.size + t.size) = !tz := by
          rw [← htz, ← decide_not]; exact decide_eq_decide.2 (by omega)
        rw [htz, htz4] at hnt
        rw [h0] at hna hva
        obtain ⟨bst, hbst⟩ : ∃ x, (true && ((tz || nt) && !tz)) = x := ⟨_, rfl⟩
        rw [hbst] at hnt
        have HNst := Lib.hid (HNm.out (s ++ t) _ hnt (by omega))
        have HNs := Lib.hid (HNm.out s _ hna (by omega))
        have HVs := Lib.hid (HVl.out s _ hva (by omega))
        clear hA hB hntt htz htz4 hna hva hnt HNm HVl
        cases tz <;> cases nt <;> simp only [Bool.not_true, Bool.not_false] at htz3 htz5 htz6 <;> cases bst <;> simp at hbst
        all_goals
          go_wp2_with (first | (go_at_call 42; (with_reducible refine (HNs.out _ (by assumption)).mono ?_); rintro e w1 ⟨rfl, hN1⟩) | (go_at_call 42; (with_reducible refine (HNst.out _ (by assumption)).mono ?_); rintro e w1 ⟨rfl, hN1⟩) | (go_at_call 42; (with_reducible refine (HNt.out _ (by assumption)).mono ?_); rintro e w1 ⟨rfl, hN1⟩) | (go_at_call 44; (with_reducible refine (HVs.out _ (by assumption)).mono ?_); rintro e w1 ⟨rfl, hN1⟩) | (go_at_call 35; refine (HW.out _ (by assumption)).mono ?_; rintro e w1 ⟨rfl, hN1⟩))
          all_goals
            go_ret
            exact ⟨rfl, by assumption⟩
      · have d0 : decide (s.size = 0) = false := decide_eq_false h0
        have d0' : decide (0 < s.size) = true := decide_eq_true (by omega)
        have d0'' : decide (0 < s.size + t.size) = true := decide_eq_true (by omega)
        have e0 : decide ((s.size : Int) = 0) = false := decide_eq_false (by omega)
        have e1 : ((s.size : Int) == 0) = false := decide_eq_false (by omega)
        have e2 : decide (0 < (s.size : Int)) = true := decide_eq_true (by omega)
        have e3 : decide (0 < ((s ++ t).size : Int)) = true := decide_eq_true (by omega)
        have hsl0 : ∀ W, (Instr.slice 9 (.string s) none (some (.int .i64 1)) none).run Tryd.prog W = .ok (.string (s.extract 0 (0 + 1))) W := fun W => run_slice_string_h W 9 s Tryd.underlying9 .i64 1 (by omega) (by omega)
        have hsl1 : ∀ W, (Instr.slice 9 (.string s) (some (.int .i64 ((s.size : Int) - 1))) none none).run Tryd.prog W = .ok (.string (s.extract (s.size - 1) (s.size - 1 + 1))) W := fun W => by
          rw [run_slice_string_l W 9 s Tryd.underlying9 .i64 _ (by omega) (by omega)]
          congr 3 <;> omega
        have h1 := one_list s 0 (by omega)
        have h2 := one_list s (s.size - 1) (by omega)
        have hz1 : (s.extract 0 (0 + 1)).size ≤ 1000 := by rw [ByteArray.size_extract]; omega
        have hz2 : (s.extract (s.size - 1) (s.size - 1 + 1)).size ≤ 1000 := by rw [ByteArray.size_extract]; omega
        obtain ⟨x, hx⟩ : ∃ x, s.extract 0 (0 + 1) = x := ⟨_, rfl⟩
        obtain ⟨y, hy⟩ : ∃ x, s.extract (s.size - 1) (s.size - 1 + 1) = x := ⟨_, rfl⟩
        rw [hx] at hsl0 h1 hz1
        rw [hy] at hsl1 h2 hz2
        obtain ⟨f, hf⟩ : ∃ x, valueB [gb s 0] = x := ⟨_, rfl⟩
        obtain ⟨l, hl⟩ : ∃ x, valueB [gb s (s.size - 1)] = x := ⟨_, rfl⟩
        rw [hf, hl, d0] at hva
        rw [d0'] at hna
        rw [d0''] at hnt
        obtain ⟨tz, htz⟩ : ∃ x, decide (t.size = 0) = x := ⟨_, rfl⟩
        have htz1 : decide ((t.size : Int) = 0) = tz := by rw [← htz]; exact decide_eq_decide.2 (by omega)
        have htz2 : ((t.size : Int) == 0) = tz := htz1
        rw [htz] at hnt
        have HNst := Lib.hid (HNm.out (s ++ t) _ hnt (by omega))
        have HNs := Lib.hid (HNm.out s _ hna (by omega))
        have HVs := Lib.hid (HVl.out s _ hva (by omega))
        have HV0 := Lib.hid (HVl.out x _ (by rw [h1, hf]) hz1)
        have HV1 := Lib.hid (HVl.out y _ (by rw [h2, hl]) hz2)
        clear hA hB hntt hx hy hf hl htz d0 d0' d0'' hna hva hnt h1 h2 hz1 hz2 HNm HVl
        have hfl : (f = false) ∨ (f = true ∧ l = false) ∨ (f = true ∧ l = true) := by cases f <;> cases l <;> simp
        have htt : (tz = true) ∨ (tz = false ∧ nt = false) ∨ (tz = false ∧ nt = true) := by cases tz <;> cases nt <;> simp
        rcases hfl with rfl | ⟨rfl, rfl⟩ | ⟨rfl, rfl⟩
        all_goals
          go_upto_region 10 with (first | (go_at_call 42; (with_reducible refine (HNs.out _ (by assumption)).mono ?_); rintro e w1 ⟨rfl, hN1⟩) | (go_at_call 42; (with_reducible refine (HNst.out _ (by assumption)).mono ?_); rintro e w1 ⟨rfl, hN1⟩) | (go_at_call 42; (with_reducible refine (HNt.out _ (by assumption)).mono ?_); rintro e w1 ⟨rfl, hN1⟩) | (go_at_call 44; (with_reducible refine (HVs.out _ (by assumption)).mono ?_); rintro e w1 ⟨rfl, hN1⟩) | (go_at_call 44; (with_reducible refine (HV0.out _ (by assumption)).mono ?_); rintro e w1 ⟨rfl, hN1⟩) | (go_at_call 44; (with_reducible refine (HV1.out _ (by assumption)).mono ?_); rintro e w1 ⟨rfl, hN1⟩) | (go_at_call 35; refine (HW.out _ (by assumption)).mono ?_; rintro e w1 ⟨rfl, hN1⟩))
          cases A <;> cases B
          all_goals
            go_upto_region 12 with (first | (go_at_call 42; (with_reducible refine (HNs.out _ (by assumption)).mono ?_); rintro e w1 ⟨rfl, hN1⟩) | (go_at_call 42; (with_reducible refine (HNst.out _ (by assumption)).mono ?_); rintro e w1 ⟨rfl, hN1⟩) | (go_at_call 42; (with_reducible refine (HNt.out _ (by assumption)).mono ?_); rintro e w1 ⟨rfl, hN1⟩) | (go_at_call 44; (with_reducible refine (HVs.out _ (by assumption)).mono ?_); rintro e w1 ⟨rfl, hN1⟩) | (go_at_call 44; (with_reducible refine (HV0.out _ (by assumption)).mono ?_); rintro e w1 ⟨rfl, hN1⟩) | (go_at_call 44; (with_reducible refine (HV1.out _ (by assumption)).mono ?_); rintro e w1 ⟨rfl, hN1⟩) | (go_at_call 35; refine (HW.out _ (by assumption)).mono ?_; rintro e w1 ⟨rfl, hN1⟩))
            go_wp2_with (first | (go_at_call 42; (with_reducible refine (HNs.out _ (by assumption)).mono ?_); rintro e w1 ⟨rfl, hN1⟩) | (go_at_call 42; (with_reducible refine (HNst.out _ (by assumption)).mono ?_); rintro e w1 ⟨rfl, hN1⟩) | (go_at_call 42; (with_reducible refine (HNt.out _ (by assumption)).mono ?_); rintro e w1 ⟨rfl, hN1⟩) | (go_at_call 44; (with_reducible refine (HVs.out _ (by assumption)).mono ?_); rintro e w1 ⟨rfl, hN1⟩) | (go_at_call 44; (with_reducible refine (HV0.out _ (by assumption)).mono ?_); rintro e w1 ⟨rfl, hN1⟩) | (go_at_call 44; (with_reducible refine (HV1.out _ (by assumption)).mono ?_); rintro e w1 ⟨rfl, hN1⟩) | (go_at_call 35; refine (HW.out _ (by assumption)).mono ?_; rintro e w1 ⟨rfl, hN1⟩))
            all_goals
              go_ret
              exact ⟨rfl, by assumption⟩
end Go.Proofs.YtkjghojdfjhhkaaDoor
