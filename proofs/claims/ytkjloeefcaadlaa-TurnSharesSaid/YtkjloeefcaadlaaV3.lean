/- The document's own words of a word that may be: how many, who is where, where somebody is. -/
import Derived.Test.YtkjloeefcaadlaaV2
import Derived.Test.YtkjloeefcaadlaaQ5
namespace Go.Proofs.Ytkjloeefcaadlaa
open Go.RowKit Go.Shelf Go.Cs
attribute [local go_sem] Oper.semAt_some
theorem list_enc {l : List (Nat × Nat)} (h : OkL l) (w : World) :
    Calls Try.prog 67 #[.int .u64 (enc l)] w fun e w' => ∃ v, e = .returned v ∧ w'.ownsRow w.heap.size 126 2 v l.length (cellsP l) ∧ New w w' := by
  have e := enc_div h.inn h.len
  have := list_gen (enc l) l.length (enc_lt h) (by rw [e, Nat.min_eq_left h.len]) w
  rwa [dec_enc h.inn h.len] at this
theorem many_ref {l : List (Nat × Nat)} (h : OkL l) (w : World) :
    Calls Try.prog 30 #[.int .u64 (enc l)] w fun e w' => e = .returned (.int .i64 (l.length : Nat)) ∧ New w w' := by
  have HR := Lib.hid (right_gen (enc l) (enc_lt h))
  rw [right_enc h] at HR
  have HL := Lib.hid (fun w => list_enc h w)
  have h8 := h.len
  obtain ⟨x, hx⟩ : ∃ x, enc l = x := ⟨_, rfl⟩
  rw [hx] at HR HL ⊢
  clear h hx
  go_enter Try.func30, Try.ntmps30
  go_wp2_with fail
  refine (HR.out _).mono ?_
  rintro e w1 ⟨rfl, hN1⟩
  go_wp2_with fail
  refine (HL.out _).mono ?_
  rintro e w2 ⟨v, rfl, hown, hN2⟩
  obtain ⟨ao, cap, rfl⟩ := owns_slice hown
  clear hown
  go_wp2_with fail
  go_ret
  exact ⟨rfl, hN1.trans hN2⟩
def atR (l : List (Nat × Nat)) (k : Int) : Value := if 0 ≤ k ∧ k < l.length then .tuple #[.int .i64 (l.getD k.toNat (0, 0)).1, .int .i64 (l.getD k.toNat (0, 0)).2, .bool true] else .tuple #[.int .i64 0, .int .i64 0, .bool false]
theorem info126 : (Try.prog.info? 126).map (·.size) = some 2 := by kernel_rfl
theorem at_ref {l : List (Nat × Nat)} (h : OkL l) (k : Int) (w : World) :
    Calls Try.prog 62 #[.int .u64 (enc l), .int .i64 k] w fun e w' => e = .returned (atR l k) ∧ New w w' := by
  have HM := Lib.hid (fun w => many_ref h w)
  have HL := Lib.hid (fun w => list_enc h w)
  have h8 := h.len
  obtain ⟨x, hx⟩ : ∃ x, enc l = x := ⟨_, rfl⟩
  rw [hx] at HM HL ⊢
  by_cases hk0 : k < 0
  · have e : atR l k = .tuple #[.int .i64 0, .int .i64 0, .bool false] := by unfold atR; rw [if_neg (by omega)]
    rw [e]
    have hd : decide (k < 0) = true := decide_eq_true hk0
    clear h hx e
    go_enter Try.func62, Try.ntmps62
    go_wp2_with fail
    go_ret3
    exact ⟨rfl, Mods.refl _ _⟩
  have hd : decide (k < 0) = false := decide_eq_false hk0
  by_cases hkn : k < l.length
  · obtain ⟨j, rfl⟩ := Int.eq_ofNat_of_zero_le (show 0 ≤ k by omega)
    have e : atR l j = .tuple #[.int .i64 (l.getD j (0, 0)).1, .int .i64 (l.getD j (0, 0)).2, .bool true] := by unfold atR; rw [if_pos ⟨by omega, hkn⟩]; rfl
    rw [e]
    have hjl : j < l.length := by omega
    have hd2 : decide ((l.length : Int) ≤ (j : Int)) = false := decide_eq_false (by omega)
    have hd3 : decide (l.length ≤ j) = false := decide_eq_false (by omega)
    obtain ⟨n, hn⟩ : ∃ n, l.length = n := ⟨_, rfl⟩
    have Hn := Lib.hid hn
    obtain ⟨s, hs⟩ : ∃ s, (l.getD j (0, 0)).1 = s := ⟨_, rfl⟩
    obtain ⟨u, hu⟩ : ∃ s, (l.getD j (0, 0)).2 = s := ⟨_, rfl⟩
    rw [hs, hu]
    have Hs := Lib.hid hs
    have Hu := Lib.hid hu
    rw [hn] at HM HL hd2 hd3 hjl h8
    clear h hx e hkn hk0 hn hs hu
    go_enter Try.func62, Try.ntmps62
    go_wp2_with fail
    refine (HM.out _).mono ?_
    rintro e w1 ⟨rfl, hN1⟩
    go_wp2_with fail
    refine (HL.out _).mono ?_
    rintro e w2 ⟨v, rfl, hown, hN2⟩
    obtain ⟨ao, cap, rfl, hc⟩ := ReadsP.ofOwns Hn.out.symm hown
    obtain ⟨b, rfl, c1, c2⟩ := hc j (by rw [Hn.out]; exact hjl)
    have hn2 := Hn.out
    rw [hn2] at hown ⊢
    rw [Hs.out] at c1
    rw [Hu.out] at c2
    clear hc hown hn2
    go_wp2_with fail
    go_quiet (fail)
    go_wp2_with fail
    go_ret3
    exact ⟨rfl, ((hN1.trans hN2).alloc _).drewN _⟩
  · have e : atR l k = .tuple #[.int .i64 0, .int .i64 0, .bool false] := by unfold atR; rw [if_neg (by omega)]
    rw [e]
    have hd2 : decide ((l.length : Int) ≤ k) = true := decide_eq_true (by omega)
    clear h hx e
    go_enter Try.func62, Try.ntmps62
    go_wp2_with fail
    refine (HM.out _).mono ?_
    rintro e w1 ⟨rfl, hN1⟩
    go_wp2_with fail
    go_ret3
    exact ⟨rfl, hN1⟩
/-- Where somebody is. -/
def fi (l : List (Nat × Nat)) (s : Int) : Option Nat := l.findIdx? fun p => (p.1 : Int) == s
theorem find_ref {l : List (Nat × Nat)} (h : OkL l) (s : Int) (w : World) :
    Calls Try.prog 61 #[.int .u64 (enc l), .int .i64 s] w fun e w' => e = .returned (optT (fi l s)) ∧ New w w' := by
  have HM := Lib.hid (fun w => many_ref h w)
  have HA := Lib.hid (fun k w => at_ref h k w)
  have h8 := h.len
  obtain ⟨x, hx⟩ : ∃ x, enc l = x := ⟨_, rfl⟩
  rw [hx] at HM HA ⊢
  obtain ⟨r, hr⟩ : ∃ r, fi l s = r := ⟨_, rfl⟩
  rw [hr]
  have Hr := Lib.hid hr
  obtain ⟨n, hn⟩ : ∃ n, l.length = n := ⟨_, rfl⟩
  have Hn := Lib.hid hn
  rw [hn] at HM h8
  clear h hx hr hn
  go_enter Try.func61, Try.ntmps61
  go_wp2_with fail
  go_loopw [6, 7, 8, 9] (fun c _ _ _ wr => ∃ k : Nat, k ≤ n ∧ c = .int .i64 k ∧ Hid (∀ a, a < k → ((l.getD a (0, 0)).1 : Int) ≠ s) ∧ New w wr) (fun c _ _ _ _ => n - (intOf c).toNat)
  case atStart => exact ⟨0, Nat.zero_le _, rfl, (fun a h => by omega), Mods.refl _ _⟩
  case round =>
    obtain ⟨k, hk, rfl, hbef, hN⟩ := hrel
    by_cases hlt : k < n
    · have hat : atR l k = .tuple #[.int .i64 (l.getD k (0, 0)).1, .int .i64 (l.getD k (0, 0)).2, .bool true] := by unfold atR; rw [if_pos ⟨by omega, by rw [Hn.out]; omega⟩]; rfl
      have HAk := HA.out k
      rw [hat] at HAk
      obtain ⟨t, ht⟩ : ∃ s, (l.getD k (0, 0)).1 = s := ⟨_, rfl⟩
      obtain ⟨u, hu⟩ : ∃ s, (l.getD k (0, 0)).2 = s := ⟨_, rfl⟩
      rw [ht, hu] at HAk
      have HAk := Lib.hid HAk
      have Ht := Lib.hid ht
      clear hat ht hu
      go_wp2_with fail
      refine (HM.out _).mono ?_
      rintro e w1 ⟨rfl, hN1⟩
      go_wp2_with fail
      refine (HAk.out _).mono ?_
      rintro e w2 ⟨rfl, hN2⟩
      by_cases he : (t : Int) = s
      · have hq : ((t : Int) == s) = true := by simpa using he
        have hrk : r = some k := by
          rw [← Hr.out]
          unfold fi
          rw [List.findIdx?_eq_some_iff_getElem]
          have hkl : k < l.length := by rw [Hn.out]; exact hlt
          refine ⟨hkl, ?_, fun j hj => ?_⟩
          · have := Ht.out
            simp only [List.getD, List.getElem?_eq_getElem hkl, Option.getD_some] at this
            simp [this, he]
          · have := hbef.out j hj
            simp only [List.getD, List.getElem?_eq_getElem (show j < l.length by omega), Option.getD_some] at this
            simpa using this
        have Hrk := Lib.hid hrk
        clear hrk he hbef
        go_wp2_with fail
        go_ret2
        exact ⟨by rw [Hrk.out]; rfl, (hN.trans hN1).trans hN2⟩
      · have hq : ((t : Int) == s) = false := by simpa using he
        have hnext : Hid (∀ a, a < k + 1 → ((l.getD a (0, 0)).1 : Int) ≠ s) := Lib.hid (fun a ha => by
          by_cases h : a < k
          · exact hbef.out a h
          · obtain rfl : a = k := by omega
            rw [Ht.out]; exact he)
        clear he hbef
        go_wp2_with fail
        go_roundw
        case rel => exact ⟨k + 1, by omega, by go_num, hnext, (hN.trans hN1).trans hN2⟩
        case measure => simp [intOf]; omega
    · obtain rfl : k = n := by omega
      have hrk : r = none := by
        rw [← Hr.out]
        unfold fi
        rw [List.findIdx?_eq_none_iff]
        intro p hp
        obtain ⟨j, hj, rfl⟩ := List.getElem_of_mem hp
        have := hbef.out j (by have := Hn.out; omega)
        simp only [List.getD, List.getElem?_eq_getElem hj, Option.getD_some] at this
        simpa using this
      have Hrk := Lib.hid hrk
      clear hrk hbef
      go_wp2_with fail
      refine (HM.out _).mono ?_
      rintro e w1 ⟨rfl, hN1⟩
      go_wp2_with fail
      go_ret2
      exact ⟨by rw [Hrk.out]; rfl, hN.trans hN1⟩
end Go.Proofs.Ytkjloeefcaadlaa
