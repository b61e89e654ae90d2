/- The document's own words of a word that may be: pushed, turned, whatever the numbers. -/
import Derived.Test.YtkjloeefcaadlaaV7
namespace Go.Proofs.Ytkjloeefcaadlaa
open Go.RowKit Go.Shelf Go.Cs
attribute [local go_sem] Oper.semAt_some
theorem push_ref {l : List (Nat × Nat)} (h : OkL l) (s u : Int) (w : World) :
    Calls Try.prog 21 #[.int .u64 (enc l), .int .i64 s, .int .i64 u] w fun e w' => e = .returned (pair (pushF (enc l) s u)) ∧ New w w' := by
  by_cases hc : canPush l s u
  · rw [push_enc_any h hc]
    obtain ⟨s0, s8, u0, u8, hno⟩ := hc
    obtain ⟨s', rfl⟩ := Int.eq_ofNat_of_zero_le s0
    obtain ⟨u', rfl⟩ := Int.eq_ofNat_of_zero_le u0
    exact push_ref_yes h (by omega) (by omega) (fun p hp e => hno p hp (by omega)) w
  · rw [push_enc_no h hc]
    exact push_ref_no h s u hc w
theorem atR_tuple (l : List (Nat × Nat)) (k : Int) : ∃ (a b : Int) (c : Bool), atR l k = .tuple #[.int .i64 a, .int .i64 b, .bool c] := by
  unfold atR
  split
  · exact ⟨_, _, _, rfl⟩
  · exact ⟨_, _, _, rfl⟩
set_option maxRecDepth 100000 in
theorem turn_ref {l : List (Nat × Nat)} (h : OkL l) (s u : Int) (w : World) :
    Calls Try.prog 25 #[.int .u64 (enc l), .int .i64 s, .int .i64 u] w fun e w' => e = .returned (pair (turnF (enc l) s u)) ∧ New w w' := by
  have HF := Lib.hid (fun w => find_ref h s w)
  have Hu := Lib.hid (number_ref u)
  cases hf : fi l s with
  | none =>
    rw [turn_enc_no h u (fi_none hf)]
    rw [hf] at HF
    have HA := Lib.hid (fun w => at_ref h 0 w)
    obtain ⟨a, b, c, e⟩ := atR_tuple l 0
    rw [e] at HA
    unfold optT pair at *
    obtain ⟨x, hx⟩ : ∃ x, enc l = x := ⟨_, rfl⟩
    rw [hx] at HF HA ⊢
    clear h hf e hx Hu
    go_enter Try.func25, Try.ntmps25
    go_wp2_with fail
    refine (HF.out _).mono ?_
    rintro e w1 ⟨rfl, hN1⟩
    go_wp2_with fail
    refine (HA.out _).mono ?_
    rintro e w2 ⟨rfl, hN2⟩
    go_wp2_with fail
    go_ret2
    exact ⟨rfl, hN1.trans hN2⟩
  | some k =>
    rw [hf] at HF
    obtain ⟨hk, h1, h2⟩ := fi_some hf
    have HA := Lib.hid (fun w => at_ref h (k : Nat) w)
    have e : atR l (k : Nat) = .tuple #[.int .i64 (l.getD k (0, 0)).1, .int .i64 (l.getD k (0, 0)).2, .bool true] := by unfold atR; rw [if_pos ⟨by omega, by omega⟩]; rfl
    rw [e] at HA
    have hok' : OkL (l.take k ++ l.getD k (0, 0) :: l.drop (k + 1)) := by rw [← h2]; exact h
    by_cases hbad : ((l.getD k (0, 0)).2 : Int) = u ∨ u < 0 ∨ 8 ≤ u
    · have ht := turn_enc_same hok' hbad
      rw [← h2, h1] at ht
      rw [ht]
      unfold optT pair at *
      obtain ⟨x, hx⟩ : ∃ x, enc l = x := ⟨_, rfl⟩
      obtain ⟨a, ha⟩ : ∃ x, (l.getD k (0, 0)).1 = x := ⟨_, rfl⟩
      obtain ⟨b, hb⟩ : ∃ x, (l.getD k (0, 0)).2 = x := ⟨_, rfl⟩
      rw [hx] at HF HA ⊢
      rw [ha, hb] at HA
      rw [hb] at hbad
      clear h hf e hx h1 h2 hk ht hok' ha hb
      by_cases c1 : 0 ≤ u ∧ u < 8
      · rw [decide_eq_true c1] at Hu
        have hbu : ((b : Int) == u) = true := by have : (b : Int) = u := by omega
                                                 simpa using this
        clear hbad c1
        go_enter Try.func25, Try.ntmps25
        go_wp2_with fail
        refine (HF.out _).mono ?_
        rintro e w1 ⟨rfl, hN1⟩
        go_wp2_with fail
        refine (HA.out _).mono ?_
        rintro e w2 ⟨rfl, hN2⟩
        go_wp2_with fail
        refine (Hu.out _).mono ?_
        rintro e w3 ⟨rfl, rfl⟩
        go_wp2_with fail
        go_ret2
        exact ⟨rfl, hN1.trans hN2⟩
      · rw [decide_eq_false c1] at Hu
        clear hbad c1
        go_enter Try.func25, Try.ntmps25
        go_wp2_with fail
        refine (HF.out _).mono ?_
        rintro e w1 ⟨rfl, hN1⟩
        go_wp2_with fail
        refine (HA.out _).mono ?_
        rintro e w2 ⟨rfl, hN2⟩
        go_wp2_with fail
        refine (Hu.out _).mono ?_
        rintro e w3 ⟨rfl, rfl⟩
        go_wp2_with fail
        go_ret2
        exact ⟨rfl, hN1.trans hN2⟩
    · obtain ⟨u', rfl⟩ := Int.eq_ofNat_of_zero_le (show 0 ≤ u by omega)
      have ht := turn_enc hok' (u := u') (by omega) (by omega)
      rw [← h2, h1] at ht
      rw [ht]
      have ho := okL_cut h hf
      have HO := Lib.hid (fun w => out_ref h s w)
      rw [ho] at HO
      have hdel : l.take k ++ l.drop (k + 1) = delL l (l.getD k (0, 0)).1 := by
        have := delL_split hok'
        rw [← h2] at this; exact this.symm
      have hokd : OkL (l.take k ++ l.drop (k + 1)) := by rw [hdel]; exact delL_ok h _
      have hp8 := (h.inn (l.getD k (0, 0)) (by simp [List.getD, hk])).1
      have HP := Lib.hid (fun w => push_ref_yes hokd (s := (l.getD k (0, 0)).1) (u := u') hp8 (by omega) (fun p hp => by rw [hdel] at hp; exact (delL_mem.1 hp).2) w)
      rw [h1] at HP
      rw [decide_eq_true (show (0 : Int) ≤ (u' : Int) ∧ (u' : Int) < 8 by omega)] at Hu
      have hbu : (((l.getD k (0, 0)).2 : Int) == (u' : Int)) = false := beq_eq_false_iff_ne.2 (by omega)
      unfold optT pair at *
      obtain ⟨x, hx⟩ : ∃ x, enc l = x := ⟨_, rfl⟩
      obtain ⟨y, hy⟩ : ∃ x, enc (l.take k ++ l.drop (k + 1)) = x := ⟨_, rfl⟩
      obtain ⟨z, hz⟩ : ∃ x, enc (insL (l.take k ++ l.drop (k + 1)) (l.getD k (0, 0)).1 u') = x := ⟨_, rfl⟩
      obtain ⟨a, ha⟩ : ∃ x, (l.getD k (0, 0)).1 = x := ⟨_, rfl⟩
      obtain ⟨b, hb⟩ : ∃ x, (l.getD k (0, 0)).2 = x := ⟨_, rfl⟩
      rw [hz] at HP ⊢
      rw [hx] at HF HA HO ⊢
      rw [hy] at HO HP
      rw [ha, hb] at HA
      rw [hb] at hbu
      clear h hf e hx h1 h2 hk ht hok' ha hb hbad ho hdel hokd hp8 hy hz
      go_enter Try.func25, Try.ntmps25
      go_wp2_with fail
      refine (HF.out _).mono ?_
      rintro e w1 ⟨rfl, hN1⟩
      go_wp2_with fail
      refine (HA.out _).mono ?_
      rintro e w2 ⟨rfl, hN2⟩
      go_wp2_with fail
      refine (Hu.out _).mono ?_
      rintro e w3 ⟨rfl, rfl⟩
      go_wp2_with fail
      refine (HO.out _).mono ?_
      rintro e w3 ⟨rfl, hN3⟩
      go_wp2_with fail
      refine (HP.out _).mono ?_
      rintro e w4 ⟨rfl, hN4⟩
      go_wp2_with fail
      go_ret2
      exact ⟨rfl, ((hN1.trans hN2).trans hN3).trans hN4⟩
end Go.Proofs.Ytkjloeefcaadlaa
