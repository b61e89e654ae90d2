/- The document's own words of a word that may be: the best one, pushed. -/
import Derived.Test.YtkjloeefcaadlaaV5
namespace Go.Proofs.Ytkjloeefcaadlaa
open Go.RowKit Go.Shelf Go.Cs
attribute [local go_sem] Oper.semAt_some
theorem best_ref {l : List (Nat × Nat)} (h : OkL l) (w : World) :
    Calls Try.prog 23 #[.int .u64 (enc l)] w fun e w' => e = .returned (trip' (bestF (enc l))) ∧ New w w' := by
  have HA := Lib.hid (fun w => at_ref h 0 w)
  cases l with
  | nil =>
    rw [best_enc_nil]
    have e : atR [] 0 = .tuple #[.int .i64 0, .int .i64 0, .bool false] := rfl
    rw [e] at HA
    unfold trip'
    obtain ⟨x, hx⟩ : ∃ x, enc [] = x := ⟨_, rfl⟩
    rw [hx] at HA ⊢
    clear h e hx
    go_enter Try.func23, Try.ntmps23
    go_wp2_with fail
    refine (HA.out _).mono ?_
    rintro e w1 ⟨rfl, hN1⟩
    go_wp2_with fail
    go_ret3
    exact ⟨rfl, hN1⟩
  | cons p t =>
    rw [best_enc_cons h]
    have ho : outF (enc (p :: t)) p.1 = (enc t, true) := by
      have := out_enc h (s := p.1) ⟨p, by simp, rfl⟩
      rw [this]
      have hd := delL_split (a := []) (p := p) (b := t) h
      rw [List.nil_append, List.nil_append] at hd
      rw [hd]
    have HO := Lib.hid (fun w => out_ref h p.1 w)
    rw [ho] at HO
    have e : atR (p :: t) 0 = .tuple #[.int .i64 (p.1 : Nat), .int .i64 (p.2 : Nat), .bool true] := by
      unfold atR
      rw [if_pos ⟨by omega, by simp⟩]
      rfl
    rw [e] at HA
    unfold trip' pair at *
    obtain ⟨x, hx⟩ : ∃ x, enc (p :: t) = x := ⟨_, rfl⟩
    obtain ⟨y, hy⟩ : ∃ x, enc t = x := ⟨_, rfl⟩
    obtain ⟨s, hs⟩ : ∃ s : Nat, p.1 = s := ⟨_, rfl⟩
    obtain ⟨u, hu⟩ : ∃ s : Nat, p.2 = s := ⟨_, rfl⟩
    rw [hx, hs, hu] at HA
    rw [hx, hs, hy] at HO
    rw [hx, hy]
    dsimp only
    rw [hs]
    clear h e hx hy hs hu ho
    go_enter Try.func23, Try.ntmps23
    go_wp2_with fail
    refine (HA.out _).mono ?_
    rintro e w1 ⟨rfl, hN1⟩
    go_wp2_with fail
    refine (HO.out _).mono ?_
    rintro e w2 ⟨rfl, hN2⟩
    go_wp2_with fail
    go_ret3
    exact ⟨rfl, hN1.trans hN2⟩
theorem number_ref (n : Int) (w : World) : Calls Try.prog 72 #[.int .i64 n] w fun e w' => e = .returned (.bool (decide (0 ≤ n ∧ n < 8))) ∧ w = w' := by
  have e : decide (0 ≤ n ∧ n < 8) = (decide (0 ≤ n) && decide (n < 8)) := by simp [Bool.decide_and]
  by_cases c1 : 0 ≤ n
  · have b1 : decide (0 ≤ n) = true := decide_eq_true c1
    rw [e, b1]
    clear e
    go_enter Try.func72, Try.ntmps72
    go_wp2
    go_ret
    exact ⟨rfl, rfl⟩
  · have b1 : decide (0 ≤ n) = false := decide_eq_false c1
    rw [e, b1]
    clear e
    go_enter Try.func72, Try.ntmps72
    go_wp2
    go_ret
    exact ⟨rfl, rfl⟩
/-- Where the urgencies pass that one. -/
theorem sorted_cut {l : List (Nat × Nat)} (h : OkL l) {k u : Nat} (hk : k ≤ l.length) (h1 : ∀ j, j < k → (l.getD j (0, 0)).2 ≤ u) (h2 : k < l.length → u < (l.getD k (0, 0)).2) :
    l.take k = l.filter (fun p => decide (p.2 ≤ u)) ∧ l.drop k = l.filter (fun p => decide (u < p.2)) := by
  have e := List.take_append_drop k l
  have ha : ∀ p, p ∈ l.take k → p.2 ≤ u := fun p hp => by
    obtain ⟨j, hj, rfl⟩ := List.getElem_of_mem hp
    have hj' : j < k ∧ j < l.length := by simp at hj; omega
    have := h1 j hj'.1
    simpa [List.getD, hj'.2] using this
  have hb : ∀ p, p ∈ l.drop k → u < p.2 := fun p hp => by
    obtain ⟨j, hj, rfl⟩ := List.getElem_of_mem hp
    have hj' : k + j < l.length := by simp at hj; omega
    have hu := h2 (by omega)
    have hkk : k < l.length := by omega
    simp only [List.getD, List.getElem?_eq_getElem hkk, Option.getD_some] at hu
    rw [List.getElem_drop]
    by_cases e : j = 0
    · subst e; simpa using hu
    · have := List.pairwise_iff_getElem.1 h.pair k (k + j) hkk hj' (by omega)
      omega
  constructor
  · conv => rhs; rw [← e]
    rw [List.filter_append, List.filter_eq_self.2 (fun p hp => by simpa using ha p hp), List.filter_eq_nil_iff.2 (fun p hp => by have := hb p hp; simp; omega), List.append_nil]
  · conv => rhs; rw [← e]
    rw [List.filter_append, List.filter_eq_nil_iff.2 (fun p hp => by have := ha p hp; simp; omega), List.filter_eq_self.2 (fun p hp => by simpa using hb p hp), List.nil_append]
theorem push_ref_no {l : List (Nat × Nat)} (h : OkL l) (s u : Int) (hn : ¬ canPush l s u) (w : World) :
    Calls Try.prog 21 #[.int .u64 (enc l), .int .i64 s, .int .i64 u] w fun e w' => e = .returned (.tuple #[.int .u64 (enc l : Nat), .bool false]) ∧ New w w' := by
  have HF := Lib.hid (fun w => find_ref h s w)
  have HR := Lib.hid (right_gen (enc l) (enc_lt h))
  rw [right_enc h] at HR
  have Hs := Lib.hid (number_ref s)
  have Hu := Lib.hid (number_ref u)
  obtain ⟨x, hx⟩ : ∃ x, enc l = x := ⟨_, rfl⟩
  rw [hx] at HF HR ⊢
  by_cases c1 : 0 ≤ s ∧ s < 8
  · rw [decide_eq_true c1] at Hs
    by_cases c2 : 0 ≤ u ∧ u < 8
    · rw [decide_eq_true c2] at Hu
      cases hf : fi l s with
      | none => exact absurd ⟨c1.1, c1.2, c2.1, c2.2, fi_none hf⟩ hn
      | some k =>
        rw [hf] at HF
        unfold optT at HF
        clear h hx hn c1 c2 hf
        go_enter Try.func21, Try.ntmps21
        go_wp2_with fail
        refine (HF.out _).mono ?_
        rintro e w1 ⟨rfl, hN1⟩
        go_wp2_with fail
        refine (HR.out _).mono ?_
        rintro e w2 ⟨rfl, hN2⟩
        go_wp2_with fail
        refine (Hs.out _).mono ?_
        rintro e w3 ⟨rfl, rfl⟩
        go_wp2_with fail
        refine (Hu.out _).mono ?_
        rintro e w3 ⟨rfl, rfl⟩
        go_wp2_with fail
        go_ret2
        exact ⟨rfl, hN1.trans hN2⟩
    · rw [decide_eq_false c2] at Hu
      obtain ⟨r, hr⟩ : ∃ r, fi l s = r := ⟨_, rfl⟩
      rw [hr] at HF
      unfold optT at HF
      clear h hx hn c1 c2 hr
      go_enter Try.func21, Try.ntmps21
      go_wp2_with fail
      refine (HF.out _).mono ?_
      rintro e w1 ⟨rfl, hN1⟩
      go_wp2_with fail
      refine (HR.out _).mono ?_
      rintro e w2 ⟨rfl, hN2⟩
      go_wp2_with fail
      refine (Hs.out _).mono ?_
      rintro e w3 ⟨rfl, rfl⟩
      go_wp2_with fail
      refine (Hu.out _).mono ?_
      rintro e w3 ⟨rfl, rfl⟩
      go_wp2_with fail
      go_ret2
      exact ⟨rfl, hN1.trans hN2⟩
  · rw [decide_eq_false c1] at Hs
    obtain ⟨r, hr⟩ : ∃ r, fi l s = r := ⟨_, rfl⟩
    rw [hr] at HF
    unfold optT at HF
    clear h hx hn c1 hr Hu
    go_enter Try.func21, Try.ntmps21
    go_wp2_with fail
    refine (HF.out _).mono ?_
    rintro e w1 ⟨rfl, hN1⟩
    go_wp2_with fail
    refine (HR.out _).mono ?_
    rintro e w2 ⟨rfl, hN2⟩
    go_wp2_with fail
    refine (Hs.out _).mono ?_
    rintro e w3 ⟨rfl, rfl⟩
    go_wp2_with fail
    go_ret2
    exact ⟨rfl, hN1.trans hN2⟩
end Go.Proofs.Ytkjloeefcaadlaa
