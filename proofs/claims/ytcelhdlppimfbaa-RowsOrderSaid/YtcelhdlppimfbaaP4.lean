/- RowsOrder, the plain law: what the two arrays hold when the rows have been told. -/
import Derived.Test.YtcelhdlppimfbaaP3
namespace Go.Proofs.Ytcelhdlppimfbaa
def atL (L : List (Nat × Int)) (k : Nat) : Int := match L.findIdx? (fun p => p.2 == (k : Int)) with
  | some i => (i : Int) + 1
  | none => 0
def ofL (L : List (Nat × Int)) (k : Nat) : Int := match L.find? (fun p => p.2 == (k : Int)) with
  | some p => p.1
  | none => 0
theorem atL_nil (k : Nat) : atL [] k = 0 := rfl
theorem ofL_nil (k : Nat) : ofL [] k = 0 := rfl
theorem atL_snoc (L : List (Nat × Int)) (u m k : Nat) (h : ∀ p, p ∈ L → p.2 ≠ (m : Int)) : atL (L ++ [(u, (m : Int))]) k = if k = m then (L.length : Int) + 1 else atL L k := by
  unfold atL
  rw [List.findIdx?_append]
  by_cases e : k = m
  · subst e
    have : L.findIdx? (fun p => p.2 == (k : Int)) = none := List.findIdx?_eq_none_iff.2 (fun p hp => by simpa using h p hp)
    rw [this, if_pos rfl]
    simp
  · rw [if_neg e]
    cases L.findIdx? (fun p => p.2 == (k : Int)) with
    | some i => simp
    | none =>
      have e2 : ¬ ((m : Int) = (k : Int)) := by omega
      simp [e2]
theorem ofL_snoc (L : List (Nat × Int)) (u m k : Nat) (h : ∀ p, p ∈ L → p.2 ≠ (m : Int)) : ofL (L ++ [(u, (m : Int))]) k = if k = m then (u : Int) else ofL L k := by
  unfold ofL
  rw [List.find?_append]
  by_cases e : k = m
  · subst e
    have : L.find? (fun p => p.2 == (k : Int)) = none := List.find?_eq_none.2 (fun p hp => by simpa using h p hp)
    rw [this, if_pos rfl]
    simp
  · rw [if_neg e]
    cases L.find? (fun p => p.2 == (k : Int)) with
    | some i => simp
    | none =>
      have e2 : ¬ ((m : Int) = (k : Int)) := by omega
      simp [e2]
theorem atL_mid {A t : List (Nat × Int)} {u m : Nat} (h : ∀ p, p ∈ A → p.2 ≠ (m : Int)) : atL (A ++ (u, (m : Int)) :: t) m = (A.length : Int) + 1 := by
  unfold atL
  rw [List.findIdx?_append]
  have : A.findIdx? (fun p => p.2 == (m : Int)) = none := List.findIdx?_eq_none_iff.2 (fun p hp => by simpa using h p hp)
  rw [this]
  simp [List.findIdx?_cons]
theorem ofL_mid {A t : List (Nat × Int)} {u m : Nat} (h : ∀ p, p ∈ A → p.2 ≠ (m : Int)) : ofL (A ++ (u, (m : Int)) :: t) m = u := by
  unfold ofL
  rw [List.find?_append]
  have : A.find? (fun p => p.2 == (m : Int)) = none := List.find?_eq_none.2 (fun p hp => by simpa using h p hp)
  rw [this]
  simp
theorem atL_le (L : List (Nat × Int)) (k : Nat) : 0 ≤ atL L k ∧ atL L k ≤ L.length := by
  unfold atL
  cases h : L.findIdx? (fun p => p.2 == (k : Int)) with
  | none => simp
  | some i =>
    obtain ⟨hi, _⟩ := List.findIdx?_eq_some_iff_getElem.1 h
    dsimp only
    omega
theorem atL_mem {L : List (Nat × Int)} {k : Nat} (h : atL L k ≠ 0) : ∃ p, p ∈ L ∧ p.2 = (k : Int) := by
  unfold atL at h
  cases h2 : L.findIdx? (fun p => p.2 == (k : Int)) with
  | none => rw [h2] at h; exact absurd rfl h
  | some i =>
    obtain ⟨hi, h3, _⟩ := List.findIdx?_eq_some_iff_getElem.1 h2
    exact ⟨L[i], List.getElem_mem hi, by simpa using h3⟩
/-- Rows that may be, told by the two arrays. -/
theorem inv_flat {X : Nat → List Int} (hr : rightR X = true) (hfar : ∀ u, 8 ≤ u → X u = []) : Inv X (atL (flat X)) (ofL (flat X)) (flat X).length := by
  have key : ∀ u, u < 8 → ∀ k, k < (X u).length → ∃ m : Nat, m < 8 ∧ (X u).getD k 0 = m ∧ atL (flat X) m = ((flatTo X u).length + k : Nat) + 1 ∧ ofL (flat X) m = u := fun u hu k hk => by
    obtain ⟨h1, h2, h3⟩ := preL_new hr hu hk
    obtain ⟨t, ht⟩ := preL_pre X u k hu hk
    obtain ⟨m, hm⟩ := Int.eq_ofNat_of_zero_le h2
    rw [hm] at h1 ht h3
    refine ⟨m, by omega, hm, ?_, ?_⟩
    · rw [ht, atL_mid h1, preL_len X u k (by omega)]
    · rw [ht, ofL_mid h1]
  refine ⟨fun k _ => atL_le _ k, fun u hu n hn => ?_, fun k _ hz => ?_, fun u hu => ?_, fun u hu n hn => by rw [hfar u hu] at hn; simp at hn⟩
  · obtain ⟨k, hk, rfl⟩ := List.getElem_of_mem hn
    obtain ⟨m, hm, e, h1, h2⟩ := key u hu k hk
    simp only [List.getD, List.getElem?_eq_getElem hk, Option.getD_some] at e
    exact ⟨m, hm, e, by rw [h1]; omega, h2⟩
  · obtain ⟨p, hp, e⟩ := atL_mem hz
    have := flatTo_mem X 8 hp
    rw [e] at this
    exact ⟨p.1, this.2, this.1⟩
  · refine List.pairwise_iff_getElem.2 (fun i j hi hj hij => ?_)
    obtain ⟨m, _, e, h1, _⟩ := key u hu i hi
    obtain ⟨m', _, e', h1', _⟩ := key u hu j hj
    simp only [List.getD, List.getElem?_eq_getElem hi, List.getElem?_eq_getElem hj, Option.getD_some] at e e'
    rw [e, e', Int.toNat_natCast, Int.toNat_natCast, h1, h1']
    omega
end Go.Proofs.Ytcelhdlppimfbaa
