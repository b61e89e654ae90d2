/- Which rows may be: plain law. -/
import Derived.Test.YtcelhdlppimfbaaR2
namespace Go.Proofs.Ytcelhdlppimfbaa
/-- All slots, in order. -/
def fl (X : Nat → List Int) : List Int := (flat X).map (·.2)
theorem fold_none : ∀ l : List Int, l.foldl seenF none = none
  | [] => rfl
  | _ :: l => fold_none l
theorem bit_iff (s j : Nat) : s.testBit j = decide (s / 2 ^ j % 2 = 1) := Nat.testBit_eq_decide_div_mod_eq
theorem seen_spec : ∀ (l : List Int) (s t : Nat), l.foldl seenF (some s) = some t → (∀ n, n ∈ l → 0 ≤ n ∧ n < 8 ∧ s.testBit n.toNat = false) ∧ l.Nodup
  | [], s, t, _ => ⟨(fun n hn => by cases hn), List.nodup_nil⟩
  | n :: l, s, t, h => by
    rw [List.foldl_cons, seenF] at h
    split at h
    · rw [fold_none] at h; cases h
    · rename_i hn
      simp only [not_or, Bool.not_eq_false] at hn
      have h8 := of_decide_eq_true hn.1
      obtain ⟨h1, h2⟩ := seen_spec l _ t h
      have hb : s.testBit n.toNat = false := by rw [bit_iff]; simp [hn.2]
      refine ⟨fun m hm => ?_, List.nodup_cons.2 ⟨fun hm => ?_, h2⟩⟩
      · rcases List.mem_cons.1 hm with rfl | hm
        · exact ⟨h8.1, h8.2, hb⟩
        · obtain ⟨a, b, c⟩ := h1 m hm
          rw [Nat.testBit_or, Bool.or_eq_false_iff] at c
          exact ⟨a, b, c.1⟩
      · obtain ⟨a, b, c⟩ := h1 n hm
        rw [Nat.testBit_or, Nat.testBit_two_pow_self, Bool.or_true] at c
        cases c
theorem seen_some : ∀ (l : List Int) (s : Nat), (∀ n, n ∈ l → 0 ≤ n ∧ n < 8 ∧ s.testBit n.toNat = false) → l.Nodup → ∃ t, l.foldl seenF (some s) = some t
  | [], s, _, _ => ⟨s, rfl⟩
  | n :: l, s, h, hd => by
    have hd := List.nodup_cons.1 hd
    obtain ⟨a, b, c⟩ := h n (by simp)
    have he : eightB n = true := decide_eq_true ⟨a, b⟩
    rw [bit_iff] at c
    rw [List.foldl_cons, seenF, if_neg (by rw [he]; simpa using c)]
    refine seen_some l _ (fun m hm => ?_) hd.2
    obtain ⟨a', b', c'⟩ := h m (by simp [hm])
    refine ⟨a', b', ?_⟩
    rw [Nat.testBit_or, c', Nat.testBit_two_pow, Bool.false_or]
    have : n.toNat ≠ m.toNat := fun e => hd.1 (by rw [show n = m by omega]; exact hm)
    simpa using this
theorem right_iff {X : Nat → List Int} : rightR X = true ↔ (∀ n, n ∈ fl X → 0 ≤ n ∧ n < 8) ∧ (fl X).Nodup := by
  unfold rightR
  constructor
  · intro h
    obtain ⟨t, ht⟩ := Option.isSome_iff_exists.1 h
    obtain ⟨h1, h2⟩ := seen_spec _ 0 t ht
    exact ⟨fun n hn => ⟨(h1 n hn).1, (h1 n hn).2.1⟩, h2⟩
  · intro ⟨h1, h2⟩
    obtain ⟨t, ht⟩ := seen_some (fl X) 0 (fun n hn => ⟨(h1 n hn).1, (h1 n hn).2, by simp⟩) h2
    unfold stR
    unfold fl at ht
    rw [ht]; rfl
theorem nodup_le : ∀ (n : Nat) (l : List Int), l.Nodup → (∀ a, a ∈ l → 0 ≤ a ∧ a < n) → l.length ≤ n
  | 0, l, _, h => by
    cases l with
    | nil => simp
    | cons a l => exact absurd (h a (by simp)) (by omega)
  | n + 1, l, hd, h => by
    have := nodup_le n (l.erase n) (hd.erase _) (fun a ha => by
      have h1 := (hd.mem_erase_iff).1 ha
      have := h a h1.2
      have := h1.1
      omega)
    rw [List.length_erase] at this
    split at this <;> omega
theorem right_len {X : Nat → List Int} (h : rightR X = true) : (flat X).length ≤ 8 := by
  obtain ⟨h1, h2⟩ := right_iff.1 h
  have := nodup_le 8 (fl X) h2 h1
  simpa [fl] using this
theorem flatTo_snd (X : Nat → List Int) : ∀ u, (flatTo X u).map (·.2) = (List.range u).flatMap X
  | 0 => rfl
  | u + 1 => by
    rw [flatTo, List.map_append, flatTo_snd X u, List.range_succ, List.flatMap_append]
    simp [Function.comp_def]
theorem fl_eq (X : Nat → List Int) : fl X = (List.range 8).flatMap X := flatTo_snd X 8
theorem fl_mem {X : Nat → List Int} {n : Int} : n ∈ fl X ↔ ∃ u, u < 8 ∧ n ∈ X u := by
  rw [fl_eq, List.mem_flatMap]
  exact ⟨fun ⟨u, hu, h⟩ => ⟨u, List.mem_range.1 hu, h⟩, fun ⟨u, hu, h⟩ => ⟨u, List.mem_range.2 hu, h⟩⟩
def allF (X : Nat → List Int) : List Int := if rightR X then fl X else []
end Go.Proofs.Ytcelhdlppimfbaa
