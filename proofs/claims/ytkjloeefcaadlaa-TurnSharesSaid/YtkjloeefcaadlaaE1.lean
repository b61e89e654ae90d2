/- A word as the list of who is in it: plain law. -/
import Derived.Test.YtkjloeefcaadlaaX1
namespace Go.Proofs.Ytkjloeefcaadlaa
def digit (p : Nat × Nat) : Nat := 64 + 8 * p.2 + p.1
def encT : List (Nat × Nat) → Nat
  | [] => 0
  | p :: l => digit p + 128 * encT l
def enc (l : List (Nat × Nat)) : Nat := l.length * 2 ^ 60 + encT l
def InL (l : List (Nat × Nat)) : Prop := ∀ p, p ∈ l → p.1 < 8 ∧ p.2 < 8
structure OkL (l : List (Nat × Nat)) : Prop where
  inn : InL l
  pair : l.Pairwise fun a b => a.1 ≠ b.1 ∧ a.2 ≤ b.2
theorem nodup_le : ∀ (n : Nat) (l : List Nat), l.Nodup → (∀ a, a ∈ l → a < n) → l.length ≤ n
  | 0, l, _, h => by
    cases l with
    | nil => simp
    | cons a l => exact absurd (h a (by simp)) (by omega)
  | n + 1, l, hd, h => by
    have := nodup_le n (l.erase n) (hd.erase n) (fun a ha => by
      have h1 := (hd.mem_erase_iff).1 ha
      have := h a h1.2
      have := h1.1
      omega)
    rw [List.length_erase] at this
    split at this <;> omega
theorem OkL.nodup {l : List (Nat × Nat)} (h : OkL l) : (l.map (·.1)).Nodup := by
  rw [List.Nodup, List.pairwise_map]
  exact h.pair.imp fun h => h.1
theorem OkL.len {l : List (Nat × Nat)} (h : OkL l) : l.length ≤ 8 := by
  have := nodup_le 8 _ h.nodup (fun a ha => by obtain ⟨p, hp, rfl⟩ := List.mem_map.1 ha; exact (h.inn p hp).1)
  simpa using this
theorem OkL.room {l : List (Nat × Nat)} (h : OkL l) {s : Nat} (hs : s < 8) (hn : ∀ p, p ∈ l → p.1 ≠ s) : l.length < 8 := by
  have hd : (s :: l.map (·.1)).Nodup := List.nodup_cons.2 ⟨fun hm => by obtain ⟨p, hp, e⟩ := List.mem_map.1 hm; exact hn p hp e, h.nodup⟩
  have := nodup_le 8 _ hd (fun a ha => by
    rcases List.mem_cons.1 ha with rfl | ha
    · exact hs
    · obtain ⟨p, hp, rfl⟩ := List.mem_map.1 ha; exact (h.inn p hp).1)
  simp at this
  omega
theorem digit_lt {p : Nat × Nat} (h : p.1 < 8 ∧ p.2 < 8) : digit p < 128 := by unfold digit; omega
theorem encT_append : ∀ (a b : List (Nat × Nat)), encT (a ++ b) = encT a + 2 ^ (7 * a.length) * encT b
  | [], b => by simp [encT]
  | p :: a, b => by
    rw [List.cons_append, encT, encT, encT_append a b, List.length_cons, show 7 * (a.length + 1) = 7 * a.length + 7 by omega, Nat.pow_add, Nat.mul_add, Nat.mul_comm (2 ^ (7 * a.length)) (2 ^ 7), Nat.mul_assoc, Nat.add_assoc]
theorem encT_lt : ∀ {l : List (Nat × Nat)}, InL l → encT l < 2 ^ (7 * l.length)
  | [], _ => by simp [encT]
  | p :: l, h => by
    have h1 := digit_lt (h p (by simp))
    have h2 := encT_lt (l := l) (fun q hq => h q (by simp [hq]))
    rw [encT, List.length_cons, show 7 * (l.length + 1) = 7 * l.length + 7 by omega, Nat.pow_add]
    omega
theorem encT_low {a b : List (Nat × Nat)} (h : InL a) : encT (a ++ b) % 2 ^ (7 * a.length) = encT a := by
  rw [encT_append, Nat.add_mul_mod_self_left, Nat.mod_eq_of_lt (encT_lt h)]
theorem encT_high {a b : List (Nat × Nat)} (h : InL a) : encT (a ++ b) / 2 ^ (7 * a.length) = encT b := by
  rw [encT_append, Nat.add_mul_div_left _ _ (Nat.two_pow_pos _), Nat.div_eq_of_lt (encT_lt h), Nat.zero_add]
theorem encT_small {l : List (Nat × Nat)} (h : InL l) (h8 : l.length ≤ 8) : encT l < 2 ^ 56 :=
  Nat.lt_of_lt_of_le (encT_lt h) (Nat.pow_le_pow_right (by decide) (by omega))
theorem enc_div {l : List (Nat × Nat)} (h : InL l) (h8 : l.length ≤ 8) : enc l / 2 ^ 60 = l.length := by
  have := encT_small h h8
  unfold enc
  omega
theorem enc_mod {l : List (Nat × Nat)} (h : InL l) (h8 : l.length ≤ 8) : enc l % 2 ^ 60 = encT l := by
  have := encT_small h h8
  unfold enc
  omega
theorem InL.left {a b : List (Nat × Nat)} (h : InL (a ++ b)) : InL a := fun p hp => h p (by simp [hp])
theorem InL.right {a b : List (Nat × Nat)} (h : InL (a ++ b)) : InL b := fun p hp => h p (by simp [hp])
theorem place_enc {a b : List (Nat × Nat)} {p : Nat × Nat} (h : InL (a ++ p :: b)) (h8 : (a ++ p :: b).length ≤ 8) : place (enc (a ++ p :: b)) a.length = digit p := by
  have hl : a.length < 8 := by simp at h8; omega
  rw [← place_mod _ _ hl, enc_mod h h8, place, encT_high h.left, encT]
  have := digit_lt (h p (by simp))
  omega
theorem split_at {l : List (Nat × Nat)} {k : Nat} (hk : k < l.length) : ∃ a p b, l = a ++ p :: b ∧ a.length = k ∧ l.getD k (0, 0) = p := by
  refine ⟨l.take k, l[k], l.drop (k + 1), ?_, by simp; omega, by simp [List.getD, hk]⟩
  rw [← List.drop_eq_getElem_cons hk, List.take_append_drop]
theorem place_at {l : List (Nat × Nat)} (h : InL l) (h8 : l.length ≤ 8) {k : Nat} (hk : k < l.length) : place (enc l) k = digit (l.getD k (0, 0)) := by
  obtain ⟨a, p, b, rfl, rfl, e⟩ := split_at hk
  rw [e]
  exact place_enc h h8
theorem digit_slot {p : Nat × Nat} (h : p.1 < 8 ∧ p.2 < 8) : digit p % 8 = p.1 := by unfold digit; omega
theorem digit_urgency {p : Nat × Nat} (h : p.1 < 8 ∧ p.2 < 8) : digit p / 8 % 8 = p.2 := by unfold digit; omega
theorem digit_there {p : Nat × Nat} (h : p.1 < 8 ∧ p.2 < 8) : digit p / 64 % 2 = 1 := by unfold digit; omega
end Go.Proofs.Ytkjloeefcaadlaa
