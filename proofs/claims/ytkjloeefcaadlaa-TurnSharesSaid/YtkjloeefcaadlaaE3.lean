/- What is done to a word, done to the list of who is in it. -/
import Derived.Test.YtkjloeefcaadlaaE2
namespace Go.Proofs.Ytkjloeefcaadlaa
/-- Pushed behind all of no greater urgency. -/
def insL (l : List (Nat × Nat)) (s u : Nat) : List (Nat × Nat) := l.filter (fun p => decide (p.2 ≤ u)) ++ (s, u) :: l.filter (fun p => decide (u < p.2))
theorem sorted_parts {l : List (Nat × Nat)} (h : l.Pairwise fun a b => a.2 ≤ b.2) (u : Nat) : l.filter (fun p => decide (p.2 ≤ u)) ++ l.filter (fun p => decide (u < p.2)) = l := by
  induction l with
  | nil => rfl
  | cons p l ih =>
    rw [List.pairwise_cons] at h
    by_cases hp : p.2 ≤ u
    · rw [List.filter_cons_of_pos (by simpa using hp), List.filter_cons_of_neg (by simp; omega), List.cons_append, ih h.2]
    · have h1 : (p :: l).filter (fun p => decide (p.2 ≤ u)) = [] := by
        rw [List.filter_eq_nil_iff]
        intro q hq
        rcases List.mem_cons.1 hq with rfl | hq
        · simpa using hp
        · have := h.1 q hq; simp; omega
      have h2 : (p :: l).filter (fun p => decide (u < p.2)) = p :: l := by
        rw [List.filter_eq_self]
        intro q hq
        rcases List.mem_cons.1 hq with rfl | hq
        · simp; omega
        · have := h.1 q hq; simp; omega
      rw [h1, h2]; rfl
theorem OkL.sorted {l : List (Nat × Nat)} (h : OkL l) : l.Pairwise fun a b => a.2 ≤ b.2 := h.pair.imp fun h => h.2
theorem insL_mem {l : List (Nat × Nat)} {s u : Nat} {p : Nat × Nat} : p ∈ insL l s u ↔ p = (s, u) ∨ p ∈ l := by
  unfold insL
  simp only [List.mem_append, List.mem_filter, List.mem_cons, decide_eq_true_eq]
  constructor
  · rintro (h | h | h)
    · exact .inr h.1
    · exact .inl h
    · exact .inr h.1
  · rintro (h | h)
    · exact .inr (.inl h)
    · rcases Nat.lt_or_ge u p.2 with h1 | h1
      · exact .inr (.inr ⟨h, h1⟩)
      · exact .inl ⟨h, h1⟩
theorem insL_ok {l : List (Nat × Nat)} (h : OkL l) {s u : Nat} (hs : s < 8) (hu : u < 8) (hn : ∀ p, p ∈ l → p.1 ≠ s) : OkL (insL l s u) := by
  refine ⟨fun p hp => ?_, ?_⟩
  · rcases insL_mem.1 hp with rfl | hp
    · exact ⟨hs, hu⟩
    · exact h.inn p hp
  · unfold insL
    have hp := h.pair
    rw [← sorted_parts h.sorted u, List.pairwise_append] at hp
    rw [List.pairwise_append, List.pairwise_cons]
    refine ⟨hp.1, ⟨fun q hq => ?_, hp.2.1⟩, fun q hq r hr => ?_⟩
    · rw [List.mem_filter] at hq
      have h1 := hn q hq.1
      have h2 : u < q.2 := by simpa using hq.2
      exact ⟨Ne.symm h1, by dsimp only; omega⟩
    · rcases List.mem_cons.1 hr with rfl | hr
      · rw [List.mem_filter] at hq
        exact ⟨hn q hq.1, by simpa using hq.2⟩
      · exact hp.2.2 q hq r hr
theorem insL_len {l : List (Nat × Nat)} (h : OkL l) (s u : Nat) : (insL l s u).length = l.length + 1 := by
  have := congrArg List.length (sorted_parts h.sorted u)
  rw [List.length_append] at this
  unfold insL
  rw [List.length_append, List.length_cons]
  omega
theorem digit_or {s u : Nat} (hs : s < 8) (hu : u < 8) : (64 ||| u * 8) ||| s = digit (s, u) := by
  have e1 : 64 ||| u * 8 = 64 + u * 8 := nat_join 6 64 _ (by decide) (by omega)
  rw [e1, nat_join 3 _ _ (by omega) (by omega)]
  unfold digit
  dsimp only
  omega
theorem pushK_enc {l : List (Nat × Nat)} (h : OkL l) (u : Nat) : pushK (enc l) u = (l.filter (fun p => decide (p.2 ≤ u))).length := by
  have e := sorted_parts h.sorted u
  obtain ⟨a, ha⟩ : ∃ a, l.filter (fun p => decide (p.2 ≤ u)) = a := ⟨_, rfl⟩
  obtain ⟨b, hb⟩ : ∃ b, l.filter (fun p => decide (u < p.2)) = b := ⟨_, rfl⟩
  have h1 : ∀ q, q ∈ a → q.2 ≤ u := fun q hq => by rw [← ha, List.mem_filter] at hq; simpa using hq.2
  have h2 : ∀ q, q ∈ b → u < q.2 := fun q hq => by rw [← hb, List.mem_filter] at hq; simpa using hq.2
  rw [ha, hb] at e
  rw [ha]
  clear ha hb
  subst e
  unfold pushK firstU
  cases b with
  | nil =>
    rw [first_enc_none h (fun q hq => ?_), many_enc h]
    · simp
    · have := h1 q (by simpa using hq)
      rw [digit_urgency (h.inn q hq)]
      simp; omega
  | cons p b =>
    rw [first_enc_some h ?_ (fun q hq => ?_)]
    · rfl
    · have := h2 p (by simp)
      rw [digit_urgency (h.inn p (by simp))]
      simp; omega
    · have := h1 q hq
      rw [digit_urgency (h.inn q (by simp [hq]))]
      simp; omega
theorem pushX_enc {a b : List (Nat × Nat)} {s u : Nat} (h : InL (a ++ b)) (h8 : (a ++ b).length < 8) (hs : s < 8) (hu : u < 8) : pushX (enc (a ++ b)) s u a.length = enc (a ++ (s, u) :: b) := by
  have hl : a.length + b.length < 8 := by simpa using h8
  have hA := encT_lt h.left
  have hB := encT_lt h.right
  have hd := digit_lt (p := (s, u)) ⟨hs, hu⟩
  unfold pushX
  rw [enc_div h (by omega), enc_mod h (by omega), encT_low h.left, digit_or hs hu]
  obtain ⟨k, hk⟩ : ∃ k, a.length = k := ⟨_, rfl⟩
  obtain ⟨m, hm⟩ : ∃ k, b.length = k := ⟨_, rfl⟩
  unfold enc
  rw [encT_append, encT_append, encT, List.length_append, List.length_append, List.length_cons, hk, hm, Nat.add_sub_cancel_left]
  rw [hk] at hA
  rw [hm] at hB
  rw [hk, hm] at hl
  obtain ⟨A, hA'⟩ : ∃ A, encT a = A := ⟨_, rfl⟩
  obtain ⟨B, hB'⟩ : ∃ A, encT b = A := ⟨_, rfl⟩
  obtain ⟨d, hd'⟩ : ∃ A, digit (s, u) = A := ⟨_, rfl⟩
  rw [hA'] at hA ⊢
  rw [hB'] at hB ⊢
  rw [hd'] at hd ⊢
  have hP : 2 ^ (7 * k) * 2 ^ (7 * m) * 2 ^ 7 ≤ 2 ^ 56 := by
    rw [← Nat.pow_add, ← Nat.pow_add]
    exact Nat.pow_le_pow_right (by decide) (by omega)
  obtain ⟨K, hK⟩ : ∃ K, 2 ^ (7 * k) = K := ⟨_, rfl⟩
  obtain ⟨M, hM⟩ : ∃ K, 2 ^ (7 * m) = K := ⟨_, rfl⟩
  have hK0 : 0 < K := hK ▸ Nat.two_pow_pos _
  have h7 : 2 ^ (7 * k + 7) = K * 128 := by rw [Nat.pow_add, hK]
  rw [hM] at hB hP
  rw [hK] at hA hP ⊢
  have hKB : K * B * 128 + K * 128 ≤ 2 ^ 56 := by
    have : K * (B + 1) * 128 ≤ K * M * 2 ^ 7 := Nat.mul_le_mul_right _ (Nat.mul_le_mul_left _ hB)
    rw [Nat.mul_add, Nat.mul_one, Nat.add_mul] at this
    omega
  have hdK : d * K + A < K * 128 := by
    have : (d + 1) * K ≤ 128 * K := Nat.mul_le_mul_right _ hd
    rw [Nat.add_mul, Nat.one_mul] at this
    omega
  have j1 : (k + m + 1) * 2 ^ 60 ||| K * B * 128 % 18446744073709551616 = (k + m + 1) * 2 ^ 60 + K * B * 128 := by
    rw [Nat.mod_eq_of_lt (by omega)]
    exact nat_join 60 _ _ (Nat.mul_mod_left _ _) (by omega)
  have hz : ((k + m + 1) * 2 ^ 60 + K * B * 128) % 2 ^ (7 * k + 7) = 0 := by
    have e1 : (k + m + 1) * 2 ^ 60 = (k + m + 1) * 2 ^ (60 - (7 * k + 7)) * 2 ^ (7 * k + 7) := by rw [Nat.mul_assoc, ← Nat.pow_add, show 60 - (7 * k + 7) + (7 * k + 7) = 60 by omega]
    have e2 : K * B * 128 = B * 2 ^ (7 * k + 7) := by rw [h7, Nat.mul_comm K B, Nat.mul_assoc]
    rw [e1, e2, ← Nat.add_mul, Nat.mul_mod_left]
  have j2 : ((k + m + 1) * 2 ^ 60 + K * B * 128) ||| d * K = (k + m + 1) * 2 ^ 60 + K * B * 128 + d * K := nat_join (7 * k + 7) _ _ hz (by rw [h7]; omega)
  have hz2 : ((k + m + 1) * 2 ^ 60 + K * B * 128 + d * K) % 2 ^ (7 * k) = 0 := by
    have e0 : ((k + m + 1) * 2 ^ 60 + K * B * 128) % 2 ^ (7 * k) = 0 := by
      rw [← Nat.mod_mod_of_dvd _ (Nat.pow_dvd_pow 2 (show 7 * k ≤ 7 * k + 7 by omega)), hz, Nat.zero_mod]
    rw [Nat.add_mod, e0, hK, Nat.mul_mod_left]
    simp
  have j3 := nat_join (7 * k) _ A hz2 (by rw [hK]; exact hA)
  rw [j1, j2, j3, Nat.mul_add, show k + (m + 1) = k + m + 1 by omega, Nat.mul_comm K d, ← Nat.mul_assoc, Nat.mul_comm K 128, Nat.mul_assoc 128, Nat.mul_comm 128]
  omega
theorem push_enc {l : List (Nat × Nat)} (h : OkL l) {s u : Nat} (hs : s < 8) (hu : u < 8) (hn : ∀ p, p ∈ l → p.1 ≠ s) : pushF (enc l) s u = (enc (insL l s u), true) := by
  have hok : pushOk (enc l) s u = true := by
    unfold pushOk
    rw [find_enc_none h (fun q hq => by have := hn q hq; omega), right_enc h, numB_iff.2 ⟨by omega, by omega⟩, numB_iff.2 ⟨by omega, by omega⟩]
    rfl
  unfold pushF
  rw [hok, if_pos rfl, Int.toNat_natCast, Int.toNat_natCast, pushK_enc h]
  have hr := h.room hs hn
  have e := sorted_parts h.sorted u
  have := pushX_enc (a := l.filter (fun p => decide (p.2 ≤ u))) (b := l.filter (fun p => decide (u < p.2))) (s := s) (u := u) (by rw [e]; exact h.inn) (by rw [e]; exact hr) hs hu
  rw [e] at this
  rw [this]
  rfl
end Go.Proofs.Ytkjloeefcaadlaa
