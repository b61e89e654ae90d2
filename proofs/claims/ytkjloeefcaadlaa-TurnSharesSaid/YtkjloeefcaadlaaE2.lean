/- A word as the list of who is in it: which may be, back and forth. -/
import Derived.Test.YtkjloeefcaadlaaE1
namespace Go.Proofs.Ytkjloeefcaadlaa
theorem stt_enc {l : List (Nat × Nat)} (h : OkL l) : ∀ k, k ≤ l.length → ∃ s u, stt (enc l) k = some (s, u) ∧ (∀ j, s.testBit j = true → ∃ i, i < k ∧ (l.getD i (0, 0)).1 = j) ∧ (u = 0 ∨ ∃ i, i < k ∧ (l.getD i (0, 0)).2 = u)
  | 0, _ => ⟨0, 0, rfl, fun j hj => by simp at hj, .inl rfl⟩
  | k + 1, hk => by
    obtain ⟨s, u, hs, h1, h2⟩ := stt_enc h k (by omega)
    have hmem : l.getD k (0, 0) ∈ l := by rw [List.getD, List.getElem?_eq_getElem (by omega)]; simp
    have hp := h.inn _ hmem
    have hpl := place_at h.inn h.len (k := k) (by omega)
    have hpair : ∀ i, i < k → (l.getD i (0, 0)).1 ≠ (l.getD k (0, 0)).1 ∧ (l.getD i (0, 0)).2 ≤ (l.getD k (0, 0)).2 := fun i hi => by
      have := (List.pairwise_iff_getElem.1 h.pair) i k (by omega) (by omega) hi
      simpa [List.getD, show i < l.length by omega, show k < l.length by omega] using this
    obtain ⟨p, hpe⟩ : ∃ p, l.getD k (0, 0) = p := ⟨_, rfl⟩
    rw [hpe] at hp hpl hpair
    refine ⟨s ||| 2 ^ p.1, p.2, ?_, fun j hj => ?_, .inr ⟨k, by omega, by rw [hpe]⟩⟩
    · rw [stt, hs, hpl, stp, digit_slot hp, digit_urgency hp, digit_there hp, if_neg]
      rintro (h0 | h0 | h0)
      · omega
      · apply h0
        apply Nat.eq_of_testBit_eq
        intro i
        rw [Nat.testBit_and, Nat.testBit_two_pow, Nat.zero_testBit]
        by_cases hb : s.testBit i = true
        · obtain ⟨i', hi', he⟩ := h1 i hb
          have := (hpair i' hi').1
          rw [he] at this
          simp [Ne.symm this]
        · simp [hb]
      · rcases h2 with rfl | ⟨i, hi, rfl⟩
        · omega
        · have := (hpair i hi).2; omega
    · rw [Nat.testBit_or, Nat.testBit_two_pow, Bool.or_eq_true] at hj
      rcases hj with hj | hj
      · obtain ⟨i, hi, he⟩ := h1 j hj
        exact ⟨i, by omega, he⟩
      · exact ⟨k, by omega, by rw [hpe]; simpa using hj⟩
theorem right_enc {l : List (Nat × Nat)} (h : OkL l) : rightB (enc l) = true := by
  rw [right_iff, enc_div h.inn h.len, enc_mod h.inn h.len]
  refine ⟨h.len, Nat.div_eq_of_lt (encT_lt h.inn), ?_⟩
  obtain ⟨s, u, hs, _⟩ := stt_enc h l.length (Nat.le_refl _)
  rw [hs]
  simp
theorem enc_lt {l : List (Nat × Nat)} (h : OkL l) : enc l < 18446744073709551616 := by
  have h1 := encT_small h.inn h.len
  have h2 := h.len
  unfold enc
  omega
theorem many_enc {l : List (Nat × Nat)} (h : OkL l) : manyN (enc l) = l.length := by
  unfold manyN
  rw [right_enc h, if_pos rfl, enc_div h.inn h.len]
/-- Who is in a word. -/
def dec (x n : Nat) : List (Nat × Nat) := (List.range n).map fun k => (place x k % 8, place x k / 8 % 8)
theorem dec_succ (x n : Nat) : dec x (n + 1) = dec x n ++ [(place x n % 8, place x n / 8 % 8)] := by
  unfold dec; rw [List.range_succ, List.map_append]; rfl
theorem dec_len (x n : Nat) : (dec x n).length = n := by simp [dec]
theorem encT_dec {x n : Nat} (h : stt x n ≠ none) : ∀ k, k ≤ n → encT (dec x k) = x % 2 ^ (7 * k)
  | 0, _ => by simp [dec, encT, Nat.mod_one]
  | k + 1, hk => by
    rw [dec_succ, encT_append, encT_dec h k (by omega), dec_len, trunc_succ]
    have ht := stt_there h (show k < n by omega)
    have hl := place_lt x k
    have : encT [(place x k % 8, place x k / 8 % 8)] = place x k := by simp [encT, digit]; omega
    rw [this, Nat.mul_comm (2 ^ (7 * k))]
theorem dec_ok {x n : Nat} (h : stt x n ≠ none) : OkL (dec x n) := by
  refine ⟨fun p hp => ?_, ?_⟩
  · obtain ⟨k, _, rfl⟩ := List.mem_map.1 hp
    exact ⟨Nat.mod_lt _ (by decide), Nat.mod_lt _ (by decide)⟩
  · unfold dec
    rw [List.pairwise_map, List.pairwise_iff_getElem]
    intro i k hi hk hik
    simp only [List.length_range] at hi hk
    simp only [List.getElem_range]
    have := stt_pair h hik hk
    exact ⟨this.2, this.1⟩
/-- A word that may be is that of who is in it. -/
theorem enc_dec {x : Nat} (h : rightB x = true) : ∃ l, OkL l ∧ x = enc l := by
  obtain ⟨n, hn⟩ : ∃ n, x / 2 ^ 60 = n := ⟨_, rfl⟩
  obtain ⟨a1, a2, a3⟩ := right_top h hn
  refine ⟨dec x n, dec_ok a3, ?_⟩
  have e := encT_dec a3 n (Nat.le_refl _)
  have hp : 2 ^ (7 * n) ≤ 2 ^ 60 := Nat.pow_le_pow_right (n := 2) (by decide) (by omega)
  have e2 : x % 2 ^ (7 * n) = x % 2 ^ 60 := by
    rw [← Nat.mod_mod_of_dvd x (Nat.pow_dvd_pow 2 (show 7 * n ≤ 60 by omega)), Nat.mod_eq_of_lt a2]
  unfold enc
  rw [dec_len, e, e2]
  omega
/-- Where the first one stands that is so. -/
theorem first_enc_some {a b : List (Nat × Nat)} {p : Nat × Nat} {so : Nat → Bool} (h : OkL (a ++ p :: b)) (hp : so (digit p) = true) (hn : ∀ q, q ∈ a → so (digit q) = false) : firstK (enc (a ++ p :: b)) so = some a.length := by
  have h8 := h.len
  refine firstK_some (right_enc h) (by rw [enc_div h.inn h8]; simp) (by rw [place_enc h.inn h8]; exact hp) (fun i hi => ?_)
  rw [place_at h.inn h8 (by simp; omega)]
  apply hn
  rw [List.getD, List.getElem?_append_left hi, List.getElem?_eq_getElem hi]
  simp
theorem first_enc_none {l : List (Nat × Nat)} {so : Nat → Bool} (h : OkL l) (hn : ∀ q, q ∈ l → so (digit q) = false) : firstK (enc l) so = none := by
  refine firstK_none (fun k hk => ?_)
  rw [enc_div h.inn h.len] at hk
  rw [place_at h.inn h.len hk]
  apply hn
  rw [List.getD, List.getElem?_eq_getElem hk]
  simp
theorem find_enc_some {a b : List (Nat × Nat)} {p : Nat × Nat} (h : OkL (a ++ p :: b)) : findK (enc (a ++ p :: b)) p.1 = some a.length := by
  refine first_enc_some h (by simp [digit_slot (h.inn p (by simp))]) (fun q hq => ?_)
  have h1 := h.inn q (by simp [hq])
  have := (List.pairwise_append.1 h.pair).2.2 q hq p (by simp)
  rw [digit_slot h1]
  simp only [beq_eq_false_iff_ne, ne_eq]
  have := this.1
  omega
theorem find_enc_none {l : List (Nat × Nat)} (h : OkL l) {s : Int} (hn : ∀ q, q ∈ l → (q.1 : Int) ≠ s) : findK (enc l) s = none :=
  first_enc_none h (fun q hq => by
    rw [digit_slot (h.inn q hq)]
    have := hn q hq
    simpa using this)
/-- Who has a slot: where it stands. -/
theorem slot_split {l : List (Nat × Nat)} {s : Nat} (h : ∃ p, p ∈ l ∧ p.1 = s) : ∃ a p b, l = a ++ p :: b ∧ p.1 = s := by
  obtain ⟨p, hp, rfl⟩ := h
  obtain ⟨a, b, rfl⟩ := List.append_of_mem hp
  exact ⟨a, p, b, rfl, rfl⟩
theorem at_enc {a b : List (Nat × Nat)} {p : Nat × Nat} (h : OkL (a ++ p :: b)) : atF (enc (a ++ p :: b)) (a.length : Nat) = (p.1, p.2, true) := by
  have hp := h.inn p (by simp)
  unfold atF
  rw [many_enc h, if_pos ⟨by omega, by simp; omega⟩, Int.toNat_natCast, place_enc h.inn h.len, digit_slot hp, digit_urgency hp]
theorem at_enc_none {l : List (Nat × Nat)} (h : OkL l) {k : Int} (hk : k < 0 ∨ (l.length : Int) ≤ k) : atF (enc l) k = (0, 0, false) := by
  unfold atF
  rw [many_enc h, if_neg (by omega)]
end Go.Proofs.Ytkjloeefcaadlaa
