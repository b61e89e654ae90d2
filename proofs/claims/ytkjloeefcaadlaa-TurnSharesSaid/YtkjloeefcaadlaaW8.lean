/- Which words may not be. -/
import Derived.Test.YtkjloeefcaadlaaW4
namespace Go.Proofs.Ytkjloeefcaadlaa

theorem stt_congr {x z : Nat} : ∀ n, (∀ k, k < n → place x k = place z k) → stt x n = stt z n := by
  intro n
  induction n with
  | zero => intro _; rfl
  | succ n ih =>
    intro h
    rw [stt, stt, ih (fun k hk => h k (by omega)), h n (by omega)]
theorem right_iff {x : Nat} : rightB x = true ↔ x / 2 ^ 60 ≤ 8 ∧ x % 2 ^ 60 / 2 ^ (7 * (x / 2 ^ 60)) = 0 ∧ stt x (x / 2 ^ 60) ≠ none := by
  simp only [rightB, Bool.and_eq_true, decide_eq_true_eq, Option.isSome_iff_ne_none, and_assoc]
theorem stt_some {x k n : Nat} (h : stt x n ≠ none) (hk : k ≤ n) : stt x k ≠ none := fun e => h (stt_none e n hk)
/-- Each place of a word that may be has somebody there. -/
theorem stt_there {x k n : Nat} (h : stt x n ≠ none) (hk : k < n) : place x k / 64 % 2 = 1 := by
  have h1 := stt_some h (show k + 1 ≤ n by omega)
  rw [stt] at h1
  cases hs : stt x k with
  | none => rw [hs] at h1; exact absurd rfl h1
  | some st =>
    obtain ⟨s, l⟩ := st
    rw [hs] at h1
    simp only [stp] at h1
    split at h1
    · exact absurd rfl h1
    · rename_i hn; omega
theorem place_bit (x k : Nat) : place x k / 64 % 2 = x / 2 ^ (7 * k + 6) % 2 := by
  unfold place
  rw [Nat.pow_add, ← Nat.div_div_eq_div_mul]
  simp only [Nat.reducePow]
  omega
theorem place_mod (x k : Nat) (hk : k < 8) : place (x % 2 ^ 60) k = place x k := by
  unfold place
  have h1 : x % 2 ^ 60 / 2 ^ (7 * k) % 2 ^ 7 = x / 2 ^ (7 * k) % 2 ^ 7 := by
    apply Nat.eq_of_testBit_eq
    intro i
    simp only [Nat.testBit_mod_two_pow, Nat.testBit_div_two_pow]
    by_cases hi : i < 7
    · simp [hi, show i + 7 * k < 60 by omega]
    · simp [hi]
  exact h1
theorem right_top {x n : Nat} (h : rightB x = true) (hn : x / 2 ^ 60 = n) : n ≤ 8 ∧ x % 2 ^ 60 < 2 ^ (7 * n) ∧ stt x n ≠ none := by
  obtain ⟨h1, h2, h3⟩ := right_iff.1 h
  rw [hn] at h1 h2 h3
  refine ⟨h1, ?_, h3⟩
  rcases Nat.div_eq_zero_iff.1 h2 with h | h
  · exact absurd h (by have := Nat.one_le_two_pow (n := 7 * n); omega)
  · exact h
/-- How many are in a word that may be is told by its places. -/
theorem right_count {x z : Nat} (hx : rightB x = true) (hz : rightB z = true) (h : x % 2 ^ 60 = z % 2 ^ 60) (hlt : x / 2 ^ 60 < z / 2 ^ 60) : False := by
  obtain ⟨n, hn⟩ : ∃ n, x / 2 ^ 60 = n := ⟨_, rfl⟩
  obtain ⟨m, hm⟩ : ∃ n, z / 2 ^ 60 = n := ⟨_, rfl⟩
  obtain ⟨a1, a2, a3⟩ := right_top hx hn
  obtain ⟨b1, b2, b3⟩ := right_top hz hm
  rw [hn, hm] at hlt
  have ht := stt_there b3 hlt
  rw [← place_mod z n (by omega), ← h, place_bit] at ht
  have : x % 2 ^ 60 / 2 ^ (7 * n + 6) = 0 := Nat.div_eq_of_lt (Nat.lt_of_lt_of_le a2 (Nat.pow_le_pow_right (by decide) (by omega)))
  rw [this] at ht
  simp at ht
theorem right_unique {x z : Nat} (hx : rightB x = true) (hz : rightB z = true) (h : x % 2 ^ 60 = z % 2 ^ 60) : x = z := by
  rcases Nat.lt_trichotomy (x / 2 ^ 60) (z / 2 ^ 60) with h1 | h1 | h1
  · exact (right_count hx hz h h1).elim
  · have e1 := Nat.div_add_mod x (2 ^ 60)
    have e2 := Nat.div_add_mod z (2 ^ 60)
    rw [h1, h] at e1
    omega
  · exact (right_count hz hx h.symm h1).elim
theorem xor_mod (x b : Nat) (hb : 60 ≤ b) : (x ^^^ 2 ^ b) % 2 ^ 60 = x % 2 ^ 60 := by
  apply Nat.eq_of_testBit_eq
  intro i
  simp only [Nat.testBit_mod_two_pow, Nat.testBit_xor, Nat.testBit_two_pow]
  by_cases hi : i < 60
  · simp [hi, show ¬ b = i by omega]
  · simp [hi]
theorem xor_div (x b : Nat) (hb : b < 60) : (x ^^^ 2 ^ b) / 2 ^ 60 = x / 2 ^ 60 := by
  apply Nat.eq_of_testBit_eq
  intro i
  simp only [Nat.testBit_div_two_pow, Nat.testBit_xor, Nat.testBit_two_pow]
  simp [show ¬ b = i + 60 by omega]
theorem xor_ne (x b : Nat) : x ^^^ 2 ^ b ≠ x := by
  intro h
  have := congrArg (fun y => y.testBit b) h
  simp [Nat.testBit_xor] at this
/-- A bit more, or one fewer, that tells how many there are; one of the bits 56 to 59; a bit beyond the last place. -/
theorem may_beyond {x b n : Nat} (h : rightB x = true) (hn : x / 2 ^ 60 = n) (hb : 7 * n ≤ b) : rightB (x ^^^ 2 ^ b) = false := by
  cases hr : rightB (x ^^^ 2 ^ b) with
  | false => rfl
  | true =>
    exfalso
    obtain ⟨a1, a2, a3⟩ := right_top h hn
    rcases Nat.lt_or_ge b 60 with h1 | h1
    · have hd := xor_div x b h1
      rw [hn] at hd
      obtain ⟨c1, c2, c3⟩ := right_top hr hd
      have hbit : ((x ^^^ 2 ^ b) % 2 ^ 60).testBit b = true := by
        have hx0 : (x % 2 ^ 60).testBit b = false := Nat.testBit_lt_two_pow (Nat.lt_of_lt_of_le a2 (Nat.pow_le_pow_right (by decide) hb))
        simp only [Nat.testBit_mod_two_pow, h1, decide_true, Bool.true_and] at hx0 ⊢
        simp [Nat.testBit_xor, hx0]
      have := Nat.testBit_lt_two_pow (Nat.lt_of_lt_of_le c2 (Nat.pow_le_pow_right (n := 2) (by decide) hb))
      rw [this] at hbit
      cases hbit
    · exact xor_ne x b (right_unique hr h (xor_mod x b h1))
theorem may_high {x b : Nat} (h : rightB x = true) (hb : 56 ≤ b) : rightB (x ^^^ 2 ^ b) = false :=
  may_beyond h rfl (by have := right_le h; omega)
theorem may_there {x b n : Nat} (h : rightB x = true) (hn : x / 2 ^ 60 = n) (hb : b / 7 < n) (h6 : b % 7 = 6) : rightB (x ^^^ 2 ^ b) = false := by
  cases hr : rightB (x ^^^ 2 ^ b) with
  | false => rfl
  | true =>
    exfalso
    obtain ⟨a1, a2, a3⟩ := right_top h hn
    have hd := xor_div x b (by omega)
    rw [hn] at hd
    obtain ⟨c1, c2, c3⟩ := right_top hr hd
    have t1 := stt_there a3 hb
    have t2 := stt_there c3 hb
    rw [place_bit, show 7 * (b / 7) + 6 = b by omega] at t1 t2
    have e : ∀ y : Nat, y / 2 ^ b % 2 = 1 → y.testBit b = true := fun y hy => by rw [Nat.testBit_eq_decide_div_mod_eq]; simp [hy]
    have u1 := e _ t1
    have u2 := e _ t2
    rw [Nat.testBit_xor, u1, Nat.testBit_two_pow] at u2
    simp at u2
def twiceX (x n s : Nat) : Nat := (x % 2 ^ 60 ||| (120 + s) * 2 ^ (7 * n)) + (n + 1) * 2 ^ 60
theorem or_add {y m p : Nat} (hy : y < 2 ^ m) : y ||| p * 2 ^ m = y + p * 2 ^ m := by
  rw [Nat.or_comm, Nat.add_comm]
  exact nat_join m _ _ (Nat.mul_mod_left _ _) hy
theorem seen_bit {x k : Nat} {s l : Nat} (h : stt x (k + 1) = some (s, l)) : s.testBit (place x k % 8) = true := by
  rw [stt] at h
  cases hs : stt x k with
  | none => rw [hs] at h; cases h
  | some st =>
    obtain ⟨s', l'⟩ := st
    rw [hs] at h
    simp only [stp] at h
    split at h
    · cases h
    · simp only [Option.some.injEq, Prod.mk.injEq] at h
      rw [← h.1, Nat.testBit_or, Nat.testBit_two_pow]
      simp
theorem may_twice {x n : Nat} (h : rightB x = true) (hn : x / 2 ^ 60 = n) (h0 : 0 < n) (h8 : n < 8) : rightB (twiceX x n (place x (n - 1) % 8)) = false := by
  obtain ⟨a1, a2, a3⟩ := right_top h hn
  obtain ⟨y, hy⟩ : ∃ y, x % 2 ^ 60 = y := ⟨_, rfl⟩
  obtain ⟨s, hs, hs8⟩ : ∃ s, place x (n - 1) % 8 = s ∧ s < 8 := ⟨_, rfl, Nat.mod_lt _ (by decide)⟩
  unfold twiceX
  rw [hs, hy, or_add (by rw [← hy]; exact a2)]
  have hp : 2 ^ (7 * n) ≤ 2 ^ 49 := Nat.pow_le_pow_right (n := 2) (by decide) (by omega)
  have hlt : y + (120 + s) * 2 ^ (7 * n) < 2 ^ 60 := by
    have : (120 + s) * 2 ^ (7 * n) ≤ 127 * 2 ^ 49 := Nat.mul_le_mul (by omega) hp
    rw [hy] at a2
    omega
  obtain ⟨q, hq⟩ : ∃ q, y + (120 + s) * 2 ^ (7 * n) = q := ⟨_, rfl⟩
  have hdiv : (q + (n + 1) * 2 ^ 60) / 2 ^ 60 = n + 1 := by rw [← hq]; omega
  have hmod : (q + (n + 1) * 2 ^ 60) % 2 ^ 60 = q := by rw [← hq]; omega
  rw [hq]
  have hplace : ∀ k, k < n → place (q + (n + 1) * 2 ^ 60) k = place x k := fun k hk => by
    rw [← place_mod _ k (by omega), ← place_mod x k (by omega), hmod, hy, ← hq]
    unfold place
    have e : 2 ^ (7 * n) = 2 ^ (7 * k) * (128 * 2 ^ (7 * (n - k - 1))) := by
      rw [show (128 : Nat) = 2 ^ 7 from rfl, ← Nat.pow_add, ← Nat.pow_add]; congr 1; omega
    rw [e, Nat.mul_left_comm, Nat.add_mul_div_left _ _ (Nat.two_pow_pos _), ← Nat.mul_assoc, Nat.mul_comm _ 128, Nat.mul_assoc, Nat.add_mul_mod_self_left]
  have hlast : place (q + (n + 1) * 2 ^ 60) n = 120 + s := by
    rw [← place_mod _ n (by omega), hmod, ← hq]
    unfold place
    rw [Nat.add_mul_div_right _ _ (Nat.two_pow_pos _), Nat.div_eq_of_lt (by rw [← hy]; exact a2)]
    omega
  have hst : stt (q + (n + 1) * 2 ^ 60) (n + 1) = none := by
    rw [stt, stt_congr n hplace, hlast]
    cases hx : stt x n with
    | none => rfl
    | some st =>
      obtain ⟨se, l⟩ := st
      have hsb := seen_bit (x := x) (k := n - 1) (s := se) (l := l) (by rw [show n - 1 + 1 = n by omega]; exact hx)
      rw [hs] at hsb
      have : se &&& 2 ^ s ≠ 0 := by
        intro e
        have := congrArg (fun y => y.testBit s) e
        simp [Nat.testBit_and, hsb] at this
      simp only [stp]
      rw [if_pos (.inr (.inl (by rw [show (120 + s) % 8 = s by omega]; exact this)))]
  cases hr : rightB (q + (n + 1) * 2 ^ 60) with
  | false => rfl
  | true => exact absurd hst (right_top hr hdiv).2.2
end Go.Proofs.Ytkjloeefcaadlaa
