/- The word of rows. -/
import Derived.Test.YtkjloeefcaadlaaP03
import Derived.Test.YtkjloeefcaadlaaP01
set_option linter.unusedSimpArgs false
set_option linter.unusedVariables false
namespace Go.Proofs.Ytkjloeefcaadlaa
open Go.RowKit Go.Shelf Go.Cs
attribute [local go_sem] Oper.semAt_some
/-- One row pushed, slot by slot. -/
def ofRow (u : Nat) : Nat → List Int → Option Nat
  | x, [] => some x
  | x, s :: l => if (pushF x s u).2 then ofRow u (pushF x s u).1 l else none
def ofRows (X : Nat → List Int) : Nat → Nat → Option Nat
  | _, 0 => some 0
  | n, u + 1 => match ofRows X n u with
    | some x => ofRow u x (X u)
    | none => none
def ofF (X : Nat → List Int) : Nat × Bool := match ofRows X 8 8 with
  | some x => (x, true)
  | none => (0, false)
theorem ofRow_append (u x : Nat) (l m : List Int) : ofRow u x (l ++ m) = (ofRow u x l).bind (fun y => ofRow u y m) := by
  induction l generalizing x with
  | nil => rfl
  | cons s l ih =>
    simp only [List.cons_append, ofRow]
    split
    · exact ih _
    · rfl
theorem ofRows_none {X : Nat → List Int} {u : Nat} (h : ofRows X 8 u = none) : ∀ v, u ≤ v → ofRows X 8 v = none := by
  intro v hv
  induction v with
  | zero => obtain rfl : u = 0 := by omega
            exact h
  | succ v ih =>
    rcases Nat.lt_or_ge v u with h1 | h1
    · obtain rfl : u = v + 1 := by omega
      exact h
    · rw [ofRows, ih h1]
theorem ofF_none {X : Nat → List Int} {u x : Nat} (hu : u < 8) (h : ofRows X 8 u = some x) (hn : ofRow u x (X u) = none) : ofF X = (0, false) := by
  have : ofRows X 8 (u + 1) = none := by rw [ofRows, h]; exact hn
  rw [ofF, ofRows_none this 8 (by omega)]
theorem pushF_lt (x : Nat) (s u : Int) (hx : x < 18446744073709551616) : (pushF x s u).1 < 18446744073709551616 := by
  unfold pushF
  split
  · rename_i ho
    simp only [pushOk, Bool.and_eq_true, Option.isNone_iff_eq_none] at ho
    obtain ⟨⟨⟨_, hr⟩, hs⟩, hu⟩ := ho
    have hs := numB_iff.1 hs
    have hu := numB_iff.1 hu
    have hn := right_le hr
    have hk := pushK_le x u
    have hp : 2 ^ (7 * pushK x u) ≤ 2 ^ 56 := Nat.pow_le_pow_right (n := 2) (by decide) (by omega)
    have l1 : 64 ||| u.toNat * 8 < 128 := Nat.or_lt_two_pow (n := 7) (by decide) (by omega)
    have l2 : (64 ||| u.toNat * 8) ||| s.toNat < 128 := Nat.or_lt_two_pow (n := 7) l1 (by omega)
    have l3 : ((64 ||| u.toNat * 8) ||| s.toNat) * 2 ^ (7 * pushK x u) < 18446744073709551616 := Nat.lt_of_lt_of_le (Nat.mul_lt_mul_of_lt_of_le l2 hp (by decide)) (by decide)
    exact Nat.or_lt_two_pow (n := 64) (Nat.or_lt_two_pow (n := 64) (Nat.or_lt_two_pow (n := 64) (by simp only [Nat.reducePow] at hn ⊢; omega) (Nat.mod_lt _ (by decide))) l3) (Nat.lt_of_le_of_lt (Nat.mod_le _ _) (by omega))
  · exact hx
theorem idx26 (vs : List Value) (hl : vs.length = 8) (u : Nat) (hu : u < 8) (w : World) : (Instr.index 62 (.agg vs.toArray) (.int .i64 (u : Int))).run Try.prog w = .ok (vs.getD u undef) w :=
  run_index_arr Try.underlying62 Try.underlying44 rfl (by kernel_rfl) hu (by simp [List.getD, show u < vs.length by omega]) w
end Go.Proofs.Ytkjloeefcaadlaa
/- Which words may not be. -/
namespace Go.Proofs.Ytkjloeefcaadlaa

theorem stt_congr {x z : Nat} : ∀ n, (∀ k, k < n → place x k = place z k) → stt x n = stt z n := by
  intro n
  induction n with
  | zero => intro _; rfl
  | succ n ih =>
    intro h
    rw [stt, stt, ih (fun k hk => h k (by omega)), h n (by omega)]
theorem right_iff {x : Nat} : rightB x = true ↔ x / 2 ^ 60 ≤ 8 ∧ x % 2 ^ 60 / 2 ^ (7 * (x / 2 ^ 60)) = 0 ∧ stt x (x / 2 ^ 60) ≠ none := by
  simp only [rightB, Bool.and_eq_true, decide_eq_true_eq, Option.isSome_iff_ne_none, and_assoc]
theorem stt_some {x k n : Nat} (h : stt x n ≠ none) (hk : k ≤ n) : stt x k ≠ none := fun e => h (stt_none e n hk)
/-- Each place of a word that may be has somebody there. -/
theorem stt_there {x k n : Nat} (h : stt x n ≠ none) (hk : k < n) : place x k / 64 % 2 = 1 := by
  have h1 := stt_some h (show k + 1 ≤ n by omega)
  rw [stt] at h1
  cases hs : stt x k with
  | none => rw [hs] at h1; exact absurd rfl h1
  | some st =>
    obtain ⟨s, l⟩ := st
    rw [hs] at h1
    simp only [stp] at h1
    split at h1
    · exact absurd rfl h1
    · rename_i hn; omega
theorem place_bit (x k : Nat) : place x k / 64 % 2 = x / 2 ^ (7 * k + 6) % 2 := by
  unfold place
  rw [Nat.pow_add, ← Nat.div_div_eq_div_mul]
  simp only [Nat.reducePow]
  omega
theorem place_mod (x k : Nat) (hk : k < 8) : place (x % 2 ^ 60) k = place x k := by
  unfold place
  have h1 : x % 2 ^ 60 / 2 ^ (7 * k) % 2 ^ 7 = x / 2 ^ (7 * k) % 2 ^ 7 := by
    apply Nat.eq_of_testBit_eq
    intro i
    simp only [Nat.testBit_mod_two_pow, Nat.testBit_div_two_pow]
    by_cases hi : i < 7
    · simp [hi, show i + 7 * k < 60 by omega]
    · simp [hi]
  exact h1
theorem right_top {x n : Nat} (h : rightB x = true) (hn : x / 2 ^ 60 = n) : n ≤ 8 ∧ x % 2 ^ 60 < 2 ^ (7 * n) ∧ stt x n ≠ none := by
  obtain ⟨h1, h2, h3⟩ := right_iff.1 h
  rw [hn] at h1 h2 h3
  refine ⟨h1, ?_, h3⟩
  rcases Nat.div_eq_zero_iff.1 h2 with h | h
  · exact absurd h (by have := Nat.one_le_two_pow (n := 7 * n); omega)
  · exact h
/-- How many are in a word that may be is told by its places. -/
theorem right_count {x z : Nat} (hx : rightB x = true) (hz : rightB z = true) (h : x % 2 ^ 60 = z % 2 ^ 60) (hlt : x / 2 ^ 60 < z / 2 ^ 60) : False := by
  obtain ⟨n, hn⟩ : ∃ n, x / 2 ^ 60 = n := ⟨_, rfl⟩
  obtain ⟨m, hm⟩ : ∃ n, z / 2 ^ 60 = n := ⟨_, rfl⟩
  obtain ⟨a1, a2, a3⟩ := right_top hx hn
  obtain ⟨b1, b2, b3⟩ := right_top hz hm
  rw [hn, hm] at hlt
  have ht := stt_there b3 hlt
  rw [← place_mod z n (by omega), ← h, place_bit] at ht
  have : x % 2 ^ 60 / 2 ^ (7 * n + 6) = 0 := Nat.div_eq_of_lt (Nat.lt_of_lt_of_le a2 (Nat.pow_le_pow_right (by decide) (by omega)))
  rw [this] at ht
  simp at ht
theorem right_unique {x z : Nat} (hx : rightB x = true) (hz : rightB z = true) (h : x % 2 ^ 60 = z % 2 ^ 60) : x = z := by
  rcases Nat.lt_trichotomy (x / 2 ^ 60) (z / 2 ^ 60) with h1 | h1 | h1
  · exact (right_count hx hz h h1).elim
  · have e1 := Nat.div_add_mod x (2 ^ 60)
    have e2 := Nat.div_add_mod z (2 ^ 60)
    rw [h1, h] at e1
    omega
  · exact (right_count hz hx h.symm h1).elim
theorem xor_mod (x b : Nat) (hb : 60 ≤ b) : (x ^^^ 2 ^ b) % 2 ^ 60 = x % 2 ^ 60 := by
  apply Nat.eq_of_testBit_eq
  intro i
  simp only [Nat.testBit_mod_two_pow, Nat.testBit_xor, Nat.testBit_two_pow]
  by_cases hi : i < 60
  · simp [hi, show ¬ b = i by omega]
  · simp [hi]
theorem xor_div (x b : Nat) (hb : b < 60) : (x ^^^ 2 ^ b) / 2 ^ 60 = x / 2 ^ 60 := by
  apply Nat.eq_of_testBit_eq
  intro i
  simp only [Nat.testBit_div_two_pow, Nat.testBit_xor, Nat.testBit_two_pow]
  simp [show ¬ b = i + 60 by omega]
theorem xor_ne (x b : Nat) : x ^^^ 2 ^ b ≠ x := by
  intro h
  have := congrArg (fun y => y.testBit b) h
  simp [Nat.testBit_xor] at this
/-- A bit more, or one fewer, that tells how many there are; one of the bits 56 to 59; a bit beyond the last place. -/
theorem may_beyond {x b n : Nat} (h : rightB x = true) (hn : x / 2 ^ 60 = n) (hb : 7 * n ≤ b) : rightB (x ^^^ 2 ^ b) = false := by
  cases hr : rightB (x ^^^ 2 ^ b) with
  | false => rfl
  | true =>
    exfalso
    obtain ⟨a1, a2, a3⟩ := right_top h hn
    rcases Nat.lt_or_ge b 60 with h1 | h1
    · have hd := xor_div x b h1
      rw [hn] at hd
      obtain ⟨c1, c2, c3⟩ := right_top hr hd
      have hbit : ((x ^^^ 2 ^ b) % 2 ^ 60).testBit b = true := by
        have hx0 : (x % 2 ^ 60).testBit b = false := Nat.testBit_lt_two_pow (Nat.lt_of_lt_of_le a2 (Nat.pow_le_pow_right (by decide) hb))
        simp only [Nat.testBit_mod_two_pow, h1, decide_true, Bool.true_and] at hx0 ⊢
        simp [Nat.testBit_xor, hx0]
      have := Nat.testBit_lt_two_pow (Nat.lt_of_lt_of_le c2 (Nat.pow_le_pow_right (n := 2) (by decide) hb))
      rw [this] at hbit
      cases hbit
    · exact xor_ne x b (right_unique hr h (xor_mod x b h1))
theorem may_high {x b : Nat} (h : rightB x = true) (hb : 56 ≤ b) : rightB (x ^^^ 2 ^ b) = false :=
  may_beyond h rfl (by have := right_le h; omega)
theorem may_there {x b n : Nat} (h : rightB x = true) (hn : x / 2 ^ 60 = n) (hb : b / 7 < n) (h6 : b % 7 = 6) : rightB (x ^^^ 2 ^ b) = false := by
  cases hr : rightB (x ^^^ 2 ^ b) with
  | false => rfl
  | true =>
    exfalso
    obtain ⟨a1, a2, a3⟩ := right_top h hn
    have hd := xor_div x b (by omega)
    rw [hn] at hd
    obtain ⟨c1, c2, c3⟩ := right_top hr hd
    have t1 := stt_there a3 hb
    have t2 := stt_there c3 hb
    rw [place_bit, show 7 * (b / 7) + 6 = b by omega] at t1 t2
    have e : ∀ y : Nat, y / 2 ^ b % 2 = 1 → y.testBit b = true := fun y hy => by rw [Nat.testBit_eq_decide_div_mod_eq]; simp [hy]
    have u1 := e _ t1
    have u2 := e _ t2
    rw [Nat.testBit_xor, u1, Nat.testBit_two_pow] at u2
    simp at u2
def twiceX (x n s : Nat) : Nat := (x % 2 ^ 60 ||| (120 + s) * 2 ^ (7 * n)) + (n + 1) * 2 ^ 60
theorem or_add {y m p : Nat} (hy : y < 2 ^ m) : y ||| p * 2 ^ m = y + p * 2 ^ m := by
  rw [Nat.or_comm, Nat.add_comm]
  exact nat_join m _ _ (Nat.mul_mod_left _ _) hy
theorem seen_bit {x k : Nat} {s l : Nat} (h : stt x (k + 1) = some (s, l)) : s.testBit (place x k % 8) = true := by
  rw [stt] at h
  cases hs : stt x k with
  | none => rw [hs] at h; cases h
  | some st =>
    obtain ⟨s', l'⟩ := st
    rw [hs] at h
    simp only [stp] at h
    split at h
    · cases h
    · simp only [Option.some.injEq, Prod.mk.injEq] at h
      rw [← h.1, Nat.testBit_or, Nat.testBit_two_pow]
      simp
theorem may_twice {x n : Nat} (h : rightB x = true) (hn : x / 2 ^ 60 = n) (h0 : 0 < n) (h8 : n < 8) : rightB (twiceX x n (place x (n - 1) % 8)) = false := by
  obtain ⟨a1, a2, a3⟩ := right_top h hn
  obtain ⟨y, hy⟩ : ∃ y, x % 2 ^ 60 = y := ⟨_, rfl⟩
  obtain ⟨s, hs, hs8⟩ : ∃ s, place x (n - 1) % 8 = s ∧ s < 8 := ⟨_, rfl, Nat.mod_lt _ (by decide)⟩
  unfold twiceX
  rw [hs, hy, or_add (by rw [← hy]; exact a2)]
  have hp : 2 ^ (7 * n) ≤ 2 ^ 49 := Nat.pow_le_pow_right (n := 2) (by decide) (by omega)
  have hlt : y + (120 + s) * 2 ^ (7 * n) < 2 ^ 60 := by
    have : (120 + s) * 2 ^ (7 * n) ≤ 127 * 2 ^ 49 := Nat.mul_le_mul (by omega) hp
    rw [hy] at a2
    omega
  obtain ⟨q, hq⟩ : ∃ q, y + (120 + s) * 2 ^ (7 * n) = q := ⟨_, rfl⟩
  have hdiv : (q + (n + 1) * 2 ^ 60) / 2 ^ 60 = n + 1 := by rw [← hq]; omega
  have hmod : (q + (n + 1) * 2 ^ 60) % 2 ^ 60 = q := by rw [← hq]; omega
  rw [hq]
  have hplace : ∀ k, k < n → place (q + (n + 1) * 2 ^ 60) k = place x k := fun k hk => by
    rw [← place_mod _ k (by omega), ← place_mod x k (by omega), hmod, hy, ← hq]
    unfold place
    have e : 2 ^ (7 * n) = 2 ^ (7 * k) * (128 * 2 ^ (7 * (n - k - 1))) := by
      rw [show (128 : Nat) = 2 ^ 7 from rfl, ← Nat.pow_add, ← Nat.pow_add]; congr 1; omega
    rw [e, Nat.mul_left_comm, Nat.add_mul_div_left _ _ (Nat.two_pow_pos _), ← Nat.mul_assoc, Nat.mul_comm _ 128, Nat.mul_assoc, Nat.add_mul_mod_self_left]
  have hlast : place (q + (n + 1) * 2 ^ 60) n = 120 + s := by
    rw [← place_mod _ n (by omega), hmod, ← hq]
    unfold place
    rw [Nat.add_mul_div_right _ _ (Nat.two_pow_pos _), Nat.div_eq_of_lt (by rw [← hy]; exact a2)]
    omega
  have hst : stt (q + (n + 1) * 2 ^ 60) (n + 1) = none := by
    rw [stt, stt_congr n hplace, hlast]
    cases hx : stt x n with
    | none => rfl
    | some st =>
      obtain ⟨se, l⟩ := st
      have hsb := seen_bit (x := x) (k := n - 1) (s := se) (l := l) (by rw [show n - 1 + 1 = n by omega]; exact hx)
      rw [hs] at hsb
      have : se &&& 2 ^ s ≠ 0 := by
        intro e
        have := congrArg (fun y => y.testBit s) e
        simp [Nat.testBit_and, hsb] at this
      simp only [stp]
      rw [if_pos (.inr (.inl (by rw [show (120 + s) % 8 = s by omega]; exact this)))]
  cases hr : rightB (q + (n + 1) * 2 ^ 60) with
  | false => rfl
  | true => exact absurd hst (right_top hr hdiv).2.2
end Go.Proofs.Ytkjloeefcaadlaa
/- A word that may be is told by its rows. -/
namespace Go.Proofs.Ytkjloeefcaadlaa
theorem stt_facts {x : Nat} : ∀ {k s l : Nat}, stt x k = some (s, l) → (∀ i, i < k → place x i / 8 % 8 ≤ l) ∧ ∀ i, i < k → s.testBit (place x i % 8) = true
  | 0, s, l, h => ⟨fun i hi => by omega, fun i hi => by omega⟩
  | k + 1, s, l, h => by
    rw [stt] at h
    cases hs : stt x k with
    | none => rw [hs] at h; cases h
    | some st =>
      obtain ⟨s', l'⟩ := st
      rw [hs] at h
      simp only [stp] at h
      split at h
      · cases h
      · rename_i hn
        simp only [Option.some.injEq, Prod.mk.injEq] at h
        obtain ⟨rfl, rfl⟩ := h
        obtain ⟨f1, f2⟩ := stt_facts hs
        refine ⟨fun i hi => ?_, fun i hi => ?_⟩
        · rcases Nat.lt_or_ge i k with h | h
          · have := f1 i h; omega
          · obtain rfl : i = k := by omega
            exact Nat.le_refl _
        · rw [Nat.testBit_or, Nat.testBit_two_pow]
          rcases Nat.lt_or_ge i k with h | h
          · rw [f2 i h]; rfl
          · obtain rfl : i = k := by omega
            simp
theorem stt_pair {x i k n : Nat} (h : stt x n ≠ none) (hi : i < k) (hk : k < n) : place x i / 8 % 8 ≤ place x k / 8 % 8 ∧ place x i % 8 ≠ place x k % 8 := by
  have h1 := stt_some h (show k + 1 ≤ n by omega)
  rw [stt] at h1
  cases hs : stt x k with
  | none => rw [hs] at h1; exact absurd rfl h1
  | some st =>
    obtain ⟨s, l⟩ := st
    rw [hs] at h1
    simp only [stp] at h1
    split at h1
    · exact absurd rfl h1
    · rename_i hn
      obtain ⟨f1, f2⟩ := stt_facts hs
      refine ⟨by have := f1 i hi; omega, fun e => ?_⟩
      have hb := f2 i hi
      rw [e] at hb
      apply hn
      refine .inr (.inl fun e0 => ?_)
      have := congrArg (fun y => y.testBit (place x k % 8)) e0
      simp [Nat.testBit_and, hb] at this
/-- The first j places of a word. -/
def trunc (x j : Nat) : Nat := j * 2 ^ 60 + x % 2 ^ (7 * j)
theorem trunc_mod {x j : Nat} (hj : j ≤ 8) : trunc x j % 2 ^ 60 = x % 2 ^ (7 * j) := by
  have hp : 2 ^ (7 * j) ≤ 2 ^ 56 := Nat.pow_le_pow_right (n := 2) (by decide) (by omega)
  have := Nat.mod_lt x (Nat.two_pow_pos (7 * j))
  unfold trunc
  omega
theorem trunc_div {x j : Nat} (hj : j ≤ 8) : trunc x j / 2 ^ 60 = j := by
  have hp : 2 ^ (7 * j) ≤ 2 ^ 56 := Nat.pow_le_pow_right (n := 2) (by decide) (by omega)
  have := Nat.mod_lt x (Nat.two_pow_pos (7 * j))
  unfold trunc
  omega
theorem trunc_place {x j k : Nat} (hj : j ≤ 8) (hk : k < j) : place (trunc x j) k = place x k := by
  rw [← place_mod _ k (by omega), trunc_mod hj]
  unfold place
  apply Nat.eq_of_testBit_eq
  intro i
  rw [show (128 : Nat) = 2 ^ 7 from rfl]
  simp only [Nat.testBit_mod_two_pow, Nat.testBit_div_two_pow]
  by_cases hi : i < 7
  · simp [hi, show i + 7 * k < 7 * j by omega]
  · simp [hi]
theorem trunc_right {x j n : Nat} (h : rightB x = true) (hn : x / 2 ^ 60 = n) (hj : j ≤ n) : rightB (trunc x j) = true := by
  obtain ⟨a1, a2, a3⟩ := right_top h hn
  refine right_iff.2 ?_
  rw [trunc_div (by omega), trunc_mod (by omega)]
  refine ⟨by omega, Nat.div_eq_of_lt (Nat.mod_lt _ (Nat.two_pow_pos _)), ?_⟩
  rw [stt_congr j (fun k hk => trunc_place (by omega) hk)]
  exact stt_some a3 hj
theorem trunc_all {x n : Nat} (h : rightB x = true) (hn : x / 2 ^ 60 = n) : trunc x n = x := by
  obtain ⟨a1, a2, a3⟩ := right_top h hn
  unfold trunc
  have e : x % 2 ^ (7 * n) = x % 2 ^ 60 := by
    have hp : 2 ^ 60 = 2 ^ (7 * n) * 2 ^ (60 - 7 * n) := by rw [← Nat.pow_add]; congr 1; omega
    have h1 : x % 2 ^ 60 % 2 ^ (7 * n) = x % 2 ^ (7 * n) := by rw [hp, Nat.mod_mul_right_mod]
    rw [← h1, Nat.mod_eq_of_lt a2]
  rw [e]
  omega
theorem trunc_succ (x j : Nat) : x % 2 ^ (7 * (j + 1)) = x % 2 ^ (7 * j) + place x j * 2 ^ (7 * j) := by
  rw [show 7 * (j + 1) = 7 * j + 7 by omega, Nat.pow_add, Nat.mod_mul, place, Nat.mul_comm (2 ^ (7 * j))]
theorem firstK_none {x : Nat} {so : Nat → Bool} (h : ∀ k, k < x / 2 ^ 60 → so (place x k) = false) : firstK x so = none := by
  unfold firstK
  split
  · rw [List.find?_eq_none]
    intro k hk
    rw [h k (List.mem_range.1 hk)]; simp
  · rfl
theorem firstK_some {x k : Nat} {so : Nat → Bool} (hr : rightB x = true) (hk : k < x / 2 ^ 60) (h : so (place x k) = true) (hn : ∀ i, i < k → so (place x i) = false) : firstK x so = some k := by
  unfold firstK
  rw [if_pos hr]
  exact find_range hk h hn
theorem find_slot {x k n : Nat} (h : rightB x = true) (hn : x / 2 ^ 60 = n) (hk : k < n) : findK x ((place x k % 8 : Nat) : Int) = some k := by
  obtain ⟨_, _, a3⟩ := right_top h hn
  refine firstK_some h (by omega) (by simp) fun i hi => ?_
  have := (stt_pair a3 hi hk).2
  simp; omega
theorem there_split {p : Nat} (h : p / 64 % 2 = 1) (hp : p < 128) : (64 ||| p / 8 % 8 * 8) ||| p % 8 = p := by
  have e1 : 64 ||| p / 8 % 8 * 8 = 64 + p / 8 % 8 * 8 := nat_join 6 64 _ (by decide) (by omega)
  rw [e1, nat_join 3 _ _ (by omega) (by omega)]
  omega
theorem push_next {x j n : Nat} (h : rightB x = true) (hn : x / 2 ^ 60 = n) (hj : j < n) : pushF (trunc x j) ((place x j % 8 : Nat) : Int) ((place x j / 8 % 8 : Nat) : Int) = (trunc x (j + 1), true) := by
  obtain ⟨a1, a2, a3⟩ := right_top h hn
  have hr := trunc_right h hn (show j ≤ n by omega)
  have hd := trunc_div (x := x) (j := j) (by omega)
  have hm := trunc_mod (x := x) (j := j) (by omega)
  have hfind : findK (trunc x j) ((place x j % 8 : Nat) : Int) = none := firstK_none fun k hk => by
    rw [hd] at hk
    rw [trunc_place (by omega) hk]
    have := (stt_pair a3 hk hj).2
    simp; omega
  have hfirst : firstU (trunc x j) ((place x j / 8 % 8 : Nat) : Int) = none := firstK_none fun k hk => by
    rw [hd] at hk
    rw [trunc_place (by omega) hk]
    have := (stt_pair a3 hk hj).1
    simp; omega
  have hK : pushK (trunc x j) ((place x j / 8 % 8 : Nat) : Int) = j := by
    unfold pushK
    rw [hfirst]
    simp [manyN, hr, hd]
  have hok : pushOk (trunc x j) ((place x j % 8 : Nat) : Int) ((place x j / 8 % 8 : Nat) : Int) = true := by
    simp only [pushOk, hfind, hr, Option.isNone_none, Bool.true_and, Bool.and_eq_true]
    exact ⟨numB_iff.2 (by omega), numB_iff.2 (by omega)⟩
  unfold pushF
  rw [if_pos hok, hK, Int.toNat_natCast, Int.toNat_natCast]
  congr 1
  unfold pushX
  rw [hd, hm, Nat.mod_mod, Nat.sub_self, Nat.zero_mul, Nat.zero_mod, Nat.or_zero, there_split (stt_there a3 hj) (place_lt _ _)]
  have hp : 2 ^ (7 * j) ≤ 2 ^ 49 := Nat.pow_le_pow_right (n := 2) (by decide) (by omega)
  have hpl : place x j * 2 ^ (7 * j) ≤ 127 * 2 ^ 49 := Nat.mul_le_mul (by have := place_lt x j; omega) hp
  have hlow := Nat.mod_lt x (Nat.two_pow_pos (7 * j))
  rw [nat_join 60 ((j + 1) * 2 ^ 60) _ (Nat.mul_mod_left _ _) (by omega)]
  have e : (j + 1) * 2 ^ 60 + place x j * 2 ^ (7 * j) = ((j + 1) * 2 ^ (60 - 7 * j) + place x j) * 2 ^ (7 * j) := by
    have e0 : (j + 1) * 2 ^ 60 = (j + 1) * 2 ^ (60 - 7 * j) * 2 ^ (7 * j) := by rw [Nat.mul_assoc, ← Nat.pow_add, show 60 - 7 * j + 7 * j = 60 by omega]
    rw [e0, ← Nat.add_mul]
  rw [nat_join (7 * j) _ _ (by rw [e]; exact Nat.mul_mod_left _ _) hlow]
  unfold trunc
  rw [trunc_succ]
  generalize place x j * 2 ^ (7 * j) = A
  generalize x % 2 ^ (7 * j) = B
  rw [Nat.add_assoc, Nat.add_comm A B]
def pushAll : Nat → List (Int × Nat) → Option Nat
  | x, [] => some x
  | x, (s, u) :: l => if (pushF x s u).2 then pushAll (pushF x s u).1 l else none
theorem pushAll_append (x : Nat) (l m : List (Int × Nat)) : pushAll x (l ++ m) = (pushAll x l).bind (fun y => pushAll y m) := by
  induction l generalizing x with
  | nil => rfl
  | cons p l ih =>
    obtain ⟨s, u⟩ := p
    simp only [List.cons_append, pushAll]
    split
    · exact ih _
    · rfl
theorem ofRow_all (u x : Nat) (l : List Int) : ofRow u x l = pushAll x (l.map fun s => (s, u)) := by
  induction l generalizing x with
  | nil => rfl
  | cons s l ih => simp only [List.map_cons, ofRow, pushAll, ih]
def allRows (X : Nat → List Int) : Nat → List (Int × Nat)
  | 0 => []
  | u + 1 => allRows X u ++ (X u).map fun s => (s, u)
theorem ofRows_all (X : Nat → List Int) (u : Nat) : ofRows X 8 u = pushAll 0 (allRows X u) := by
  induction u with
  | zero => rfl
  | succ u ih =>
    rw [ofRows, ih, allRows, pushAll_append]
    cases pushAll 0 (allRows X u) with
    | none => rfl
    | some y => exact ofRow_all u y (X u)
/-- A list whose keys do not fall is its parts by key, one behind the other. -/
theorem parts_by_key {α : Type} (key : α → Nat) : ∀ (l : List α), l.Pairwise (fun a b => key a ≤ key b) → ∀ m, (l.filter fun a => key a < m) ++ (l.filter fun a => key a == m) = l.filter fun a => key a < m + 1
  | [], _, m => rfl
  | a :: l, h, m => by
    obtain ⟨h1, h2⟩ := List.pairwise_cons.1 h
    have ih := parts_by_key key l h2 m
    rcases Nat.lt_trichotomy (key a) m with c | c | c
    · simp only [List.filter_cons, c, decide_true, if_true, show ¬ key a = m by omega, show key a < m + 1 by omega, beq_iff_eq, if_false, List.cons_append]
      rw [ih]
    · have e : l.filter (fun a => decide (key a < m)) = [] := by
        rw [List.filter_eq_nil_iff]
        intro b hb
        have := h1 b hb
        simp; omega
      rw [e, List.nil_append] at ih
      simp only [List.filter_cons, c, Nat.lt_irrefl, decide_false, Bool.false_eq_true, if_false, beq_self_eq_true, if_true, Nat.lt_succ_self, decide_true, e, List.nil_append]
      rw [ih]
    · simp only [List.filter_cons, show ¬ key a < m by omega, show ¬ key a = m by omega, show ¬ key a < m + 1 by omega, decide_false, Bool.false_eq_true, if_false, beq_iff_eq]
      exact ih
theorem allRows_filter {x n : Nat} (h : stt x n ≠ none) (u : Nat) : allRows (rowsX x n) u = ((List.range n).filter fun j => place x j / 8 % 8 < u).map fun j => (((place x j % 8 : Nat) : Int), place x j / 8 % 8) := by
  induction u with
  | zero => simp [allRows]
  | succ u ih =>
    rw [allRows, ih, ← parts_by_key (fun j => place x j / 8 % 8) (List.range n) ?_ u, List.map_append]
    · congr 1
      unfold rowsX
      rw [List.map_map]
      apply List.map_congr_left
      intro j hj
      have := (List.mem_filter.1 hj).2
      simp only [beq_iff_eq] at this
      simp [this]
    · rw [List.pairwise_iff_getElem]
      intro i j hi hj hij
      simp only [List.length_range] at hi hj
      simp only [List.getElem_range]
      exact (stt_pair h hij hj).1
theorem pushAll_trunc {x n : Nat} (h : rightB x = true) (hn : x / 2 ^ 60 = n) : ∀ k j, j + k = n → pushAll (trunc x j) ((List.range' j k).map fun j => (((place x j % 8 : Nat) : Int), place x j / 8 % 8)) = some x
  | 0, j, hj => by
    obtain rfl : j = n := by omega
    simp only [List.range'_zero, List.map_nil, pushAll, trunc_all h hn]
  | k + 1, j, hj => by
    rw [List.range'_succ, List.map_cons, pushAll, push_next h hn (by omega)]
    simp only [if_true]
    exact pushAll_trunc h hn k (j + 1) (by omega)
theorem of_rows {x : Nat} (h : rightB x = true) : ofF (rowsF x) = (x, true) := by
  obtain ⟨n, hn⟩ : ∃ n, x / 2 ^ 60 = n := ⟨_, rfl⟩
  obtain ⟨a1, a2, a3⟩ := right_top h hn
  have e : rowsF x = rowsX x n := by funext u; unfold rowsF; rw [if_pos h, hn]
  have hall : (List.range n).filter (fun j => decide (place x j / 8 % 8 < 8)) = List.range n := by
    rw [List.filter_eq_self]; intro j _; simp; omega
  have h0 := pushAll_trunc h hn n 0 (by omega)
  rw [← List.range_eq_range', show trunc x 0 = 0 by simp [trunc, Nat.mod_one]] at h0
  unfold ofF
  rw [ofRows_all, e, allRows_filter a3, hall, h0]
theorem of_none : ofF (fun _ => []) = (0, true) := by decide +kernel
end Go.Proofs.Ytkjloeefcaadlaa
/- The law that a word that may be is told by its rows, walked. -/
namespace Go.Proofs.Ytkjloeefcaadlaa
open Go.RowKit Go.Shelf Go.Cs
attribute [local go_sem] Oper.semAt_some
/-- What Rows answers: eight slices that read as the rows. -/
def RowsR (x : Nat) (w : World) (e : Ending) (w' : World) : Prop := ∃ vs : List Value, e = .returned (.agg vs.toArray) ∧ vs.length = 8 ∧ (∀ u, u < 8 → ReadsI .i64 w' (vs.getD u undef) (rowsF x u)) ∧ New w w'
theorem rows_reads (x : Nat) (hx : x < 18446744073709551616) (w : World) : Calls Try.prog 164 #[.int .u64 x] w (RowsR x w) := by
  refine (rows_any x hx w).mono fun e w' h => ?_
  obtain ⟨v, rfl, ⟨vs, rfl, hl, hr⟩, hN⟩ := h
  exact ⟨vs, rfl, hl, fun u hu => .ofOwns (hr u hu), hN⟩
theorem rowsF_in (x u : Nat) (s : Int) (h : s ∈ rowsF x u) : 0 ≤ s ∧ s < 8 := by
  unfold rowsF at h
  split at h
  · rw [rowsX, List.mem_map] at h
    obtain ⟨j, _, rfl⟩ := h
    omega
  · cases h
def part (x n k : Nat) : Nat := n * 2 ^ 60 + x % 2 ^ (7 * k)
theorem part_lt {x n k : Nat} (hn : n ≤ 8) (hk : k ≤ 8) : part x n k < 18446744073709551616 := by
  have hp : 2 ^ (7 * k) ≤ 2 ^ 56 := Nat.pow_le_pow_right (n := 2) (by decide) (by omega)
  have := Nat.mod_lt x (Nat.two_pow_pos (7 * k))
  unfold part
  omega
theorem part_next {x n k : Nat} (h : rightB x = true) (hn : x / 2 ^ 60 = n) (hk : k < n) :
    bits .or .u64 (part x n k : Int) (IntKind.u64.wrap ((64 + 8 * ((place x k / 8 % 8 : Nat) : Int) + ((place x k % 8 : Nat) : Int)) * 2 ^ (7 * k))) = (part x n (k + 1) : Int) := by
  obtain ⟨a1, a2, a3⟩ := right_top h hn
  have ht := stt_there a3 hk
  have hpl := place_lt x k
  have e1 : (64 + 8 * ((place x k / 8 % 8 : Nat) : Int) + ((place x k % 8 : Nat) : Int)) = (place x k : Int) := by omega
  have hp : 2 ^ (7 * k) ≤ 2 ^ 49 := Nat.pow_le_pow_right (n := 2) (by decide) (by omega)
  have hm : place x k * 2 ^ (7 * k) ≤ 127 * 2 ^ 49 := Nat.mul_le_mul (by omega) hp
  rw [e1, cast_pow, ← Int.natCast_mul, wrapN, Nat.mod_eq_of_lt (by omega), or_u64 _ _ (part_lt a1 (by omega)) (by omega)]
  congr 1
  have hlow := Nat.mod_lt x (Nat.two_pow_pos (7 * k))
  unfold part
  have j1 : n * 2 ^ 60 + x % 2 ^ (7 * k) = n * 2 ^ 60 ||| x % 2 ^ (7 * k) := (nat_join 60 _ _ (Nat.mul_mod_left _ _) (by omega)).symm
  rw [j1, Nat.or_assoc, Nat.or_comm (x % 2 ^ (7 * k)), nat_join (7 * k) _ _ (Nat.mul_mod_left _ _) hlow, trunc_succ, Nat.add_comm (x % 2 ^ (7 * k))]
  exact nat_join 60 _ _ (Nat.mul_mod_left _ _) (by omega)
theorem part_zero (x n : Nat) : part x n 0 = n * 2 ^ 60 := by simp [part, Nat.mod_one]
theorem part_all {x n : Nat} (h : rightB x = true) (hn : x / 2 ^ 60 = n) : part x n n = x := trunc_all h hn
end Go.Proofs.Ytkjloeefcaadlaa
/- A word as the list of who is in it: plain law. -/
namespace Go.Proofs.Ytkjloeefcaadlaa
def digit (p : Nat × Nat) : Nat := 64 + 8 * p.2 + p.1
def encT : List (Nat × Nat) → Nat
  | [] => 0
  | p :: l => digit p + 128 * encT l
def enc (l : List (Nat × Nat)) : Nat := l.length * 2 ^ 60 + encT l
def InL (l : List (Nat × Nat)) : Prop := ∀ p, p ∈ l → p.1 < 8 ∧ p.2 < 8
structure OkL (l : List (Nat × Nat)) : Prop where
  inn : InL l
  pair : l.Pairwise fun a b => a.1 ≠ b.1 ∧ a.2 ≤ b.2
theorem nodup_le : ∀ (n : Nat) (l : List Nat), l.Nodup → (∀ a, a ∈ l → a < n) → l.length ≤ n
  | 0, l, _, h => by
    cases l with
    | nil => simp
    | cons a l => exact absurd (h a (by simp)) (by omega)
  | n + 1, l, hd, h => by
    have := nodup_le n (l.erase n) (hd.erase n) (fun a ha => by
      have h1 := (hd.mem_erase_iff).1 ha
      have := h a h1.2
      have := h1.1
      omega)
    rw [List.length_erase] at this
    split at this <;> omega
theorem OkL.nodup {l : List (Nat × Nat)} (h : OkL l) : (l.map (·.1)).Nodup := by
  rw [List.Nodup, List.pairwise_map]
  exact h.pair.imp fun h => h.1
theorem OkL.len {l : List (Nat × Nat)} (h : OkL l) : l.length ≤ 8 := by
  have := nodup_le 8 _ h.nodup (fun a ha => by obtain ⟨p, hp, rfl⟩ := List.mem_map.1 ha; exact (h.inn p hp).1)
  simpa using this
theorem OkL.room {l : List (Nat × Nat)} (h : OkL l) {s : Nat} (hs : s < 8) (hn : ∀ p, p ∈ l → p.1 ≠ s) : l.length < 8 := by
  have hd : (s :: l.map (·.1)).Nodup := List.nodup_cons.2 ⟨fun hm => by obtain ⟨p, hp, e⟩ := List.mem_map.1 hm; exact hn p hp e, h.nodup⟩
  have := nodup_le 8 _ hd (fun a ha => by
    rcases List.mem_cons.1 ha with rfl | ha
    · exact hs
    · obtain ⟨p, hp, rfl⟩ := List.mem_map.1 ha; exact (h.inn p hp).1)
  simp at this
  omega
theorem digit_lt {p : Nat × Nat} (h : p.1 < 8 ∧ p.2 < 8) : digit p < 128 := by unfold digit; omega
theorem encT_append : ∀ (a b : List (Nat × Nat)), encT (a ++ b) = encT a + 2 ^ (7 * a.length) * encT b
  | [], b => by simp [encT]
  | p :: a, b => by
    rw [List.cons_append, encT, encT, encT_append a b, List.length_cons, show 7 * (a.length + 1) = 7 * a.length + 7 by omega, Nat.pow_add, Nat.mul_add, Nat.mul_comm (2 ^ (7 * a.length)) (2 ^ 7), Nat.mul_assoc, Nat.add_assoc]
theorem encT_lt : ∀ {l : List (Nat × Nat)}, InL l → encT l < 2 ^ (7 * l.length)
  | [], _ => by simp [encT]
  | p :: l, h => by
    have h1 := digit_lt (h p (by simp))
    have h2 := encT_lt (l := l) (fun q hq => h q (by simp [hq]))
    rw [encT, List.length_cons, show 7 * (l.length + 1) = 7 * l.length + 7 by omega, Nat.pow_add]
    omega
theorem encT_low {a b : List (Nat × Nat)} (h : InL a) : encT (a ++ b) % 2 ^ (7 * a.length) = encT a := by
  rw [encT_append, Nat.add_mul_mod_self_left, Nat.mod_eq_of_lt (encT_lt h)]
theorem encT_high {a b : List (Nat × Nat)} (h : InL a) : encT (a ++ b) / 2 ^ (7 * a.length) = encT b := by
  rw [encT_append, Nat.add_mul_div_left _ _ (Nat.two_pow_pos _), Nat.div_eq_of_lt (encT_lt h), Nat.zero_add]
theorem encT_small {l : List (Nat × Nat)} (h : InL l) (h8 : l.length ≤ 8) : encT l < 2 ^ 56 :=
  Nat.lt_of_lt_of_le (encT_lt h) (Nat.pow_le_pow_right (by decide) (by omega))
theorem enc_div {l : List (Nat × Nat)} (h : InL l) (h8 : l.length ≤ 8) : enc l / 2 ^ 60 = l.length := by
  have := encT_small h h8
  unfold enc
  omega
theorem enc_mod {l : List (Nat × Nat)} (h : InL l) (h8 : l.length ≤ 8) : enc l % 2 ^ 60 = encT l := by
  have := encT_small h h8
  unfold enc
  omega
theorem InL.left {a b : List (Nat × Nat)} (h : InL (a ++ b)) : InL a := fun p hp => h p (by simp [hp])
theorem InL.right {a b : List (Nat × Nat)} (h : InL (a ++ b)) : InL b := fun p hp => h p (by simp [hp])
theorem place_enc {a b : List (Nat × Nat)} {p : Nat × Nat} (h : InL (a ++ p :: b)) (h8 : (a ++ p :: b).length ≤ 8) : place (enc (a ++ p :: b)) a.length = digit p := by
  have hl : a.length < 8 := by simp at h8; omega
  rw [← place_mod _ _ hl, enc_mod h h8, place, encT_high h.left, encT]
  have := digit_lt (h p (by simp))
  omega
theorem split_at {l : List (Nat × Nat)} {k : Nat} (hk : k < l.length) : ∃ a p b, l = a ++ p :: b ∧ a.length = k ∧ l.getD k (0, 0) = p := by
  refine ⟨l.take k, l[k], l.drop (k + 1), ?_, by simp; omega, by simp [List.getD, hk]⟩
  rw [← List.drop_eq_getElem_cons hk, List.take_append_drop]
theorem place_at {l : List (Nat × Nat)} (h : InL l) (h8 : l.length ≤ 8) {k : Nat} (hk : k < l.length) : place (enc l) k = digit (l.getD k (0, 0)) := by
  obtain ⟨a, p, b, rfl, rfl, e⟩ := split_at hk
  rw [e]
  exact place_enc h h8
theorem digit_slot {p : Nat × Nat} (h : p.1 < 8 ∧ p.2 < 8) : digit p % 8 = p.1 := by unfold digit; omega
theorem digit_urgency {p : Nat × Nat} (h : p.1 < 8 ∧ p.2 < 8) : digit p / 8 % 8 = p.2 := by unfold digit; omega
theorem digit_there {p : Nat × Nat} (h : p.1 < 8 ∧ p.2 < 8) : digit p / 64 % 2 = 1 := by unfold digit; omega
end Go.Proofs.Ytkjloeefcaadlaa
/- A word as the list of who is in it: which may be, back and forth. -/
namespace Go.Proofs.Ytkjloeefcaadlaa
theorem stt_enc {l : List (Nat × Nat)} (h : OkL l) : ∀ k, k ≤ l.length → ∃ s u, stt (enc l) k = some (s, u) ∧ (∀ j, s.testBit j = true → ∃ i, i < k ∧ (l.getD i (0, 0)).1 = j) ∧ (u = 0 ∨ ∃ i, i < k ∧ (l.getD i (0, 0)).2 = u)
  | 0, _ => ⟨0, 0, rfl, fun j hj => by simp at hj, .inl rfl⟩
  | k + 1, hk => by
    obtain ⟨s, u, hs, h1, h2⟩ := stt_enc h k (by omega)
    have hmem : l.getD k (0, 0) ∈ l := by rw [List.getD, List.getElem?_eq_getElem (by omega)]; simp
    have hp := h.inn _ hmem
    have hpl := place_at h.inn h.len (k := k) (by omega)
    have hpair : ∀ i, i < k → (l.getD i (0, 0)).1 ≠ (l.getD k (0, 0)).1 ∧ (l.getD i (0, 0)).2 ≤ (l.getD k (0, 0)).2 := fun i hi => by
      have := (List.pairwise_iff_getElem.1 h.pair) i k (by omega) (by omega) hi
      simpa [List.getD, show i < l.length by omega, show k < l.length by omega] using this
    obtain ⟨p, hpe⟩ : ∃ p, l.getD k (0, 0) = p := ⟨_, rfl⟩
    rw [hpe] at hp hpl hpair
    refine ⟨s ||| 2 ^ p.1, p.2, ?_, fun j hj => ?_, .inr ⟨k, by omega, by rw [hpe]⟩⟩
    · rw [stt, hs, hpl, stp, digit_slot hp, digit_urgency hp, digit_there hp, if_neg]
      rintro (h0 | h0 | h0)
      · omega
      · apply h0
        apply Nat.eq_of_testBit_eq
        intro i
        rw [Nat.testBit_and, Nat.testBit_two_pow, Nat.zero_testBit]
        by_cases hb : s.testBit i = true
        · obtain ⟨i', hi', he⟩ := h1 i hb
          have := (hpair i' hi').1
          rw [he] at this
          simp [Ne.symm this]
        · simp [hb]
      · rcases h2 with rfl | ⟨i, hi, rfl⟩
        · omega
        · have := (hpair i hi).2; omega
    · rw [Nat.testBit_or, Nat.testBit_two_pow, Bool.or_eq_true] at hj
      rcases hj with hj | hj
      · obtain ⟨i, hi, he⟩ := h1 j hj
        exact ⟨i, by omega, he⟩
      · exact ⟨k, by omega, by rw [hpe]; simpa using hj⟩
theorem right_enc {l : List (Nat × Nat)} (h : OkL l) : rightB (enc l) = true := by
  rw [right_iff, enc_div h.inn h.len, enc_mod h.inn h.len]
  refine ⟨h.len, Nat.div_eq_of_lt (encT_lt h.inn), ?_⟩
  obtain ⟨s, u, hs, _⟩ := stt_enc h l.length (Nat.le_refl _)
  rw [hs]
  simp
theorem enc_lt {l : List (Nat × Nat)} (h : OkL l) : enc l < 18446744073709551616 := by
  have h1 := encT_small h.inn h.len
  have h2 := h.len
  unfold enc
  omega
theorem many_enc {l : List (Nat × Nat)} (h : OkL l) : manyN (enc l) = l.length := by
  unfold manyN
  rw [right_enc h, if_pos rfl, enc_div h.inn h.len]
/-- Who is in a word. -/
def dec (x n : Nat) : List (Nat × Nat) := (List.range n).map fun k => (place x k % 8, place x k / 8 % 8)
theorem dec_succ (x n : Nat) : dec x (n + 1) = dec x n ++ [(place x n % 8, place x n / 8 % 8)] := by
  unfold dec; rw [List.range_succ, List.map_append]; rfl
theorem dec_len (x n : Nat) : (dec x n).length = n := by simp [dec]
theorem encT_dec {x n : Nat} (h : stt x n ≠ none) : ∀ k, k ≤ n → encT (dec x k) = x % 2 ^ (7 * k)
  | 0, _ => by simp [dec, encT, Nat.mod_one]
  | k + 1, hk => by
    rw [dec_succ, encT_append, encT_dec h k (by omega), dec_len, trunc_succ]
    have ht := stt_there h (show k < n by omega)
    have hl := place_lt x k
    have : encT [(place x k % 8, place x k / 8 % 8)] = place x k := by simp [encT, digit]; omega
    rw [this, Nat.mul_comm (2 ^ (7 * k))]
theorem dec_ok {x n : Nat} (h : stt x n ≠ none) : OkL (dec x n) := by
  refine ⟨fun p hp => ?_, ?_⟩
  · obtain ⟨k, _, rfl⟩ := List.mem_map.1 hp
    exact ⟨Nat.mod_lt _ (by decide), Nat.mod_lt _ (by decide)⟩
  · unfold dec
    rw [List.pairwise_map, List.pairwise_iff_getElem]
    intro i k hi hk hik
    simp only [List.length_range] at hi hk
    simp only [List.getElem_range]
    have := stt_pair h hik hk
    exact ⟨this.2, this.1⟩
/-- A word that may be is that of who is in it. -/
theorem enc_dec {x : Nat} (h : rightB x = true) : ∃ l, OkL l ∧ x = enc l := by
  obtain ⟨n, hn⟩ : ∃ n, x / 2 ^ 60 = n := ⟨_, rfl⟩
  obtain ⟨a1, a2, a3⟩ := right_top h hn
  refine ⟨dec x n, dec_ok a3, ?_⟩
  have e := encT_dec a3 n (Nat.le_refl _)
  have hp : 2 ^ (7 * n) ≤ 2 ^ 60 := Nat.pow_le_pow_right (n := 2) (by decide) (by omega)
  have e2 : x % 2 ^ (7 * n) = x % 2 ^ 60 := by
    rw [← Nat.mod_mod_of_dvd x (Nat.pow_dvd_pow 2 (show 7 * n ≤ 60 by omega)), Nat.mod_eq_of_lt a2]
  unfold enc
  rw [dec_len, e, e2]
  omega
/-- Where the first one stands that is so. -/
theorem first_enc_some {a b : List (Nat × Nat)} {p : Nat × Nat} {so : Nat → Bool} (h : OkL (a ++ p :: b)) (hp : so (digit p) = true) (hn : ∀ q, q ∈ a → so (digit q) = false) : firstK (enc (a ++ p :: b)) so = some a.length := by
  have h8 := h.len
  refine firstK_some (right_enc h) (by rw [enc_div h.inn h8]; simp) (by rw [place_enc h.inn h8]; exact hp) (fun i hi => ?_)
  rw [place_at h.inn h8 (by simp; omega)]
  apply hn
  rw [List.getD, List.getElem?_append_left hi, List.getElem?_eq_getElem hi]
  simp
theorem first_enc_none {l : List (Nat × Nat)} {so : Nat → Bool} (h : OkL l) (hn : ∀ q, q ∈ l → so (digit q) = false) : firstK (enc l) so = none := by
  refine firstK_none (fun k hk => ?_)
  rw [enc_div h.inn h.len] at hk
  rw [place_at h.inn h.len hk]
  apply hn
  rw [List.getD, List.getElem?_eq_getElem hk]
  simp
theorem find_enc_some {a b : List (Nat × Nat)} {p : Nat × Nat} (h : OkL (a ++ p :: b)) : findK (enc (a ++ p :: b)) p.1 = some a.length := by
  refine first_enc_some h (by simp [digit_slot (h.inn p (by simp))]) (fun q hq => ?_)
  have h1 := h.inn q (by simp [hq])
  have := (List.pairwise_append.1 h.pair).2.2 q hq p (by simp)
  rw [digit_slot h1]
  simp only [beq_eq_false_iff_ne, ne_eq]
  have := this.1
  omega
theorem find_enc_none {l : List (Nat × Nat)} (h : OkL l) {s : Int} (hn : ∀ q, q ∈ l → (q.1 : Int) ≠ s) : findK (enc l) s = none :=
  first_enc_none h (fun q hq => by
    rw [digit_slot (h.inn q hq)]
    have := hn q hq
    simpa using this)
/-- Who has a slot: where it stands. -/
theorem slot_split {l : List (Nat × Nat)} {s : Nat} (h : ∃ p, p ∈ l ∧ p.1 = s) : ∃ a p b, l = a ++ p :: b ∧ p.1 = s := by
  obtain ⟨p, hp, rfl⟩ := h
  obtain ⟨a, b, rfl⟩ := List.append_of_mem hp
  exact ⟨a, p, b, rfl, rfl⟩
theorem at_enc {a b : List (Nat × Nat)} {p : Nat × Nat} (h : OkL (a ++ p :: b)) : atF (enc (a ++ p :: b)) (a.length : Nat) = (p.1, p.2, true) := by
  have hp := h.inn p (by simp)
  unfold atF
  rw [many_enc h, if_pos ⟨by omega, by simp; omega⟩, Int.toNat_natCast, place_enc h.inn h.len, digit_slot hp, digit_urgency hp]
theorem at_enc_none {l : List (Nat × Nat)} (h : OkL l) {k : Int} (hk : k < 0 ∨ (l.length : Int) ≤ k) : atF (enc l) k = (0, 0, false) := by
  unfold atF
  rw [many_enc h, if_neg (by omega)]
end Go.Proofs.Ytkjloeefcaadlaa
/- What is done to a word, done to the list of who is in it. -/
namespace Go.Proofs.Ytkjloeefcaadlaa
/-- Pushed behind all of no greater urgency. -/
def insL (l : List (Nat × Nat)) (s u : Nat) : List (Nat × Nat) := l.filter (fun p => decide (p.2 ≤ u)) ++ (s, u) :: l.filter (fun p => decide (u < p.2))
theorem sorted_parts {l : List (Nat × Nat)} (h : l.Pairwise fun a b => a.2 ≤ b.2) (u : Nat) : l.filter (fun p => decide (p.2 ≤ u)) ++ l.filter (fun p => decide (u < p.2)) = l := by
  induction l with
  | nil => rfl
  | cons p l ih =>
    rw [List.pairwise_cons] at h
    by_cases hp : p.2 ≤ u
    · rw [List.filter_cons_of_pos (by simpa using hp), List.filter_cons_of_neg (by simp; omega), List.cons_append, ih h.2]
    · have h1 : (p :: l).filter (fun p => decide (p.2 ≤ u)) = [] := by
        rw [List.filter_eq_nil_iff]
        intro q hq
        rcases List.mem_cons.1 hq with rfl | hq
        · simpa using hp
        · have := h.1 q hq; simp; omega
      have h2 : (p :: l).filter (fun p => decide (u < p.2)) = p :: l := by
        rw [List.filter_eq_self]
        intro q hq
        rcases List.mem_cons.1 hq with rfl | hq
        · simp; omega
        · have := h.1 q hq; simp; omega
      rw [h1, h2]; rfl
theorem OkL.sorted {l : List (Nat × Nat)} (h : OkL l) : l.Pairwise fun a b => a.2 ≤ b.2 := h.pair.imp fun h => h.2
theorem insL_mem {l : List (Nat × Nat)} {s u : Nat} {p : Nat × Nat} : p ∈ insL l s u ↔ p = (s, u) ∨ p ∈ l := by
  unfold insL
  simp only [List.mem_append, List.mem_filter, List.mem_cons, decide_eq_true_eq]
  constructor
  · rintro (h | h | h)
    · exact .inr h.1
    · exact .inl h
    · exact .inr h.1
  · rintro (h | h)
    · exact .inr (.inl h)
    · rcases Nat.lt_or_ge u p.2 with h1 | h1
      · exact .inr (.inr ⟨h, h1⟩)
      · exact .inl ⟨h, h1⟩
theorem insL_ok {l : List (Nat × Nat)} (h : OkL l) {s u : Nat} (hs : s < 8) (hu : u < 8) (hn : ∀ p, p ∈ l → p.1 ≠ s) : OkL (insL l s u) := by
  refine ⟨fun p hp => ?_, ?_⟩
  · rcases insL_mem.1 hp with rfl | hp
    · exact ⟨hs, hu⟩
    · exact h.inn p hp
  · unfold insL
    have hp := h.pair
    rw [← sorted_parts h.sorted u, List.pairwise_append] at hp
    rw [List.pairwise_append, List.pairwise_cons]
    refine ⟨hp.1, ⟨fun q hq => ?_, hp.2.1⟩, fun q hq r hr => ?_⟩
    · rw [List.mem_filter] at hq
      have h1 := hn q hq.1
      have h2 : u < q.2 := by simpa using hq.2
      exact ⟨Ne.symm h1, by dsimp only; omega⟩
    · rcases List.mem_cons.1 hr with rfl | hr
      · rw [List.mem_filter] at hq
        exact ⟨hn q hq.1, by simpa using hq.2⟩
      · exact hp.2.2 q hq r hr
theorem insL_len {l : List (Nat × Nat)} (h : OkL l) (s u : Nat) : (insL l s u).length = l.length + 1 := by
  have := congrArg List.length (sorted_parts h.sorted u)
  rw [List.length_append] at this
  unfold insL
  rw [List.length_append, List.length_cons]
  omega
theorem digit_or {s u : Nat} (hs : s < 8) (hu : u < 8) : (64 ||| u * 8) ||| s = digit (s, u) := by
  have e1 : 64 ||| u * 8 = 64 + u * 8 := nat_join 6 64 _ (by decide) (by omega)
  rw [e1, nat_join 3 _ _ (by omega) (by omega)]
  unfold digit
  dsimp only
  omega
theorem pushK_enc {l : List (Nat × Nat)} (h : OkL l) (u : Nat) : pushK (enc l) u = (l.filter (fun p => decide (p.2 ≤ u))).length := by
  have e := sorted_parts h.sorted u
  obtain ⟨a, ha⟩ : ∃ a, l.filter (fun p => decide (p.2 ≤ u)) = a := ⟨_, rfl⟩
  obtain ⟨b, hb⟩ : ∃ b, l.filter (fun p => decide (u < p.2)) = b := ⟨_, rfl⟩
  have h1 : ∀ q, q ∈ a → q.2 ≤ u := fun q hq => by rw [← ha, List.mem_filter] at hq; simpa using hq.2
  have h2 : ∀ q, q ∈ b → u < q.2 := fun q hq => by rw [← hb, List.mem_filter] at hq; simpa using hq.2
  rw [ha, hb] at e
  rw [ha]
  clear ha hb
  subst e
  unfold pushK firstU
  cases b with
  | nil =>
    rw [first_enc_none h (fun q hq => ?_), many_enc h]
    · simp
    · have := h1 q (by simpa using hq)
      rw [digit_urgency (h.inn q hq)]
      simp; omega
  | cons p b =>
    rw [first_enc_some h ?_ (fun q hq => ?_)]
    · rfl
    · have := h2 p (by simp)
      rw [digit_urgency (h.inn p (by simp))]
      simp; omega
    · have := h1 q hq
      rw [digit_urgency (h.inn q (by simp [hq]))]
      simp; omega
theorem pushX_enc {a b : List (Nat × Nat)} {s u : Nat} (h : InL (a ++ b)) (h8 : (a ++ b).length < 8) (hs : s < 8) (hu : u < 8) : pushX (enc (a ++ b)) s u a.length = enc (a ++ (s, u) :: b) := by
  have hl : a.length + b.length < 8 := by simpa using h8
  have hA := encT_lt h.left
  have hB := encT_lt h.right
  have hd := digit_lt (p := (s, u)) ⟨hs, hu⟩
  unfold pushX
  rw [enc_div h (by omega), enc_mod h (by omega), encT_low h.left, digit_or hs hu]
  obtain ⟨k, hk⟩ : ∃ k, a.length = k := ⟨_, rfl⟩
  obtain ⟨m, hm⟩ : ∃ k, b.length = k := ⟨_, rfl⟩
  unfold enc
  rw [encT_append, encT_append, encT, List.length_append, List.length_append, List.length_cons, hk, hm, Nat.add_sub_cancel_left]
  rw [hk] at hA
  rw [hm] at hB
  rw [hk, hm] at hl
  obtain ⟨A, hA'⟩ : ∃ A, encT a = A := ⟨_, rfl⟩
  obtain ⟨B, hB'⟩ : ∃ A, encT b = A := ⟨_, rfl⟩
  obtain ⟨d, hd'⟩ : ∃ A, digit (s, u) = A := ⟨_, rfl⟩
  rw [hA'] at hA ⊢
  rw [hB'] at hB ⊢
  rw [hd'] at hd ⊢
  have hP : 2 ^ (7 * k) * 2 ^ (7 * m) * 2 ^ 7 ≤ 2 ^ 56 := by
    rw [← Nat.pow_add, ← Nat.pow_add]
    exact Nat.pow_le_pow_right (by decide) (by omega)
  obtain ⟨K, hK⟩ : ∃ K, 2 ^ (7 * k) = K := ⟨_, rfl⟩
  obtain ⟨M, hM⟩ : ∃ K, 2 ^ (7 * m) = K := ⟨_, rfl⟩
  have hK0 : 0 < K := hK ▸ Nat.two_pow_pos _
  have h7 : 2 ^ (7 * k + 7) = K * 128 := by rw [Nat.pow_add, hK]
  rw [hM] at hB hP
  rw [hK] at hA hP ⊢
  have hKB : K * B * 128 + K * 128 ≤ 2 ^ 56 := by
    have : K * (B + 1) * 128 ≤ K * M * 2 ^ 7 := Nat.mul_le_mul_right _ (Nat.mul_le_mul_left _ hB)
    rw [Nat.mul_add, Nat.mul_one, Nat.add_mul] at this
    omega
  have hdK : d * K + A < K * 128 := by
    have : (d + 1) * K ≤ 128 * K := Nat.mul_le_mul_right _ hd
    rw [Nat.add_mul, Nat.one_mul] at this
    omega
  have j1 : (k + m + 1) * 2 ^ 60 ||| K * B * 128 % 18446744073709551616 = (k + m + 1) * 2 ^ 60 + K * B * 128 := by
    rw [Nat.mod_eq_of_lt (by omega)]
    exact nat_join 60 _ _ (Nat.mul_mod_left _ _) (by omega)
  have hz : ((k + m + 1) * 2 ^ 60 + K * B * 128) % 2 ^ (7 * k + 7) = 0 := by
    have e1 : (k + m + 1) * 2 ^ 60 = (k + m + 1) * 2 ^ (60 - (7 * k + 7)) * 2 ^ (7 * k + 7) := by rw [Nat.mul_assoc, ← Nat.pow_add, show 60 - (7 * k + 7) + (7 * k + 7) = 60 by omega]
    have e2 : K * B * 128 = B * 2 ^ (7 * k + 7) := by rw [h7, Nat.mul_comm K B, Nat.mul_assoc]
    rw [e1, e2, ← Nat.add_mul, Nat.mul_mod_left]
  have j2 : ((k + m + 1) * 2 ^ 60 + K * B * 128) ||| d * K = (k + m + 1) * 2 ^ 60 + K * B * 128 + d * K := nat_join (7 * k + 7) _ _ hz (by rw [h7]; omega)
  have hz2 : ((k + m + 1) * 2 ^ 60 + K * B * 128 + d * K) % 2 ^ (7 * k) = 0 := by
    have e0 : ((k + m + 1) * 2 ^ 60 + K * B * 128) % 2 ^ (7 * k) = 0 := by
      rw [← Nat.mod_mod_of_dvd _ (Nat.pow_dvd_pow 2 (show 7 * k ≤ 7 * k + 7 by omega)), hz, Nat.zero_mod]
    rw [Nat.add_mod, e0, hK, Nat.mul_mod_left]
    simp
  have j3 := nat_join (7 * k) _ A hz2 (by rw [hK]; exact hA)
  rw [j1, j2, j3, Nat.mul_add, show k + (m + 1) = k + m + 1 by omega, Nat.mul_comm K d, ← Nat.mul_assoc, Nat.mul_comm K 128, Nat.mul_assoc 128, Nat.mul_comm 128]
  omega
theorem push_enc {l : List (Nat × Nat)} (h : OkL l) {s u : Nat} (hs : s < 8) (hu : u < 8) (hn : ∀ p, p ∈ l → p.1 ≠ s) : pushF (enc l) s u = (enc (insL l s u), true) := by
  have hok : pushOk (enc l) s u = true := by
    unfold pushOk
    rw [find_enc_none h (fun q hq => by have := hn q hq; omega), right_enc h, numB_iff.2 ⟨by omega, by omega⟩, numB_iff.2 ⟨by omega, by omega⟩]
    rfl
  unfold pushF
  rw [hok, if_pos rfl, Int.toNat_natCast, Int.toNat_natCast, pushK_enc h]
  have hr := h.room hs hn
  have e := sorted_parts h.sorted u
  have := pushX_enc (a := l.filter (fun p => decide (p.2 ≤ u))) (b := l.filter (fun p => decide (u < p.2))) (s := s) (u := u) (by rw [e]; exact h.inn) (by rw [e]; exact hr) hs hu
  rw [e] at this
  rw [this]
  rfl
end Go.Proofs.Ytkjloeefcaadlaa
/- Taken out, the best one, turned, rows: on lists. -/
namespace Go.Proofs.Ytkjloeefcaadlaa
/-- Who may be pushed. -/
def canPush (l : List (Nat × Nat)) (s u : Int) : Prop := 0 ≤ s ∧ s < 8 ∧ 0 ≤ u ∧ u < 8 ∧ ∀ p, p ∈ l → (p.1 : Int) ≠ s
theorem push_enc_no {l : List (Nat × Nat)} (h : OkL l) {s u : Int} (hn : ¬ canPush l s u) : pushF (enc l) s u = (enc l, false) := by
  unfold pushF
  rw [if_neg]
  intro hok
  apply hn
  simp only [pushOk, Bool.and_eq_true, Option.isNone_iff_eq_none] at hok
  obtain ⟨⟨⟨hf, _⟩, hs⟩, hu⟩ := hok
  obtain ⟨s0, s8⟩ := numB_iff.1 hs
  obtain ⟨u0, u8⟩ := numB_iff.1 hu
  refine ⟨s0, s8, u0, u8, fun p hp e => ?_⟩
  obtain ⟨a, b, rfl⟩ := List.append_of_mem hp
  rw [← e, find_enc_some h] at hf
  cases hf
theorem push_enc_any {l : List (Nat × Nat)} (h : OkL l) {s u : Int} (hc : canPush l s u) : pushF (enc l) s u = (enc (insL l s.toNat u.toNat), true) := by
  obtain ⟨s0, s8, u0, u8, hn⟩ := hc
  obtain ⟨s, rfl⟩ := Int.eq_ofNat_of_zero_le s0
  obtain ⟨u, rfl⟩ := Int.eq_ofNat_of_zero_le u0
  exact push_enc h (by omega) (by omega) (fun p hp => by have := hn p hp; omega)
theorem outX_enc {a b : List (Nat × Nat)} {p : Nat × Nat} (h : InL (a ++ p :: b)) (h8 : (a ++ p :: b).length ≤ 8) : outX (enc (a ++ p :: b)) a.length = enc (a ++ b) := by
  have hl : a.length + b.length < 8 := by simp at h8; omega
  have hb : InL b := fun q hq => h q (by simp [hq])
  have hA := encT_lt h.left
  have hB := encT_lt hb
  have hd := digit_lt (h p (by simp))
  unfold outX
  rw [enc_div h h8, enc_mod h h8, encT_low h.left]
  unfold enc
  obtain ⟨k, hk⟩ : ∃ k, a.length = k := ⟨_, rfl⟩
  obtain ⟨m, hm⟩ : ∃ k, b.length = k := ⟨_, rfl⟩
  rw [encT_append, encT_append, encT, List.length_append, List.length_append, List.length_cons, hk, hm, Nat.add_sub_cancel_left]
  rw [hk] at hA
  rw [hm] at hB
  rw [hk, hm] at hl
  obtain ⟨A, hA'⟩ : ∃ A, encT a = A := ⟨_, rfl⟩
  obtain ⟨B, hB'⟩ : ∃ A, encT b = A := ⟨_, rfl⟩
  obtain ⟨d, hd'⟩ : ∃ A, digit p = A := ⟨_, rfl⟩
  rw [hA'] at hA ⊢
  rw [hB'] at hB ⊢
  rw [hd'] at hd ⊢
  have e1 : 2 ^ (7 * k) * (d + 128 * B) / 2 ^ (7 * (k + 1)) = B := by
    rw [show 7 * (k + 1) = 7 * k + 7 by omega, Nat.pow_add, ← Nat.div_div_eq_div_mul, Nat.mul_div_cancel_left _ (Nat.two_pow_pos _)]
    omega
  rw [e1, show k + (m + 1) - 1 = k + m by omega]
  have hP : 2 ^ (7 * m) * 2 ^ (7 * k) ≤ 2 ^ 49 := by
    rw [← Nat.pow_add]
    exact Nat.pow_le_pow_right (by decide) (by omega)
  have hBK : B * 2 ^ (7 * k) + 2 ^ (7 * k) ≤ 2 ^ 49 := by
    have : (B + 1) * 2 ^ (7 * k) ≤ 2 ^ (7 * m) * 2 ^ (7 * k) := Nat.mul_le_mul_right _ hB
    rw [Nat.add_mul, Nat.one_mul] at this
    omega
  have j1 : (k + m) * 2 ^ 60 ||| B * 2 ^ (7 * k) % 18446744073709551616 = (k + m) * 2 ^ 60 + B * 2 ^ (7 * k) := by
    rw [Nat.mod_eq_of_lt (by omega)]
    exact nat_join 60 _ _ (Nat.mul_mod_left _ _) (by omega)
  have hz : ((k + m) * 2 ^ 60 + B * 2 ^ (7 * k)) % 2 ^ (7 * k) = 0 := by
    have e1 : (k + m) * 2 ^ 60 = (k + m) * 2 ^ (60 - 7 * k) * 2 ^ (7 * k) := by rw [Nat.mul_assoc, ← Nat.pow_add, show 60 - 7 * k + 7 * k = 60 by omega]
    rw [e1, ← Nat.add_mul, Nat.mul_mod_left]
  have j2 := nat_join (7 * k) _ A hz hA
  rw [j1, j2, Nat.mul_comm (2 ^ (7 * k)) B]
  omega
/-- Without a slot. -/
def delL (l : List (Nat × Nat)) (s : Nat) : List (Nat × Nat) := l.filter (fun p => p.1 != s)
theorem delL_split {a b : List (Nat × Nat)} {p : Nat × Nat} (h : OkL (a ++ p :: b)) : delL (a ++ p :: b) p.1 = a ++ b := by
  have hp := List.pairwise_append.1 h.pair
  have hp2 := List.pairwise_cons.1 hp.2.1
  unfold delL
  rw [List.filter_append, List.filter_cons_of_neg (by simp), List.filter_eq_self.2 (fun q hq => ?_), List.filter_eq_self.2 (fun q hq => ?_)]
  · have := (hp2.1 q hq).1; simp; omega
  · have := (hp.2.2 q hq p (by simp)).1; simpa using this
theorem delL_ok {l : List (Nat × Nat)} (h : OkL l) (s : Nat) : OkL (delL l s) :=
  ⟨fun p hp => h.inn p (List.mem_filter.1 hp).1, h.pair.filter _⟩
theorem delL_mem {l : List (Nat × Nat)} {s : Nat} {p : Nat × Nat} : p ∈ delL l s ↔ p ∈ l ∧ p.1 ≠ s := by simp [delL, List.mem_filter]
theorem outF_some {x k : Nat} {s : Int} (h : findK x s = some k) : outF x s = (outX x k, true) := by unfold outF; rw [h]
theorem outF_none {x : Nat} {s : Int} (h : findK x s = none) : outF x s = (x, false) := by unfold outF; rw [h]
theorem turnF_yes {x k o v : Nat} {s u : Int} {a : Nat} {b : Bool} (h1 : outF x s = (o, true)) (h2 : findK x s = some k) (h3 : atF x (k : Nat) = (a, v, b)) (hu : numB u = true) (hv : (v : Int) ≠ u) : turnF x s u = pushF o s u := by
  unfold turnF
  rw [h1, h2, Option.getD_some, h3, hu]
  have : ((v : Int) == u) = false := by simpa using hv
  rw [this]
  rfl
theorem turnF_no {x k v : Nat} {s u : Int} {a : Nat} {b : Bool} (h2 : findK x s = some k) (h3 : atF x (k : Nat) = (a, v, b)) (hu : (v : Int) = u ∨ numB u = false) : turnF x s u = (x, false) := by
  unfold turnF
  rw [h2, Option.getD_some, h3, if_neg]
  intro hc
  simp only [Bool.and_eq_true, Bool.not_eq_true', beq_eq_false_iff_ne, ne_eq] at hc
  rcases hu with hu | hu
  · exact hc.2 hu
  · rw [hu] at hc; exact absurd hc.1.2 (by simp)
theorem turnF_none {x : Nat} {s : Int} (u : Int) (h : findK x s = none) : turnF x s u = (x, false) := by
  unfold turnF
  rw [outF_none h]
  rfl
theorem bestF_some {x o s v : Nat} {b : Bool} (h : atF x 0 = (s, v, true)) (ho : outF x s = (o, b)) : bestF x = (o, s, true) := by
  unfold bestF
  rw [h, ho]
  rfl
theorem out_enc {l : List (Nat × Nat)} (h : OkL l) {s : Nat} (hs : ∃ p, p ∈ l ∧ p.1 = s) : outF (enc l) s = (enc (delL l s), true) := by
  obtain ⟨a, p, b, rfl, rfl⟩ := slot_split hs
  rw [outF_some (find_enc_some h), delL_split h, outX_enc h.inn h.len]
theorem out_enc_no {l : List (Nat × Nat)} (h : OkL l) {s : Int} (hs : ∀ p, p ∈ l → (p.1 : Int) ≠ s) : outF (enc l) s = (enc l, false) :=
  outF_none (find_enc_none h hs)
theorem best_enc_cons {p : Nat × Nat} {l : List (Nat × Nat)} (h : OkL (p :: l)) : bestF (enc (p :: l)) = (enc l, p.1, true) := by
  have ha := at_enc (a := []) h
  simp only [List.nil_append, List.length_nil] at ha
  have hd := delL_split (a := []) h
  simp only [List.nil_append] at hd
  have ho := out_enc h ⟨p, by simp, rfl⟩
  rw [hd] at ho
  exact bestF_some ha ho
theorem best_enc_nil : bestF (enc []) = (enc [], 0, false) := by decide +kernel
/-- Of which urgency a slot is: it is turned if it is there, of another one. -/
theorem turn_enc {a b : List (Nat × Nat)} {p : Nat × Nat} (h : OkL (a ++ p :: b)) {u : Nat} (hu : u < 8) (hne : p.2 ≠ u) : turnF (enc (a ++ p :: b)) p.1 u = (enc (insL (a ++ b) p.1 u), true) := by
  have hp := h.inn p (by simp)
  have hd := delL_split h
  have ho := out_enc h ⟨p, by simp, rfl⟩
  rw [hd] at ho
  have hno : ∀ q, q ∈ a ++ b → q.1 ≠ p.1 := fun q hq => by
    rw [← hd, delL_mem] at hq
    exact hq.2
  have hok : OkL (a ++ b) := by rw [← hd]; exact delL_ok h _
  rw [turnF_yes ho (find_enc_some h) (at_enc h) (numB_iff.2 ⟨by omega, by omega⟩) (by omega)]
  exact push_enc hok hp.1 hu hno
theorem turn_enc_same {a b : List (Nat × Nat)} {p : Nat × Nat} (h : OkL (a ++ p :: b)) {u : Int} (he : (p.2 : Int) = u ∨ u < 0 ∨ 8 ≤ u) : turnF (enc (a ++ p :: b)) p.1 u = (enc (a ++ p :: b), false) := by
  refine turnF_no (find_enc_some h) (at_enc h) (he.imp id fun h => ?_)
  cases hb : numB u with
  | false => rfl
  | true => have := numB_iff.1 hb; omega
theorem turn_enc_no {l : List (Nat × Nat)} (h : OkL l) {s : Int} (u : Int) (hs : ∀ p, p ∈ l → (p.1 : Int) ≠ s) : turnF (enc l) s u = (enc l, false) :=
  turnF_none u (find_enc_none h hs)
/-- One row. -/
def rowL (l : List (Nat × Nat)) (u : Nat) : List Int := (l.filter (fun p => p.2 == u)).map fun p => (p.1 : Int)
theorem rows_take {l : List (Nat × Nat)} (h : OkL l) (u : Nat) : ∀ k, k ≤ l.length → rowsX (enc l) k u = rowL (l.take k) u
  | 0, _ => rfl
  | k + 1, hk => by
    have hkl : k < l.length := by omega
    have hmem : l.getD k (0, 0) ∈ l := by rw [List.getD, List.getElem?_eq_getElem (by omega)]; simp
    have hp := h.inn _ hmem
    have hpl := place_at h.inn h.len (k := k) (by omega)
    have htake : l.take (k + 1) = l.take k ++ [l.getD k (0, 0)] := by rw [List.take_succ_eq_append_getElem hkl]; simp [List.getD, hkl]
    have ih := rows_take h u k (by omega)
    unfold rowL at ih ⊢
    rw [rowsX_succ, hpl, digit_slot hp, digit_urgency hp, htake, List.filter_append, List.map_append]
    obtain ⟨p, hpe⟩ : ∃ p, l.getD k (0, 0) = p := ⟨_, rfl⟩
    rw [hpe]
    by_cases hu : u = p.2
    · rw [if_pos hu, ← hu, ih]
      simp [hu]
    · rw [if_neg hu, ih]
      simp [Ne.symm hu]
theorem rows_enc {l : List (Nat × Nat)} (h : OkL l) : rowsF (enc l) = rowL l := by
  funext u
  unfold rowsF
  rw [right_enc h, if_pos rfl, enc_div h.inn h.len, rows_take h u _ (Nat.le_refl _), List.take_length]
end Go.Proofs.Ytkjloeefcaadlaa
/- Who is ready, in plain terms: a word, and of each urgency the slot that is held. -/
namespace Go.Proofs.Ytkjloeefcaadlaa
def heldAt (h : Nat → Int) (u : Nat) : List (Int × Nat) := if 0 ≤ h u then [(h u, u)] else []
/-- All that are ready, of the first urgencies. -/
def allTo (X : Nat → List Int) (h : Nat → Int) : Nat → List (Int × Nat)
  | 0 => []
  | u + 1 => allTo X h u ++ (heldAt h u ++ (X u).map fun s => (s, u))
def allT (x : Nat) (h : Nat → Int) : List (Int × Nat) := allTo (rowsF x) h 8
def heldOk (h : Nat → Int) : Bool := (List.range 8).all fun u => h u == -1 || numB (h u)
def rightT (x : Nat) (h : Nat → Int) : Bool := rightB x && heldOk h && decide ((allT x h).map (·.1)).Nodup
def firstT (x : Nat) (h : Nat → Int) (so : Int → Bool) : Option (Int × Nat) := if rightT x h then (allT x h).find? (fun p => so p.1) else none
def ofT (x : Nat) (h : Nat → Int) (s : Int) : Option (Int × Nat) := firstT x h (fun t => t == s)
def manyT (x : Nat) (h : Nat → Int) : Nat := if rightT x h then (allT x h).length else 0
def nextT (x : Nat) (h : Nat → Int) : Option (Int × Nat) := firstT x h fun _ => true
def upd (h : Nat → Int) (u : Nat) (v : Int) : Nat → Int := fun i => if i = u then v else h i
def pushT (x : Nat) (h : Nat → Int) (s u : Int) : Nat × Bool := if (ofT x h s).isNone && ((pushF x s u).2 && rightT x h) then ((pushF x s u).1, true) else (x, false)
/-- Who is ready: a word, and who is held. -/
structure RS where
  x : Nat
  h : Nat → Int
def outT (x : Nat) (h : Nat → Int) (s : Int) : RS × Bool := match ofT x h s with
  | none => (⟨x, h⟩, false)
  | some p => if h p.2 = s then (⟨x, upd h p.2 (-1)⟩, true) else (⟨(outF x s).1, h⟩, true)
def turnT (x : Nat) (h : Nat → Int) (s u : Int) : RS × Bool := match ofT x h s with
  | none => (⟨x, h⟩, false)
  | some p => if (p.2 : Int) = u ∨ numB u = false then (⟨x, h⟩, false) else
      (⟨(pushT (outT x h s).1.x (outT x h s).1.h s u).1, (outT x h s).1.h⟩, (pushT (outT x h s).1.x (outT x h s).1.h s u).2)
def beginT (x : Nat) (h : Nat → Int) : RS × Int × Nat × Bool := match nextT x h with
  | none => (⟨x, h⟩, 0, 0, false)
  | some p => ((outT x h p.1).1, p.1, p.2, true)
def overT (x : Nat) (h : Nat → Int) (s u : Int) (inc rdy : Bool) : RS × Bool :=
  if (ofT x h s).isNone && (numB s && (numB u && rightT x h)) then
    if rdy then
      if inc || decide (0 ≤ h u.toNat) then (⟨(pushT x h s u).1, h⟩, (pushT x h s u).2) else (⟨x, upd h u.toNat s⟩, true)
    else (⟨x, h⟩, true)
  else (⟨x, h⟩, false)
theorem mem_allTo {X : Nat → List Int} {h : Nat → Int} {s : Int} {u : Nat} : ∀ {n : Nat}, (s, u) ∈ allTo X h n ↔ u < n ∧ ((0 ≤ h u ∧ s = h u) ∨ s ∈ X u)
  | 0 => by simp [allTo]
  | n + 1 => by
    rw [allTo, List.mem_append, List.mem_append, mem_allTo (n := n)]
    have e : (s, u) ∈ (X n).map (fun s => (s, n)) ↔ u = n ∧ s ∈ X u := by
      rw [List.mem_map]
      constructor
      · rintro ⟨a, ha, he⟩
        simp only [Prod.mk.injEq] at he
        obtain ⟨rfl, rfl⟩ := he
        exact ⟨rfl, ha⟩
      · rintro ⟨rfl, hs⟩
        exact ⟨s, hs, rfl⟩
    have e2 : (s, u) ∈ heldAt h n ↔ u = n ∧ 0 ≤ h u ∧ s = h u := by
      unfold heldAt
      split
      · simp only [List.mem_singleton, Prod.mk.injEq]
        constructor
        · rintro ⟨rfl, rfl⟩; exact ⟨rfl, ‹_›, rfl⟩
        · rintro ⟨rfl, _, rfl⟩; exact ⟨rfl, rfl⟩
      · simp only [List.not_mem_nil, false_iff]
        rintro ⟨rfl, h1, _⟩
        omega
    rw [e, e2]
    constructor
    · rintro (⟨h1, h2⟩ | ⟨rfl, h2⟩ | ⟨rfl, h2⟩)
      · exact ⟨by omega, h2⟩
      · exact ⟨by omega, .inl h2⟩
      · exact ⟨by omega, .inr h2⟩
    · rintro ⟨h1, h2⟩
      by_cases hn : u < n
      · exact .inl ⟨hn, h2⟩
      · obtain rfl : u = n := by omega
        rcases h2 with h2 | h2
        · exact .inr (.inl ⟨rfl, h2⟩)
        · exact .inr (.inr ⟨rfl, h2⟩)
theorem mem_rowL {l : List (Nat × Nat)} {u : Nat} {s : Int} : s ∈ rowL l u ↔ ∃ p, p ∈ l ∧ p.2 = u ∧ (p.1 : Int) = s := by
  simp only [rowL, List.mem_map, List.mem_filter, beq_iff_eq]
  constructor
  · rintro ⟨p, ⟨h1, h2⟩, h3⟩; exact ⟨p, h1, h2, h3⟩
  · rintro ⟨p, h1, h2, h3⟩; exact ⟨p, ⟨h1, h2⟩, h3⟩
theorem mem_allT {l : List (Nat × Nat)} (hl : OkL l) {h : Nat → Int} {s : Int} {u : Nat} : (s, u) ∈ allT (enc l) h ↔ u < 8 ∧ ((0 ≤ h u ∧ s = h u) ∨ ∃ p, p ∈ l ∧ p.2 = u ∧ (p.1 : Int) = s) := by
  rw [allT, mem_allTo, rows_enc hl, mem_rowL]
theorem inj_of_nodup {α β : Type} {f : α → β} : ∀ {l : List α}, (l.map f).Nodup → ∀ {a b : α}, a ∈ l → b ∈ l → f a = f b → a = b
  | [], _, _, _, h, _, _ => by cases h
  | c :: l, hd, a, b, ha, hb, e => by
    rw [List.map_cons, List.nodup_cons] at hd
    rcases List.mem_cons.1 ha with e1 | ha1
    · rcases List.mem_cons.1 hb with e2 | hb1
      · rw [e1, e2]
      · exact absurd (List.mem_map.2 ⟨b, hb1, by rw [← e, e1]⟩) hd.1
    · rcases List.mem_cons.1 hb with e2 | hb1
      · exact absurd (List.mem_map.2 ⟨a, ha1, by rw [e, e2]⟩) hd.1
      · exact inj_of_nodup hd.2 ha1 hb1 e
/-- Who may be ready. -/
structure VT (l : List (Nat × Nat)) (h : Nat → Int) : Prop where
  ok : OkL l
  held : ∀ u, u < 8 → h u = -1 ∨ (0 ≤ h u ∧ h u < 8)
  apart : ∀ u v, u < 8 → v < 8 → 0 ≤ h u → h u = h v → u = v
  gone : ∀ u, u < 8 → ∀ p, p ∈ l → (p.1 : Int) ≠ h u
theorem row_nodup {l : List (Nat × Nat)} (hl : OkL l) (u : Nat) : (rowL l u).Nodup := by
  unfold rowL
  have h2 : ((l.filter fun p => p.2 == u).map (·.1)).Nodup := (List.Sublist.map _ List.filter_sublist).nodup hl.nodup
  rw [List.Nodup, List.pairwise_map] at h2 ⊢
  exact h2.imp fun h e => h (by omega)
theorem allTo_nodup {l : List (Nat × Nat)} {h : Nat → Int} (hv : VT l h) : ∀ n, n ≤ 8 → ((allTo (rowL l) h n).map (·.1)).Nodup
  | 0, _ => by simp [allTo]
  | n + 1, hn => by
    rw [allTo, List.map_append, List.nodup_append]
    refine ⟨allTo_nodup hv n (by omega), ?_, ?_⟩
    · rw [List.map_append, List.map_map, List.nodup_append]
      have e : (rowL l n).map ((fun p : Int × Nat => p.1) ∘ fun s => (s, n)) = rowL l n := by
        rw [show ((fun p : Int × Nat => p.1) ∘ fun s => (s, n)) = id from rfl, List.map_id]
      rw [e]
      refine ⟨?_, row_nodup hv.ok n, ?_⟩
      · unfold heldAt; split <;> simp
      · intro a ha b hb e2
        subst e2
        unfold heldAt at ha
        split at ha
        · simp at ha
          obtain ⟨p, hp, hpu, hps⟩ := mem_rowL.1 hb
          exact hv.gone n (by omega) p hp (by rw [hps, ha])
        · simp at ha
    · intro a ha b hb e
      subst e
      obtain ⟨⟨s1, u1⟩, h1, rfl⟩ := List.mem_map.1 ha
      obtain ⟨⟨s2, u2⟩, h2, e2⟩ := List.mem_map.1 hb
      dsimp only at e2
      have hm1 := mem_allTo.1 h1
      clear h1 ha hb
      subst e2
      obtain ⟨hu1, hm1⟩ := hm1
      have h2' : u2 = n ∧ ((0 ≤ h u2 ∧ s2 = h u2) ∨ s2 ∈ rowL l u2) := by
        rcases List.mem_append.1 h2 with h2 | h2
        · unfold heldAt at h2
          split at h2
          · simp only [List.mem_singleton, Prod.mk.injEq] at h2
            obtain ⟨rfl, rfl⟩ := h2
            exact ⟨rfl, .inl ⟨‹_›, rfl⟩⟩
          · cases h2
        · obtain ⟨c, hc1, he⟩ := List.mem_map.1 h2
          simp only [Prod.mk.injEq] at he
          obtain ⟨e1, e2⟩ := he
          rw [e1] at hc1
          rw [← e2]
          exact ⟨rfl, .inr hc1⟩
      obtain ⟨rfl, h2'⟩ := h2'
      rcases hm1 with ⟨g1, g2⟩ | g1 <;> rcases h2' with ⟨k1, k2⟩ | k1
      · have := hv.apart u1 u2 (by omega) (by omega) g1 (by omega)
        omega
      · obtain ⟨p, hp, _, hps⟩ := mem_rowL.1 k1
        exact hv.gone u1 (by omega) p hp (by omega)
      · obtain ⟨p, hp, _, hps⟩ := mem_rowL.1 g1
        exact hv.gone u2 (by omega) p hp (by omega)
      · obtain ⟨p, hp, hpu, hps⟩ := mem_rowL.1 g1
        obtain ⟨q, hq, hqu, hqs⟩ := mem_rowL.1 k1
        have : p = q := inj_of_nodup hv.ok.nodup hp hq (by omega)
        subst this
        omega
theorem heldOk_iff {h : Nat → Int} : heldOk h = true ↔ ∀ u, u < 8 → h u = -1 ∨ (0 ≤ h u ∧ h u < 8) := by
  simp only [heldOk, List.all_eq_true, List.mem_range, Bool.or_eq_true, beq_iff_eq, numB_iff]
theorem right_VT {l : List (Nat × Nat)} {h : Nat → Int} (hv : VT l h) : rightT (enc l) h = true := by
  simp only [rightT, Bool.and_eq_true, decide_eq_true_eq]
  refine ⟨⟨right_enc hv.ok, heldOk_iff.2 hv.held⟩, ?_⟩
  rw [allT, rows_enc hv.ok]
  exact allTo_nodup hv 8 (Nat.le_refl _)
theorem row_sub {X : Nat → List Int} {h : Nat → Int} {u : Nat} : ∀ {n : Nat}, u < n → (heldAt h u ++ (X u).map fun s => (s, u)).Sublist (allTo X h n)
  | n + 1, hu => by
    rw [allTo]
    by_cases e : u = n
    · subst e; exact List.sublist_append_right _ _
    · exact (row_sub (by omega)).trans (List.sublist_append_left _ _)
theorem VT_right {x : Nat} {h : Nat → Int} (hr : rightT x h = true) : ∃ l, x = enc l ∧ VT l h := by
  simp only [rightT, Bool.and_eq_true, decide_eq_true_eq] at hr
  obtain ⟨⟨h1, h2⟩, h3⟩ := hr
  obtain ⟨l, hl, rfl⟩ := enc_dec h1
  refine ⟨l, rfl, hl, heldOk_iff.1 h2, fun u v hu hv h0 e => ?_, fun u hu p hp e => ?_⟩
  · have a : (h u, u) ∈ allT (enc l) h := (mem_allT hl).2 ⟨hu, .inl ⟨h0, rfl⟩⟩
    have b : (h v, v) ∈ allT (enc l) h := (mem_allT hl).2 ⟨hv, .inl ⟨by omega, rfl⟩⟩
    have := inj_of_nodup h3 a b e
    simp only [Prod.mk.injEq] at this
    exact this.2
  · have hp8 := hl.inn p hp
    have a : ((p.1 : Int), p.2) ∈ allT (enc l) h := (mem_allT hl).2 ⟨hp8.2, .inr ⟨p, hp, rfl, rfl⟩⟩
    have b : (h u, u) ∈ allT (enc l) h := (mem_allT hl).2 ⟨hu, .inl ⟨by omega, rfl⟩⟩
    have := inj_of_nodup h3 a b e
    simp only [Prod.mk.injEq] at this
    have h4 := h3
    rw [allT, rows_enc hl] at h4
    have h5 := (List.Sublist.map (·.1) (row_sub (X := rowL l) (h := h) hu)).nodup h4
    rw [List.map_append, List.nodup_append] at h5
    refine h5.2.2 (h u) (by unfold heldAt; rw [if_pos (by omega)]; simp) (h u) ?_ rfl
    exact List.mem_map.2 ⟨(h u, u), List.mem_map.2 ⟨h u, mem_rowL.2 ⟨p, hp, this.2, e⟩, rfl⟩, rfl⟩
end Go.Proofs.Ytkjloeefcaadlaa
