/- A word that may be is told by its rows. -/
import Derived.Test.YtkjloeefcaadlaaW6
import Derived.Test.YtkjloeefcaadlaaW8
namespace Go.Proofs.Ytkjloeefcaadlaa
theorem stt_facts {x : Nat} : ∀ {k s l : Nat}, stt x k = some (s, l) → (∀ i, i < k → place x i / 8 % 8 ≤ l) ∧ ∀ i, i < k → s.testBit (place x i % 8) = true
  | 0, s, l, h => ⟨fun i hi => by omega, fun i hi => by omega⟩
  | k + 1, s, l, h => by
    rw [stt] at h
    cases hs : stt x k with
    | none => rw [hs] at h; cases h
    | some st =>
      obtain ⟨s', l'⟩ := st
      rw [hs] at h
      simp only [stp] at h
      split at h
      · cases h
      · rename_i hn
        simp only [Option.some.injEq, Prod.mk.injEq] at h
        obtain ⟨rfl, rfl⟩ := h
        obtain ⟨f1, f2⟩ := stt_facts hs
        refine ⟨fun i hi => ?_, fun i hi => ?_⟩
        · rcases Nat.lt_or_ge i k with h | h
          · have := f1 i h; omega
          · obtain rfl : i = k := by omega
            exact Nat.le_refl _
        · rw [Nat.testBit_or, Nat.testBit_two_pow]
          rcases Nat.lt_or_ge i k with h | h
          · rw [f2 i h]; rfl
          · obtain rfl : i = k := by omega
            simp
theorem stt_pair {x i k n : Nat} (h : stt x n ≠ none) (hi : i < k) (hk : k < n) : place x i / 8 % 8 ≤ place x k / 8 % 8 ∧ place x i % 8 ≠ place x k % 8 := by
  have h1 := stt_some h (show k + 1 ≤ n by omega)
  rw [stt] at h1
  cases hs : stt x k with
  | none => rw [hs] at h1; exact absurd rfl h1
  | some st =>
    obtain ⟨s, l⟩ := st
    rw [hs] at h1
    simp only [stp] at h1
    split at h1
    · exact absurd rfl h1
    · rename_i hn
      obtain ⟨f1, f2⟩ := stt_facts hs
      refine ⟨by have := f1 i hi; omega, fun e => ?_⟩
      have hb := f2 i hi
      rw [e] at hb
      apply hn
      refine .inr (.inl fun e0 => ?_)
      have := congrArg (fun y => y.testBit (place x k % 8)) e0
      simp [Nat.testBit_and, hb] at this
/-- The first j places of a word. -/
def trunc (x j : Nat) : Nat := j * 2 ^ 60 + x % 2 ^ (7 * j)
theorem trunc_mod {x j : Nat} (hj : j ≤ 8) : trunc x j % 2 ^ 60 = x % 2 ^ (7 * j) := by
  have hp : 2 ^ (7 * j) ≤ 2 ^ 56 := Nat.pow_le_pow_right (n := 2) (by decide) (by omega)
  have := Nat.mod_lt x (Nat.two_pow_pos (7 * j))
  unfold trunc
  omega
theorem trunc_div {x j : Nat} (hj : j ≤ 8) : trunc x j / 2 ^ 60 = j := by
  have hp : 2 ^ (7 * j) ≤ 2 ^ 56 := Nat.pow_le_pow_right (n := 2) (by decide) (by omega)
  have := Nat.mod_lt x (Nat.two_pow_pos (7 * j))
  unfold trunc
  omega
theorem trunc_place {x j k : Nat} (hj : j ≤ 8) (hk : k < j) : place (trunc x j) k = place x k := by
  rw [← place_mod _ k (by omega), trunc_mod hj]
  unfold place
  apply Nat.eq_of_testBit_eq
  intro i
  rw [show (128 : Nat) = 2 ^ 7 from rfl]
  simp only [Nat.testBit_mod_two_pow, Nat.testBit_div_two_pow]
  by_cases hi : i < 7
  · simp [hi, show i + 7 * k < 7 * j by omega]
  · simp [hi]
theorem trunc_right {x j n : Nat} (h : rightB x = true) (hn : x / 2 ^ 60 = n) (hj : j ≤ n) : rightB (trunc x j) = true := by
  obtain ⟨a1, a2, a3⟩ := right_top h hn
  refine right_iff.2 ?_
  rw [trunc_div (by omega), trunc_mod (by omega)]
  refine ⟨by omega, Nat.div_eq_of_lt (Nat.mod_lt _ (Nat.two_pow_pos _)), ?_⟩
  rw [stt_congr j (fun k hk => trunc_place (by omega) hk)]
  exact stt_some a3 hj
theorem trunc_all {x n : Nat} (h : rightB x = true) (hn : x / 2 ^ 60 = n) : trunc x n = x := by
  obtain ⟨a1, a2, a3⟩ := right_top h hn
  unfold trunc
  have e : x % 2 ^ (7 * n) = x % 2 ^ 60 := by
    have hp : 2 ^ 60 = 2 ^ (7 * n) * 2 ^ (60 - 7 * n) := by rw [← Nat.pow_add]; congr 1; omega
    have h1 : x % 2 ^ 60 % 2 ^ (7 * n) = x % 2 ^ (7 * n) := by rw [hp, Nat.mod_mul_right_mod]
    rw [← h1, Nat.mod_eq_of_lt a2]
  rw [e]
  omega
theorem trunc_succ (x j : Nat) : x % 2 ^ (7 * (j + 1)) = x % 2 ^ (7 * j) + place x j * 2 ^ (7 * j) := by
  rw [show 7 * (j + 1) = 7 * j + 7 by omega, Nat.pow_add, Nat.mod_mul, place, Nat.mul_comm (2 ^ (7 * j))]
theorem firstK_none {x : Nat} {so : Nat → Bool} (h : ∀ k, k < x / 2 ^ 60 → so (place x k) = false) : firstK x so = none := by
  unfold firstK
  split
  · rw [List.find?_eq_none]
    intro k hk
    rw [h k (List.mem_range.1 hk)]; simp
  · rfl
theorem firstK_some {x k : Nat} {so : Nat → Bool} (hr : rightB x = true) (hk : k < x / 2 ^ 60) (h : so (place x k) = true) (hn : ∀ i, i < k → so (place x i) = false) : firstK x so = some k := by
  unfold firstK
  rw [if_pos hr]
  exact find_range hk h hn
theorem find_slot {x k n : Nat} (h : rightB x = true) (hn : x / 2 ^ 60 = n) (hk : k < n) : findK x ((place x k % 8 : Nat) : Int) = some k := by
  obtain ⟨_, _, a3⟩ := right_top h hn
  refine firstK_some h (by omega) (by simp) fun i hi => ?_
  have := (stt_pair a3 hi hk).2
  simp; omega
theorem there_split {p : Nat} (h : p / 64 % 2 = 1) (hp : p < 128) : (64 ||| p / 8 % 8 * 8) ||| p % 8 = p := by
  have e1 : 64 ||| p / 8 % 8 * 8 = 64 + p / 8 % 8 * 8 := nat_join 6 64 _ (by decide) (by omega)
  rw [e1, nat_join 3 _ _ (by omega) (by omega)]
  omega
theorem push_next {x j n : Nat} (h : rightB x = true) (hn : x / 2 ^ 60 = n) (hj : j < n) : pushF (trunc x j) ((place x j % 8 : Nat) : Int) ((place x j / 8 % 8 : Nat) : Int) = (trunc x (j + 1), true) := by
  obtain ⟨a1, a2, a3⟩ := right_top h hn
  have hr := trunc_right h hn (show j ≤ n by omega)
  have hd := trunc_div (x := x) (j := j) (by omega)
  have hm := trunc_mod (x := x) (j := j) (by omega)
  have hfind : findK (trunc x j) ((place x j % 8 : Nat) : Int) = none := firstK_none fun k hk => by
    rw [hd] at hk
    rw [trunc_place (by omega) hk]
    have := (stt_pair a3 hk hj).2
    simp; omega
  have hfirst : firstU (trunc x j) ((place x j / 8 % 8 : Nat) : Int) = none := firstK_none fun k hk => by
    rw [hd] at hk
    rw [trunc_place (by omega) hk]
    have := (stt_pair a3 hk hj).1
    simp; omega
  have hK : pushK (trunc x j) ((place x j / 8 % 8 : Nat) : Int) = j := by
    unfold pushK
    rw [hfirst]
    simp [manyN, hr, hd]
  have hok : pushOk (trunc x j) ((place x j % 8 : Nat) : Int) ((place x j / 8 % 8 : Nat) : Int) = true := by
    simp only [pushOk, hfind, hr, Option.isNone_none, Bool.true_and, Bool.and_eq_true]
    exact ⟨numB_iff.2 (by omega), numB_iff.2 (by omega)⟩
  unfold pushF
  rw [if_pos hok, hK, Int.toNat_natCast, Int.toNat_natCast]
  congr 1
  unfold pushX
  rw [hd, hm, Nat.mod_mod, Nat.sub_self, Nat.zero_mul, Nat.zero_mod, Nat.or_zero, there_split (stt_there a3 hj) (place_lt _ _)]
  have hp : 2 ^ (7 * j) ≤ 2 ^ 49 := Nat.pow_le_pow_right (n := 2) (by decide) (by omega)
  have hpl : place x j * 2 ^ (7 * j) ≤ 127 * 2 ^ 49 := Nat.mul_le_mul (by have := place_lt x j; omega) hp
  have hlow := Nat.mod_lt x (Nat.two_pow_pos (7 * j))
  rw [nat_join 60 ((j + 1) * 2 ^ 60) _ (Nat.mul_mod_left _ _) (by omega)]
  have e : (j + 1) * 2 ^ 60 + place x j * 2 ^ (7 * j) = ((j + 1) * 2 ^ (60 - 7 * j) + place x j) * 2 ^ (7 * j) := by
    have e0 : (j + 1) * 2 ^ 60 = (j + 1) * 2 ^ (60 - 7 * j) * 2 ^ (7 * j) := by rw [Nat.mul_assoc, ← Nat.pow_add, show 60 - 7 * j + 7 * j = 60 by omega]
    rw [e0, ← Nat.add_mul]
  rw [nat_join (7 * j) _ _ (by rw [e]; exact Nat.mul_mod_left _ _) hlow]
  unfold trunc
  rw [trunc_succ]
  generalize place x j * 2 ^ (7 * j) = A
  generalize x % 2 ^ (7 * j) = B
  rw [Nat.add_assoc, Nat.add_comm A B]
def pushAll : Nat → List (Int × Nat) → Option Nat
  | x, [] => some x
  | x, (s, u) :: l => if (pushF x s u).2 then pushAll (pushF x s u).1 l else none
theorem pushAll_append (x : Nat) (l m : List (Int × Nat)) : pushAll x (l ++ m) = (pushAll x l).bind (fun y => pushAll y m) := by
  induction l generalizing x with
  | nil => rfl
  | cons p l ih =>
    obtain ⟨s, u⟩ := p
    simp only [List.cons_append, pushAll]
    split
    · exact ih _
    · rfl
theorem ofRow_all (u x : Nat) (l : List Int) : ofRow u x l = pushAll x (l.map fun s => (s, u)) := by
  induction l generalizing x with
  | nil => rfl
  | cons s l ih => simp only [List.map_cons, ofRow, pushAll, ih]
def allRows (X : Nat → List Int) : Nat → List (Int × Nat)
  | 0 => []
  | u + 1 => allRows X u ++ (X u).map fun s => (s, u)
theorem ofRows_all (X : Nat → List Int) (u : Nat) : ofRows X 8 u = pushAll 0 (allRows X u) := by
  induction u with
  | zero => rfl
  | succ u ih =>
    rw [ofRows, ih, allRows, pushAll_append]
    cases pushAll 0 (allRows X u) with
    | none => rfl
    | some y => exact ofRow_all u y (X u)
/-- A list whose keys do not fall is its parts by key, one behind the other. -/
theorem parts_by_key {α : Type} (key : α → Nat) : ∀ (l : List α), l.Pairwise (fun a b => key a ≤ key b) → ∀ m, (l.filter fun a => key a < m) ++ (l.filter fun a => key a == m) = l.filter fun a => key a < m + 1
  | [], _, m => rfl
  | a :: l, h, m => by
    obtain ⟨h1, h2⟩ := List.pairwise_cons.1 h
    have ih := parts_by_key key l h2 m
    rcases Nat.lt_trichotomy (key a) m with c | c | c
    · simp only [List.filter_cons, c, decide_true, if_true, show ¬ key a = m by omega, show key a < m + 1 by omega, beq_iff_eq, if_false, List.cons_append]
      rw [ih]
    · have e : l.filter (fun a => decide (key a < m)) = [] := by
        rw [List.filter_eq_nil_iff]
        intro b hb
        have := h1 b hb
        simp; omega
      rw [e, List.nil_append] at ih
      simp only [List.filter_cons, c, Nat.lt_irrefl, decide_false, Bool.false_eq_true, if_false, beq_self_eq_true, if_true, Nat.lt_succ_self, decide_true, e, List.nil_append]
      rw [ih]
    · simp only [List.filter_cons, show ¬ key a < m by omega, show ¬ key a = m by omega, show ¬ key a < m + 1 by omega, decide_false, Bool.false_eq_true, if_false, beq_iff_eq]
      exact ih
theorem allRows_filter {x n : Nat} (h : stt x n ≠ none) (u : Nat) : allRows (rowsX x n) u = ((List.range n).filter fun j => place x j / 8 % 8 < u).map fun j => (((place x j % 8 : Nat) : Int), place x j / 8 % 8) := by
  induction u with
  | zero => simp [allRows]
  | succ u ih =>
    rw [allRows, ih, ← parts_by_key (fun j => place x j / 8 % 8) (List.range n) ?_ u, List.map_append]
    · congr 1
      unfold rowsX
      rw [List.map_map]
      apply List.map_congr_left
      intro j hj
      have := (List.mem_filter.1 hj).2
      simp only [beq_iff_eq] at this
      simp [this]
    · rw [List.pairwise_iff_getElem]
      intro i j hi hj hij
      simp only [List.length_range] at hi hj
      simp only [List.getElem_range]
      exact (stt_pair h hij hj).1
theorem pushAll_trunc {x n : Nat} (h : rightB x = true) (hn : x / 2 ^ 60 = n) : ∀ k j, j + k = n → pushAll (trunc x j) ((List.range' j k).map fun j => (((place x j % 8 : Nat) : Int), place x j / 8 % 8)) = some x
  | 0, j, hj => by
    obtain rfl : j = n := by omega
    simp only [List.range'_zero, List.map_nil, pushAll, trunc_all h hn]
  | k + 1, j, hj => by
    rw [List.range'_succ, List.map_cons, pushAll, push_next h hn (by omega)]
    simp only [if_true]
    exact pushAll_trunc h hn k (j + 1) (by omega)
theorem of_rows {x : Nat} (h : rightB x = true) : ofF (rowsF x) = (x, true) := by
  obtain ⟨n, hn⟩ : ∃ n, x / 2 ^ 60 = n := ⟨_, rfl⟩
  obtain ⟨a1, a2, a3⟩ := right_top h hn
  have e : rowsF x = rowsX x n := by funext u; unfold rowsF; rw [if_pos h, hn]
  have hall : (List.range n).filter (fun j => decide (place x j / 8 % 8 < 8)) = List.range n := by
    rw [List.filter_eq_self]; intro j _; simp; omega
  have h0 := pushAll_trunc h hn n 0 (by omega)
  rw [← List.range_eq_range', show trunc x 0 = 0 by simp [trunc, Nat.mod_one]] at h0
  unfold ofF
  rw [ofRows_all, e, allRows_filter a3, hall, h0]
theorem of_none : ofF (fun _ => []) = (0, true) := by decide +kernel
end Go.Proofs.Ytkjloeefcaadlaa
