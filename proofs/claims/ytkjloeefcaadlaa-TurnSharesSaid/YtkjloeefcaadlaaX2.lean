/- The law that a word that may be is told by its rows, walked. -/
import Derived.Test.YtkjloeefcaadlaaX1
namespace Go.Proofs.Ytkjloeefcaadlaa
open Go.RowKit Go.Shelf Go.Cs
attribute [local go_sem] Oper.semAt_some
/-- What Rows answers: eight slices that read as the rows. -/
def RowsR (x : Nat) (w : World) (e : Ending) (w' : World) : Prop := ∃ vs : List Value, e = .returned (.agg vs.toArray) ∧ vs.length = 8 ∧ (∀ u, u < 8 → ReadsI .i64 w' (vs.getD u undef) (rowsF x u)) ∧ New w w'
theorem rows_reads (x : Nat) (hx : x < 18446744073709551616) (w : World) : Calls Try.prog 164 #[.int .u64 x] w (RowsR x w) := by
  refine (rows_any x hx w).mono fun e w' h => ?_
  obtain ⟨v, rfl, ⟨vs, rfl, hl, hr⟩, hN⟩ := h
  exact ⟨vs, rfl, hl, fun u hu => .ofOwns (hr u hu), hN⟩
theorem rowsF_in (x u : Nat) (s : Int) (h : s ∈ rowsF x u) : 0 ≤ s ∧ s < 8 := by
  unfold rowsF at h
  split at h
  · rw [rowsX, List.mem_map] at h
    obtain ⟨j, _, rfl⟩ := h
    omega
  · cases h
def part (x n k : Nat) : Nat := n * 2 ^ 60 + x % 2 ^ (7 * k)
theorem part_lt {x n k : Nat} (hn : n ≤ 8) (hk : k ≤ 8) : part x n k < 18446744073709551616 := by
  have hp : 2 ^ (7 * k) ≤ 2 ^ 56 := Nat.pow_le_pow_right (n := 2) (by decide) (by omega)
  have := Nat.mod_lt x (Nat.two_pow_pos (7 * k))
  unfold part
  omega
theorem part_next {x n k : Nat} (h : rightB x = true) (hn : x / 2 ^ 60 = n) (hk : k < n) :
    bits .or .u64 (part x n k : Int) (IntKind.u64.wrap ((64 + 8 * ((place x k / 8 % 8 : Nat) : Int) + ((place x k % 8 : Nat) : Int)) * 2 ^ (7 * k))) = (part x n (k + 1) : Int) := by
  obtain ⟨a1, a2, a3⟩ := right_top h hn
  have ht := stt_there a3 hk
  have hpl := place_lt x k
  have e1 : (64 + 8 * ((place x k / 8 % 8 : Nat) : Int) + ((place x k % 8 : Nat) : Int)) = (place x k : Int) := by omega
  have hp : 2 ^ (7 * k) ≤ 2 ^ 49 := Nat.pow_le_pow_right (n := 2) (by decide) (by omega)
  have hm : place x k * 2 ^ (7 * k) ≤ 127 * 2 ^ 49 := Nat.mul_le_mul (by omega) hp
  rw [e1, cast_pow, ← Int.natCast_mul, wrapN, Nat.mod_eq_of_lt (by omega), or_u64 _ _ (part_lt a1 (by omega)) (by omega)]
  congr 1
  have hlow := Nat.mod_lt x (Nat.two_pow_pos (7 * k))
  unfold part
  have j1 : n * 2 ^ 60 + x % 2 ^ (7 * k) = n * 2 ^ 60 ||| x % 2 ^ (7 * k) := (nat_join 60 _ _ (Nat.mul_mod_left _ _) (by omega)).symm
  rw [j1, Nat.or_assoc, Nat.or_comm (x % 2 ^ (7 * k)), nat_join (7 * k) _ _ (Nat.mul_mod_left _ _) hlow, trunc_succ, Nat.add_comm (x % 2 ^ (7 * k))]
  exact nat_join 60 _ _ (Nat.mul_mod_left _ _) (by omega)
theorem part_zero (x n : Nat) : part x n 0 = n * 2 ^ 60 := by simp [part, Nat.mod_one]
theorem part_all {x n : Nat} (h : rightB x = true) (hn : x / 2 ^ 60 = n) : part x n n = x := trunc_all h hn
end Go.Proofs.Ytkjloeefcaadlaa
