/- The word of rows. -/
import Derived.Test.YtkjloeefcaadlaaW5
namespace Go.Proofs.Ytkjloeefcaadlaa
open Go.RowKit Go.Shelf Go.Cs
attribute [local go_sem] Oper.semAt_some
/-- One row pushed, slot by slot. -/
def ofRow (u : Nat) : Nat → List Int → Option Nat
  | x, [] => some x
  | x, s :: l => if (pushF x s u).2 then ofRow u (pushF x s u).1 l else none
def ofRows (X : Nat → List Int) : Nat → Nat → Option Nat
  | _, 0 => some 0
  | n, u + 1 => match ofRows X n u with
    | some x => ofRow u x (X u)
    | none => none
def ofF (X : Nat → List Int) : Nat × Bool := match ofRows X 8 8 with
  | some x => (x, true)
  | none => (0, false)
theorem ofRow_append (u x : Nat) (l m : List Int) : ofRow u x (l ++ m) = (ofRow u x l).bind (fun y => ofRow u y m) := by
  induction l generalizing x with
  | nil => rfl
  | cons s l ih =>
    simp only [List.cons_append, ofRow]
    split
    · exact ih _
    · rfl
theorem ofRows_none {X : Nat → List Int} {u : Nat} (h : ofRows X 8 u = none) : ∀ v, u ≤ v → ofRows X 8 v = none := by
  intro v hv
  induction v with
  | zero => obtain rfl : u = 0 := by omega
            exact h
  | succ v ih =>
    rcases Nat.lt_or_ge v u with h1 | h1
    · obtain rfl : u = v + 1 := by omega
      exact h
    · rw [ofRows, ih h1]
theorem ofF_none {X : Nat → List Int} {u x : Nat} (hu : u < 8) (h : ofRows X 8 u = some x) (hn : ofRow u x (X u) = none) : ofF X = (0, false) := by
  have : ofRows X 8 (u + 1) = none := by rw [ofRows, h]; exact hn
  rw [ofF, ofRows_none this 8 (by omega)]
theorem pushF_lt (x : Nat) (s u : Int) (hx : x < 18446744073709551616) : (pushF x s u).1 < 18446744073709551616 := by
  unfold pushF
  split
  · rename_i ho
    simp only [pushOk, Bool.and_eq_true, Option.isNone_iff_eq_none] at ho
    obtain ⟨⟨⟨_, hr⟩, hs⟩, hu⟩ := ho
    have hs := numB_iff.1 hs
    have hu := numB_iff.1 hu
    have hn := right_le hr
    have hk := pushK_le x u
    have hp : 2 ^ (7 * pushK x u) ≤ 2 ^ 56 := Nat.pow_le_pow_right (n := 2) (by decide) (by omega)
    have l1 : 64 ||| u.toNat * 8 < 128 := Nat.or_lt_two_pow (n := 7) (by decide) (by omega)
    have l2 : (64 ||| u.toNat * 8) ||| s.toNat < 128 := Nat.or_lt_two_pow (n := 7) l1 (by omega)
    have l3 : ((64 ||| u.toNat * 8) ||| s.toNat) * 2 ^ (7 * pushK x u) < 18446744073709551616 := Nat.lt_of_lt_of_le (Nat.mul_lt_mul_of_lt_of_le l2 hp (by decide)) (by decide)
    exact Nat.or_lt_two_pow (n := 64) (Nat.or_lt_two_pow (n := 64) (Nat.or_lt_two_pow (n := 64) (by simp only [Nat.reducePow] at hn ⊢; omega) (Nat.mod_lt _ (by decide))) l3) (Nat.lt_of_le_of_lt (Nat.mod_le _ _) (by omega))
  · exact hx
theorem idx26 (vs : List Value) (hl : vs.length = 8) (u : Nat) (hu : u < 8) (w : World) : (Instr.index 62 (.agg vs.toArray) (.int .i64 (u : Int))).run Try.prog w = .ok (vs.getD u undef) w :=
  run_index_arr Try.underlying62 Try.underlying44 rfl (by kernel_rfl) hu (by simp [List.getD, show u < vs.length by omega]) w
end Go.Proofs.Ytkjloeefcaadlaa
