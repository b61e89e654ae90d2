/- What the document says of 3, 1 and 4: rows in plain. -/
import Derived.Test.YtcelhdlppimfbaaR15
namespace Go.Proofs.Ytcelhdlppimfbaa
open Go.RowKit Go.Shelf Go.Cs
def xs (l : List (List Int)) : Nat → List Int := fun u => l.getD u []
theorem xs_in {l : List (List Int)} (h : l.all (fun r => r.all fun n => decide (-100 ≤ n ∧ n ≤ 100)) = true) : In64 (xs l) := fun u n hn => by
  unfold xs at hn
  rw [List.all_eq_true] at h
  rcases Nat.lt_or_ge u l.length with hu | hu
  · have h1 := h (l.getD u []) (by rw [List.getD, List.getElem?_eq_getElem hu]; simp)
    rw [List.all_eq_true] at h1
    have := of_decide_eq_true (h1 n hn)
    omega
  · rw [List.getD, List.getElem?_eq_none hu] at hn; cases hn
theorem xs_le {l : List (List Int)} (h : l.all (fun r => decide (r.length ≤ 100)) = true) (u : Nat) : (xs l u).length ≤ 1000000 := by
  unfold xs
  rw [List.all_eq_true] at h
  rcases Nat.lt_or_ge u l.length with hu | hu
  · have h1 := of_decide_eq_true (h (l.getD u []) (by rw [List.getD, List.getElem?_eq_getElem hu]; simp))
    omega
  · rw [List.getD, List.getElem?_eq_none hu]; simp
def x0 := xs [[], [], [], [], [], [], [], []]
def x1 := xs [[], [], [], [], [], [3], [], []]
def x2 := xs [[], [], [1], [], [], [3], [], []]
def x3 := xs [[], [], [1], [], [], [3, 4], [], []]
def x4 := xs [[], [], [], [], [], [3, 4], [], []]
def x5 := xs [[], [], [], [], [], [4], [], []]
def xt := xs [[], [4], [1], [], [], [3], [], []]
def xo := xs [[], [4], [1], [], [], [], [], []]
def xb := xs [[3], [], [1], [], [], [3, 4], [], []]
theorem all8 {P : Nat → Prop} (h0 : P 0) (h1 : P 1) (h2 : P 2) (h3 : P 3) (h4 : P 4) (h5 : P 5) (h6 : P 6) (h7 : P 7) : ∀ i, i < 8 → P i := fun i hi => by
  match i, hi with
  | 0, _ => exact h0
  | 1, _ => exact h1
  | 2, _ => exact h2
  | 3, _ => exact h3
  | 4, _ => exact h4
  | 5, _ => exact h5
  | 6, _ => exact h6
  | 7, _ => exact h7
theorem p1 : pushOk x0 3 5 = true ∧ ∀ i, i < 8 → pushR x0 3 5 i = x1 i := by decide +kernel
theorem p2 : pushOk x1 1 2 = true ∧ ∀ i, i < 8 → pushR x1 1 2 i = x2 i := by decide +kernel
theorem p3 : pushOk x2 4 5 = true ∧ ∀ i, i < 8 → pushR x2 4 5 i = x3 i := by decide +kernel
theorem p4 : pushOk x3 3 0 = false := by decide +kernel
theorem p5 : (bestR x3).2 = (1, true) ∧ ∀ i, i < 8 → (bestR x3).1 i = x4 i := by decide +kernel
theorem p6 : (bestR x4).2 = (3, true) ∧ ∀ i, i < 8 → (bestR x4).1 i = x5 i := by decide +kernel
theorem p7 : (bestR x5).2 = (4, true) ∧ ∀ i, i < 8 → (bestR x5).1 i = x0 i := by decide +kernel
theorem p8 : (bestR x0).2 = (0, false) := by decide +kernel
theorem p9 : turnOk x3 4 1 = true ∧ ∀ i, i < 8 → turnR x3 4 1 i = xt i := by decide +kernel
theorem p10 : (findR xt 3).isSome = true ∧ ∀ i, i < 8 → outR xt 3 i = xo i := by decide +kernel
theorem p11 : findR xt 4 = some 1 := by decide +kernel
theorem p12 : allF xt = [4, 1, 3] ∧ allF xo = [4, 1] ∧ allF x3 = [1, 3, 4] ∧ rightR x3 = true ∧ rightR xb = false ∧ sameR x3 x3 = true ∧ sameR x3 xt = false := by decide +kernel
end Go.Proofs.Ytcelhdlppimfbaa
