/- Who is in a row is found: walked. -/
import Derived.Test.YtcelhdlppimfbaaR16
import Derived.Test.YtcelhdlppimfbaaA1
namespace Go.Proofs.Ytcelhdlppimfbaa
open Go.RowKit Go.Shelf Go.Cs
attribute [local go_sem] Oper.semAt_some
/-- Eight numbers, as cells. -/
def ints8 (f : Nat → Int) : List Value := (List.range 8).map fun i => .int .i64 (f i)
theorem ints8_at (f : Nat → Int) (m : Nat) (hm : m < 8) : (ints8 f)[m]? = some (.int .i64 (f m)) := by simp [ints8, hm]
theorem ints8_set (f : Nat → Int) (m : Nat) (hm : m < 8) (z : Int) : (ints8 f).set m (.int .i64 z) = ints8 (fun i => if i = m then z else f i) := by
  apply List.ext_getElem?
  intro i
  rw [List.getElem?_set]
  by_cases hi : m = i
  · subst hi
    rw [if_pos rfl, if_pos (by simp [ints8, hm]), ints8_at _ _ hm, if_pos rfl]
  · rw [if_neg hi]
    by_cases h8 : i < 8
    · rw [ints8_at _ _ h8, ints8_at _ _ h8, if_neg (Ne.symm hi)]
    · rw [List.getElem?_eq_none (by simp [ints8]; omega), List.getElem?_eq_none (by simp [ints8]; omega)]
theorem ints8_congr {f g : Nat → Int} (h : ∀ i, i < 8 → f i = g i) : ints8 f = ints8 g := by
  unfold ints8
  exact List.map_congr_left fun i hi => by rw [h i (List.mem_range.1 hi)]
/-- The variable of eight numbers: a cell of it; one put. -/
theorem ints8_cell {W : World} {B : Nat} {f : Nat → Int} (h : W.heap[B]? = some (.cells (ints8 f).toArray 27 (0, 0))) {m : Nat} (hm : m < 8) : W.cell? ⟨B, m, none⟩ = some (.int .i64 (f m)) ∧ W.frozen? ⟨B, m, none⟩ = false := by
  refine ⟨?_, by simp [World.frozen?, h]⟩
  rw [cell_of_row W B m _ 27 (0, 0) h, List.getElem?_toArray]
  exact ints8_at f m hm
theorem ints8_put {W : World} {B : Nat} {f : Nat → Int} (h : W.heap[B]? = some (.cells (ints8 f).toArray 27 (0, 0))) {m : Nat} (hm : m < 8) (z : Int) : (W.setCell ⟨B, m, none⟩ (.int .i64 z)).heap[B]? = some (.cells (ints8 (fun i => if i = m then z else f i)).toArray 27 (0, 0)) := by
  rw [heap_setCell_same W B m _ 27 _ h, List.setIfInBounds_toArray, ints8_set f m hm z]
theorem ints8_put2 {W : World} {B : Nat} {f : Nat → Int} (h : W.heap[B]? = some (.cells (ints8 f).toArray 27 (0, 0))) {m : Nat} (hm : m < 8) (z : Int) {g : Nat → Int} (hg : ∀ i, i < 8 → (if i = m then z else f i) = g i) : (W.setCell ⟨B, m, none⟩ (.int .i64 z)).heap[B]? = some (.cells (ints8 g).toArray 27 (0, 0)) := by
  rw [ints8_put h hm z, ints8_congr hg]
/-- In which row a number is, -1: in none. -/
def inF (L : List (Nat × Int)) (k : Nat) : Int := match L.find? (fun p => p.2 == (k : Int)) with
  | some p => p.1
  | none => -1
theorem inF_nil (k : Nat) : inF [] k = -1 := rfl
theorem inF_snoc (L : List (Nat × Int)) (u m k : Nat) (h : ∀ p, p ∈ L → p.2 ≠ (m : Int)) : inF (L ++ [(u, (m : Int))]) k = if k = m then (u : Int) else inF L k := by
  unfold inF
  rw [List.find?_append]
  by_cases e : k = m
  · subst e
    rw [if_pos rfl, List.find?_eq_none.2 (fun p hp => by simpa using h p hp)]
    simp
  · rw [if_neg e, show [(u, (m : Int))].find? (fun p => p.2 == (k : Int)) = none by simp; omega, Option.or_none]
def preL (X : Nat → List Int) (u k : Nat) : List (Nat × Int) := flatTo X u ++ ((X u).take k).map fun n => (u, n)
theorem preL_zero (X : Nat → List Int) (u : Nat) : preL X u 0 = flatTo X u := by simp [preL]
theorem preL_row (X : Nat → List Int) (u : Nat) : preL X u (X u).length = flatTo X (u + 1) := by simp [preL, flatTo]
theorem preL_succ (X : Nat → List Int) (u k : Nat) (hk : k < (X u).length) : preL X u (k + 1) = preL X u k ++ [(u, (X u).getD k 0)] := by
  unfold preL
  rw [List.take_succ_eq_append_getElem hk, List.map_append, List.append_assoc]
  simp [List.getD, hk]
theorem preL_pre (X : Nat → List Int) (u k : Nat) (hu : u < 8) (hk : k < (X u).length) : ∃ t, flat X = preL X u k ++ (u, (X u).getD k 0) :: t := by
  obtain ⟨t, ht⟩ := flatTo_split X (u + 1) 8 (by omega)
  refine ⟨((X u).drop (k + 1)).map (fun n => (u, n)) ++ t, ?_⟩
  have e : X u = (X u).take k ++ (X u).getD k 0 :: (X u).drop (k + 1) := by
    have : (X u).getD k 0 = (X u)[k] := by simp [List.getD, hk]
    rw [this, ← List.drop_eq_getElem_cons hk, List.take_append_drop]
  unfold flat
  rw [ht, flatTo]
  unfold preL
  conv => lhs; rw [e]
  simp
theorem preL_new {X : Nat → List Int} (hr : rightR X = true) {u k : Nat} (hu : u < 8) (hk : k < (X u).length) : (∀ p, p ∈ preL X u k → p.2 ≠ (X u).getD k 0) ∧ 0 ≤ (X u).getD k 0 ∧ (X u).getD k 0 < 8 := by
  obtain ⟨h1, h2⟩ := right_iff.1 hr
  obtain ⟨t, ht⟩ := preL_pre X u k hu hk
  have hm : (X u).getD k 0 ∈ fl X := by unfold fl; rw [ht]; simp
  refine ⟨fun p hp e => ?_, h1 _ hm⟩
  unfold fl at h2
  rw [ht, List.map_append, List.nodup_append] at h2
  exact h2.2.2 p.2 (List.mem_map.2 ⟨p, hp, rfl⟩) ((X u).getD k 0) (by simp) e
theorem preL_len (X : Nat → List Int) (u k : Nat) (hk : k ≤ (X u).length) : (preL X u k).length = (flatTo X u).length + k := by simp [preL]; omega
theorem findR_inF {X : Nat → List Int} (hr : rightR X = true) (k : Nat) : (findR X k = none ∧ inF (flat X) k = -1) ∨ ∃ u : Nat, findR X k = some u ∧ inF (flat X) k = u := by
  unfold findR inF
  rw [hr, if_pos rfl]
  cases (flat X).find? (fun p => p.2 == (k : Int)) with
  | none => exact .inl ⟨rfl, rfl⟩
  | some p => exact .inr ⟨p.1, rfl, rfl⟩
end Go.Proofs.Ytcelhdlppimfbaa
