/- Turns that are shared, in plain terms: the best row turns round; how often each had its turn. -/
import Derived.Test.YtkjloeefcaadlaaTP3
namespace Go.Proofs.Ytkjloeefcaadlaa
attribute [local irreducible] enc
/-- The best row, and what stands behind it. -/
theorem best_split {p : Nat × Nat} {t : List (Nat × Nat)} (hl : OkL (p :: t)) : ∃ (R : List Nat) (T : List (Nat × Nat)), p :: t = R.map (fun s => (s, p.2)) ++ T ∧ (∀ q, q ∈ T → p.2 < q.2) ∧ 0 < R.length ∧ rowL (p :: t) p.2 = R.map (fun (s : Nat) => (s : Int)) := by
  have hs := hl.sorted
  have hle : ∀ q, q ∈ p :: t → p.2 ≤ q.2 := by
    intro q hq
    rcases List.mem_cons.1 hq with rfl | hq
    · exact Nat.le_refl _
    · exact (List.pairwise_cons.1 hs).1 q hq
  have h1 := sorted_parts hs p.2
  have e1 : (p :: t).filter (fun q => decide (q.2 ≤ p.2)) = (((p :: t).filter (fun q => decide (q.2 ≤ p.2))).map (·.1)).map (fun s => (s, p.2)) := by
    rw [List.map_map]
    conv => lhs; rw [← List.map_id ((p :: t).filter (fun q => decide (q.2 ≤ p.2)))]
    apply List.map_congr_left
    intro q hq
    obtain ⟨h2, h3⟩ := List.mem_filter.1 hq
    have h4 := hle q h2
    simp at h3
    obtain ⟨a, b⟩ := q
    dsimp only at h3 h4
    simp
    omega
  refine ⟨((p :: t).filter (fun q => decide (q.2 ≤ p.2))).map (·.1), (p :: t).filter (fun q => decide (p.2 < q.2)), ?_, ?_, ?_, ?_⟩
  · rw [← e1, h1]
  · intro q hq
    have := (List.mem_filter.1 hq).2
    simpa using this
  · rw [List.length_map]
    exact List.length_pos_of_mem (List.mem_filter.2 ⟨List.mem_cons_self, by simp⟩)
  · unfold rowL
    rw [List.map_map]
    have e2 : (p :: t).filter (fun q => q.2 == p.2) = (p :: t).filter (fun q => decide (q.2 ≤ p.2)) := by
      apply List.filter_congr
      intro q hq
      have := hle q hq
      by_cases e : q.2 = p.2
      · simp [e]
      · have h5 : (q.2 == p.2) = false := by simpa using e
        rw [h5]
        symm
        exact decide_eq_false (by omega)
    rw [e2]
    rfl
/-- The row, turned round j times. -/
def rotR (R : List Nat) (j : Nat) : List Nat := R.drop j ++ R.take j
theorem rotR_zero (R : List Nat) : rotR R 0 = R := by simp [rotR]
theorem rotR_head {R : List Nat} {j : Nat} (hj : j < R.length) : rotR R j = R.getD j 0 :: (R.drop (j + 1) ++ R.take j) := by
  have e : R.getD j 0 = R[j] := by simp [List.getD, hj]
  unfold rotR
  rw [e, List.drop_eq_getElem_cons hj]
  rfl
theorem rotR_next {R : List Nat} {j : Nat} (hj : j < R.length) : (R.drop (j + 1) ++ R.take j) ++ [R.getD j 0] = rotR R ((j + 1) % R.length) := by
  have e : R.getD j 0 = R[j] := by simp [List.getD, hj]
  rw [e, List.append_assoc, ← List.take_succ_eq_append_getElem hj]
  by_cases h : j + 1 < R.length
  · rw [Nat.mod_eq_of_lt h]; rfl
  · have h2 : j + 1 = R.length := by omega
    rw [h2, Nat.mod_self, rotR_zero, List.drop_length, List.take_length]
    rfl
/-- How often the one in place k of m had its turn, behind i turns. -/
def cntR (m i k : Nat) : Nat := i / m + if k < i % m then 1 else 0
theorem cntR_zero (m k : Nat) : cntR m 0 k = 0 := by simp [cntR]
theorem cntR_next {m i k : Nat} (hm : 0 < m) (hk : k < m) : cntR m (i + 1) k = cntR m i k + if k = i % m then 1 else 0 := by
  unfold cntR
  have h1 := Nat.mod_lt i hm
  have h2 := Nat.div_add_mod i m
  by_cases h : i % m + 1 < m
  · have e1 : (i + 1) / m = i / m := by
      exact Nat.div_eq_of_lt_le (by rw [Nat.mul_comm]; omega) (by rw [Nat.add_mul, Nat.one_mul, Nat.mul_comm]; omega)
    have e2 : (i + 1) % m = i % m + 1 := by
      rw [Nat.add_mod, Nat.mod_eq_of_lt (show 1 < m by omega), Nat.mod_eq_of_lt h]
    rw [e1, e2]
    split <;> split <;> split <;> omega
  · have e0 : i % m + 1 = m := by omega
    have e3 : i + 1 = m * (i / m + 1) := by rw [Nat.mul_add]; omega
    have e1 : (i + 1) / m = i / m + 1 := by rw [e3, Nat.mul_div_cancel_left _ hm]
    have e2 : (i + 1) % m = 0 := by rw [e3, Nat.mul_mod_right]
    rw [e1, e2]
    split <;> split <;> split <;> omega
theorem cntR_near (m i k : Nat) : i / m ≤ cntR m i k ∧ cntR m i k ≤ i / m + 1 := by
  unfold cntR
  split <;> omega
theorem cntR_le {m : Nat} (i k : Nat) : cntR m i k ≤ i + 1 := by
  have := Nat.div_le_self i m
  unfold cntR
  split <;> omega
theorem nodup_row {R : List Nat} {b : Nat} {T : List (Nat × Nat)} (hl : OkL (R.map (fun s => (s, b)) ++ T)) : R.Nodup ∧ ∀ s, s ∈ R → s < 8 := by
  constructor
  · have := hl.nodup
    rw [List.map_append, List.map_map, List.nodup_append] at this
    have h := this.1
    rw [show ((fun p : Nat × Nat => p.1) ∘ fun s => (s, b)) = id from rfl, List.map_id] at h
    exact h
  · intro s hs
    exact (hl.inn (s, b) (List.mem_append_left _ (List.mem_map.2 ⟨s, hs, rfl⟩))).1
end Go.Proofs.Ytkjloeefcaadlaa
