/- Small facts on machines. -/
import Derived.Test.YtkjloeefcaadlaaP29
import Derived.Test.YtkjloeefcaadlaaP31
import Derived.Test.YtkjloeefcaadlaaP40
set_option linter.unusedSimpArgs false
set_option linter.unusedVariables false
namespace Go.Proofs.Ytkjloeefcaadlaa
open Go.RowKit Go.Shelf Go.Cs
theorem eqE_refl' (l : List Dn) : eqE l l = true := by
  unfold eqE
  rw [decide_eq_true rfl, Bool.true_and, List.all_eq_true]
  intro i _
  exact dEq_iff.2 rfl
theorem thEq_refl' (a : Th) : thEq a a = true := by simp [thEq, eqE_refl']
theorem mEq_refl' (a : Mo) : mEq a a = true := by simp [mEq, dEq]
theorem eqH_refl' (l : List Mo) : eqH l l = true := by
  unfold eqH
  rw [decide_eq_true rfl, Bool.true_and, List.all_eq_true]
  intro i _
  exact mEq_refl' _
theorem eqT_refl' (l : List Th) : eqT l l = true := by
  unfold eqT
  rw [decide_eq_true rfl, Bool.true_and, List.all_eq_true]
  intro i _
  exact thEq_refl' _
theorem sameM_refl' (m : Ma) : sameM m m = true := by simp [sameM, eqH_refl', eqT_refl']
theorem histX_step {m : Ma} {i : Int} : (stepM DS rightB m i).1.hist.length ≤ m.hist.length + 1 := by
  unfold stepM
  split
  · unfold goM
    split
    · unfold swapM
      split
      · simp
      · simp [List.length_set]
    · unfold readM
      split <;> simp
  · simp
end Go.Proofs.Ytkjloeefcaadlaa
