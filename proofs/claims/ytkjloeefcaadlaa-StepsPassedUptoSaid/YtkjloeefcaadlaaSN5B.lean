/- StepsPassed: for every word, every list of threads and every list of picks, all of bulk at most 1048576, the law of those that are passed answers true, on every schedule, and its arguments read afterwards as they did; the bulk is the one condition. -/
import Derived.Test.YtkjloeefcaadlaaRows
import Derived.Test.YtkjloeefcaadlaaP24
import Derived.Test.YtkjloeefcaadlaaP37
import Derived.Test.YtkjloeefcaadlaaP19
import Derived.WalkKit
import Derived.ProofKit
import Derived.OpenShut
set_option linter.unusedSimpArgs false
set_option linter.unusedVariables false
namespace Go.Proofs.Ytkjloeefcaadlaa.stepsPassed
open Go.ChangeShapes Go.WideShapes Go.ChangeAt Go.RowKit Go.Cs

theorem own : ownKnob Try.prog.godebug = none := by kernel_rfl
theorem laidOut : laidOutB Try.prog = true := by kernel_rfl
set_option maxRecDepth 100000 in
theorem walk {H : Type} {enc : TypeId × Value → H} {w : World} {x : Nat} {v pv : Value} {base : Nat} {spare : Nat → Bool} {held : Bool} {d d1 : DataW H} {ps ps1 : List MemPlace} {r : Reach} {b0 b1 : Nat} (hx : x < 18446744073709551616) (hv : Value.okWide Try.prog w r b0 73 v) (h : DataW.Trod enc Try.prog w base spare held 73 v d ps)
    (hp : Value.okWide Try.prog w r b1 44 pv) (h1 : DataW.Trod enc Try.prog w base spare held 44 pv d1 ps1) (hk : Rows.uptoBulk d ≤ 1048576) :
    Calls Try.prog 11 #[.int .u64 x, v, pv] w fun e w' => e = .returned (.bool true) ∧ New w w' := by
  obtain ⟨ls, hR, hS, hI⟩ := open_lists hv h hk
  obtain ⟨pa, is, pc, rfl, hpc, hpi, hin⟩ := open_list44 hp h1
  by_cases hno : newOk rightB x ls = false ∨ 60 < is.length
  · exact passed_no x v ls pa is.length pc w hx hR hS hno
  · have h60 : is.length ≤ 60 := by
      have := fun h => hno (.inr h)
      omega
    have hb : newOk rightB x ls = true := by
      cases hb : newOk rightB x ls with
      | true => rfl
      | false => exact absurd (.inl hb) hno
    exact passed_yes x v ls _ is w hx hR hS hI hpi hb h60

set_option maxRecDepth 100000 in
theorem lifted (os : Os) (started : os.Started) (H : Type) (enc : TypeId × Value → H) (F : Stop.Interp) :
    ReturnsInHanded {} Try.checked os 11 .any ((Rows.OpenSpec.upto Rows.stepsPassedSpec).pre6 enc Try.prog Try.f11 Rows.stepsPassedUptoRow.domain false) (((Rows.OpenSpec.upto Rows.stepsPassedSpec).at F).post enc Try.prog Try.f11 false true false false) := by
  refine returnsInHanded_of_cond (C := Try.checked) (s := Rows.OpenSpec.upto Rows.stepsPassedSpec) (k := Rows.uptoSmall) rfl own started (by kernel_rfl) Try.func11
    (OpenSpec.witness (enc := enc) (C := Try.checked) (s := Rows.OpenSpec.upto Rows.stepsPassedSpec) (k := Rows.uptoSmall) rfl false ⟨#[], #[.int .u64 0, .slice none 0 0, .slice none 0 0], []⟩ 8 (by kernel_rfl) (by kernel_rfl) (by kernel_rfl) (by kernel_rfl)
      (x := ([.lit (.int .u64 0), .nil, .nil], [], [])) (by kernel_rfl) rfl (by kernel_rfl)) ?_
  intro W base args ds gs before hval0 hW0 hcnd hk _
  have hW : DataW.Whole enc Try.prog Try.f11.params.toList Rows.stepsPassedSpec.vars false W args.toList ds gs before := hW0
  have hbulk : Rows.uptoBulkAll (ds ++ gs) ≤ 1048576 := of_decide_eq_true hk
  have hval : ∀ (j : Nat) t v, Try.f11.params[j]? = some t → args[j]? = some v → Value.okWide Try.prog W .any base t v := hval0
  have hW' := hW
  obtain ⟨p, q, hA0, hV, rfl, hfz, hnd⟩ := hW
  have hA : DataW.TrodAll enc Try.prog W 0 (fun _ => true) true Try.f11.params.toList args.toList ds p := hA0
  rw [Try.params11] at hA hval
  obtain ⟨v0, vs0, d0, ds0, p0, q0, hargs, rfl, rfl, h0, r0⟩ := trodAll_cons hA
  obtain ⟨v1, vs1, d1, ds1, p1, q1, rfl, rfl, rfl, h1, r1⟩ := trodAll_cons r0
  obtain ⟨v2, vs2, d2, ds2, p2, q2, rfl, rfl, rfl, h2, r2⟩ := trodAll_cons r1
  obtain ⟨rfl, rfl, rfl⟩ := trodAll_nil r2
  obtain rfl : args = #[v0, v1, v2] := by cases args; simp_all
  obtain ⟨rfl, rfl⟩ := trodVars_none hV
  obtain ⟨a0, rfl, rfl, rfl, w0⟩ := open_int Try.underlying22 (hval 0 22 v0 rfl rfl) h0
  have b0 := bounds_u64 w0
  obtain ⟨x, rfl⟩ := Int.eq_ofNat_of_zero_le b0.1
  refine (walk (by omega) (hval 1 73 v1 rfl rfl) h1 (hval 2 44 v2 rfl rfl) h2 (by simp only [List.append_nil, Rows.uptoBulkAll] at hbulk; omega)).mono fun e W' ⟨he, hg⟩ => ?_
  subst he
  exact ⟨_, rfl, post_law (s := Rows.stepsPassedSpec) hW' rfl laidOut (by kernel_rfl) (fun _ _ _ => (trodAll_cons_mk (shut_bool Try.underlying4 _) trodAll_mk0)) rfl rfl hg⟩

theorem over : Rows.stepsPassedUptoRow.holds Try.pinned (Rows.OpenSpec.upto Rows.stepsPassedSpec) :=
  holds_turned rfl rfl (by kernel_rfl) rfl (OpenClaim.holds_of_cond 11 Try.f11 rfl rfl rfl rfl rfl rfl rfl ⟨rfl, rfl, rfl, rfl, rfl⟩ rfl rfl rfl rfl rfl (by kernel_rfl) Try.func11 (by kernel_rfl)
    (of_decide_eq_true (by kernel_rfl)) (by unfold Func.isWrapper; first | (rw [if_pos (by decide +kernel)]; kernel_rfl) | (rw [if_neg (by decide +kernel)]; exact ⟨rfl, rfl⟩))
    (fun os started H enc _ F => lifted os started H enc F))

/-- The statement. -/
theorem proved : Rows.StepsPassedUptoSaid :=
  over
#print axioms proved
end Go.Proofs.Ytkjloeefcaadlaa.stepsPassed
