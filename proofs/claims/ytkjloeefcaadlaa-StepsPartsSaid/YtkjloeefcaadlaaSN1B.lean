/- StepsParts: for every machine, every list of picks and every place the law of a run in two goes answers true, on every schedule, and its arguments read afterwards as they did; no condition. -/
import Derived.Test.YtkjloeefcaadlaaRows
import Derived.Test.YtkjloeefcaadlaaM33
import Derived.WalkKit
import Derived.ProofKit
import Derived.OpenShut
set_option linter.unusedSimpArgs false
set_option linter.unusedVariables false
namespace Go.Proofs.Ytkjloeefcaadlaa.stepsParts
open Go.ChangeShapes Go.WideShapes Go.ChangeAt Go.RowKit Go.Cs

theorem own : ownKnob Try.prog.godebug = none := by kernel_rfl
theorem laidOut : laidOutB Try.prog = true := by kernel_rfl
set_option maxRecDepth 100000 in
theorem walk {H : Type} {enc : TypeId × Value → H} {w : World} {v pv : Value} {at' : Int} {base : Nat} {spare : Nat → Bool} {held : Bool} {d d1 : DataW H} {ps ps1 : List MemPlace} {r : Reach} {b0 b1 : Nat} (hv : Value.okWide Try.prog w r b0 77 v) (h : DataW.Trod enc Try.prog w base spare held 77 v d ps)
    (hp : Value.okWide Try.prog w r b1 44 pv) (h1 : DataW.Trod enc Try.prog w base spare held 44 pv d1 ps1) (wa : (Lit.int .i64 at').wf = true) :
    Calls Try.prog 13 #[v, pv, .int .i64 at'] w fun e w' => e = .returned (.bool true) ∧ New w w' := by
  obtain ⟨x, c, ta, n, tc, ha, k, hc, Ls, rfl, hn, hcl, hm⟩ := open_mach hv h
  obtain ⟨pa, is, pc, rfl, hpc, hpi, hin⟩ := open_list44 hp h1
  cases hg : greatN n k Ls with
  | true => exact parts_great x c ta ha n tc k hc Ls pa is.length pc at' w hn hcl hg
  | false =>
    obtain ⟨m, hR, hI, hgb⟩ := hm hg
    by_cases hno : rightM rightB m = false ∨ 60 < is.length
    · exact parts_no _ m pa is.length pc at' w hR hI.word hgb hno
    · have h60 : is.length ≤ 60 := by
        have := fun h => hno (.inr h)
        omega
      have hr : rightM rightB m = true := by
        cases hb : rightM rightB m with
        | true => rfl
        | false => exact absurd (.inl hb) hno
      exact parts_yes _ m _ is at' w hR hI hpi (fun a n c he => by cases he; exact hpc) hin (bounds_i64 wa) hgb hr h60

set_option maxRecDepth 100000 in
theorem lifted (os : Os) (started : os.Started) (H : Type) (enc : TypeId × Value → H) :
    ReturnsInHanded {} Try.checked os 13 .any (Rows.stepsPartsSpec.pre6 enc Try.prog Try.f13 Rows.stepsPartsRow.domain false) (Rows.stepsPartsSpec.post enc Try.prog Try.f13 false true false false) := by
  refine returnsInHanded_of_change (C := Try.checked) own started (by kernel_rfl) Try.func13
    (ChangeSpec.witness6 (enc := enc) (C := Try.checked) false ⟨#[], #[.agg #[.int .u64 0, .int .i64 0, .slice none 0 0, .slice none 0 0], .slice none 0 0, .int .i64 0], []⟩ 8 (by kernel_rfl) (by kernel_rfl) (by kernel_rfl) (by kernel_rfl)) ?_
  intro W base args ds gs before hval0 hW hcnd _
  have hval : ∀ (j : Nat) t v, Try.f13.params[j]? = some t → args[j]? = some v → Value.okWide Try.prog W .any base t v := hval0
  have hW' := hW
  obtain ⟨p, q, hA0, hV, rfl, hfz, hnd⟩ := hW
  have hA : DataW.TrodAll enc Try.prog W 0 (fun _ => true) true Try.f13.params.toList args.toList ds p := hA0
  rw [Try.params13] at hA hval
  obtain ⟨v0, vs0, d0, ds0, p0, q0, hargs, rfl, rfl, h0, r0⟩ := trodAll_cons hA
  obtain ⟨v1, vs1, d1, ds1, p1, q1, rfl, rfl, rfl, h1, r1⟩ := trodAll_cons r0
  obtain ⟨v2, vs2, d2, ds2, p2, q2, rfl, rfl, rfl, h2, r2⟩ := trodAll_cons r1
  obtain ⟨rfl, rfl, rfl⟩ := trodAll_nil r2
  obtain rfl : args = #[v0, v1, v2] := by cases args; simp_all
  obtain ⟨rfl, rfl⟩ := trodVars_none hV
  obtain ⟨a2, rfl, rfl, rfl, w2⟩ := open_int Try.underlying3 (hval 2 3 v2 rfl rfl) h2
  refine (walk (hval 0 77 v0 rfl rfl) h0 (hval 1 44 v1 rfl rfl) h1 w2).mono fun e W' ⟨he, hg⟩ => ?_
  subst he
  exact ⟨_, rfl, post_law hW' rfl laidOut (by kernel_rfl) (fun _ _ _ => (trodAll_cons_mk (shut_bool Try.underlying4 _) trodAll_mk0)) rfl rfl hg⟩

theorem over : Rows.stepsPartsRow.holds Try.pinned (OpenSpec.ofChange Rows.stepsPartsSpec) :=
  OpenClaim.holds_of_wide_leaving 13 Try.f13 rfl rfl rfl rfl rfl rfl rfl ⟨rfl, rfl, rfl, rfl, rfl⟩ rfl rfl rfl rfl rfl (by kernel_rfl) Try.func13 (by kernel_rfl)
    (of_decide_eq_true (by kernel_rfl)) (by unfold Func.isWrapper; first | (rw [if_pos (by decide +kernel)]; kernel_rfl) | (rw [if_neg (by decide +kernel)]; exact ⟨rfl, rfl⟩))
    (fun os started H enc _ => leaving_of_handed (lifted os started H enc))

/-- The statement. -/
theorem proved : Rows.StepsPartsSaid :=
  over
#print axioms proved
end Go.Proofs.Ytkjloeefcaadlaa.stepsParts
