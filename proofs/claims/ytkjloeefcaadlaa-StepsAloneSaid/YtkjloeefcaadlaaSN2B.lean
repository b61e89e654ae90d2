/- StepsAlone: for every word and every list of deeds the law of one thread alone answers true, on every schedule, and its arguments read afterwards as they did; no condition. -/
import Derived.Test.YtkjloeefcaadlaaRows
import Derived.Test.YtkjloeefcaadlaaM33
import Derived.Test.YtkjloeefcaadlaaM36
import Derived.WalkKit
import Derived.HandedShaped
import Derived.SizedLaws
import Derived.ProofKit
import Derived.OpenShut
set_option linter.unusedSimpArgs false
set_option linter.unusedVariables false
namespace Go.Proofs.Ytkjloeefcaadlaa.stepsAlone
open Go.ChangeShapes Go.WideShapes Go.ChangeAt Go.RowKit Go.Cs

theorem own : ownKnob Try.prog.godebug = none := by kernel_rfl
theorem laidOut : laidOutB Try.prog = true := by kernel_rfl
theorem bytes93 : Try.prog.bytesOf 93 = 24 := by kernel_rfl
theorem open_len {H : Type} {enc : TypeId × Value → H} {w : World} {base : Nat} {spare : Nat → Bool} {held : Bool} {t e fuel : Nat} {ao : Option Addr} {len cap : Nat} {x : DataW H × List MemPlace} (ht : Try.prog.underlying t = some (.slice e)) (h : DataW.trod enc Try.prog w base spare held fuel t [.slice ao len cap] = some x) :
    len = 0 ∨ ∃ elems rest, x.1 = .slice elems rest ∧ elems.length = len := by
  rcases Go.Deep.open_slice ht h with ⟨h1, _⟩ | ⟨a, len', cap', m, n, D, Pl, hcs, hb, hl, hm, hmm, hx, hi⟩
  · left
    simp only [List.cons.injEq, and_true, Value.slice.injEq] at h1
    exact h1.2.1
  · right
    simp only [List.cons.injEq, and_true, Value.slice.injEq] at hcs
    refine ⟨_, _, by rw [hx], by simp [hcs.2.1]⟩
theorem small85 {H : Type} {enc : TypeId × Value → H} {w : World} {base : Nat} {spare : Nat → Bool} {held : Bool} {d : DataW H} {ps : List MemPlace} {ts : List TypeId} {ds : List (DataW H)} {j : Nat} {ao : Option Addr} {len cap : Nat} (h : DataW.Trod enc Try.prog w base spare held 85 (.slice ao len cap) d ps)
    (hsz : (DataW.weightsEach Try.prog ts ds).all (· ≤ reachBytes) = true) (ht : ts[j]? = some 85) (hd : ds[j]? = some d) : len ≤ 5864062014805 := by
  obtain ⟨fuel, hf⟩ := h
  rcases open_len Try.underlying85 hf with h0 | ⟨elems, rest, hx, hl⟩
  · omega
  · have hx : d = .slice elems rest := hx
    subst hx
    have := sized_slice hsz ht hd Try.underlying85
    rw [bytes93] at this
    have e : reachBytes = 140737488351232 := rfl
    rw [e] at this
    omega
set_option maxRecDepth 100000 in
theorem walk {H : Type} {enc : TypeId × Value → H} {w : World} {x : Nat} {v : Value} {base : Nat} {spare : Nat → Bool} {held : Bool} {d : DataW H} {ps : List MemPlace} {r : Reach} {b0 : Nat} (hx : x < 18446744073709551616) (hv : Value.okWide Try.prog w r b0 85 v) (h : DataW.Trod enc Try.prog w base spare held 85 v d ps)
    {ts : List TypeId} {ds : List (DataW H)} (hsz : (DataW.weightsEach Try.prog ts ds).all (· ≤ reachBytes) = true) (ht : ts[1]? = some 85) (hd : ds[1]? = some d) :
    Calls Try.prog 10 #[.int .u64 x, v] w fun e w' => e = .returned (.bool true) ∧ New w w' := by
  obtain ⟨a0, len0, cap0, rfl⟩ := okWide_slice Try.underlying85 hv
  have hs := small85 h hsz ht hd
  obtain ⟨fuel, hf⟩ := h
  obtain ⟨ao, L, cap, he, _, _, hR, hI⟩ := open_deeds hf
  cases he
  cases hb : newOk rightB x [L] with
  | false => exact alone_no x a0 cap0 L w hx (hR hs) hb
  | true => exact alone_yes x a0 cap0 L w hx (hR hs) hI hb

set_option maxRecDepth 100000 in
theorem lifted (os : Os) (started : os.Started) (H : Type) (enc : TypeId × Value → H) :
    ReturnsInHanded {} Try.checked os 10 .any (Rows.stepsAloneSpec.pre6 enc Try.prog Try.f10 Rows.stepsAloneRow.domain false) (Rows.stepsAloneSpec.post enc Try.prog Try.f10 false true false false) := by
  refine returnsInHanded_of_change_shaped (C := Try.checked) own started (by kernel_rfl) Try.func10
    (ChangeSpec.witness6 (enc := enc) (C := Try.checked) false ⟨#[], #[.int .u64 0, .slice none 0 0], []⟩ 8 (by kernel_rfl) (by kernel_rfl) (by kernel_rfl) (by kernel_rfl)) ?_
  intro W base args ds gs before hval0 hW hcnd hsz _ _
  have hval : ∀ (j : Nat) t v, Try.f10.params[j]? = some t → args[j]? = some v → Value.okWide Try.prog W .any base t v := hval0
  have hW' := hW
  obtain ⟨p, q, hA0, hV, rfl, hfz, hnd⟩ := hW
  have hA : DataW.TrodAll enc Try.prog W 0 (fun _ => true) true Try.f10.params.toList args.toList ds p := hA0
  rw [Try.params10] at hA hval
  obtain ⟨v0, vs0, d0, ds0, p0, q0, hargs, rfl, rfl, h0, r0⟩ := trodAll_cons hA
  obtain ⟨v1, vs1, d1, ds1, p1, q1, rfl, rfl, rfl, h1, r1⟩ := trodAll_cons r0
  obtain ⟨rfl, rfl, rfl⟩ := trodAll_nil r1
  obtain rfl : args = #[v0, v1] := by cases args; simp_all
  obtain ⟨rfl, rfl⟩ := trodVars_none hV
  obtain ⟨a0, rfl, rfl, rfl, w0⟩ := open_int Try.underlying22 (hval 0 22 v0 rfl rfl) h0
  have b0 := bounds_u64 w0
  obtain ⟨x, rfl⟩ := Int.eq_ofNat_of_zero_le b0.1
  refine (walk (by omega) (hval 1 85 v1 rfl rfl) h1 hsz rfl rfl).mono fun e W' ⟨he, hg⟩ => ?_
  subst he
  exact ⟨_, rfl, post_law hW' rfl laidOut (by kernel_rfl) (fun _ _ _ => (trodAll_cons_mk (shut_bool Try.underlying4 _) trodAll_mk0)) rfl rfl hg⟩

theorem over : Rows.stepsAloneRow.holds Try.pinned (OpenSpec.ofChange Rows.stepsAloneSpec) :=
  OpenClaim.holds_of_wide_leaving 10 Try.f10 rfl rfl rfl rfl rfl rfl rfl ⟨rfl, rfl, rfl, rfl, rfl⟩ rfl rfl rfl rfl rfl (by kernel_rfl) Try.func10 (by kernel_rfl)
    (of_decide_eq_true (by kernel_rfl)) (by unfold Func.isWrapper; first | (rw [if_pos (by decide +kernel)]; kernel_rfl) | (rw [if_neg (by decide +kernel)]; exact ⟨rfl, rfl⟩))
    (fun os started H enc _ => leaving_of_handed (lifted os started H enc))

/-- The statement. -/
theorem proved : Rows.StepsAloneSaid :=
  over
#print axioms proved
end Go.Proofs.Ytkjloeefcaadlaa.stepsAlone
