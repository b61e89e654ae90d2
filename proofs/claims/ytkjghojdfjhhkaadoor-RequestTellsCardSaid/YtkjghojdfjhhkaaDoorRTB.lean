/- The claim: RequestTells. -/
import Derived.Test.YtkjghojdfjhhkaaDoorM17
import Derived.Test.YtkjghojdfjhhkaaDoorM00
import Derived.Test.YtkjghojdfjhhkaaDoorCards
import Derived.Test.YtkjghojdfjhhkaaDoorTie
import Derived.WalkKit
import Derived.ChangeMaps5
import Derived.ProofKit
import Derived.OpenShut
import Derived.Deep.DeepHandedRow
set_option linter.unusedSimpArgs false
set_option linter.unusedVariables false
namespace Go.Proofs.YtkjghojdfjhhkaaDoor.requestTells
open Go.ChangeShapes Go.WideShapes Go.ChangeAt Go.RowKit Go.Cs Go.WideMaps Go.WideElems Go.ChangeMaps
theorem own : ownKnob Tryd.prog.godebug = none := by kernel_rfl
theorem laidOut : laidOutB Tryd.prog = true := by kernel_rfl
theorem all_le {l : List Nat} (h : l.all (· ≤ reachBytes) = true) : ∀ n ∈ l, n ≤ reachBytes := fun n hn => by simpa using List.all_eq_true.1 h n hn
set_option maxRecDepth 100000 in
theorem contract (H : Type) (enc : TypeId × Value → H) (W : World) (base : Nat) (args : Array Value) (ds gs : List (DataW H)) (before : List MemPlace)
    (hval : ∀ (j : Nat) t v, Tryd.f8.params[j]? = some t → args[j]? = some v → Value.okWide Tryd.prog W .any base t v)
    (hW : DataW.Whole enc Tryd.prog Tryd.f8.params.toList Rows.requestTellsSpec.vars false W args.toList ds gs before)
    {ts : List TypeId} (hsz : (DataW.weightsEach Tryd.prog (Tryd.f8.params.toList ++ ts) (ds ++ gs)).all (· ≤ reachBytes) = true) (hL : laidMetH Tryd.prog laidL W) :
    Calls Tryd.prog 8 args W fun e W' => ∃ v, e = .returned v ∧ Rows.requestTellsSpec.post enc Tryd.prog Tryd.f8 false true false false W args v W' := by
  have hW' := hW
  obtain ⟨p, q, hA0, hV, rfl, hfz, hnd⟩ := hW
  have hA : DataW.TrodAll enc Tryd.prog W 0 (fun _ => true) true Tryd.f8.params.toList args.toList ds p := hA0
  rw [Tryd.params8] at hA hval hsz
  obtain ⟨v0, vs0, d0, ds0, p0, q0, hargs, rfl, rfl, h0, r0⟩ := trodAll_cons hA
  obtain ⟨v1, vs1, d1, ds1, p1, q1, rfl, rfl, rfl, h1, r1⟩ := trodAll_cons r0
  obtain ⟨v2, vs2, d2, ds2, p2, q2, rfl, rfl, rfl, h2, r2⟩ := trodAll_cons r1
  obtain ⟨v3, vs3, d3, ds3, p3, q3, rfl, rfl, rfl, h3, r3⟩ := trodAll_cons r2
  obtain ⟨v4, vs4, d4, ds4, p4, q4, rfl, rfl, rfl, h4, r4⟩ := trodAll_cons r3
  obtain ⟨v5, vs5, d5, ds5, p5, q5, rfl, rfl, rfl, h5, r5⟩ := trodAll_cons r4
  obtain ⟨rfl, rfl, rfl⟩ := trodAll_nil r5
  obtain rfl : args = #[v0, v1, v2, v3, v4, v5] := by cases args; simp_all
  obtain ⟨rfl, rfl⟩ := trodVars_none hV
  have hw := all_le hsz
  simp only [List.cons_append, List.append_nil, DataW.weightsEach, List.mem_append] at hw
  obtain ⟨s, rfl, -, -, hs⟩ := open_string Tryd.underlying9 (hval 0 9 v0 rfl rfl) h0
  obtain ⟨cs1, rfl, -⟩ := okWide_struct Tryd.underlying54 (hval 1 54 v1 rfl rfl)
  obtain ⟨n, rfl, -, -, hn⟩ := open_int Tryd.underlying3 (hval 3 3 v3 rfl rfl) h3
  obtain ⟨cs4, rfl, -⟩ := okWide_struct Tryd.underlying56 (hval 4 56 v4 rfl rfl)
  obtain ⟨cs5, rfl, -⟩ := okWide_struct Tryd.underlying56 (hval 5 56 v5 rfl rfl)
  obtain ⟨fu1, g1⟩ := h1
  obtain ⟨fu2, g2⟩ := h2
  obtain ⟨fu4, g4⟩ := h4
  obtain ⟨fu5, g5⟩ := h5
  obtain ⟨f, hf, e1⟩ := open_fd g1
  obtain ⟨a2, l2, k2, rfl⟩ := okWide_slice Tryd.underlying25 (hval 2 25 v2 rfl rfl)
  obtain rfl : d1 = f.d := congrArg Prod.fst e1
  obtain rfl : cs1 = f.cs.toArray := by
    have : cs1.toList = f.cs := hf
    rw [← this]
  obtain ⟨L, hLr, hcap, hLR⟩ := open_fields g2
  obtain ⟨A, hA4, hAR⟩ := open_req g4
  obtain ⟨B, hB5, hBR⟩ := open_req g5
  obtain ⟨fu0, g0⟩ := h0
  have hn1 := hn
  simp [Lit.wf] at hn1
  refine (tells_law s f _ L n _ _ A B W hs (reach_fd fun n hn => hw n (.inr (.inl hn))) hLr (hLR fun n hn => hw n (.inr (.inr (.inl hn)))) ?_ ?_ hA4 (hAR fun n hn => hw n (.inr (.inr (.inr (.inr (.inl hn)))))) hB5 (hBR fun n hn => hw n (.inr (.inr (.inr (.inr (.inr (.inl hn))))))) hcap (tab_of_laid hL)).mono fun e W' ⟨he, hN⟩ => ?_
  · exact Int.le_trans (by decide) hn1.1
  · exact hn1.2
  · subst he
    exact ⟨_, rfl, post_law hW' rfl laidOut (by kernel_rfl) (fun b sp hd => trodAll_cons_mk (shut_bool Tryd.underlying4 _) trodAll_mk0) rfl rfl hN⟩
/-- The witness's arguments. -/
def wit : Array Value := #[.string ⟨#[]⟩, .agg #[.string ⟨#[]⟩, .string ⟨#[]⟩], .slice none 0 0, .int .i64 0, .agg #[.string ⟨#[]⟩, .string ⟨#[]⟩, .string ⟨#[]⟩, .string ⟨#[]⟩, .slice none 0 0], .agg #[.string ⟨#[]⟩, .string ⟨#[]⟩, .string ⟨#[]⟩, .string ⟨#[]⟩, .slice none 0 0]]
noncomputable def rd {H : Type} (enc : TypeId × Value → H) (os : Os) := DataW.whole enc Tryd.prog ((laidW os).forCall (fun _ _ => 0) ⟨#[], wit, []⟩).memory Tryd.f8.params.toList Rows.requestTellsSpec.vars false wit.toList 8
def zR (H : Type) : DataW H := .agg [.lit (.string []), .lit (.string []), .lit (.string []), .lit (.string []), .nil]
theorem reads (os : Os) {H : Type} (enc : TypeId × Value → H) : ∃ places, DataW.whole enc Tryd.prog ((laidW os).forCall (fun _ _ => 0) ⟨#[], wit, []⟩).memory Tryd.f8.params.toList Rows.requestTellsSpec.vars false wit.toList 8 = some ([.lit (.string []), .agg [.lit (.string []), .lit (.string [])], .nil, .lit (.int .i64 0), zR H, zR H], [], places) :=
  ⟨[], by kernel_rfl⟩
set_option maxRecDepth 100000 in
theorem lifted (os : Os) (started : os.Started) (H : Type) (enc : TypeId × Value → H) (F : Stop.Interp) :
    ReturnsInHanded {} Tryd.checked os 8 .any ((OpenSpec.ofChange Rows.requestTellsSpec).preRow enc Tryd.prog Tryd.f8 Rows.requestTellsRow.domain false Rows.requestTellsRow.laid) (((OpenSpec.ofChange Rows.requestTellsSpec).at F).post enc Tryd.prog Tryd.f8 false true false false) := by
  obtain ⟨places, hx⟩ := reads os enc
  refine returnsInHanded_of_row (C := Tryd.checked) (s := OpenSpec.ofChange Rows.requestTellsSpec) own started (by kernel_rfl) Tryd.func8
    (witness_row_at (enc := enc) (C := Tryd.checked) false (laidW os) wit rfl (by kernel_rfl) (by kernel_rfl) (by kernel_rfl)
      (OpenSpec.preRow_of_cond 8 hx (by kernel_rfl) (fun k hk => by cases hk) (by kernel_rfl) (laidW_met os wit))) ?_
  intro W base args ds gs before hval hW _ _ hsz hL _ _
  exact contract H enc W base args ds gs before hval hW hsz hL
theorem said : Rows.RequestTellsSaid :=
  OpenClaim.holds_of_cond 8 Tryd.f8 rfl rfl rfl rfl rfl rfl rfl ⟨rfl, rfl, rfl, rfl, rfl⟩ rfl rfl rfl rfl rfl (by kernel_rfl) Tryd.func8 (by kernel_rfl)
    (of_decide_eq_true (by kernel_rfl)) (by unfold Func.isWrapper; first | (rw [if_pos (by decide +kernel)]; kernel_rfl) | (rw [if_neg (by decide +kernel)]; exact ⟨rfl, rfl⟩))
    (fun os started H enc _ F => by rw [OpenClaim.pre_eq_preRow]; exact lifted os started H enc F)
/-- No parameter wants a stand-in; the program's own looks are off. -/
theorem plain (f : FuncId) (fn : Func) (hf : Tryd.pinned.checked.prog.funcNamed "causey/causeylaw15.RequestTells" = some f) (hfn : Tryd.pinned.checked.prog.funcs[f]? = some fn) :
    false = Tryd.pinned.checked.prog.looks [] ∧ ∀ (j : Nat) t, fn.params[j]? = some t → Tryd.pinned.checked.prog.wantsStandIn t = false := by
  obtain rfl : f = 8 := Option.some.inj ((show Tryd.prog.funcNamed "causey/causeylaw15.RequestTells" = some 8 by kernel_rfl).symm.trans hf) |>.symm
  obtain rfl : fn = Tryd.f8 := (Option.some.inj (Tryd.func8.symm.trans hfn)).symm
  refine ⟨by kernel_rfl, fun j t ht => ?_⟩
  rw [Tryd.params8] at ht
  have hm := Array.mem_of_getElem? ht
  have hall : (#[9, 54, 25, 3, 56, 56] : Array TypeId).toList.all (fun t => !Tryd.prog.wantsStandIn t) = true := by kernel_rfl
  have := List.all_eq_true.1 hall t (by simpa using hm)
  have h2 : Tryd.prog.wantsStandIn t = false := by simpa using this
  exact h2
/-- The card. -/
theorem proved : Rows.RequestTellsCardSaid :=
  Claim7.holds_tied_plain_at .later [] _ _ _ _ said (fun _ h => by cases h) (by kernel_rfl) (fun _ h => by cases h) requestTells_row_tie rfl ⟨rfl, rfl⟩ (by kernel_rfl) rfl plain (by kernel_rfl)
end Go.Proofs.YtkjghojdfjhhkaaDoor.requestTells
