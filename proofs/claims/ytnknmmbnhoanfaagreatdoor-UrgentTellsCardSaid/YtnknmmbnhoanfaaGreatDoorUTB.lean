/- The claim: UrgentTells: priorities at first, which may be, of dictionaries, of texts, texts, and who is more urgent, are what the document says; for any priorities, members, text. -/
import Derived.Test.YtnknmmbnhoanfaaGreatDoorH05
import Derived.Test.YtnknmmbnhoanfaaGreatDoorH19
import Derived.Test.YtnknmmbnhoanfaaGreatDoorH00
import Derived.Test.YtnknmmbnhoanfaaGreatDoorCards
import Derived.Test.YtnknmmbnhoanfaaGreatDoorTie
import Derived.WalkKit
import Derived.ChangeMaps5
import Derived.ProofKit
import Derived.OpenShut
import Derived.Deep.DeepHandedRow
set_option linter.unusedSimpArgs false
set_option linter.unusedVariables false
set_option maxHeartbeats 16000000
set_option maxRecDepth 100000
namespace Go.Proofs.YtnknmmbnhoanfaaGreatDoor.urgentTells
open Go.ChangeShapes Go.WideShapes Go.ChangeAt Go.RowKit Go.Cs Go.WideMaps Go.WideElems Go.ChangeMaps
theorem own : ownKnob Tryz.prog.godebug = none := by kernel_rfl
theorem laidOut : laidOutB Tryz.prog = true := by kernel_rfl
theorem all_le {l : List Nat} (h : l.all (· ≤ reachBytes) = true) : ∀ n ∈ l, n ≤ reachBytes := fun n hn => by simpa using List.all_eq_true.1 h n hn
set_option maxRecDepth 100000 in
theorem contract (H : Type) (enc : TypeId × Value → H) (W : World) (base : Nat) (args : Array Value) (ds gs : List (DataW H)) (before : List MemPlace)
    (hval : ∀ (j : Nat) t v, Tryz.f5.params[j]? = some t → args[j]? = some v → Value.okWide Tryz.prog W .any base t v)
    (hW : DataW.Whole enc Tryz.prog Tryz.f5.params.toList Rows.urgentTellsSpec.vars false W args.toList ds gs before)
    {ts : List TypeId} (hsz : (DataW.weightsEach Tryz.prog (Tryz.f5.params.toList ++ ts) (ds ++ gs)).all (· ≤ reachBytes) = true) (hL : laidMetH Tryz.prog laidL W) (hSh : W.ShapedOpen Tryz.prog) :
    Calls Tryz.prog 5 args W fun e W' => ∃ v, e = .returned v ∧ Rows.urgentTellsSpec.post enc Tryz.prog Tryz.f5 false true false false W args v W' := by
  have hW' := hW
  obtain ⟨p, q, hA0, hV, rfl, hfz, hnd⟩ := hW
  have hA : DataW.TrodAll enc Tryz.prog W 0 (fun _ => true) true Tryz.f5.params.toList args.toList ds p := hA0
  rw [Tryz.params5] at hA hval hsz
  obtain ⟨v0, vs0, d0, ds0, p0, q0, hargs, rfl, rfl, h0, r0⟩ := trodAll_cons hA
  obtain ⟨v1, vs1, d1, ds1, p1, q1, rfl, rfl, rfl, h1, r1⟩ := trodAll_cons r0
  obtain ⟨v2, vs2, d2, ds2, p2, q2, rfl, rfl, rfl, h2, r2⟩ := trodAll_cons r1
  obtain ⟨v3, vs3, d3, ds3, p3, q3, rfl, rfl, rfl, h3, r3⟩ := trodAll_cons r2
  obtain ⟨rfl, rfl, rfl⟩ := trodAll_nil r3
  obtain rfl : args = #[v0, v1, v2, v3] := by cases args; simp_all
  obtain ⟨rfl, rfl⟩ := trodVars_none hV
  have hw := all_le hsz
  simp only [List.cons_append, List.append_nil, DataW.weightsEach, List.mem_append] at hw
  obtain ⟨cs0, rfl, -⟩ := okWide_struct Tryz.underlying51 (hval 0 51 v0 rfl rfl)
  obtain ⟨fu0, g0⟩ := h0
  obtain ⟨uz0, iz0, hb0, hu0⟩ := open_pr g0
  obtain rfl : cs0 = ([.int .u8 uz0, .bool iz0] : List Value).toArray := by rw [← hb0]; simp [Value.cells]
  obtain ⟨cs1, rfl, -⟩ := okWide_struct Tryz.underlying51 (hval 1 51 v1 rfl rfl)
  obtain ⟨fu1, g1⟩ := h1
  obtain ⟨uz1, iz1, hb1, hu1⟩ := open_pr g1
  obtain rfl : cs1 = ([.int .u8 uz1, .bool iz1] : List Value).toArray := by rw [← hb1]; simp [Value.cells]
  obtain ⟨fu2, g2⟩ := h2
  obtain ⟨a2, l2, k2, rfl⟩ := okWide_slice Tryz.underlying36 (hval 2 36 v2 rfl rfl)
  obtain ⟨D2, hD2, hI2⟩ := open_D g2 (fun n hn => hw n (.inr (.inr ((.inl hn)))))
  obtain ⟨s3, rfl, -, -, hs3⟩ := open_string Tryz.underlying9 (hval 3 9 v3 rfl rfl) h3
  refine (utells_law uz0 uz1 iz0 iz1 _ D2 s3 W hu0 hu1 hD2 hI2 hs3 (tab_of_laid hL hSh)).mono fun e W' ⟨he, hN⟩ => ?_
  subst he
  exact ⟨_, rfl, post_law hW' rfl laidOut (by kernel_rfl) (fun b sp hd => trodAll_cons_mk (shut_bool Tryz.underlying4 _) trodAll_mk0) rfl rfl hN⟩
/-- The witness's arguments. -/
def wit : Array Value := #[.agg #[.int .u8 0, .bool false], .agg #[.int .u8 0, .bool false], .slice none 0 0, .string ⟨#[]⟩]
theorem reads (os : Os) {H : Type} (enc : TypeId × Value → H) : ∃ places, DataW.whole enc Tryz.prog ((laidW os).forCall (fun _ _ => 0) ⟨#[], wit, []⟩).memory Tryz.f5.params.toList Rows.urgentTellsSpec.vars false wit.toList 8 = some ([.agg [.lit (.int .u8 0), .lit (.bool false)], .agg [.lit (.int .u8 0), .lit (.bool false)], .nil, .lit (.string [])], [], places) :=
  ⟨[], by kernel_rfl⟩
set_option maxRecDepth 100000 in
theorem lifted (os : Os) (started : os.Started) (H : Type) (enc : TypeId × Value → H) (F : Stop.Interp) :
    ReturnsInHanded {} Tryz.checked os 5 .any ((OpenSpec.ofChange Rows.urgentTellsSpec).preRow enc Tryz.prog Tryz.f5 Rows.urgentTellsRow.domain false Rows.urgentTellsRow.laid) (((OpenSpec.ofChange Rows.urgentTellsSpec).at F).post enc Tryz.prog Tryz.f5 false true false false) := by
  obtain ⟨places, hx⟩ := reads os enc
  refine returnsInHanded_of_row (C := Tryz.checked) (s := OpenSpec.ofChange Rows.urgentTellsSpec) own started (by kernel_rfl) Tryz.func5
    (witness_row_at (enc := enc) (C := Tryz.checked) false (laidW os) wit rfl (by kernel_rfl) (by kernel_rfl) (by kernel_rfl)
      (OpenSpec.preRow_of_cond 5 hx (by kernel_rfl) (fun k hk => by cases hk) (by kernel_rfl) (laidW_met os wit))) ?_
  intro W base args ds gs before hval hW _ _ hsz hL hSh _
  exact contract H enc W base args ds gs before hval hW hsz hL hSh
theorem said : Rows.UrgentTellsSaid :=
  OpenClaim.holds_of_cond 5 Tryz.f5 rfl rfl rfl rfl rfl rfl rfl ⟨rfl, rfl, rfl, rfl, rfl⟩ rfl rfl rfl rfl rfl (by kernel_rfl) Tryz.func5 (by kernel_rfl)
    (of_decide_eq_true (by kernel_rfl)) (by unfold Func.isWrapper; first | (rw [if_pos (by decide +kernel)]; kernel_rfl) | (rw [if_neg (by decide +kernel)]; exact ⟨rfl, rfl⟩))
    (fun os started H enc _ F => by rw [OpenClaim.pre_eq_preRow]; exact lifted os started H enc F)
/-- No parameter wants a stand-in; the program's own looks are off. -/
theorem plain (f : FuncId) (fn : Func) (hf : Tryz.pinned.checked.prog.funcNamed "causey/causeylaw14.UrgentTells" = some f) (hfn : Tryz.pinned.checked.prog.funcs[f]? = some fn) :
    true = Tryz.pinned.checked.prog.looks [] ∧ ∀ (j : Nat) t, fn.params[j]? = some t → Tryz.pinned.checked.prog.wantsStandIn t = false := by
  obtain rfl : f = 5 := Option.some.inj ((show Tryz.prog.funcNamed "causey/causeylaw14.UrgentTells" = some 5 by kernel_rfl).symm.trans hf) |>.symm
  obtain rfl : fn = Tryz.f5 := (Option.some.inj (Tryz.func5.symm.trans hfn)).symm
  refine ⟨by kernel_rfl, fun j t ht => ?_⟩
  rw [Tryz.params5] at ht
  have hm := Array.mem_of_getElem? ht
  have hall : (#[51, 51, 36, 9] : Array TypeId).toList.all (fun t => !Tryz.prog.wantsStandIn t) = true := by kernel_rfl
  have := List.all_eq_true.1 hall t (by simpa using hm)
  have h2 : Tryz.prog.wantsStandIn t = false := by simpa using this
  exact h2
/-- The card. -/
theorem proved : Rows.UrgentTellsCardSaid :=
  Claim7.holds_tied_plain_at .later [] _ _ _ _ said (fun _ h => by cases h) (by kernel_rfl) (fun _ h => by cases h) urgentTells_row_tie rfl ⟨rfl, rfl⟩ (by kernel_rfl) rfl plain (by kernel_rfl)
end Go.Proofs.YtnknmmbnhoanfaaGreatDoor.urgentTells
