/- RowsOrder: for every value of the rows and every list of deeds the law of their order answers true, on every schedule, and its arguments read afterwards as they did; no condition. -/
import Derived.Test.YtcelhdlppimfbaaRows
import Derived.Test.YtcelhdlppimfbaaR29
import Derived.Test.YtcelhdlppimfbaaA1
import Derived.Test.YtcelhdlppimfbaaLaw2
import Derived.WalkKit
import Derived.ProofKit
import Derived.OpenShut
namespace Go.Proofs.Ytcelhdlppimfbaa.rowsOrder
open Go.ChangeShapes Go.WideShapes Go.ChangeAt Go.RowKit Go.Cs

theorem own : ownKnob Try.prog.godebug = none := by kernel_rfl
theorem laidOut : laidOutB Try.prog = true := by kernel_rfl
theorem cells29 : Try.prog.cellsOf 29 = 3 := by kernel_rfl
theorem spot_none {w : World} {a : Addr} {v : Value} (h : w.cell? a = some v) : a.spot = none := by
  obtain ⟨b, o, sp⟩ := a
  cases sp with
  | none => rfl
  | some x =>
    unfold World.cell? at h
    split at h <;> simp_all
theorem walk (vs : List Value) (hl : vs.length = 8) (X : Nat → List Int) {w : World} (hr : Rd w vs X) (hx : In64 X) (ao : Option Addr) (n cap : Nat) (D : Nat → Nat → Int) (hm : n ≤ 9223372036854775807) (hD : ReadsD w ao n D) :
    Calls Try.prog 3 #[.agg vs.toArray, .slice ao n cap] w fun e w' => e = .returned (.bool true) ∧ New w w' := by
  refine order_law vs hl (fun u => if u < 8 then X u else []) ao n cap D w (fun u hu => ?_) (fun u m hm => ?_) (fun u hu => if_neg (by omega)) hm hD
  · dsimp only
    rw [if_pos hu]
    exact hr u hu
  · dsimp only at hm
    split at hm
    · exact hx u m hm
    · simp at hm
/-- The argument, whatever it is. -/
theorem walk_deeds {H : Type} {enc : TypeId × Value → H} {w : World} {v : Value} {base : Nat} {spare : Nat → Bool} {held : Bool} {d : DataW H} {ps : List MemPlace} {r : Reach} {b0 : Nat} (hv : Value.okWide Try.prog w r b0 24 v) (vs : List Value) (hvl : vs.length = 8) (X : Nat → List Int) (hr : Rd w vs X) (hx : In64 X) (h : DataW.Trod enc Try.prog w base spare held 24 v d ps) :
    Calls Try.prog 3 #[.agg vs.toArray, v] w fun e w' => e = .returned (.bool true) ∧ New w w' := by
  obtain ⟨a0, len0, cap0, rfl⟩ := okWide_slice Try.underlying24 hv
  obtain ⟨fuel, hf⟩ := h
  rcases open_structs Try.underlying24 Try.underlying29 (by kernel_rfl) cells29 hf with hcs | ⟨a, len, cap, hcs, hl, hm, hi⟩
  · simp only [Value.cells, List.cons.injEq, and_true, Value.slice.injEq] at hcs
    obtain ⟨rfl, rfl, rfl⟩ := hcs
    exact walk vs hvl X hr hx none 0 0 (fun _ _ => 0) (by omega) (fun i hi => by omega)
  · simp only [Value.cells, List.cons.injEq, and_true, Value.slice.injEq] at hcs
    obtain ⟨rfl, rfl, rfl⟩ := hcs
    unfold maxLen at hm
    have hspot : ∀ i, i < len0 → a.spot = none := fun i hi' => by
      obtain ⟨v, y, n, hc, _⟩ := hi 0 (by omega) 0 _ rfl
      have := spot_none hc
      simpa [Addr.add] using this
    refine walk vs hvl X hr hx (some a) len0 cap0 (fun i j => match w.cell? (a.add (i * 3 + j)) with | some (.int _ z) => z | _ => 0) (by omega) (fun i hi' => ?_)
    obtain ⟨b, o, sp⟩ := a
    obtain rfl : sp = none := hspot i hi'
    refine ⟨b, o, rfl, fun j hj => ?_⟩
    have hint : ∀ f, (Try.prog.underlying f = some (.int .i64)) → ∀ (v : Value) (y : DataW H × List MemPlace) (n : Nat), w.cell? ((⟨b, o, none⟩ : Addr).add (i * 3 + j)) = some v → DataW.trod enc Try.prog w base spare held n f [v] = some y → ∃ z : Int, w.cell? ((⟨b, o, none⟩ : Addr).add (i * 3 + j)) = some (.int .i64 z) ∧ (-9223372036854775808 ≤ z ∧ z ≤ 9223372036854775807) := fun f hf v y n hc ht => by
      obtain ⟨z, hz, _, wz⟩ := DataW.trod_int hf ht
      simp only [List.cons.injEq, and_true] at hz
      subst hz
      exact ⟨z, hc, bounds_i64 wz⟩
    have hadd : (⟨b, o, none⟩ : Addr).add (i * 3 + j) = ⟨b, o + i * 3 + j, none⟩ := by unfold Addr.add; split <;> simp_all [Nat.add_assoc]
    have hz : ∃ z : Int, w.cell? ((⟨b, o, none⟩ : Addr).add (i * 3 + j)) = some (.int .i64 z) ∧ (-9223372036854775808 ≤ z ∧ z ≤ 9223372036854775807) := by
      match j, hj with
      | 0, _ => obtain ⟨v, y, n, hc, ht⟩ := hi i hi' 0 _ rfl; exact hint _ Try.underlying3 v y n hc ht
      | 1, _ => obtain ⟨v, y, n, hc, ht⟩ := hi i hi' 1 _ rfl; exact hint _ Try.underlying3 v y n hc ht
      | 2, _ => obtain ⟨v, y, n, hc, ht⟩ := hi i hi' 2 _ rfl; exact hint _ Try.underlying3 v y n hc ht
    obtain ⟨z, hz, hb⟩ := hz
    dsimp only
    rw [hz]
    rw [hadd] at hz
    exact ⟨hz, hb⟩

/-- The arguments, whatever they are. -/
theorem walk_arg {H : Type} {enc : TypeId × Value → H} {w : World} {v v' : Value} {base base' : Nat} {spare spare' : Nat → Bool} {held held' : Bool} {d d' : DataW H} {ps ps' : List MemPlace} {r r' : Reach} {b0 b1 : Nat} (hv : Value.okWide Try.prog w r b0 23 v) (h : DataW.Trod enc Try.prog w base spare held 23 v d ps)
    (hv' : Value.okWide Try.prog w r' b1 24 v') (h' : DataW.Trod enc Try.prog w base' spare' held' 24 v' d' ps') :
    Calls Try.prog 3 #[v, v'] w fun e w' => e = .returned (.bool true) ∧ New w w' := by
  obtain ⟨vs, X, rfl, hl, hr, hx⟩ := open_rows8 hv h
  exact walk_deeds hv' vs hl X hr hx h'

set_option maxRecDepth 100000 in
theorem lifted (os : Os) (started : os.Started) (H : Type) (enc : TypeId × Value → H) :
    ReturnsInHanded {} Try.checked os 3 .any (Rows.rowsOrderSpec.pre6 enc Try.prog Try.f3 Rows.rowsOrderRow.domain false) (Rows.rowsOrderSpec.post enc Try.prog Try.f3 false true false false) := by
  refine returnsInHanded_of_change (C := Try.checked) own started (by kernel_rfl) Try.func3
    (ChangeSpec.witness6 (enc := enc) (C := Try.checked) false ⟨#[], #[.agg #[.slice none 0 0, .slice none 0 0, .slice none 0 0, .slice none 0 0, .slice none 0 0, .slice none 0 0, .slice none 0 0, .slice none 0 0], .slice none 0 0], []⟩ 8 (by kernel_rfl) (by kernel_rfl) (by kernel_rfl) (by kernel_rfl)) ?_
  intro W base args ds gs before hval0 hW hcnd _
  have hval : ∀ (j : Nat) t v, Try.f3.params[j]? = some t → args[j]? = some v → Value.okWide Try.prog W .any base t v := hval0
  have hW' := hW
  obtain ⟨p, q, hA0, hV, rfl, hfz, hnd⟩ := hW
  have hA : DataW.TrodAll enc Try.prog W 0 (fun _ => true) true Try.f3.params.toList args.toList ds p := hA0
  rw [Try.params3] at hA hval
  obtain ⟨v0, vs0, d0, ds0, p0, q0, hargs, rfl, rfl, h0, r0⟩ := trodAll_cons hA
  obtain ⟨v1, vs1, d1, ds1, p1, q1, rfl, rfl, rfl, h1, r1⟩ := trodAll_cons r0
  obtain ⟨rfl, rfl, rfl⟩ := trodAll_nil r1
  obtain rfl : args = #[v0, v1] := by cases args; simp_all
  obtain ⟨rfl, rfl⟩ := trodVars_none hV
  refine (walk_arg (hval 0 23 v0 rfl rfl) h0 (hval 1 24 v1 rfl rfl) h1).mono fun e W' ⟨he, hg⟩ => ?_
  subst he
  exact ⟨_, rfl, post_law hW' rfl laidOut (by kernel_rfl) (fun _ _ _ => (trodAll_cons_mk (shut_bool Try.underlying4 _) trodAll_mk0)) rfl rfl hg⟩

theorem over : Rows.rowsOrderRow.holds Try.pinned (OpenSpec.ofChange Rows.rowsOrderSpec) :=
  OpenClaim.holds_of_wide 3 Try.f3 rfl rfl rfl rfl rfl rfl rfl ⟨rfl, rfl, rfl, rfl, rfl⟩ rfl rfl rfl rfl rfl (by kernel_rfl) Try.func3 (by kernel_rfl)
    (of_decide_eq_true (by kernel_rfl)) (by unfold Func.isWrapper; first | (rw [if_pos (by decide +kernel)]; kernel_rfl) | (rw [if_neg (by decide +kernel)]; exact ⟨rfl, rfl⟩))
    (fun os started H enc _ => lifted os started H enc)

/-- The statement. -/
theorem proved : Rows.RowsOrderSaid :=
  over
#print axioms proved
end Go.Proofs.Ytcelhdlppimfbaa.rowsOrder
