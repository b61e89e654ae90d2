/- TurnBest: for every list of deeds the law of whose turn is next answers true, on every schedule, and its argument reads afterwards as it did; no condition. -/
import Derived.Test.YtkjloeefcaadlaaRows
import Derived.Test.YtkjloeefcaadlaaTB
import Derived.Test.YtkjloeefcaadlaaLaw2
import Derived.Test.YtkjloeefcaadlaaLaw
import Derived.Test.YtkjloeefcaadlaaLV
import Derived.WalkKit
import Derived.ProofKit
import Derived.OpenShut
namespace Go.Proofs.Ytkjloeefcaadlaa.turnBest
open Go.ChangeShapes Go.WideShapes Go.ChangeAt Go.RowKit Go.Cs

theorem own : ownKnob Try.prog.godebug = none := by kernel_rfl
theorem laidOut : laidOutB Try.prog = true := by kernel_rfl
theorem cells55 : Try.prog.cellsOf 55 = 5 := by kernel_rfl
theorem spot_none {w : World} {a : Addr} {v : Value} (h : w.cell? a = some v) : a.spot = none := by
  obtain ⟨b, o, sp⟩ := a
  cases sp with
  | none => rfl
  | some x =>
    unfold World.cell? at h
    split at h <;> simp_all
theorem walk {w : World} (ao : Option Addr) (n cap : Nat) (D : Nat → Dd) (hm : n ≤ 9223372036854775807) (hD : ReadsT w ao n D) :
    Calls Try.prog 5 #[.slice ao n cap] w fun e w' => e = .returned (.bool true) ∧ New w w' := by
  by_cases h : n ≤ 40
  · exact best_law ao n cap D w h hD
  · exact best_long ao n cap w (by omega) hm
set_option maxRecDepth 100000 in
/-- The argument, whatever it is. -/
theorem walk_deeds {H : Type} {enc : TypeId × Value → H} {w : World} {v : Value} {base : Nat} {spare : Nat → Bool} {held : Bool} {d : DataW H} {ps : List MemPlace} {r : Reach} {b0 : Nat} (hv : Value.okWide Try.prog w r b0 48 v) (h : DataW.Trod enc Try.prog w base spare held 48 v d ps) :
    Calls Try.prog 5 #[v] w fun e w' => e = .returned (.bool true) ∧ New w w' := by
  obtain ⟨a0, len0, cap0, rfl⟩ := okWide_slice Try.underlying48 hv
  obtain ⟨fuel, hf⟩ := h
  rcases open_structs Try.underlying48 Try.underlying55 (by kernel_rfl) cells55 hf with hcs | ⟨a, len, cap, hcs, hl, hm, hi⟩
  · simp only [Value.cells, List.cons.injEq, and_true, Value.slice.injEq] at hcs
    obtain ⟨rfl, rfl, rfl⟩ := hcs
    exact walk none 0 0 (fun _ => ⟨0, 0, 0, false, false⟩) (by omega) (fun i hi => by omega)
  · simp only [Value.cells, List.cons.injEq, and_true, Value.slice.injEq] at hcs
    obtain ⟨rfl, rfl, rfl⟩ := hcs
    unfold maxLen at hm
    have hspot : ∀ i, i < len0 → a.spot = none := fun i hi' => by
      obtain ⟨v, y, n, hc, _⟩ := hi 0 (by omega) 0 _ rfl
      have := spot_none hc
      simpa [Addr.add] using this
    refine walk (some a) len0 cap0 (fun i => ⟨(match w.cell? (a.add (i * 5 + 0)) with | some (.int _ z) => z | _ => 0), (match w.cell? (a.add (i * 5 + 1)) with | some (.int _ z) => z | _ => 0), (match w.cell? (a.add (i * 5 + 2)) with | some (.int _ z) => z | _ => 0),
      (match w.cell? (a.add (i * 5 + 3)) with | some (.bool z) => z | _ => false), (match w.cell? (a.add (i * 5 + 4)) with | some (.bool z) => z | _ => false)⟩) (by omega) (fun i hi' => ?_)
    obtain ⟨b, o, sp⟩ := a
    obtain rfl : sp = none := hspot i hi'
    have hadd : ∀ j, (⟨b, o, none⟩ : Addr).add (i * 5 + j) = ⟨b, o + i * 5 + j, none⟩ := fun j => by unfold Addr.add; split <;> simp_all [Nat.add_assoc]
    have hint : ∀ (j : Nat) (v : Value) (y : DataW H × List MemPlace) (n : Nat), w.cell? ((⟨b, o, none⟩ : Addr).add (i * 5 + j)) = some v → DataW.trod enc Try.prog w base spare held n 3 [v] = some y → ∃ z : Int, w.cell? ((⟨b, o, none⟩ : Addr).add (i * 5 + j)) = some (.int .i64 z) ∧ (-9223372036854775808 ≤ z ∧ z ≤ 9223372036854775807) := fun j v y n hc ht => by
      obtain ⟨z, hz, _, wz⟩ := DataW.trod_int Try.underlying3 ht
      simp only [List.cons.injEq, and_true] at hz
      subst hz
      exact ⟨z, hc, bounds_i64 wz⟩
    have hbool : ∀ (j : Nat) (v : Value) (y : DataW H × List MemPlace) (n : Nat), w.cell? ((⟨b, o, none⟩ : Addr).add (i * 5 + j)) = some v → DataW.trod enc Try.prog w base spare held n 4 [v] = some y → ∃ z : Bool, w.cell? ((⟨b, o, none⟩ : Addr).add (i * 5 + j)) = some (.bool z) := fun j v y n hc ht => by
      obtain ⟨z, hz, _⟩ := DataW.trod_bool Try.underlying4 ht
      simp only [List.cons.injEq, and_true] at hz
      subst hz
      exact ⟨z, hc⟩
    obtain ⟨z0, c0, _⟩ : ∃ z : Int, w.cell? ((⟨b, o, none⟩ : Addr).add (i * 5 + 0)) = some (.int .i64 z) ∧ (-9223372036854775808 ≤ z ∧ z ≤ 9223372036854775807) := by obtain ⟨v, y, n, hc, ht⟩ := hi i hi' 0 _ rfl; exact hint 0 v y n hc ht
    obtain ⟨z1, c1, b1⟩ : ∃ z : Int, w.cell? ((⟨b, o, none⟩ : Addr).add (i * 5 + 1)) = some (.int .i64 z) ∧ (-9223372036854775808 ≤ z ∧ z ≤ 9223372036854775807) := by obtain ⟨v, y, n, hc, ht⟩ := hi i hi' 1 _ rfl; exact hint 1 v y n hc ht
    obtain ⟨z2, c2, b2⟩ : ∃ z : Int, w.cell? ((⟨b, o, none⟩ : Addr).add (i * 5 + 2)) = some (.int .i64 z) ∧ (-9223372036854775808 ≤ z ∧ z ≤ 9223372036854775807) := by obtain ⟨v, y, n, hc, ht⟩ := hi i hi' 2 _ rfl; exact hint 2 v y n hc ht
    obtain ⟨z3, c3⟩ : ∃ z : Bool, w.cell? ((⟨b, o, none⟩ : Addr).add (i * 5 + 3)) = some (.bool z) := by obtain ⟨v, y, n, hc, ht⟩ := hi i hi' 3 _ rfl; exact hbool 3 v y n hc ht
    obtain ⟨z4, c4⟩ : ∃ z : Bool, w.cell? ((⟨b, o, none⟩ : Addr).add (i * 5 + 4)) = some (.bool z) := by obtain ⟨v, y, n, hc, ht⟩ := hi i hi' 4 _ rfl; exact hbool 4 v y n hc ht
    refine ⟨b, o, rfl, ?_, ?_, ?_⟩
    · dsimp only
      rw [c0, c1, c2, c3, c4]
      dsimp only
      rw [hadd] at c0 c1 c2 c3 c4
      intro j v hj
      match j, hj with
      | 0, hj => cases hj; exact c0
      | 1, hj => cases hj; exact c1
      | 2, hj => cases hj; exact c2
      | 3, hj => cases hj; exact c3
      | 4, hj => cases hj; exact c4
    · dsimp only
      rw [c1]
      exact b1
    · dsimp only
      rw [c2]
      exact b2

set_option maxRecDepth 100000 in
theorem lifted (os : Os) (started : os.Started) (H : Type) (enc : TypeId × Value → H) :
    ReturnsInHanded {} Try.checked os 5 .any (Rows.turnBestSpec.pre6 enc Try.prog Try.f5 Rows.turnBestRow.domain false) (Rows.turnBestSpec.post enc Try.prog Try.f5 false true false false) := by
  refine returnsInHanded_of_change (C := Try.checked) own started (by kernel_rfl) Try.func5
    (ChangeSpec.witness6 (enc := enc) (C := Try.checked) false ⟨#[], #[.slice none 0 0], []⟩ 8 (by kernel_rfl) (by kernel_rfl) (by kernel_rfl) (by kernel_rfl)) ?_
  intro W base args ds gs before hval0 hW hcnd _
  have hval : ∀ (j : Nat) t v, Try.f5.params[j]? = some t → args[j]? = some v → Value.okWide Try.prog W .any base t v := hval0
  have hW' := hW
  obtain ⟨p, q, hA0, hV, rfl, hfz, hnd⟩ := hW
  have hA : DataW.TrodAll enc Try.prog W 0 (fun _ => true) true Try.f5.params.toList args.toList ds p := hA0
  rw [Try.params5] at hA hval
  obtain ⟨v0, vs0, d0, ds0, p0, q0, hargs, rfl, rfl, h0, r0⟩ := trodAll_cons hA
  obtain ⟨rfl, rfl, rfl⟩ := trodAll_nil r0
  obtain rfl : args = #[v0] := by cases args; simp_all
  obtain ⟨rfl, rfl⟩ := trodVars_none hV
  refine (walk_deeds (hval 0 48 v0 rfl rfl) h0).mono fun e W' ⟨he, hg⟩ => ?_
  subst he
  exact ⟨_, rfl, post_law hW' rfl laidOut (by kernel_rfl) (fun _ _ _ => (trodAll_cons_mk (shut_bool Try.underlying4 _) trodAll_mk0)) rfl rfl hg⟩

theorem over : Rows.turnBestRow.holds Try.pinned (OpenSpec.ofChange Rows.turnBestSpec) :=
  OpenClaim.holds_of_wide_leaving 5 Try.f5 rfl rfl rfl rfl rfl rfl rfl ⟨rfl, rfl, rfl, rfl, rfl⟩ rfl rfl rfl rfl rfl (by kernel_rfl) Try.func5 (by kernel_rfl)
    (of_decide_eq_true (by kernel_rfl)) (by unfold Func.isWrapper; first | (rw [if_pos (by decide +kernel)]; kernel_rfl) | (rw [if_neg (by decide +kernel)]; exact ⟨rfl, rfl⟩))
    (fun os started H enc _ => leaving_of_handed (lifted os started H enc))

/-- The statement. -/
theorem proved : Rows.TurnBestSaid :=
  over
#print axioms proved
end Go.Proofs.Ytkjloeefcaadlaa.turnBest
