/- QueueTells: for every word and every list of deeds the law of what a queue tells answers true, on every schedule, and its arguments read afterwards as they did; no condition. -/
import Derived.Test.YtkjloeefcaadlaaRows
import Derived.Test.YtkjloeefcaadlaaT1
import Derived.Test.YtkjloeefcaadlaaLaw2
import Derived.Test.YtkjloeefcaadlaaLaw
import Derived.Test.YtkjloeefcaadlaaLV
import Derived.WalkKit
import Derived.ProofKit
import Derived.OpenShut
namespace Go.Proofs.Ytkjloeefcaadlaa.queueTells
open Go.ChangeShapes Go.WideShapes Go.ChangeAt Go.RowKit Go.Cs

theorem own : ownKnob Try.prog.godebug = none := by kernel_rfl

theorem cells30 : Try.prog.cellsOf 30 = 3 := by kernel_rfl
theorem laidOut : laidOutB Try.prog = true := by kernel_rfl
theorem spot_none {w : World} {a : Addr} {v : Value} (h : w.cell? a = some v) : a.spot = none := by
  obtain ⟨b, o, sp⟩ := a
  cases sp with
  | none => rfl
  | some x =>
    unfold World.cell? at h
    split at h <;> simp_all
set_option maxRecDepth 100000 in
theorem tells_long (x : Nat) (ao : Option Addr) (n cap : Nat) (w : World) (hn : 40 < n) (hm : n ≤ 9223372036854775807) :
    Calls Try.prog 3 #[.int .u64 x, .slice ao n cap] w fun e w' => e = .returned (.bool true) ∧ New w w' := by
  have hd40 : decide ((40 : Int) < (n : Int)) = true := decide_eq_true (by omega)
  go_enter Try.func3, Try.ntmps3
  go_wp2_with fail
  refine (wakes_any _).mono ?_
  rintro e w2 ⟨rfl, hN2⟩
  go_wp2_with fail
  go_ret
  exact ⟨rfl, hN2⟩
set_option maxRecDepth 100000 in
theorem tells_no (x : Nat) (hx : x < 18446744073709551616) (ao : Option Addr) (n cap : Nat) (w : World) (hn : n ≤ 40) (hr : rightB x = false) :
    Calls Try.prog 3 #[.int .u64 x, .slice ao n cap] w fun e w' => e = .returned (.bool true) ∧ New w w' := by
  have HF := Lib.hid (from_no x hx hr)
  have HR := Lib.hid (right_gen x hx)
  rw [hr] at HR
  have hd40 : decide ((40 : Int) < (n : Int)) = false := decide_eq_false (by omega)
  clear hr
  go_enter Try.func3, Try.ntmps3
  go_wp2_with fail
  refine (HF.out _).mono ?_
  rintro e w1 ⟨rfl, hN1⟩
  go_wp2_with fail
  refine (HR.out _).mono ?_
  rintro e wa ⟨rfl, hNa⟩
  go_wp2_with fail
  refine (wakes_any _).mono ?_
  rintro e w2 ⟨rfl, hN2⟩
  go_wp2_with fail
  go_ret
  exact ⟨rfl, (hN1.trans hNa).trans hN2⟩
theorem walk (x : Nat) (hx : x < 18446744073709551616) {w : World} (ao : Option Addr) (n cap : Nat) (D : Nat → Nat → Int) (hm : n ≤ 9223372036854775807) (hD : ReadsD w ao n D) :
    Calls Try.prog 3 #[.int .u64 x, .slice ao n cap] w fun e w' => e = .returned (.bool true) ∧ New w w' := by
  by_cases h : n ≤ 40
  · cases hr : rightB x with
    | true => exact tells_law x hx ao n cap D w h hD hr
    | false => exact tells_no x hx ao n cap w h hr
  · exact tells_long x ao n cap w (by omega) hm
set_option maxRecDepth 100000 in
/-- The argument, whatever it is. -/
theorem walk_deeds {H : Type} {enc : TypeId × Value → H} {w : World} {v : Value} {base : Nat} {spare : Nat → Bool} {held : Bool} {d : DataW H} {ps : List MemPlace} {r : Reach} {b0 : Nat} (hv : Value.okWide Try.prog w r b0 23 v) (x : Nat) (hx : x < 18446744073709551616) (h : DataW.Trod enc Try.prog w base spare held 23 v d ps) :
    Calls Try.prog 3 #[.int .u64 x, v] w fun e w' => e = .returned (.bool true) ∧ New w w' := by
  obtain ⟨a0, len0, cap0, rfl⟩ := okWide_slice Try.underlying23 hv
  obtain ⟨fuel, hf⟩ := h
  rcases open_structs Try.underlying23 Try.underlying30 (by kernel_rfl) cells30 hf with hcs | ⟨a, len, cap, hcs, hl, hm, hi⟩
  · simp only [Value.cells, List.cons.injEq, and_true, Value.slice.injEq] at hcs
    obtain ⟨rfl, rfl, rfl⟩ := hcs
    exact walk x hx none 0 0 (fun _ _ => 0) (by omega) (fun i hi => by omega)
  · simp only [Value.cells, List.cons.injEq, and_true, Value.slice.injEq] at hcs
    obtain ⟨rfl, rfl, rfl⟩ := hcs
    unfold maxLen at hm
    have hspot : ∀ i, i < len0 → a.spot = none := fun i hi' => by
      obtain ⟨v, y, n, hc, _⟩ := hi 0 (by omega) 0 _ rfl
      have := spot_none hc
      simpa [Addr.add] using this
    refine walk x hx (some a) len0 cap0 (fun i j => match w.cell? (a.add (i * 3 + j)) with | some (.int _ z) => z | _ => 0) (by omega) (fun i hi' => ?_)
    obtain ⟨b, o, sp⟩ := a
    obtain rfl : sp = none := hspot i hi'
    refine ⟨b, o, rfl, fun j hj => ?_⟩
    have hint : ∀ f, (Try.prog.underlying f = some (.int .i64)) → ∀ (v : Value) (y : DataW H × List MemPlace) (n : Nat), w.cell? ((⟨b, o, none⟩ : Addr).add (i * 3 + j)) = some v → DataW.trod enc Try.prog w base spare held n f [v] = some y → ∃ z : Int, w.cell? ((⟨b, o, none⟩ : Addr).add (i * 3 + j)) = some (.int .i64 z) ∧ (-9223372036854775808 ≤ z ∧ z ≤ 9223372036854775807) := fun f hf v y n hc ht => by
      obtain ⟨z, hz, _, wz⟩ := DataW.trod_int hf ht
      simp only [List.cons.injEq, and_true] at hz
      subst hz
      exact ⟨z, hc, bounds_i64 wz⟩
    have hadd : (⟨b, o, none⟩ : Addr).add (i * 3 + j) = ⟨b, o + i * 3 + j, none⟩ := by unfold Addr.add; split <;> simp_all [Nat.add_assoc]
    have hz : ∃ z : Int, w.cell? ((⟨b, o, none⟩ : Addr).add (i * 3 + j)) = some (.int .i64 z) ∧ (-9223372036854775808 ≤ z ∧ z ≤ 9223372036854775807) := by
      match j, hj with
      | 0, _ => obtain ⟨v, y, n, hc, ht⟩ := hi i hi' 0 _ rfl; exact hint _ Try.underlying3 v y n hc ht
      | 1, _ => obtain ⟨v, y, n, hc, ht⟩ := hi i hi' 1 _ rfl; exact hint _ Try.underlying3 v y n hc ht
      | 2, _ => obtain ⟨v, y, n, hc, ht⟩ := hi i hi' 2 _ rfl; exact hint _ Try.underlying3 v y n hc ht
    obtain ⟨z, hz, hb⟩ := hz
    dsimp only
    rw [hz]
    rw [hadd] at hz
    exact ⟨hz, hb⟩

set_option maxRecDepth 100000 in
theorem lifted (os : Os) (started : os.Started) (H : Type) (enc : TypeId × Value → H) :
    ReturnsInHanded {} Try.checked os 3 .any (Rows.queueTellsSpec.pre6 enc Try.prog Try.f3 Rows.queueTellsRow.domain false) (Rows.queueTellsSpec.post enc Try.prog Try.f3 false true false false) := by
  refine returnsInHanded_of_change (C := Try.checked) own started (by kernel_rfl) Try.func3
    (ChangeSpec.witness6 (enc := enc) (C := Try.checked) false ⟨#[], #[.int .u64 0, .slice none 0 0], []⟩ 8 (by kernel_rfl) (by kernel_rfl) (by kernel_rfl) (by kernel_rfl)) ?_
  intro W base args ds gs before hval0 hW hcnd _
  have hval : ∀ (j : Nat) t v, Try.f3.params[j]? = some t → args[j]? = some v → Value.okWide Try.prog W .any base t v := hval0
  have hW' := hW
  obtain ⟨p, q, hA0, hV, rfl, hfz, hnd⟩ := hW
  have hA : DataW.TrodAll enc Try.prog W 0 (fun _ => true) true Try.f3.params.toList args.toList ds p := hA0
  rw [Try.params3] at hA hval
  obtain ⟨v0, vs0, d0, ds0, p0, q0, hargs, rfl, rfl, h0, r0⟩ := trodAll_cons hA
  obtain ⟨v1, vs1, d1, ds1, p1, q1, rfl, rfl, rfl, h1, r1⟩ := trodAll_cons r0
  obtain ⟨rfl, rfl, rfl⟩ := trodAll_nil r1
  obtain rfl : args = #[v0, v1] := by cases args; simp_all
  obtain ⟨rfl, rfl⟩ := trodVars_none hV
  obtain ⟨a0, rfl, rfl, rfl, w0⟩ := open_int Try.underlying22 (hval 0 22 v0 rfl rfl) h0
  have b0 := bounds_u64 w0
  obtain ⟨x, rfl⟩ := Int.eq_ofNat_of_zero_le b0.1
  refine (walk_deeds (hval 1 23 v1 rfl rfl) x (by omega) h1).mono fun e W' ⟨he, hg⟩ => ?_
  subst he
  exact ⟨_, rfl, post_law hW' rfl laidOut (by kernel_rfl) (fun _ _ _ => (trodAll_cons_mk (shut_bool Try.underlying4 _) trodAll_mk0)) rfl rfl hg⟩

theorem over : Rows.queueTellsRow.holds Try.pinned (OpenSpec.ofChange Rows.queueTellsSpec) :=
  OpenClaim.holds_of_wide_leaving 3 Try.f3 rfl rfl rfl rfl rfl rfl rfl ⟨rfl, rfl, rfl, rfl, rfl⟩ rfl rfl rfl rfl rfl (by kernel_rfl) Try.func3 (by kernel_rfl)
    (of_decide_eq_true (by kernel_rfl)) (by unfold Func.isWrapper; first | (rw [if_pos (by decide +kernel)]; kernel_rfl) | (rw [if_neg (by decide +kernel)]; exact ⟨rfl, rfl⟩))
    (fun os started H enc _ => leaving_of_handed (lifted os started H enc))

/-- The statement. -/
theorem proved : Rows.QueueTellsSaid :=
  over
#print axioms proved
end Go.Proofs.Ytkjloeefcaadlaa.queueTells
