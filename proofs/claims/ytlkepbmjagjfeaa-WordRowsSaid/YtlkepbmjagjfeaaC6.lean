/- WordRows: for every list of deeds the law that a word does as rows do answers true, on every schedule, and its argument reads afterwards as it did; no condition. -/
import Derived.Test.YtlkepbmjagjfeaaRows
import Derived.Test.YtlkepbmjagjfeaaC5
import Derived.Test.YtlkepbmjagjfeaaLaw2
import Derived.WalkKit
import Derived.ProofKit
import Derived.OpenShut
namespace Go.Proofs.Ytlkepbmjagjfeaa.wordRows
open Go.ChangeShapes Go.WideShapes Go.ChangeAt Go.RowKit Go.Cs

theorem own : ownKnob Try.prog.godebug = none := by kernel_rfl
theorem laidOut : laidOutB Try.prog = true := by kernel_rfl
theorem cells28 : Try.prog.cellsOf 28 = 3 := by kernel_rfl

theorem spot_none {w : World} {a : Addr} {v : Value} (h : w.cell? a = some v) : a.spot = none := by
  obtain ⟨b, o, sp⟩ := a
  cases sp with
  | none => rfl
  | some x =>
    unfold World.cell? at h
    split at h <;> simp_all
set_option maxRecDepth 100000 in
theorem rows_long (ao : Option Addr) (n cap : Nat) (w : World) (hn : 40 < n) (hm : n ≤ 9223372036854775807) :
    Calls Try.prog 3 #[.slice ao n cap] w fun e w' => e = .returned (.bool true) ∧ New w w' := by
  go_enter Try.func3, Try.ntmps3
  go_wp2_with fail
  refine (wakes_any _).mono ?_
  rintro e w2 ⟨rfl, hN2⟩
  go_wp2_with fail
  go_ret
  exact ⟨rfl, hN2⟩
theorem walk (ao : Option Addr) (n cap : Nat) (D : Nat → Nat → Int) (w : World) (hm : n ≤ 9223372036854775807) (hD : ReadsD w ao n D) :
    Calls Try.prog 3 #[.slice ao n cap] w fun e w' => e = .returned (.bool true) ∧ New w w' := by
  rcases Nat.lt_or_ge 40 n with h | h
  · exact rows_long ao n cap w h hm
  · exact rows_walk ao n cap D w h hD
/-- The argument, whatever it is. -/
theorem walk_arg {H : Type} {enc : TypeId × Value → H} {w : World} {v : Value} {base : Nat} {spare : Nat → Bool} {held : Bool} {d : DataW H} {ps : List MemPlace} {r : Reach} {b0 : Nat} (hv : Value.okWide Try.prog w r b0 22 v) (h : DataW.Trod enc Try.prog w base spare held 22 v d ps) :
    Calls Try.prog 3 #[v] w fun e w' => e = .returned (.bool true) ∧ New w w' := by
  obtain ⟨a0, len0, cap0, rfl⟩ := okWide_slice Try.underlying22 hv
  obtain ⟨fuel, hf⟩ := h
  rcases open_structs Try.underlying22 Try.underlying28 (by kernel_rfl) cells28 hf with hcs | ⟨a, len, cap, hcs, hl, hm, hi⟩
  · simp only [Value.cells, List.cons.injEq, and_true, Value.slice.injEq] at hcs
    obtain ⟨rfl, rfl, rfl⟩ := hcs
    exact walk none 0 0 (fun _ _ => 0) w (by omega) (fun i hi => by omega)
  · simp only [Value.cells, List.cons.injEq, and_true, Value.slice.injEq] at hcs
    obtain ⟨rfl, rfl, rfl⟩ := hcs
    unfold maxLen at hm
    have hspot : ∀ i, i < len0 → a.spot = none := fun i hi' => by
      obtain ⟨v, y, n, hc, _⟩ := hi 0 (by omega) 0 _ rfl
      have := spot_none hc
      simpa [Addr.add] using this
    refine walk (some a) len0 cap0 (fun i j => match w.cell? (a.add (i * 3 + j)) with | some (.int _ z) => z | _ => 0) w (by omega) (fun i hi' => ?_)
    obtain ⟨b, o, sp⟩ := a
    obtain rfl : sp = none := hspot i hi'
    refine ⟨b, o, rfl, fun j hj => ?_⟩
    have hint : ∀ f, (Try.prog.underlying f = some (.int .i64)) → ∀ (v : Value) (y : DataW H × List MemPlace) (n : Nat), w.cell? ((⟨b, o, none⟩ : Addr).add (i * 3 + j)) = some v → DataW.trod enc Try.prog w base spare held n f [v] = some y → ∃ z : Int, w.cell? ((⟨b, o, none⟩ : Addr).add (i * 3 + j)) = some (.int .i64 z) ∧ (-9223372036854775808 ≤ z ∧ z ≤ 9223372036854775807) := fun f hf v y n hc ht => by
      obtain ⟨z, hz, _, wz⟩ := DataW.trod_int hf ht
      simp only [List.cons.injEq, and_true] at hz
      subst hz
      exact ⟨z, hc, bounds_i64 wz⟩
    have hadd : (⟨b, o, none⟩ : Addr).add (i * 3 + j) = ⟨b, o + i * 3 + j, none⟩ := by unfold Addr.add; split <;> simp_all [Nat.add_assoc]
    have hz : ∃ z : Int, w.cell? ((⟨b, o, none⟩ : Addr).add (i * 3 + j)) = some (.int .i64 z) ∧ (-9223372036854775808 ≤ z ∧ z ≤ 9223372036854775807) := by
      match j, hj with
      | 0, _ => obtain ⟨v, y, n, hc, ht⟩ := hi i hi' 0 _ rfl; exact hint _ Try.underlying3 v y n hc ht
      | 1, _ => obtain ⟨v, y, n, hc, ht⟩ := hi i hi' 1 _ rfl; exact hint _ Try.underlying3 v y n hc ht
      | 2, _ => obtain ⟨v, y, n, hc, ht⟩ := hi i hi' 2 _ rfl; exact hint _ Try.underlying3 v y n hc ht
    obtain ⟨z, hz, hb⟩ := hz
    dsimp only
    rw [hz]
    rw [hadd] at hz
    exact ⟨hz, hb⟩

set_option maxRecDepth 100000 in
theorem lifted (os : Os) (started : os.Started) (H : Type) (enc : TypeId × Value → H) :
    ReturnsInHanded {} Try.checked os 3 .any (Rows.wordRowsSpec.pre6 enc Try.prog Try.f3 Rows.wordRowsRow.domain false) (Rows.wordRowsSpec.post enc Try.prog Try.f3 false true false false) := by
  refine returnsInHanded_of_change (C := Try.checked) own started (by kernel_rfl) Try.func3
    (ChangeSpec.witness6 (enc := enc) (C := Try.checked) false ⟨#[], #[.slice none 0 0], []⟩ 8 (by kernel_rfl) (by kernel_rfl) (by kernel_rfl) (by kernel_rfl)) ?_
  intro W base args ds gs before hval0 hW hcnd _
  have hval : ∀ (j : Nat) t v, Try.f3.params[j]? = some t → args[j]? = some v → Value.okWide Try.prog W .any base t v := hval0
  have hW' := hW
  obtain ⟨p, q, hA0, hV, rfl, hfz, hnd⟩ := hW
  have hA : DataW.TrodAll enc Try.prog W 0 (fun _ => true) true Try.f3.params.toList args.toList ds p := hA0
  rw [Try.params3] at hA hval
  obtain ⟨v0, vs0, d0, ds0, p0, q0, hargs, rfl, rfl, h0, r0⟩ := trodAll_cons hA
  obtain ⟨rfl, rfl, rfl⟩ := trodAll_nil r0
  obtain rfl : args = #[v0] := by cases args; simp_all
  obtain ⟨rfl, rfl⟩ := trodVars_none hV
  refine (walk_arg (hval 0 22 v0 rfl rfl) h0).mono fun e W' ⟨he, hg⟩ => ?_
  subst he
  exact ⟨_, rfl, post_law hW' rfl laidOut (by kernel_rfl) (fun _ _ _ => (trodAll_cons_mk (shut_bool Try.underlying4 _) trodAll_mk0)) rfl rfl hg⟩

theorem over : Rows.wordRowsRow.holds Try.pinned (OpenSpec.ofChange Rows.wordRowsSpec) :=
  OpenClaim.holds_of_wide 3 Try.f3 rfl rfl rfl rfl rfl rfl rfl ⟨rfl, rfl, rfl, rfl, rfl⟩ rfl rfl rfl rfl rfl (by kernel_rfl) Try.func3 (by kernel_rfl)
    (of_decide_eq_true (by kernel_rfl)) (by unfold Func.isWrapper; first | (rw [if_pos (by decide +kernel)]; kernel_rfl) | (rw [if_neg (by decide +kernel)]; exact ⟨rfl, rfl⟩))
    (fun os started H enc _ => lifted os started H enc)

/-- The statement. -/
theorem proved : Rows.WordRowsSaid :=
  over
#print axioms proved
end Go.Proofs.Ytlkepbmjagjfeaa.wordRows
