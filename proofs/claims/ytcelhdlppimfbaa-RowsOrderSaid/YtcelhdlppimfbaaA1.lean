/- An array of eight slices of numbers that came in: its rows. -/
import Derived.Test.YtcelhdlppimfbaaR1
import Derived.Test.YtcelhdlppimfbaaR2
import Derived.ProofKit
import Derived.OpenShut
namespace Go.Proofs.Ytcelhdlppimfbaa
open Go.RowKit Go.Shelf Go.Cs Go.ChangeShapes Go.WideShapes Go.ChangeAt
theorem cells3 : Try.prog.cellsOf 3 = 1 := by kernel_rfl
theorem cells22 : Try.prog.cellsOf 22 = 1 := by kernel_rfl
theorem cells23 : Try.prog.cellsOf 23 = 8 := by kernel_rfl
theorem addr_spot {w : World} {a : Addr} {v : Value} (h : w.cell? a = some v) : a.spot = none := by
  obtain ⟨b, o, sp⟩ := a
  cases sp with
  | none => rfl
  | some x =>
    unfold World.cell? at h
    split at h <;> simp_all
theorem open_row {H : Type} {enc : TypeId × Value → H} {w : World} {v : Value} {base : Nat} {spare : Nat → Bool} {held : Bool} {fuel : Nat} {y : DataW H × List MemPlace} (h : DataW.trod enc Try.prog w base spare held fuel 22 [v] = some y) :
    ∃ L : List Int, ReadsI .i64 w v L ∧ ∀ n, n ∈ L → -9223372036854775808 ≤ n ∧ n ≤ 9223372036854775807 := by
  rcases open_ints Try.underlying22 Try.underlying3 cells3 h with ⟨hcs, hx⟩ | ⟨a, len', cap', zs, hcs, hb, hl, hm, hz, hx, hcell, hwz⟩
  · obtain rfl : v = .slice none 0 0 := by simpa using hcs
    exact ⟨[], ReadsI.nil _ _, fun n hn => by cases hn⟩
  · obtain rfl : v = .slice (some a) len' cap' := by simpa using hcs
    have hzl : len' ≤ zs.length := by rw [hz]; split <;> omega
    unfold maxLen at hm
    refine ⟨zs.take len', ⟨by rw [List.length_take]; omega, some a, cap', by rw [List.length_take, Nat.min_eq_left hzl], fun i hi => ?_⟩, fun n hn => bounds_i64 (hwz n (List.mem_of_mem_take hn))⟩
    have hi' : i < len' := by rw [List.length_take] at hi; omega
    have h0 := hcell 0 (by omega)
    have h1 := hcell i (by omega)
    obtain ⟨b, o, sp⟩ := a
    obtain rfl : sp = none := addr_spot (by simpa [Addr.add] using h0)
    have hadd : (⟨b, o, none⟩ : Addr).add i = ⟨b, o + i, none⟩ := by unfold Addr.add; split <;> simp_all
    refine ⟨b, o, rfl, ?_⟩
    rw [hadd] at h1
    rw [h1]
    simp [List.getD, List.getElem?_take_of_lt hi']
theorem open_rows8 {H : Type} {enc : TypeId × Value → H} {w : World} {v : Value} {base : Nat} {spare : Nat → Bool} {held : Bool} {d : DataW H} {ps : List MemPlace} {r : Reach} {b0 : Nat} (hv : Value.okWide Try.prog w r b0 23 v) (h : DataW.Trod enc Try.prog w base spare held 23 v d ps) :
    ∃ (vs : List Value) (X : Nat → List Int), v = .agg vs.toArray ∧ vs.length = 8 ∧ Rd w vs X ∧ In64 X := by
  simp only [Value.okWide, Try.underlying23] at hv
  obtain ⟨⟨vs⟩, rfl, hs, _⟩ := hv
  rw [cells23] at hs
  obtain ⟨fuel, hf⟩ := h
  obtain ⟨xs, m, _, _, _, hxl, hg⟩ := DataW.trod_array Try.underlying23 hf
  have hl : vs.length = 8 := by simpa using hs
  have hrow : ∀ u, ∃ L : List Int, (u < 8 → ReadsI .i64 w (vs.getD u undef) L) ∧ ∀ n, n ∈ L → -9223372036854775808 ≤ n ∧ n ≤ 9223372036854775807 := fun u => by
    by_cases hu : u < 8
    · have h1 := hg u hu
      have hu' : u < vs.length := by omega
      rw [cells22, Nat.mul_one, show (((Value.agg vs.toArray).cells.toList).drop u).take 1 = [vs[u]] by simp [Value.cells]; rw [List.drop_eq_getElem_cons hu']; rfl, List.getElem?_eq_getElem (by omega)] at h1
      obtain ⟨L, h2, h3⟩ := open_row h1
      exact ⟨L, fun _ => by simpa [List.getD, hu'] using h2, h3⟩
    · exact ⟨[], fun h => absurd h hu, fun n hn => by cases hn⟩
  refine ⟨vs, fun u => (hrow u).choose, rfl, hl, fun u hu => (hrow u).choose_spec.1 hu, fun u n hn => (hrow u).choose_spec.2 n hn⟩
end Go.Proofs.Ytcelhdlppimfbaa
