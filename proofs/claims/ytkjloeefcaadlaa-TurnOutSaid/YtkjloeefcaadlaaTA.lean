/- Who is ready, come in as an argument: opened. -/
import Derived.Test.YtkjloeefcaadlaaTU5
import Derived.ProofKit
import Derived.OpenShut
namespace Go.Proofs.Ytkjloeefcaadlaa
open Go.RowKit Go.Shelf Go.Cs Go.ChangeShapes Go.WideShapes Go.ChangeAt
theorem cells51 : Try.prog.cellsOf 51 = 9 := by kernel_rfl
theorem cells49 : Try.prog.cellsOf 49 = 8 := by kernel_rfl
theorem cells22 : Try.prog.cellsOf 22 = 1 := by kernel_rfl
theorem cells3' : Try.prog.cellsOf 3 = 1 := by kernel_rfl
theorem nine {l : List Value} (h : l.length = 9) : ∃ v v0 v1 v2 v3 v4 v5 v6 v7, l = [v, v0, v1, v2, v3, v4, v5, v6, v7] := by
  match l, h with
  | [v, v0, v1, v2, v3, v4, v5, v6, v7], _ => exact ⟨v, v0, v1, v2, v3, v4, v5, v6, v7, rfl⟩
set_option maxRecDepth 100000 in
theorem open_ready {H : Type} {enc : TypeId × Value → H} {w : World} {v : Value} {base : Nat} {spare : Nat → Bool} {held : Bool} {d : DataW H} {ps : List MemPlace} {r : Reach} {b0 : Nat} (hv : Value.okWide Try.prog w r b0 51 v) (h : DataW.Trod enc Try.prog w base spare held 51 v d ps) :
    ∃ (x : Nat) (k : Nat → Int), v = .agg (rc x k).toArray ∧ x < 18446744073709551616 ∧ In8 k := by
  obtain ⟨⟨vs⟩, rfl, hs⟩ := okWide_struct Try.underlying51 hv
  rw [cells51] at hs
  obtain ⟨fuel, hf⟩ := h
  obtain ⟨xs, m, _, _, _, hxl, hg⟩ := DataW.trod_struct Try.underlying51 hf
  obtain ⟨c, c0, c1, c2, c3, c4, c5, c6, c7, rfl⟩ := nine hs
  have h0 : DataW.trod enc Try.prog w base spare held m 22 ((([c, c0, c1, c2, c3, c4, c5, c6, c7] : List Value).drop 0).take (Try.prog.cellsOf 22)) = xs[0]? := hg 0 _ rfl
  have h1 : DataW.trod enc Try.prog w base spare held m 49 ((([c, c0, c1, c2, c3, c4, c5, c6, c7] : List Value).drop 1).take (Try.prog.cellsOf 49)) = xs[1]? := hg 1 _ rfl
  rw [cells22, show (([c, c0, c1, c2, c3, c4, c5, c6, c7] : List Value).drop 0).take 1 = [c] from rfl, List.getElem?_eq_getElem (by rw [hxl]; decide)] at h0
  rw [cells49, show (([c, c0, c1, c2, c3, c4, c5, c6, c7] : List Value).drop 1).take 8 = [c0, c1, c2, c3, c4, c5, c6, c7] from rfl, List.getElem?_eq_getElem (by rw [hxl]; decide)] at h1
  obtain ⟨z, hz, _, wz⟩ := DataW.trod_int Try.underlying22 h0
  obtain rfl : c = .int .u64 z := by simpa using hz
  obtain ⟨ys, m2, _, _, _, hyl, hgy⟩ := DataW.trod_array Try.underlying49 h1
  have hcell : ∀ (u : Nat) (hu : u < 8) (cu : Value), (([c0, c1, c2, c3, c4, c5, c6, c7] : List Value).drop u).take 1 = [cu] → ∃ y : Int, cu = .int .i64 y ∧ (-9223372036854775808 ≤ y ∧ y ≤ 9223372036854775807) := fun u hu cu hcu => by
    have h2 := hgy u hu
    rw [cells3', Nat.mul_one, hcu, List.getElem?_eq_getElem (by omega)] at h2
    obtain ⟨y, hy, _, wy⟩ := DataW.trod_int Try.underlying3 h2
    exact ⟨y, by simpa using hy, bounds_i64 wy⟩
  obtain ⟨y0, rfl, b0⟩ := hcell 0 (by omega) c0 rfl
  obtain ⟨y1, rfl, b1⟩ := hcell 1 (by omega) c1 rfl
  obtain ⟨y2, rfl, b2⟩ := hcell 2 (by omega) c2 rfl
  obtain ⟨y3, rfl, b3⟩ := hcell 3 (by omega) c3 rfl
  obtain ⟨y4, rfl, b4⟩ := hcell 4 (by omega) c4 rfl
  obtain ⟨y5, rfl, b5⟩ := hcell 5 (by omega) c5 rfl
  obtain ⟨y6, rfl, b6⟩ := hcell 6 (by omega) c6 rfl
  obtain ⟨y7, rfl, b7⟩ := hcell 7 (by omega) c7 rfl
  have bz := bounds_u64 wz
  obtain ⟨x, rfl⟩ := Int.eq_ofNat_of_zero_le bz.1
  refine ⟨x, fun u => ([y0, y1, y2, y3, y4, y5, y6, y7] : List Int).getD u 0, rfl, by omega, fun u hu => ?_⟩
  match u, hu with
  | 0, _ => exact b0
  | 1, _ => exact b1
  | 2, _ => exact b2
  | 3, _ => exact b3
  | 4, _ => exact b4
  | 5, _ => exact b5
  | 6, _ => exact b6
  | 7, _ => exact b7
end Go.Proofs.Ytkjloeefcaadlaa
