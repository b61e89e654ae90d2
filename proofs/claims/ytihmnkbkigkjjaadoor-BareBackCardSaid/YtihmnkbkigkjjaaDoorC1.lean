/- An item that comes in. -/
import Derived.Test.YtihmnkbkigkjjaaDoorC0
import Derived.Test.YtihmnkbkigkjjaaDoorL3
import Derived.ChangeMaps5
import Derived.WalkKit
namespace Go.Proofs.YtihmnkbkigkjjaaDoor
open Go.RowKit Go.Shelf Go.Cs Go.ChangeShapes Go.WideShapes Go.ChangeAt Go.WideMaps Go.WideElems Go.ChangeMaps
set_option linter.unusedVariables false
section
variable {H : Type} {enc : TypeId × Value → H} {w : World} {base : Nat} {spare : Nat → Bool} {held : Bool} {fuel : Nat}
theorem len_four {α : Type} : ∀ {l : List α}, l.length = 4 → ∃ a b c d, l = [a, b, c, d]
  | [a, b, c, d], _ => ⟨a, b, c, d, rfl⟩
theorem byte_of_wf {n : Int} (h : (Lit.int .u8 n).wf = true) : 0 ≤ n ∧ n ≤ 255 := by
  simp [Lit.wf] at h
  exact ⟨Int.le_trans (by decide) h.1, Int.le_trans h.2 (by decide)⟩
set_option maxRecDepth 100000 in
theorem open_bare {cs : List Value} {x : DataW H × List MemPlace} (h : DataW.trod enc Tryd.prog w base spare held fuel 23 cs = some x) :
    ∃ b : Bare.It, Value.agg cs.toArray = bv b ∧ ItOk b := by
  obtain ⟨xs, n, rfl, rfl, hl, hn, hf⟩ := DataW.trod_struct Tryd.underlying23 h
  have cB : Tryd.prog.cellsOf 23 = 4 := by kernel_rfl
  have c3 : Tryd.prog.cellsOf 3 = 1 := by kernel_rfl
  have c4 : Tryd.prog.cellsOf 4 = 1 := by kernel_rfl
  have c5 : Tryd.prog.cellsOf 5 = 1 := by kernel_rfl
  have c9 : Tryd.prog.cellsOf 9 = 1 := by kernel_rfl
  rw [cB] at hl
  have hn : xs.length = 4 := hn
  obtain ⟨a0, a1, a2, a3, rfl⟩ := len_four hl
  obtain ⟨x0, x1, x2, x3, rfl⟩ := len_four hn
  have g0 : DataW.trod enc Tryd.prog w base spare held n 5 [a0] = some x0 := by
    have : (([a0, a1, a2, a3] : List Value).drop 0).take (Tryd.prog.cellsOf 5) = [a0] := by rw [c5]; rfl
    rw [← this]; exact hf 0 _ rfl
  have g1 : DataW.trod enc Tryd.prog w base spare held n 3 [a1] = some x1 := by
    have : (([a0, a1, a2, a3] : List Value).drop 1).take (Tryd.prog.cellsOf 3) = [a1] := by rw [c3]; rfl
    rw [← this]; exact hf 1 _ rfl
  have g2 : DataW.trod enc Tryd.prog w base spare held n 9 [a2] = some x2 := by
    have : (([a0, a1, a2, a3] : List Value).drop 2).take (Tryd.prog.cellsOf 9) = [a2] := by rw [c9]; rfl
    rw [← this]; exact hf 2 _ rfl
  have g3 : DataW.trod enc Tryd.prog w base spare held n 4 [a3] = some x3 := by
    have : (([a0, a1, a2, a3] : List Value).drop 3).take (Tryd.prog.cellsOf 4) = [a3] := by rw [c4]; rfl
    rw [← this]; exact hf 3 _ rfl
  obtain ⟨n0, e0, -, w0⟩ := DataW.trod_int Tryd.underlying5 g0
  obtain ⟨n1, e1, -, -⟩ := DataW.trod_int Tryd.underlying3 g1
  obtain ⟨s2, e2, -, hs2⟩ := DataW.trod_string Tryd.underlying9 g2
  obtain ⟨y3, e3, -⟩ := DataW.trod_bool Tryd.underlying4 g3
  cases e0
  cases e1
  cases e2
  cases e3
  refine ⟨⟨n0, n1, bl s2, y3⟩, by unfold bv bcs; rw [tx_bl], ⟨(byte_of_wf w0).1, ?_⟩⟩
  have : (bl s2).length = s2.size := bl_len s2
  unfold maxLen at hs2
  show (bl s2).length ≤ _
  omega
set_option maxRecDepth 100000 in
theorem open_item {base' : Nat} {v : Value} {d : DataW H} {q : List MemPlace} (hv : Value.okWide Tryd.prog w .any base' 23 v) (h : ∃ fuel, DataW.trod enc Tryd.prog w base spare held fuel 23 v.cells.toList = some (d, q)) : ∃ b : Bare.It, v = bv b ∧ ItOk b := by
  obtain ⟨cs, rfl, -⟩ := okWide_struct Tryd.underlying23 hv
  obtain ⟨fu, g⟩ := h
  obtain ⟨b, hb, hok⟩ := open_bare g
  exact ⟨b, by rw [← hb]; simp [Value.cells], hok⟩
end
end Go.Proofs.YtihmnkbkigkjjaaDoor
