/- Array variables read and written whole; a general step of a walk by its run. -/
import Derived.Test.YtihmnkbkigkjjaaDoorBase
import Derived.Laws.OwnMore
namespace Go.Cs
open Go.RowKit
variable {P : Program} {ops : Array Oper} {Q : Exit → Act → World → Prop} {r : Option Nat} {rest : List Oper}

/-- An operation whose run is known: it yields a value. -/
theorem op_value {o : Oper} {a : Act} {w w' : World} {v : Value} (hg : o.guard = none) (hr : (execOp a.eval o).run P w = .ok (.value v) w') (h : wpList P ops Q rest (a.put o.dst v) w') : wpList P ops Q (o :: rest) a w :=
  wpList_plain hg fun _ hK => by unfold Oper.wp; rw [hr]; exact hK _ _ h
theorem op_skip {o : Oper} {a : Act} {w w' : World} (hg : o.guard = none) (hr : (execOp a.eval o).run P w = .ok .skip w') (h : wpList P ops Q rest (a.put o.dst undef) w') : wpList P ops Q (o :: rest) a w :=
  wpList_plain hg fun _ hK => by unfold Oper.wp; rw [hr]; exact hK _ _ h

theorem run_storeVar_row (w : World) (g : Nat) (t ty : TypeId) (cur cs : List Value) (hg : w.heap[g]? = some (.cells cur.toArray t (0, 0))) (hi : (P.info? ty).map (·.size) = some cs.length) (hl : cs.length = cur.length)
    (h1 : ∀ v ∈ cs, v.oneCell' = true) : (storeVar ty ⟨g, 0, none⟩ (.agg cs.toArray)).run P w = .ok () (w.setRow g cs.toArray) := by
  cases hq : P.info? ty with
  | none => simp [hq] at hi
  | some i =>
    have hs : i.size = cs.length := by simpa [hq] using hi
    have hst := run_storeCells_at P g 0 t cs 0 cur.toArray w hg (by simp; omega) h1
    simp only [Nat.add_zero, Nat.zero_add, List.take_zero, List.nil_append] at hst
    have e : cs ++ cur.drop cs.length = cs := by rw [List.drop_of_length_le (by omega)]; simp
    rw [e] at hst
    simp [storeVar, Sem.run_bind, sizeOf, typeInfo, hq, Value.cells, hs, hst]

theorem run_store_row {o : Oper} {a : Act} {w : World} (ty : TypeId) (x v : Operand) (ho : o.op = .store ty x v) (g : Nat) (hx : a.eval x = .pointer (some ⟨g, 0, none⟩)) (t : TypeId) (cur cs : List Value) (hv : a.eval v = .agg cs.toArray)
    (hg : w.heap[g]? = some (.cells cur.toArray t (0, 0))) (hi : (P.info? ty).map (·.size) = some cs.length) (hl : cs.length = cur.length) (h1 : ∀ v ∈ cs, v.oneCell' = true) :
    (execOp a.eval o).run P w = .ok .skip (w.setRow g cs.toArray) := by
  have := run_storeVar_row (P := P) w g t ty cur cs hg hi hl h1
  unfold execOp
  simp [ho, hx, hv, Instr.storeAt, Instr.sureAddr, this]
theorem run_load_row {o : Oper} {a : Act} {w : World} (ty : TypeId) (x : Operand) (ho : o.op = .load ty x) (g : Nat) (hx : a.eval x = .pointer (some ⟨g, 0, none⟩)) (t : TypeId) (cs : Array Value) (fr : Nat × Nat) (d : TypeDesc) (hg : w.heap[g]? = some (.cells cs t fr))
    (hu : P.underlying ty = some d) (hd : (match d with | .struct _ | .array _ _ => true | _ => false) = true) (hi : (P.info? ty).map (·.size) = some cs.size) : (execOp a.eval o).run P w = .ok (.value (.agg cs)) w := by
  unfold execOp
  simp only [ho, hx, Instr.loadAt, Instr.sureAddr, Sem.run_bind, Sem.run_pure, Result.andThen_ok, run_loadVar_row w g t ty cs fr d hg hu hd hi]
/-- An array read and written back in place: nothing has turned. -/
theorem setRow_same {w : World} {g : Nat} {cs : List Value} {t : TypeId} (hg : w.heap[g]? = some (.cells cs.toArray t (0, 0))) : w.setRow g cs.toArray = w := setRow_self w g cs.toArray t (0, 0) hg
/-- An array read and written back in place. -/
theorem run_store_same {o : Oper} {a : Act} {w : World} (ty : TypeId) (x v : Operand) (ho : o.op = .store ty x v) (g : Nat) (hx : a.eval x = .pointer (some ⟨g, 0, none⟩)) (t : TypeId) (cs : List Value) (hv : a.eval v = .agg cs.toArray)
    (hg : w.heap[g]? = some (.cells cs.toArray t (0, 0))) (hi : (P.info? ty).map (·.size) = some cs.length) (h1 : ∀ v ∈ cs, v.oneCell' = true) :
    (execOp a.eval o).run P w = .ok .skip w := by
  have := run_store_row (P := P) ty x v ho g hx t cs cs hv hg hi rfl h1
  rwa [setRow_same hg] at this
end Go.Cs

namespace Go.Cs
open Go.RowKit
variable {P : Program}
theorem run_index_arr {t e : TypeId} {n : Nat} {cs : Array Value} {u : Nat} {v : Value} {d : TypeDesc} (ht : P.underlying t = some (.array n e)) (he : P.underlying e = some d) (hd : (match d with | .struct _ | .array _ _ => true | _ => false) = false)
    (hs : (P.info? e).map (·.size) = some 1) (hu : u < n) (hv : cs[u]? = some v) (w : World) : (Instr.index t (.agg cs) (.int .i64 (u : Int))).run P w = .ok v w := by
  cases hq : P.info? e with
  | none => simp [hq] at hs
  | some i =>
    have hs : i.size = 1 := by simpa [hq] using hs
    have h1 : (0 : Int) ≤ u ∧ (u : Int) < n := by omega
    have hagg : (isAgg e).run P w = .ok false w := by
      unfold isAgg
      rw [Sem.run_bind, run_underlying he w]
      cases d <;> simp_all
    simp [Instr.index, asIntOf, Sem.run_bind, run_underlying ht w, sizeOf, typeInfo, hq, hs, part, hagg, hv]
    intro h
    omega
/-- A slice that reads as a list of numbers. -/
def ReadsI (k : IntKind) (W : World) (v : Value) (xs : List Int) : Prop :=
  xs.length ≤ 9223372036854775807 ∧ ∃ ao cap, v = .slice ao xs.length cap ∧ ∀ i, i < xs.length → ∃ b o, ao = some ⟨b, o, none⟩ ∧ W.cell? ⟨b, o + i, none⟩ = some (.int k (xs.getD i 0))
theorem ReadsI.kept {k : IntKind} {W W' : World} {v : Value} {xs : List Int} (h : ReadsI k W v xs) {S : Nat → Prop} (hm : Mods S W W') (hS : ∀ g, v.ownBlock = some g → ¬ S g) : ReadsI k W' v xs := by
  obtain ⟨hl, ao, cap, rfl, hc⟩ := h
  refine ⟨hl, ao, cap, rfl, fun i hi => ?_⟩
  obtain ⟨b, o, rfl, h⟩ := hc i hi
  exact ⟨b, o, rfl, hm.cell h (hS b rfl)⟩
theorem ReadsI.new {k : IntKind} {W W' : World} {v : Value} {xs : List Int} (h : ReadsI k W v xs) (hm : New W W') : ReadsI k W' v xs := h.kept hm fun _ _ f => f
theorem ReadsI.nil (k : IntKind) (W : World) : ReadsI k W (.slice none 0 0) [] := ⟨by simp, none, 0, rfl, fun i hi => by simp at hi⟩
theorem ReadsI.ofOwns {base : Nat} {e : TypeId} {k : IntKind} {W : World} {v : Value} {xs : List Int} (h : W.ownsRow base e 1 v xs.length (xs.map (Value.int k))) : ReadsI k W v xs := by
  obtain ⟨hl, (⟨hv, h0⟩ | ⟨g, cap, cur, hv, hb, hg, hn, hc, hs, ht⟩)⟩ := h
  · have : xs = [] := List.eq_nil_of_length_eq_zero h0
    subst this
    rw [hv]
    exact ReadsI.nil k W
  · refine ⟨by simp only [maxLen] at hc; omega, some ⟨g, 0, none⟩, cap, hv, fun i hi => ⟨g, 0, rfl, ?_⟩⟩
    have hcell := World.ownsRow.cells (w := W) (base := base) (e := e) (size := 1) (v := v) (n := xs.length) (xs := xs.map (Value.int k)) ⟨hl, .inr ⟨g, cap, cur, hv, hb, hg, hn, hc, hs, ht⟩⟩ (g := g) (by rw [hv]; rfl) i (.int k (xs.getD i 0)) (by simp [List.getD, hi])
    have hadd : (⟨g, 0, none⟩ : Addr).add i = ⟨g, 0 + i, none⟩ := by unfold Addr.add; split <;> simp_all
    rwa [hadd] at hcell
end Go.Cs

namespace Go.Cs
open Go.RowKit
variable {P : Program}
/-- A new array variable, written whole. -/
theorem alloc_setRow (w : World) (cs cs' : Array Value) (t : TypeId) (f : Nat × Nat) : (w.alloc (.cells cs t f)).setRow w.heap.size cs' = w.alloc (.cells cs' t f) := by
  unfold World.setRow World.alloc
  congr 1
  apply Array.ext_getElem?
  intro i
  simp only [Array.getElem?_modify, Array.getElem?_push]
  by_cases h : w.heap.size = i
  · subst h; simp
  · simp [h, Ne.symm h]
theorem ReadsI.one {k : IntKind} {W : World} {v : Value} {xs : List Int} (h : ReadsI k W v xs) : v.oneCell' = true := by
  obtain ⟨_, ao, cap, rfl, _⟩ := h
  rfl
/-- A store of a whole array into a variable just made. -/
theorem run_store_new {o : Oper} {a : Act} {w : World} (ty : TypeId) (x v : Operand) (ho : o.op = .store ty x v) (t : TypeId) (cur cs : List Value) (hx : a.eval x = .pointer (some ⟨w.heap.size, 0, none⟩)) (hv : a.eval v = .agg cs.toArray)
    (hi : (P.info? ty).map (·.size) = some cs.length) (hl : cs.length = cur.length) (h1 : ∀ v ∈ cs, v.oneCell' = true) :
    (execOp a.eval o).run P (w.alloc (.cells cur.toArray t)) = .ok .skip (w.alloc (.cells cs.toArray t)) := by
  have := run_store_row (P := P) (w := w.alloc (.cells cur.toArray t)) ty x v ho w.heap.size hx t cur cs hv (World.alloc_heap_new w _) hi hl h1
  rwa [alloc_setRow] at this
end Go.Cs
