/- RowsOrder: what its loop keeps in memory. -/
import Derived.Test.YtcelhdlppimfbaaP4
namespace Go.Proofs.Ytcelhdlppimfbaa
open Go.RowKit Go.Shelf Go.Cs
attribute [local go_sem] Oper.semAt_some
/-- A slice of deeds: three numbers each. -/
def ReadsD (W : World) (ao : Option Addr) (n : Nat) (D : Nat → Nat → Int) : Prop :=
  ∀ i, i < n → ∃ b o, ao = some ⟨b, o, none⟩ ∧ ∀ j, j < 3 → W.cell? ⟨b, o + i * 3 + j, none⟩ = some (.int .i64 (D i j)) ∧ -9223372036854775808 ≤ D i j ∧ D i j ≤ 9223372036854775807
theorem cell_lt {W : World} {a : Addr} {v : Value} (h : W.cell? a = some v) : a.block < W.heap.size := by
  rcases Nat.lt_or_ge a.block W.heap.size with h1 | h1
  · exact h1
  · rw [World.cell?, Array.getElem?_eq_none h1] at h
    simp at h
theorem heap_lt {W : World} {B : Nat} {o : Obj} (h : W.heap[B]? = some o) : B < W.heap.size := (Array.getElem?_eq_some_iff.1 h).1
/-- The rows' variable, and the two arrays. -/
structure St (W0 : World) (B0 Ba Bb : Nat) (X : Nat → List Int) (f g : Nat → Int) (W : World) : Prop where
  row : ∃ ws : List Value, Var W B0 ws X ∧ ∀ u, u < 8 → X u ≠ [] → ∀ k, (ws.getD u undef).ownBlock = some k → k ≠ B0 ∧ k ≠ Ba ∧ k ≠ Bb
  at' : W.heap[Ba]? = some (.cells (ints8 f).toArray 27 (0, 0))
  of' : W.heap[Bb]? = some (.cells (ints8 g).toArray 27 (0, 0))
  mods : Mods (fun b => b = B0 ∨ b = Ba ∨ b = Bb) W0 W
  ab : Ba ≠ Bb
  a0 : B0 ≠ Ba ∧ B0 ≠ Bb
theorem St.new {W0 : World} {B0 Ba Bb : Nat} {X : Nat → List Int} {f g : Nat → Int} {W W' : World} (h : St W0 B0 Ba Bb X f g W) (hN : New W W') : St W0 B0 Ba Bb X f g W' := by
  obtain ⟨ws, V, hb⟩ := h.row
  exact ⟨⟨ws, V.new hN, hb⟩, hN.heap h.at' id, hN.heap h.of' id, h.mods.trans (Mods.ofNew hN), h.ab, h.a0⟩
/-- .. and the variable of what is told, which lies in a block of its own. -/
structure StO (W0 : World) (B0 Ba Bb Bo : Nat) (X : Nat → List Int) (f g : Nat → Int) (cs : List Value) (W : World) : Prop where
  st : St W0 B0 Ba Bb X f g W
  heap : W.heap[Bo]? = some (.cells cs.toArray 23 (0, 0))
  ne : Bo ≠ B0 ∧ Bo ≠ Ba ∧ Bo ≠ Bb
  new : W0.heap.size ≤ Bo
  own : ∀ ws : List Value, W.heap[B0]? = some (.cells ws.toArray 23 (0, 0)) → ∀ u, u < 8 → X u ≠ [] → ∀ k, (ws.getD u undef).ownBlock = some k → k ≠ Bo
theorem toArray_inj {a b : List Value} (h : (Obj.cells a.toArray 23 (0, 0)) = Obj.cells b.toArray 23 (0, 0)) : a = b := by
  simp only [Obj.cells.injEq] at h
  have := congrArg Array.toList h.1
  simpa using this
theorem StO.make {W0 : World} {B0 Ba Bb : Nat} {X : Nat → List Int} {f g : Nat → Int} {W : World} (h : St W0 B0 Ba Bb X f g W) (cs : List Value) : StO W0 B0 Ba Bb W.heap.size X f g cs (W.alloc (.cells cs.toArray 23)) := by
  have hN : New W (W.alloc (.cells cs.toArray 23)) := (Mods.refl _ _).alloc _
  obtain ⟨ws, V, hb⟩ := h.row
  have l0 := heap_lt V.heap
  have l1 := heap_lt h.at'
  have l2 := heap_lt h.of'
  refine ⟨h.new hN, World.alloc_heap_new W _, ⟨by omega, by omega, by omega⟩, h.mods.size, fun ws' hws u hu hx k hk => ?_⟩
  rw [hN.heap V.heap id] at hws
  obtain rfl := toArray_inj (Option.some.inj hws)
  have := V.rd.block hu hx hk
  omega
theorem StO.newW {W0 : World} {B0 Ba Bb Bo : Nat} {X : Nat → List Int} {f g : Nat → Int} {cs : List Value} {W W' : World} (h : StO W0 B0 Ba Bb Bo X f g cs W) (hN : New W W') : StO W0 B0 Ba Bb Bo X f g cs W' := by
  obtain ⟨ws, V, hb⟩ := h.st.row
  refine ⟨h.st.new hN, hN.heap h.heap id, h.ne, h.new, fun ws' hws u hu hx k hk => ?_⟩
  rw [hN.heap V.heap id] at hws
  obtain rfl := toArray_inj (Option.some.inj hws)
  exact h.own ws V.heap u hu hx k hk
/-- What is told, stored into its variable. -/
structure Told (W0 : World) (B0 Ba Bb Bo : Nat) (X : Nat → List Int) (f g : Nat → Int) (X' : Nat → List Int) (W : World) : Prop where
  st : St W0 B0 Ba Bb X f g W
  ne : Bo ≠ B0 ∧ Bo ≠ Ba ∧ Bo ≠ Bb
  row : ∃ ws : List Value, Var W Bo ws X' ∧ ∀ u, u < 8 → X' u ≠ [] → ∀ k, (ws.getD u undef).ownBlock = some k → k ≠ B0 ∧ k ≠ Ba ∧ k ≠ Bb
theorem Told.new {W0 : World} {B0 Ba Bb Bo : Nat} {X X' : Nat → List Int} {f g : Nat → Int} {W W' : World} (h : Told W0 B0 Ba Bb Bo X f g X' W) (hN : New W W') : Told W0 B0 Ba Bb Bo X f g X' W' := by
  obtain ⟨ws, V, hb⟩ := h.row
  exact ⟨h.st.new hN, h.ne, ws, V.new hN, hb⟩
theorem StO.store {W0 : World} {B0 Ba Bb Bo : Nat} {X X' : Nat → List Int} {f g : Nat → Int} {cs ws : List Value} {W W1 : World} (h : StO W0 B0 Ba Bb Bo X f g cs W) (hN : New W W1) (hl : ws.length = 8) (hO : OwnTo W.heap.size ws X' 8 W1) :
    Told W0 B0 Ba Bb Bo X f g X' (W1.setRow Bo ws.toArray) := by
  have hlo := heap_lt h.heap
  have h1 := h.newW hN
  obtain ⟨ws0, V, hb⟩ := h1.st.row
  have lo0 := heap_lt V.heap
  obtain ⟨wsx, Vx, _⟩ := h.st.row
  have l0 := heap_lt Vx.heap
  have la := heap_lt h.st.at'
  have lb := heap_lt h.st.of'
  have hM : Mods (fun b => b = Bo) W1 (W1.setRow Bo ws.toArray) := mrow (S := fun b => b = Bo) (Mods.refl _ _) (.inr rfl) _ (fun o ho => by rw [h1.heap] at ho; cases ho; rfl)
  have hM2 : Mods (fun b => b = Bo) W (W1.setRow Bo ws.toArray) := (Mods.ofNew hN).trans hM
  refine ⟨⟨⟨ws0, V.kept hM (fun e => h.ne.1 e.symm) (fun i hi hx k hk => h1.own ws0 V.heap i hi hx k hk), hb⟩, hM.heap h1.st.at' (fun e => h.ne.2.1 e.symm), hM.heap h1.st.of' (fun e => h.ne.2.2 e.symm), ?_, h.st.ab, h.st.a0⟩, h.ne, ws, ⟨setRow_heap W1 Bo cs.toArray ws.toArray 23 (0, 0) h1.heap, hl, hO.rd.kept hM (fun i hi hx k hk e => ?_), hO.one hl⟩, fun u hu hx k hk => ?_⟩
  · exact ((h.st.mods.mono fun _ hk => .inl hk).trans (hM2.mono fun k (hk : k = Bo) => .inr hk)).only (S := fun k => (k = B0 ∨ k = Ba ∨ k = Bb) ∨ k = Bo) (fun k hk => hk.elim .inr fun e => .inl (e ▸ h.new))
  · have := ((hO.1 i hi).lt k hk).1; omega
  · have := ((hO.1 u hu).lt k hk).1; exact ⟨by omega, by omega, by omega⟩
theorem upd_set {W : World} {B : Nat} {f : Nat → Int} (h : W.heap[B]? = some (.cells (ints8 f).toArray 27 (0, 0))) {m : Nat} (hm : m < 8) (z : Int) : (W.setCell ⟨B, m, none⟩ (.int .i64 z)).heap[B]? = some (.cells (ints8 (upd f m z)).toArray 27 (0, 0)) :=
  ints8_put2 h hm z fun _ _ => rfl
theorem setM (W : World) (B o : Nat) (v : Value) : Mods (fun b => b = B) W (W.setCell ⟨B, o, none⟩ v) := (Mods.refl (fun b => b = B) W).setCell (p := ⟨B, o, none⟩) (.inr rfl) v
theorem St.setA {W0 : World} {B0 Ba Bb : Nat} {X : Nat → List Int} {f g : Nat → Int} {W : World} (h : St W0 B0 Ba Bb X f g W) {m : Nat} (hm : m < 8) (z : Int) : St W0 B0 Ba Bb X (upd f m z) g (W.setCell ⟨Ba, m, none⟩ (.int .i64 z)) := by
  obtain ⟨ws, V, hb⟩ := h.row
  have hM := setM W Ba m (.int .i64 z)
  exact ⟨⟨ws, V.kept hM h.a0.1 (fun i hi hx k hk => (hb i hi hx k hk).2.1), hb⟩, upd_set h.at' hm z, hM.heap h.of' (fun e => h.ab e.symm), h.mods.trans (hM.mono fun k hk => .inr (.inl hk)), h.ab, h.a0⟩
theorem St.setB {W0 : World} {B0 Ba Bb : Nat} {X : Nat → List Int} {f g : Nat → Int} {W : World} (h : St W0 B0 Ba Bb X f g W) {m : Nat} (hm : m < 8) (z : Int) : St W0 B0 Ba Bb X f (upd g m z) (W.setCell ⟨Bb, m, none⟩ (.int .i64 z)) := by
  obtain ⟨ws, V, hb⟩ := h.row
  have hM := setM W Bb m (.int .i64 z)
  exact ⟨⟨ws, V.kept hM h.a0.2 (fun i hi hx k hk => (hb i hi hx k hk).2.2), hb⟩, hM.heap h.at' h.ab, upd_set h.of' hm z, h.mods.trans (hM.mono fun k hk => .inr (.inr hk)), h.ab, h.a0⟩
theorem Told.setA {W0 : World} {B0 Ba Bb Bo : Nat} {X X' : Nat → List Int} {f g : Nat → Int} {W : World} (h : Told W0 B0 Ba Bb Bo X f g X' W) {m : Nat} (hm : m < 8) (z : Int) : Told W0 B0 Ba Bb Bo X (upd f m z) g X' (W.setCell ⟨Ba, m, none⟩ (.int .i64 z)) := by
  obtain ⟨ws, V, hb⟩ := h.row
  exact ⟨h.st.setA hm z, h.ne, ws, V.kept (setM W Ba m (.int .i64 z)) h.ne.2.1 (fun i hi hx k hk => (hb i hi hx k hk).2.1), hb⟩
theorem Told.setB {W0 : World} {B0 Ba Bb Bo : Nat} {X X' : Nat → List Int} {f g : Nat → Int} {W : World} (h : Told W0 B0 Ba Bb Bo X f g X' W) {m : Nat} (hm : m < 8) (z : Int) : Told W0 B0 Ba Bb Bo X f (upd g m z) X' (W.setCell ⟨Bb, m, none⟩ (.int .i64 z)) := by
  obtain ⟨ws, V, hb⟩ := h.row
  exact ⟨h.st.setB hm z, h.ne, ws, V.kept (setM W Bb m (.int .i64 z)) h.ne.2.2 (fun i hi hx k hk => (hb i hi hx k hk).2.2), hb⟩
/-- The variable of what is told is taken for the rows. -/
theorem Told.take {W0 : World} {B0 Ba Bb Bo : Nat} {X X' : Nat → List Int} {f g : Nat → Int} {W : World} (h : Told W0 B0 Ba Bb Bo X f g X' W) {ws : List Value} (hws : W.heap[Bo]? = some (.cells ws.toArray 23 (0, 0))) : St W0 B0 Ba Bb X' f g (W.setRow B0 ws.toArray) := by
  obtain ⟨ws', V, hb⟩ := h.row
  rw [V.heap] at hws
  obtain rfl := toArray_inj (Option.some.inj hws)
  obtain ⟨ws0, V0, _⟩ := h.st.row
  have hM : Mods (fun b => b = B0) W (W.setRow B0 ws'.toArray) := mrow (S := fun b => b = B0) (Mods.refl _ _) (.inr rfl) _ (fun o ho => by rw [V0.heap] at ho; cases ho; rfl)
  exact ⟨⟨ws', ⟨setRow_heap W B0 ws0.toArray ws'.toArray 23 (0, 0) V0.heap, V.len, V.rd.kept hM (fun i hi hx k hk => (hb i hi hx k hk).1), V.one⟩, hb⟩, hM.heap h.st.at' (fun e => h.st.a0.1 e.symm), hM.heap h.st.of' (fun e => h.st.a0.2 e.symm), h.st.mods.trans (hM.mono fun k hk => .inl hk), h.st.ab, h.st.a0⟩
/-- What a deed tells. -/
def Deed (d u : Int) (c : Nat) (X : Nat → List Int) (f g : Nat → Int) (n' : Int) (ok : Bool) (X' : Nat → List Int) : Prop :=
  (ok = false ∧ X' = X) ∨ (ok = true ∧ ∃ k : Nat, k < 8 ∧ n' = k ∧ ((d = 0 ∨ d = 1) → ∃ v : Nat, v < 8 ∧ u = v ∧ Inv X' (upd f k (c + 1 : Nat)) (upd g k v) (c + 1)) ∧ (d ≠ 0 → d ≠ 1 → Inv X' (upd f k 0) g c))
end Go.Proofs.Ytcelhdlppimfbaa
