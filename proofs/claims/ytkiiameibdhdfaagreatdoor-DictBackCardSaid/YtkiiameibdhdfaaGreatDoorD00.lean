/- A law for a range over a function whose values are a known list, and what a call leaves of the memory that it found. -/
import Derived.RangeFuncNested
import Derived.WalkKit
import Derived.Deep.QuietTactic
import Derived.ScopeJumps
import Derived.WalkMore
import Derived.OrdersIn
import Derived.Still
import Derived.Laws.OwnMore
import Derived.ProofKit
import Derived.Deep.Slices
import Derived.Deep.Fields
set_option linter.unusedSimpArgs false
set_option linter.unusedVariables false
namespace Go.Cs
open Go.RowKit

/-- What was there is as it was, but for cells of the blocks of S. -/
structure Mods (S : Nat → Prop) (w w' : World) : Prop where
  os : w'.os = w.os
  tape : w'.tape = w.tape
  output : w'.output = w.output
  size : w.heap.size ≤ w'.heap.size
  block : ∀ k o, w.heap[k]? = some o → (¬ S k ∨ o.isCells = false) → w'.heap[k]? = some o

/-- New blocks alone. -/
abbrev New (w w' : World) : Prop := Mods (fun _ => False) w w'

theorem Mods.refl (S : Nat → Prop) (w : World) : Mods S w w := ⟨rfl, rfl, rfl, Nat.le_refl _, fun _ _ h _ => h⟩
theorem Mods.trans {S : Nat → Prop} {a b c : World} (h : Mods S a b) (k : Mods S b c) : Mods S a c :=
  ⟨k.os.trans h.os, k.tape.trans h.tape, k.output.trans h.output, Nat.le_trans h.size k.size, fun i o hi ho => k.block i o (h.block i o hi ho) ho⟩
theorem Mods.mono {S T : Nat → Prop} {a b : World} (h : Mods S a b) (hST : ∀ k, S k → T k) : Mods T a b :=
  ⟨h.os, h.tape, h.output, h.size, fun i o hi ho => h.block i o hi (ho.imp (fun n m => n (hST _ m)) id)⟩
theorem Mods.ofNew {S : Nat → Prop} {a b : World} (h : New a b) : Mods S a b := h.mono fun _ f => f.elim
/-- What is written lies beyond what was there. -/
theorem Mods.new {S : Nat → Prop} {a b : World} (h : Mods S a b) (hS : ∀ k, S k → a.heap.size ≤ k) : New a b :=
  ⟨h.os, h.tape, h.output, h.size, fun i o hi _ => h.block i o hi (.inl fun hk => by have := hS i hk; have := (Array.getElem?_eq_some_iff.1 hi).1; omega)⟩
/-- Of what is written, what lies beyond what was there need not be told. -/
theorem Mods.only {S T : Nat → Prop} {a b : World} (h : Mods S a b) (hS : ∀ k, S k → a.heap.size ≤ k ∨ T k) : Mods T a b :=
  ⟨h.os, h.tape, h.output, h.size, fun i o hi ho => h.block i o hi (ho.imp (fun n m => by
    rcases hS i m with g | g
    · have := (Array.getElem?_eq_some_iff.1 hi).1; omega
    · exact n g) id)⟩
theorem Mods.alloc {S : Nat → Prop} {a w : World} (h : Mods S a w) (o : Obj) : Mods S a (w.alloc o) :=
  h.trans ⟨rfl, rfl, rfl, by simp, fun k o' hk _ => (Below.heap_alloc w o k (Array.getElem?_eq_some_iff.1 hk).1).trans hk⟩
theorem Mods.drew {S : Nat → Prop} {a w : World} (h : Mods S a w) : Mods S a w.drew := h.trans ⟨rfl, rfl, rfl, Nat.le_refl _, fun _ _ hk _ => hk⟩
theorem Mods.drewN {S : Nat → Prop} {a w : World} (h : Mods S a w) (n : Nat) : Mods S a (w.drewN n) := h.trans ⟨rfl, rfl, rfl, Nat.le_refl _, fun _ _ hk _ => hk⟩
theorem Mods.setCell {S : Nat → Prop} {a w : World} (h : Mods S a w) {p : Addr} (hp : a.heap.size ≤ p.block ∨ S p.block) (u : Value) : Mods S a (w.setCell p u) :=
  ⟨h.os, h.tape, h.output, by have := h.size; simp [World.setCell]; exact this, fun k o hk ho => by
    have hw := h.block k o hk ho
    by_cases e : k = p.block
    · subst e
      rcases ho with ho | ho
      · rcases hp with hp | hp
        · have := (Array.getElem?_eq_some_iff.1 hk).1; omega
        · exact absurd hp ho
      · exact (KeepsOthers.setCell w p u).same _ _ hw ho
    · exact (Below.heap_setCell w p u k e).trans hw⟩
/-- A contract of the library's that says what row was written. -/
theorem Mods.grown {S : Nat → Prop} {a w w' : World} {row : Option Nat} (h : Mods S a w) (hg : w.grownBy w' row) (hr : ∀ k, row = some k → a.heap.size ≤ k ∨ (S k ∧ ∀ o, w.heap[k]? = some o → o.isCells = true)) : Mods S a w' :=
  ⟨hg.os.trans h.os, hg.tape.trans h.tape, hg.output.trans h.output, Nat.le_trans h.size hg.size, fun k o hk ho => by
    have hw := h.block k o hk ho
    have hlt := (Array.getElem?_eq_some_iff.1 hw).1
    have hlt' := (Array.getElem?_eq_some_iff.1 hk).1
    refine (hg.block k hlt ?_).trans hw
    intro e
    rcases hr k e.symm with h1 | ⟨h1, h2⟩
    · omega
    · rcases ho with ho | ho
      · exact ho h1
      · rw [h2 o hw] at ho; cases ho⟩
theorem Mods.below {B : Nat} {w w' : World} (h : Below B w w') (hB : w.heap.size ≤ B) : New w w' :=
  ⟨h.os, h.tape, h.output, h.size, fun k o hk _ => (h.block k (by have := (Array.getElem?_eq_some_iff.1 hk).1; omega)).trans hk⟩
theorem New.toBelow {w w' : World} (h : New w w') : Below w.heap.size w w' :=
  ⟨h.os, h.tape, h.output, h.size, fun k hk => by
    rw [Array.getElem?_eq_getElem hk]; exact h.block k _ (Array.getElem?_eq_getElem hk) (.inl id)⟩
theorem Mods.heap {S : Nat → Prop} {w w' : World} (h : Mods S w w') {k : Nat} {o : Obj} (hk : w.heap[k]? = some o) (hS : ¬ S k) : w'.heap[k]? = some o := h.block k o hk (.inl hS)
theorem Mods.cell {S : Nat → Prop} {w w' : World} (h : Mods S w w') {p : Addr} {v : Value} (hc : w.cell? p = some v) (hS : ¬ S p.block) : w'.cell? p = some v := by
  obtain ⟨o, ho, _⟩ := cells_of_cell hc
  exact (World.cell?_of_block (w := w) ((h.block _ o ho (.inl hS)).trans ho.symm)).trans hc
theorem Mods.frozen {S : Nat → Prop} {w w' : World} (h : Mods S w w') {p : Addr} {v : Value} (hc : w.cell? p = some v) (hS : ¬ S p.block) : w'.frozen? p = w.frozen? p := by
  obtain ⟨o, ho, _⟩ := cells_of_cell hc
  exact World.frozen?_of_block (w := w) ((h.block _ o ho (.inl hS)).trans ho.symm)
theorem Mods.boxed {S : Nat → Prop} {w w' : World} (h : Mods S w w') {B : Nat} {t : TypeId} {v : Value} (hb : Boxed w B t v) (hS : ¬ S B) : Boxed w' B t v := h.block B _ hb (.inl hS)
theorem Mods.ownsRow {S : Nat → Prop} {w w' : World} (h : Mods S w w') {base : Nat} {e : TypeId} {size : Nat} {v : Value} {n : Nat} {xs : List Value} (hr : w.ownsRow base e size v n xs) (hS : ∀ g, v.ownBlock = some g → ¬ S g) : w'.ownsRow base e size v n xs := by
  refine ⟨hr.1, hr.2.imp id ?_⟩
  rintro ⟨g, cap, cur, rfl, hb, hg, r⟩
  exact ⟨g, cap, cur, rfl, hb, h.heap hg (hS g rfl), r⟩

/-- A step that keeps all cells, and whatever lies below B. -/
structure Quiet (B : Nat) (w w' : World) : Prop where
  os : w'.os = w.os
  tape : w'.tape = w.tape
  output : w'.output = w.output
  size : w.heap.size ≤ w'.heap.size
  block : ∀ k o, w.heap[k]? = some o → (k < B ∨ o.isCells = true) → w'.heap[k]? = some o
theorem New.quiet {w w' : World} (h : New w w') (B : Nat) : Quiet B w w' := ⟨h.os, h.tape, h.output, h.size, fun k o hk _ => h.block k o hk (.inl id)⟩
theorem Quiet.putObj {B : Nat} {w : World} {l : Nat} {o : Obj} (o' : Obj) (hl : w.heap[l]? = some o) (ho : o.isCells = false) (hB : B ≤ l) : Quiet B w (w.putObj l o') :=
  ⟨rfl, rfl, rfl, by simp, fun k ok hk h => by
    have : k ≠ l := by
      intro e; subst e
      rw [hl] at hk; cases hk
      rcases h with h | h
      · omega
      · rw [ho] at h; cases h
    exact (World.putObj_heap_other this).trans hk⟩

/-- What such a step keeps. -/
def Stab (B : Nat) (p : World → Prop) : Prop := ∀ W W', p W → Quiet B W W' → p W'
theorem Stab.and {B : Nat} {p q : World → Prop} (hp : Stab B p) (hq : Stab B q) : Stab B (fun W => p W ∧ q W) := fun W W' h k => ⟨hp W W' h.1 k, hq W W' h.2 k⟩
theorem Stab.or {B : Nat} {p q : World → Prop} (hp : Stab B p) (hq : Stab B q) : Stab B (fun W => p W ∨ q W) := fun W W' h k => h.imp (fun h => hp W W' h k) (fun h => hq W W' h k)
theorem Stab.ex {B : Nat} {α : Sort _} {p : α → World → Prop} (hp : ∀ x, Stab B (p x)) : Stab B (fun W => ∃ x, p x W) := fun W W' ⟨x, h⟩ k => ⟨x, hp x W W' h k⟩
theorem Stab.pure {B : Nat} (c : Prop) : Stab B (fun _ => c) := fun _ _ h _ => h
theorem Stab.boxed {B : Nat} (b : Nat) (t : TypeId) (v : Value) : Stab B (fun W => Boxed W b t v) := fun _ _ h k => k.block b _ h (.inr rfl)
theorem Stab.cell {B : Nat} (p : Addr) (v : Value) : Stab B (fun W => W.cell? p = some v) := fun W W' h k => by
  obtain ⟨o, ho, hc⟩ := cells_of_cell h
  exact (World.cell?_of_block (w := W) ((k.block _ o ho (.inr hc)).trans ho.symm)).trans h
theorem Stab.ownsRow {B : Nat} (base : Nat) (e : TypeId) (size : Nat) (v : Value) (n : Nat) (xs : List Value) : Stab B (fun W => W.ownsRow base e size v n xs) := fun W W' hr k => by
  refine ⟨hr.1, hr.2.imp id ?_⟩
  rintro ⟨g, cap, cur, rfl, hb, hg, r⟩
  exact ⟨g, cap, cur, rfl, hb, k.block g _ hg (.inr rfl), r⟩
theorem Stab.mods {B : Nat} {S : Nat → Prop} {w : World} (hB : w.heap.size ≤ B) : Stab B (fun W => Mods S w W) := fun W W' h k =>
  ⟨k.os.trans h.os, k.tape.trans h.tape, k.output.trans h.output, Nat.le_trans h.size k.size, fun i o hi ho =>
    k.block i o (h.block i o hi ho) (.inl (by have := (Array.getElem?_eq_some_iff.1 hi).1; omega))⟩

/-- An iterator value: called in W with the yield of a loop it hands out the values of L, one by one, as long as the round asks for more; the rounds write the cells of blocks of S alone (and new ones). -/
def IterAt (P : Program) (g : Nat) (lb : Array Value) (L : List (Array Value)) (S : Nat → Prop) (W : World) : Prop :=
  ∀ (l : Nat) (J Jx : Nat → World → Prop), (∀ k, ∀ A A', J k A → New A A' → J k A') → (∀ k, ∀ A A', Jx k A → New A A' → Jx k A') →
    (∀ k x W1, L[k]? = some x → J k W1 → Mods S W W1 → YieldAt Fence.wide 0 P l x W1 fun e W' =>
      (e = .returned (.bool true) ∧ J (k + 1) W' ∧ Mods S W1 W') ∨ (e = .returned (.bool false) ∧ Jx (k + 1) W')) →
    J 0 W →
    Calls P g (#[.func (.yield l) #[] #[]] ++ lb) W fun e W' => (∃ v, e = .returned v) ∧ (J L.length W' ∨ ∃ k, k ≤ L.length ∧ Jx k W')

/-- How a round's body may be left. -/
def roundQ (S : Nat → Prop) (I : Nat → World → Prop) (Ix : Code → Nat → World → Prop) (k : Nat) (W : World) : Exit → Act → World → Prop
  | .normal, _, W' => Mods S W W' ∧ I k W'
  | .ret, _, W' => Mods S W W' ∧ Ix .ret k W'
  | .exit id, _, W' => Mods S W W' ∧ Ix (.exit id) k W'
  | .goto t, _, W' => Mods S W W' ∧ Ix (.goto t) k W'
  | .panic _, _, _ => False
  | .outgrown, _, _ => False

variable {P : Program}


/-- What is no cells in A lies so in W. -/
def Others (A W : World) : Prop := ∀ (k : Nat) (o : Obj), A.heap[k]? = some o → o.isCells = false → W.heap[k]? = some o

/-- The walk's fence: nothing is asked of it; r: the loop in whose round the code runs. -/
abbrev Fr (r : Option Nat) : Fence := { Fence.wide with round := r }

theorem rangeList_core (r : Option Nat)
    {g : Operand} {ps : Array Tmp} {assign body : Code} {Q : Exit → Act → World → Prop} {a : Act} {w : World}
    {gf : Nat} {lb : Array Value} (hg : a.eval g = .func (.func gf) #[] lb) (eg : ∀ args w, (callFunc gf args).run P w = .ok (.enter gf args) w)
    (L : List (Array Value)) (S : Nat → Prop) (hit : ∀ W, New w W → IterAt P gf lb L S W) (hps : ∀ x ∈ L, x.size = ps.size)
    (W0 : World) (hW0 : New w W0) (mark : List Deferred) (d : Nat)
    (henter : ∀ fn, (Instr.enterLoop fn a.tmps ps assign body r).run P w = .ok (W0.heap.size, mark) (W0.alloc (.loop { state := .ready, pending := none, fn, tmps := a.tmps, params := ps, assign, body, defers := d })))
    (I : Nat → World → Prop) (Ix : Code → Nat → World → Prop) (hI : ∀ k, Stab w.heap.size (I k)) (hIx : ∀ c k, Stab w.heap.size (Ix c k)) (h0 : I 0 w)
    (hround : ∀ (l k : Nat) (x : Array Value) (W : World), L[k]? = some x → w.heap.size ≤ l → (∃ r, W.heap[l]? = some (.loop r)) → I k W →
      assign.wpIn (Fr (some l)) 0 P (Exit.then (fun a1 W1 => Mods S W W1 ∧ ∀ W2, Quiet w.heap.size W1 W2 → (∃ r, W2.heap[l]? = some (.loop r)) → body.wpIn (Fr (some l)) 0 P (roundQ S I Ix (k + 1) W2) a1 W2) (fun _ _ _ => False))
        { tmps := (ps.zip x).foldl (fun t (p, v) => t.setIfInBounds p v) a.tmps, defers := [] } W)
    (hdone : ∀ W, I L.length W → Others W0 W → Q .normal { a with defers := mark ++ a.defers } W)
    (hstop : ∀ c k W, k ≤ L.length → Ix c k W → Others W0 W → c.wpIn (Fr r) 0 P Q { a with defers := mark ++ a.defers } W) :
    (Code.rangeFunc g ps assign body).wpIn (Fr r) 0 P Q a w := by
  refine wpIn_rangeFunc ?_
  intro fn _
  obtain ⟨rec, hrec⟩ : ∃ rec : LoopState → Option Code → Loop, rec = fun st pe => { state := st, pending := pe, fn, tmps := a.tmps, params := ps, assign, body, defers := d } := ⟨_, rfl⟩
  obtain ⟨W1, hW1⟩ : ∃ W1, W0.alloc (.loop (rec .ready none)) = W1 := ⟨_, rfl⟩
  obtain ⟨l, hl0⟩ : ∃ l, W0.heap.size = l := ⟨_, rfl⟩
  have hL1 : W1.heap[l]? = some (.loop (rec .ready none)) := by rw [← hW1, ← hl0]; exact World.alloc_heap_new W0 _
  have hN1 : New w W1 := by rw [← hW1]; exact hW0.alloc _
  have hwl : w.heap.size ≤ l := by rw [← hl0]; exact hW0.size
  have hC1 : Others W0 W1 := fun k o hk _ => by
    rw [← hW1]; exact (Below.heap_alloc W0 _ k (Array.getElem?_eq_some_iff.1 hk).1).trans hk
  refine ⟨l, mark, W1, { target := .fn (.func gf) lb, args := #[.func (.yield l) #[] #[]] }, W1, gf,
    #[.func (.yield l) #[] #[]] ++ lb, W1, ?_, ?_, fun _ _ => trivial, ?_, fun h => by simp [Fence.wide] at h, ?_⟩
  · rw [← hW1, hrec, ← hl0]; exact henter fn
  · simp only [resolve, hg]
    simp [go_sem]
  · simp [invoke, go_sem, eg]
  · have hlW0 : ∀ {k : Nat} {o : Obj}, W0.heap[k]? = some o → k ≠ l := fun hk => by have := (Array.getElem?_eq_some_iff.1 hk).1; omega
    have hput : ∀ (W : World) (o : Obj), Others W0 W → Others W0 (W.putObj l o) := fun W o h k o' hk ho =>
      (World.putObj_heap_other (hlW0 hk)).trans (h k o' hk ho)
    refine Calls.mono (R := fun e W' => (∃ v, e = .returned v) ∧
        ((I L.length W' ∧ W'.heap[l]? = some (.loop (rec .ready none)) ∧ Others W0 W') ∨
          ∃ k, k ≤ L.length ∧ ∃ c, Ix c k W' ∧ W'.heap[l]? = some (.loop (rec .done (some c))) ∧ Others W0 W')) ?_ ?_ |> callsIn_wide.2
    · refine hit W1 hN1 l
        (fun k W => I k W ∧ W.heap[l]? = some (.loop (rec .ready none)) ∧ Others W0 W)
        (fun k W => ∃ c, Ix c k W ∧ W.heap[l]? = some (.loop (rec .done (some c))) ∧ Others W0 W)
        (fun k A A' h hn => ⟨hI k A A' h.1 (hn.quiet _), hn.heap h.2.1 id, fun j o hj ho => hn.heap (h.2.2 j o hj ho) id⟩)
        (fun k A A' h hn => by
          obtain ⟨c, h1, h2, h3⟩ := h
          exact ⟨c, hIx c k A A' h1 (hn.quiet _), hn.heap h2 id, fun j o hj ho => hn.heap (h3 j o hj ho) id⟩)
        ?_ ⟨hI 0 w W1 h0 (hN1.quiet _), hL1, hC1⟩
      rintro k x W hx ⟨hi, hl, hk⟩ _
      have hy := run_yield (P := P) (args := x) hl (by rw [hrec]; exact hps x (List.mem_of_getElem? hx))
      rw [hrec] at hy
      refine ⟨fn, _, assign, body, hy, roundIn_of_wpIn trivial (wpIn_mono (hround l k x W hx hwl ⟨_, hl⟩ hi) ?_)⟩
      clear hy
      rintro e a1 Wa he
      cases e with
      | normal =>
        obtain ⟨hma, hb⟩ := he
        have hla := hma.block _ _ hl (.inr rfl)
        have hka : Others W0 Wa := fun j o hj ho => hma.block _ _ (hk j o hj ho) (.inr ho)
        have hlt : l < Wa.heap.size := (Array.getElem?_eq_some_iff.1 hla).1
        refine ⟨_, run_beginRound hla (by rw [hrec]), ?_⟩
        obtain ⟨Wb, hWb⟩ : ∃ Wb, Wa.putObj l (.loop { rec .ready none with state := .busy }) = Wb := ⟨_, rfl⟩
        have hl2 : Wb.heap[l]? = some (.loop { rec .ready none with state := .busy }) := by rw [← hWb]; exact World.putObj_heap_same hlt
        have hk2 : Others W0 Wb := by rw [← hWb]; exact hput _ _ hka
        have hqb : Quiet w.heap.size Wa Wb := by rw [← hWb]; exact Quiet.putObj _ hla rfl hwl
        rw [hWb]
        refine wpIn_mono (hb Wb hqb ⟨_, hl2⟩) ?_
        have fin : ∀ (jump : Option Code) (W3 : World), Mods S Wb W3 →
            (Instr.endRound l jump).run P W3 = .ok (.bool jump.isNone) (W3.putObj l (.loop (rec (if jump.isNone then .ready else .done) jump))) ∧
            W3.heap[l]? = some (.loop { rec .ready none with state := .busy }) ∧
            (W3.putObj l (.loop (rec (if jump.isNone then .ready else .done) jump))).heap[l]? = some (.loop (rec (if jump.isNone then .ready else .done) jump)) ∧
            Others W0 (W3.putObj l (.loop (rec (if jump.isNone then .ready else .done) jump))) := fun jump W3 hm3 => by
          have hl3 := hm3.block _ _ hl2 (.inr rfl)
          have := run_endRound (P := P) jump hl3
          rw [hrec] at this ⊢
          exact ⟨this, by rw [hrec] at hl3; exact hl3, World.putObj_heap_same (Array.getElem?_eq_some_iff.1 hl3).1, hput _ _ fun j o hj ho => hm3.block _ _ (hk2 j o hj ho) (.inr ho)⟩
        rintro e a3 W3 hp
        cases e with
        | normal =>
          obtain ⟨hm3, hi3⟩ := hp
          obtain ⟨hr, hl3, hl4, hk4⟩ := fin none W3 hm3
          refine ⟨_, _, hr, .inl ⟨rfl, ⟨hI _ _ _ hi3 (Quiet.putObj _ hl3 rfl hwl), hl4, hk4⟩, ?_⟩⟩
          refine ⟨(hm3.os.trans hqb.os).trans hma.os, (hm3.tape.trans hqb.tape).trans hma.tape, (hm3.output.trans hqb.output).trans hma.output, ?_, ?_⟩
          · simp only [World.putObj_size]; exact Nat.le_trans hma.size (Nat.le_trans hqb.size hm3.size)
          · intro j o hj ho
            by_cases e : j = l
            · subst e; rw [hl] at hj; cases hj; exact hl4
            · refine (World.putObj_heap_other e).trans (hm3.block _ _ ?_ ho)
              rw [← hWb]; exact (World.putObj_heap_other e).trans (hma.block _ _ hj ho)
        | ret =>
          obtain ⟨hm3, hi3⟩ := hp
          obtain ⟨hr, hl3, hl4, hk4⟩ := fin (some .ret) W3 hm3
          exact ⟨_, _, hr, .inr ⟨rfl, .ret, hIx _ _ _ _ hi3 (Quiet.putObj _ hl3 rfl hwl), hl4, hk4⟩⟩
        | exit id =>
          obtain ⟨hm3, hi3⟩ := hp
          obtain ⟨hr, hl3, hl4, hk4⟩ := fin (some (.exit id)) W3 hm3
          exact ⟨_, _, hr, .inr ⟨rfl, .exit id, hIx _ _ _ _ hi3 (Quiet.putObj _ hl3 rfl hwl), hl4, hk4⟩⟩
        | goto t =>
          obtain ⟨hm3, hi3⟩ := hp
          obtain ⟨hr, hl3, hl4, hk4⟩ := fin (some (.goto t)) W3 hm3
          exact ⟨_, _, hr, .inr ⟨rfl, .goto t, hIx _ _ _ _ hi3 (Quiet.putObj _ hl3 rfl hwl), hl4, hk4⟩⟩
        | panic ch => exact hp.elim
        | outgrown => exact hp.elim
      | exit id => exact he.elim
      | goto t => exact he.elim
      | ret => exact he.elim
      | panic ch => exact he.elim
      | outgrown => exact he.elim
    · rintro e W2 ⟨⟨v, rfl⟩, (⟨hi, hl, hk⟩ | ⟨k, hkl, c, hi, hl, hk⟩)⟩
      · exact ⟨none, _, by have := run_endLoop (P := P) hl (by rw [hrec]; simp); rw [hrec] at this; exact this, hdone _ (hI _ _ _ hi (Quiet.putObj _ hl rfl hwl)) (hput _ _ hk)⟩
      · exact ⟨some c, _, by have := run_endLoop (P := P) hl (by rw [hrec]; simp); rw [hrec] at this; exact this, hstop c k _ hkl (hIx _ _ _ _ hi (Quiet.putObj _ hl rfl hwl)) (hput _ _ hk)⟩
end Go.Cs

namespace Go.Cs
open Go.RowKit
variable {P : Program}

/-- A range over a function whose values are known, at a function's own level. -/
theorem wp_rangeList {α : Type} {g : Operand} {ps : Array Tmp} {assign body : Code} {Q : Exit → Act → World → Prop} {a : Act} {w : World}
    {gf : Nat} {lb : Array Value} (hg : a.eval g = .func (.func gf) #[] lb) (eg : ∀ args w, (callFunc gf args).run P w = .ok (.enter gf args) w)
    (xs : List α) (enc : α → Array Value) (S : Nat → Prop) (hit : ∀ W, New w W → IterAt P gf lb (xs.map enc) S W) (hps : ∀ x, (enc x).size = ps.size)
    (I : Nat → World → Prop) (Ix : Code → Nat → World → Prop) (hI : ∀ k, Stab w.heap.size (I k)) (hIx : ∀ c k, Stab w.heap.size (Ix c k)) (h0 : I 0 w) (upd : α → Array Value → Array Value)
    (hassign : ∀ (l : Nat) (x : α) (W : World) (K : Act → World → Prop), K { tmps := upd x a.tmps, defers := [] } W →
      assign.wpIn (Fr (some l)) 0 P (Exit.then K (fun _ _ _ => False)) { tmps := (ps.zip (enc x)).foldl (fun t (p, v) => t.setIfInBounds p v) a.tmps, defers := [] } W)
    (hbody : ∀ (l k : Nat) (x : α) (W : World), xs[k]? = some x → w.heap.size ≤ l → (∃ r, W.heap[l]? = some (.loop r)) → I k W → body.wpIn (Fr (some l)) 0 P (roundQ S I Ix (k + 1) W) { tmps := upd x a.tmps, defers := [] } W)
    (hdone : ∀ W, I xs.length W → W.heap[w.heap.size]? = some (.deferred (some [])) → Q .normal { a with defers := { target := .collected w.heap.size, args := #[] } :: a.defers } W)
    (hstop : ∀ c k W, k ≤ xs.length → Ix c k W → W.heap[w.heap.size]? = some (.deferred (some [])) → c.wp P Q { a with defers := { target := .collected w.heap.size, args := #[] } :: a.defers } W) :
    (Code.rangeFunc g ps assign body).wp P Q a w := by
  refine (wpIn_wide (n := 0)).1 ?_
  refine rangeList_core (P := P) none hg eg (xs.map enc) S hit ?_ (w.alloc (.deferred (some []))) ((Mods.refl _ _).alloc _) [{ target := .collected w.heap.size, args := #[] }] w.heap.size ?_ I Ix hI hIx h0 ?_ ?_ ?_
  · intro x hx
    obtain ⟨y, _, rfl⟩ := List.mem_map.1 hx
    exact hps y
  · intro fn
    rw [World.size_alloc]
    exact run_enterLoop_outer _ _ _ _ _
  · intro l k x W hx hl hr hi
    rw [List.getElem?_map] at hx
    obtain ⟨y, hy, rfl⟩ := Option.map_eq_some_iff.1 hx
    exact hassign l y W _ ⟨Mods.refl _ _, fun W2 hq hr2 => hbody l k y W2 hy hl hr2 (hI k W W2 hi hq)⟩
  · intro W hi ho
    rw [List.length_map] at hi
    exact hdone W hi (ho _ _ (World.alloc_heap_new w _) rfl)
  · intro c k W hk hi ho
    rw [List.length_map] at hk
    exact (wpIn_wide (n := 0)).2 (hstop c k W hk hi (ho _ _ (World.alloc_heap_new w _) rfl))

/-- The same, in a round of another such loop. -/
theorem wpIn_rangeList {α : Type} {l₀ : Nat} {g : Operand} {ps : Array Tmp} {assign body : Code} {Q : Exit → Act → World → Prop} {a : Act} {w : World}
    (hl₀ : ∃ r, w.heap[l₀]? = some (.loop r))
    {gf : Nat} {lb : Array Value} (hg : a.eval g = .func (.func gf) #[] lb) (eg : ∀ args w, (callFunc gf args).run P w = .ok (.enter gf args) w)
    (xs : List α) (enc : α → Array Value) (S : Nat → Prop) (hit : ∀ W, New w W → IterAt P gf lb (xs.map enc) S W) (hps : ∀ x, (enc x).size = ps.size)
    (I : Nat → World → Prop) (Ix : Code → Nat → World → Prop) (hI : ∀ k, Stab w.heap.size (I k)) (hIx : ∀ c k, Stab w.heap.size (Ix c k)) (h0 : I 0 w) (upd : α → Array Value → Array Value)
    (hassign : ∀ (l : Nat) (x : α) (W : World) (K : Act → World → Prop), K { tmps := upd x a.tmps, defers := [] } W →
      assign.wpIn (Fr (some l)) 0 P (Exit.then K (fun _ _ _ => False)) { tmps := (ps.zip (enc x)).foldl (fun t (p, v) => t.setIfInBounds p v) a.tmps, defers := [] } W)
    (hbody : ∀ (l k : Nat) (x : α) (W : World), xs[k]? = some x → w.heap.size ≤ l → (∃ r, W.heap[l]? = some (.loop r)) → I k W → body.wpIn (Fr (some l)) 0 P (roundQ S I Ix (k + 1) W) { tmps := upd x a.tmps, defers := [] } W)
    (hdone : ∀ W, I xs.length W → Others w W → Q .normal a W)
    (hstop : ∀ c k W, k ≤ xs.length → Ix c k W → Others w W → c.wpIn (Fr (some l₀)) 0 P Q a W) :
    (Code.rangeFunc g ps assign body).wpIn (Fr (some l₀)) 0 P Q a w := by
  obtain ⟨r, hr⟩ := hl₀
  refine rangeList_core (P := P) (some l₀) hg eg (xs.map enc) S hit ?_ w (Mods.refl _ _) [] r.defers ?_ I Ix hI hIx h0 ?_ ?_ ?_
  · intro x hx
    obtain ⟨y, _, rfl⟩ := List.mem_map.1 hx
    exact hps y
  · intro fn
    exact run_enterLoop_inner hr _ _ _ _ _
  · intro l k x W hx hl hr hi
    rw [List.getElem?_map] at hx
    obtain ⟨y, hy, rfl⟩ := Option.map_eq_some_iff.1 hx
    exact hassign l y W _ ⟨Mods.refl _ _, fun W2 hq hr2 => hbody l k y W2 hy hl hr2 (hI k W W2 hi hq)⟩
  · intro W hi ho
    rw [List.length_map] at hi
    exact hdone W hi ho
  · intro c k W hk hi ho
    rw [List.length_map] at hk
    exact hstop c k W hk hi ho

/-- A function that holds ranges over functions, by its body's walk. -/
theorem calls_of_marks {f : FuncId} {fn : Func} {c : Code} {args : Array Value} {w : World} {R : Ending → World → Prop}
    (hf : P.funcs[f]? = some fn) (hb : fn.body = some c)
    (h : c.wp P (bodyPostM Fence.wide 0 P fn R) { tmps := args ++ Array.replicate (fn.ntmps - args.size) undef, defers := [] } w) : Calls P f args w R :=
  callsIn_wide.1 (callsIn_of_wp_marks (F := Fence.wide) (n := 0) hf hb trivial ((wpIn_wide (n := 0)).2 h))

/-- Its way out, behind one such loop. -/
theorem marks_one {fn : Func} {R : Ending → World → Prop} {a : Act} {W : World} {D : Nat} {v : Value} (hd : a.defers = [{ target := .collected D, args := #[] }])
    (hD : W.heap[D]? = some (.deferred (some []))) (hv : (results fn a.tmps).run P (W.putObj D (.deferred none)) = .ok v (W.putObj D (.deferred none))) (hR : R (.returned v) (W.putObj D (.deferred none))) :
    LeavesInM Fence.wide 0 P fn a.tmps R a.defers .returning W := by
  rw [hd]
  exact ⟨by simp, .inl ⟨_, _, rfl, run_takeDeferred hD, v, hv, hR⟩⟩
/-- Behind none. -/
theorem marks_none {fn : Func} {R : Ending → World → Prop} {a : Act} {W : World} {v : Value} (hd : a.defers = [])
    (hv : (results fn a.tmps).run P W = .ok v W) (hR : R (.returned v) W) :
    LeavesInM Fence.wide 0 P fn a.tmps R a.defers .returning W := by
  rw [hd]
  exact ⟨v, hv, hR⟩
theorem Mods.putObj {S : Nat → Prop} {w W : World} (h : Mods S w W) {D : Nat} (hD : w.heap.size ≤ D) (o : Obj) : Mods S w (W.putObj D o) :=
  ⟨h.os, h.tape, h.output, by simpa using h.size, fun k o' hk ho => (World.putObj_heap_other (by have := (Array.getElem?_eq_some_iff.1 hk).1; omega)).trans (h.block k o' hk ho)⟩
end Go.Cs

namespace Go.Cs
open Go.RowKit
variable {P : Program}
/-- A scope whose jumps all go forward, to one label. -/
theorem wp_scope_fwd {a : Act} {w : World} {Q : Exit → Act → World → Prop} {c rest : Code} (l : Nat) (J : Act → World → Prop) (hf : findLabel c l = some rest)
    (first : c.wp P (Exit.jump l J Q) a w) (pass : ∀ a w, J a w → rest.wp P (Exit.noGoto Q) a w) : (Code.scope c).wp P Q a w :=
  wp_scope_jumps l J (fun _ _ => 0) hf first fun a w h => wp_mono (pass a w h) fun e a' w' hq => by
    cases e with
    | goto l' => exact absurd hq (by simp [Exit.noGoto])
    | _ => exact hq
theorem jump_goto {l : Nat} {J : Act → World → Prop} {Q : Exit → Act → World → Prop} {a : Act} {w : World} (h : J a w) : Exit.jump l J Q (.goto l) a w := ⟨rfl, h⟩
end Go.Cs

namespace Go.Cs
open Go.RowKit
variable {P : Program}
/-- A call in a round, by the callee's contract. -/
theorem at_round {r : Option Nat} {k : FuncId} {args : Array Value} {w : World} {R R' : Ending → World → Prop} (h : Calls P k args w R') (hr : ∀ e w', R' e w' → R e w') :
    Fence.wide.fn k ∧ Fence.wide.depth = none ∧ CallsIn (Fr r) 0 P k args w R := ⟨trivial, rfl, (callsIn_wide (n := 0)).2 (h.mono hr)⟩
end Go.Cs

namespace Go.Cs
open Go.RowKit
theorem boxed1 (w : World) (o : Obj) (t : TypeId) (v : Value) : Boxed ((w.alloc o).alloc (.cells #[v] t)) (w.heap.size + 1) t v := by
  have := Boxed.new (w.alloc o) t v; rwa [World.size_alloc] at this
theorem boxed2 (w : World) (o o' : Obj) (t : TypeId) (v : Value) : Boxed (((w.alloc o).alloc o').alloc (.cells #[v] t)) (w.heap.size + 1 + 1) t v := by
  have := boxed1 (w.alloc o) o' t v; rwa [World.size_alloc] at this
theorem boxed3 (w : World) (o o' o'' : Obj) (t : TypeId) (v : Value) : Boxed ((((w.alloc o).alloc o').alloc o'').alloc (.cells #[v] t)) (w.heap.size + 1 + 1 + 1) t v := by
  have := boxed2 (w.alloc o) o' o'' t v; rwa [World.size_alloc] at this
/-- What the walk asks of a box. -/
theorem _root_.Go.Boxed.both {W : World} {B : Nat} {t : TypeId} {v : Value} (h : Boxed W B t v) : W.cell? ⟨B, 0, none⟩ = some v ∧ W.frozen? ⟨B, 0, none⟩ = false := ⟨h.cell, h.frozen⟩
end Go.Cs
/- Regions whose order is open: what yields one value in whatever world is taken first; an append to a row of the call's own. -/
namespace Go.Cs
open Go.RowKit

variable {P : Program} {ops : Array Oper} {Q : Exit → Act → World → Prop} {md : Region.Mode} {r : Option Nat}

def plainOp (o : Oper) : Bool := match o.op with | .select .. => false | .defer _ => false | _ => true

theorem plainOp_sel {o : Oper} (h : plainOp o = true) : ∀ cs b, o.op ≠ .select cs b := fun cs b e => by simp [plainOp, e] at h
theorem plainOp_def {o : Oper} (h : plainOp o = true) : ∀ c, o.op ≠ .defer c := fun c e => by simp [plainOp, e] at h

theorem semAt_plain {o : Oper} (h : plainOp o = true) (F : Option Nat) (ev : Operand → Value) : o.semAt F ev = execOp ev o := by
  cases F with
  | none => exact Oper.semAt_none _ _
  | some l => exact Oper.semAt_eq _ _ _ (fun c e => absurd e (plainOp_def h c))

/-- It yields v in whatever world, and leaves that as it is. -/
def Sure (P : Program) (ops : Array Oper) (o : Oper) (v : Value) (a : Act) : Prop := ∀ w, YieldsAt P ops w o v a

theorem Sure.of_same {o : Oper} {v : Value} {a a' : Act} (hy : Sure P ops o v a) (he : execOp a'.eval o = execOp a.eval o)
    (hw : Region.wanted o (yielded ops a'.tmps) = Region.wanted o (yielded ops a.tmps)) : Sure P ops o v a' := fun w => (hy w).of_same he hw

theorem Sure.opIn {i : Nat} {o : Oper} {v : Value} {a : Act} (hp : plainOp o = true) (hi : ops[i]? = some o) (hy : Sure P ops o v a)
    {K : Act → World → Prop} {w : World} (h : K (a.put o.dst v) w) : wpOpIn (Fr r) 0 P ops Q i K a w := by
  unfold Go.wpOpIn
  simp only [hi]
  rcases hy w with ⟨hw, hv⟩ | ⟨hw, rfl⟩
  · simp only [hw, if_true, Oper.wpIn, semAt_plain hp]
    refine ⟨fun _ _ => trivial, ?_⟩
    rcases hv with hv | ⟨hv, rfl⟩ | ⟨f, args, hv, hc⟩
    · rw [hv]; exact h
    · rw [hv]; exact h
    · rw [hv]
      refine ⟨fun h => by simp [Fence.wide] at h, (callsIn_wide (n := 0)).2 (hc.mono ?_)⟩
      rintro e w' ⟨rfl, rfl⟩
      exact h
  · simp only [hw, Bool.false_eq_true, if_false]; exact ⟨fun _ _ => trivial, h⟩

theorem opIn_put {j : Nat} {oi oj : Oper} {v : Value} (hj : ops[j]? = some oj) (hap : oi.apart ops oj = true) (hpi : plainOp oi = true) (hpj : plainOp oj = true)
    (hQ : ∀ c a w, Q (.panic c) (a.put oi.dst v) w → Q (.panic c) a w) {K : Act → World → Prop} {a : Act} {w : World}
    (hy : Sure P ops oi v a) (h : wpOpIn (Fr r) 0 P ops Q j K (a.put oi.dst v) w) :
    wpOpIn (Fr r) 0 P ops Q j (fun a' w' => Sure P ops oi v a' ∧ K (a'.put oi.dst v) w') a w := by
  obtain ⟨h1, h2, h3⟩ := Oper.apart_spec hap
  have hsi := plainOp_sel hpi
  have hsj := plainOp_sel hpj
  have keep : ∀ (a : Act), Sure P ops oi v a → ∀ u, Sure P ops oi v (a.put oj.dst u) := fun a hy u =>
    hy.of_same (execOp_put oi hsi a oj.dst u h3) (wanted_put oi a oj.dst u h3)
  have keepD : ∀ d, Sure P ops oi v { a with defers := d :: a.defers } := fun d => hy.of_same rfl rfl
  unfold wpOpIn at *
  simp only [hj] at *
  rw [wanted_put oj a oi.dst v h1, about_put oj w a oi.dst v h1] at h
  split
  · rename_i hw
    simp only [hw, if_true] at h
    unfold Oper.wpIn at *
    rw [about_put oj w a oi.dst v h1] at h
    refine ⟨h.1, ?_⟩
    have h := h.2
    rw [semAt_plain hpj, execOp_put oj hsj a oi.dst v h1] at h
    rw [semAt_plain hpj]
    generalize (execOp a.eval oj).run P w = r at *
    cases r with
    | ok x w' =>
      cases x <;> simp only [Oper.uponIn] at h ⊢
      case value u => exact ⟨keep a hy u, by rw [← Act.put_comm a v u h2]; exact h⟩
      case skip => exact ⟨keep a hy _, by rw [← Act.put_comm a v undef h2]; exact h⟩
      case defer d =>
        refine ⟨keep _ (keepD d) _, ?_⟩
        rw [← Act.put_comm _ v undef h2, ← Act.put_defers]
        exact h
      case enter f args =>
        refine ⟨h.1, CallsIn.mono h.2 fun e w'' he => ?_⟩
        cases e with
        | returned u => exact ⟨keep a hy u, by rw [← Act.put_comm a v u h2]; exact he⟩
        | panicked c => exact hQ _ _ _ he
        | outgrown => exact he
      case row row args => exact ⟨h.1, RowsIn.mono h.2 fun u w'' he => ⟨keep a hy u, by rw [← Act.put_comm a v u h2]; exact he⟩⟩
      case round l f tmps assign body =>
        refine ⟨h.1, RoundIn.mono h.2 fun e w'' he => ?_⟩
        cases e with
        | returned u => exact ⟨keep a hy u, by rw [← Act.put_comm a v u h2]; exact he⟩
        | panicked c => exact hQ _ _ _ he
        | outgrown => exact he
    | halt x w' =>
      cases x <;> simp only [Oper.uponIn] at h ⊢
      case panic u => exact hQ _ _ _ h
  · rename_i hw
    simp only [hw] at h
    exact ⟨h.1, keep a hy _, by rw [← Act.put_comm a v undef h2]; exact h.2⟩

theorem any_first {i : Nat} {oi : Oper} {v : Value} (hi : ops[i]? = some oi) (hpl : ∀ (j : Nat) (o : Oper), ops[j]? = some o → plainOp o = true)
    (hQ : ∀ c a w, Q (.panic c) (a.put oi.dst v) w → Q (.panic c) a w) :
    ∀ (fuel : Nat) (listed : Array Bool) (a : Act) (w : World),
      (∀ j oj, ops[j]? = some oj → j ≠ i → listed.getD j true = false → (∀ e ∈ oj.after, Region.binds md e = true → e.on ≠ i) → oi.apart ops oj = true) →
      i ∈ Region.ready md ops listed → Sure P ops oi v a →
      wpAnyIn (Fr r) 0 P md ops Q fuel (listed.setIfInBounds i true) (a.put oi.dst v) w → wpAnyIn (Fr r) 0 P md ops Q (fuel + 1) listed a w := by
  intro fuel
  induction fuel with
  | zero =>
    intro listed a w _ hr hy H
    refine ⟨fun h => (by rw [h] at hr; cases hr), fun j hj => ?_⟩
    by_cases hji : j = i
    · subst hji; exact hy.opIn (hpl _ _ hi) hi H
    · have := ready_mono hj hji
      rw [H.1] at this
      cases this
  | succ fuel ih =>
    intro listed a w hfree hr hy H
    refine ⟨fun h => (by rw [h] at hr; cases hr), fun j hj => ?_⟩
    by_cases hji : j = i
    · subst hji; exact hy.opIn (hpl _ _ hi) hi H
    · have h1 := H.2 j (ready_mono hj hji)
      obtain ⟨hjun, oj, hoj, hall⟩ := mem_ready.1 hj
      have hnot : ∀ e ∈ oj.after, Region.binds md e = true → e.on ≠ i := fun e he hb heq => by
        have h1 := hall e he hb
        have h0 := (mem_ready.1 hr).1
        rw [heq] at h1
        rcases Nat.lt_or_ge i listed.size with h' | h'
        · simp [h'] at h0 h1; rw [h0] at h1; cases h1
        · simp [Array.getElem?_eq_none h'] at h1
      have h2 := opIn_put hoj (hfree j oj hoj hji hjun hnot) (hpl i oi hi) (hpl j oj hoj) hQ hy h1
      have hfree' : ∀ k ok, ops[k]? = some ok → k ≠ i → (listed.setIfInBounds j true).getD k true = false →
          (∀ e ∈ ok.after, Region.binds md e = true → e.on ≠ i) → oi.apart ops ok = true := fun k ok hk hki hun hno => by
        refine hfree k ok hk hki ?_ hno
        by_cases hjk : j = k
        · subst hjk; exact hjun
        · rw [getD_set_ne true hjk] at hun; exact hun
      refine wpOpIn_mono (fun a' w' h3 => ih (listed.setIfInBounds j true) a' w' hfree' (ready_mono hr (Ne.symm hji)) h3.1 ?_) h2
      rw [Array.setIfInBounds_comm _ _ hji]
      exact h3.2

/-- An operation that yields v in whatever world goes first. -/
theorem any_take (i : Nat) {oi : Oper} (d : Option Tmp) (v : Value) {fuel : Nat} {listed : Array Bool} {a : Act} {w : World} (hi : ops[i]? = some oi) (hd : oi.dst = d)
    (hpl : ops.all plainOp = true) (hf : Region.free md ops listed i = true) (hr : (Region.ready md ops listed).contains i = true)
    (hQ : ∀ c a w, Q (.panic c) (a.put d v) w → Q (.panic c) a w) (hy : Sure P ops oi v a)
    (h : wpAnyIn (Fr r) 0 P md ops Q fuel (listed.setIfInBounds i true) (a.put d v) w) : wpAnyIn (Fr r) 0 P md ops Q (fuel + 1) listed a w := by
  subst hd
  exact any_first hi (fun j o hj => by
    rw [Array.all_eq_true] at hpl
    obtain ⟨hlt, rfl⟩ := Array.getElem?_eq_some_iff.1 hj
    exact hpl j hlt) hQ fuel listed a w (Region.free_spec hi hf) (by simpa using hr) hy h

/-- A value, reckoned. -/
theorem Sure.value {o : Oper} {v : Value} {a : Act} (hg : o.guard = none) (h : ∀ w, (execOp a.eval o).run P w = .ok (.value v) w) : Sure P ops o v a :=
  fun w => .inl ⟨by simp [Region.wanted, hg], .inl (h w)⟩
/-- A call that leaves the world as it is. -/
theorem Sure.call {o : Oper} {v : Value} {a : Act} (hg : o.guard = none) (f : FuncId) (args : Array Value) (h : ∀ w, (execOp a.eval o).run P w = .ok (.enter f args) w)
    (hc : ∀ w, Calls P f args w fun e w' => e = .returned v ∧ w = w') : Sure P ops o v a :=
  fun w => .inl ⟨by simp [Region.wanted, hg], .inr (.inr ⟨f, args, h w, (hc w).mono fun _ _ h => ⟨h.1, h.2.symm⟩⟩)⟩

/-- One operation of a region, run. -/
theorem opIn_value {i : Nat} {o : Oper} (d : Option Tmp) {v : Value} {a : Act} {w w' : World} {K : Act → World → Prop} (hp : plainOp o = true) (hi : ops[i]? = some o) (hg : o.guard = none) (hd : o.dst = d)
    (h : (execOp a.eval o).run P w = .ok (.value v) w') (hK : K (a.put d v) w') : wpOpIn (Fr r) 0 P ops Q i K a w := by
  subst hd
  unfold Go.wpOpIn
  simp only [hi, Region.wanted, hg, if_true, Oper.wpIn, semAt_plain hp, h]
  exact ⟨fun _ _ => trivial, hK⟩
theorem opIn_skip {i : Nat} {o : Oper} (d : Option Tmp) {a : Act} {w w' : World} {K : Act → World → Prop} (hp : plainOp o = true) (hi : ops[i]? = some o) (hg : o.guard = none) (hd : o.dst = d)
    (h : (execOp a.eval o).run P w = .ok .skip w') (hK : K (a.put d undef) w') : wpOpIn (Fr r) 0 P ops Q i K a w := by
  subst hd
  unfold Go.wpOpIn
  simp only [hi, Region.wanted, hg, if_true, Oper.wpIn, semAt_plain hp, h]
  exact ⟨fun _ _ => trivial, hK⟩

/-- Where the row lies behind an append: where it lay, or in the next new block. -/
theorem append_block {base : Nat} {t ty e : TypeId} {i : TypeInfo} {z : Value} {size bytes : Nat} {w w' : World} {v v' : Value}
    (ht : P.underlying t = some (.slice e)) (hi : P.info? e = some i) (hz : i.zero = some z) (hsize : i.size = size) (hby : i.bytes = bytes)
    (n : Nat) (xs : List Value) (hown : w.ownsRow base e size v n xs)
    (ad : Addr) (m c : Nat) (news : List Value) (hl : news.length = m * size) (hnews : ∀ j u, news[j]? = some u → w.cell? (ad.add j) = some u) (h1 : ∀ u ∈ news, u.oneCell' = true)
    (h63 : n + m ≤ maxLen) (hbytes : (n + m) * bytes ≤ 140737488355328) (hm : m ≠ 0)
    (hr : (Builtin.append_ #[t, t] ty #[v, .slice (some ad) m c]).run P w = .ok v' w') : v'.ownBlock = v.ownBlock ∨ v'.ownBlock = some w.heap.size := by
  subst hsize hby
  have hs : n + m ≤ 9223372036854775807 := by simp only [maxLen] at h63; omega
  obtain ⟨hx, (⟨rfl, rfl⟩ | ⟨g, cap, cur, rfl, _, hg, hnc, _, hcs, _⟩)⟩ := hown
  · have hr' := run_append_nil (P := P) w t ty e i z ht hi hz ad m c news hl hnews (by omega) (by omega) (by simp at hbytes; omega)
    rw [hr] at hr'
    simp only [Result.ok.injEq] at hr'
    rw [hr'.1]
    exact .inr rfl
  · by_cases hroom : n + m ≤ cap
    · have hr' := run_append_room (P := P) w t ty e i ht hi g n cap cur hg ad m c news hl hnews h1 hroom (by rw [hl, hcs, ← Nat.add_mul]; exact Nat.mul_le_mul_right _ hroom)
      rw [hr] at hr'
      simp only [Result.ok.injEq] at hr'
      rw [hr'.1]
      exact .inl rfl
    · have hc : ∀ j u, xs[j]? = some u → w.cell? ((⟨g, 0, none⟩ : Addr).add j) = some u := (World.ownsRow.cells (w := w) (base := 0) (n := n) (v := .slice (some ⟨g, 0, none⟩) n cap) ⟨hx, .inr ⟨g, cap, cur, rfl, Nat.zero_le _, hg, hnc, by assumption, hcs, by assumption⟩⟩) rfl
      have hr' := run_append_grow (P := P) w t ty e i z ht hi hz ⟨g, 0, none⟩ n cap xs hx hc ad m c news hl hnews (by omega) (by omega) (growslice_fits (by omega) hbytes)
      rw [hr] at hr'
      simp only [Result.ok.injEq] at hr'
      rw [hr'.1]
      exact .inr rfl
/-- An append to a row of the call's own, run. -/
theorem run_append {base : Nat} {s x : Operand} {t e : TypeId} {i : TypeInfo} {z : Value} {size bytes : Nat} {o : Oper} {a : Act} {w : World}
    (hop : o.op = .call { callee := .builtin .append, args := #[s, x], argTypes := #[t, t] })
    (ht : P.underlying t = some (.slice e)) (hi : P.info? e = some i) (hz : i.zero = some z) (hsize : i.size = size) (hby : i.bytes = bytes) (hzs : z.cells.size = size) (hsz : 0 < size)
    (v : Value) (n : Nat) (xs : List Value) (hs : a.eval s = v) (hown : w.ownsRow base e size v n xs)
    (ad : Addr) (m c : Nat) (news : List Value) (hx : a.eval x = .slice (some ad) m c) (hl : news.length = m * size) (hnews : ∀ j u, news[j]? = some u → w.cell? (ad.add j) = some u) (h1 : ∀ u ∈ news, u.oneCell' = true)
    (h63 : n + m ≤ maxLen) (hbytes : (n + m) * bytes ≤ 140737488355328) (hbase : base ≤ w.heap.size) (hm : m ≠ 0) :
    ∃ v' w', (execOp a.eval o).run P w = .ok (.value v') w' ∧ w'.ownsRow base e size v' (n + m) (xs ++ news) ∧ w.grownBy w' v.ownBlock ∧ (v'.ownBlock = v.ownBlock ∨ v'.ownBlock = some w.heap.size) := by
  obtain ⟨v', w', hr, h2, h3, _⟩ := run_append_own (P := P) w base t o.type e i z size bytes ht hi hz hsize hby hzs hsz v n xs hown ad m c news hl hnews h1 h63 hbytes hbase
  refine ⟨v', w', ?_, h2, h3, append_block ht hi hz hsize hby n xs hown ad m c news hl hnews h1 h63 hbytes hm hr⟩
  simp [execOp, hop, resolve, invoke, builtin, hs, hx, hr, Result.andThen]

/-- The same, at an operation of a region. -/
theorem opIn_append {j : Nat} (d : Option Tmp) {base : Nat} {s x : Operand} {t e : TypeId} {i : TypeInfo} {z : Value} {size bytes : Nat} {o : Oper} {a : Act} {w : World} {K : Act → World → Prop} (hp : plainOp o = true) (hj : ops[j]? = some o) (hgd : o.guard = none) (hd : o.dst = d)
    (hop : o.op = .call { callee := .builtin .append, args := #[s, x], argTypes := #[t, t] })
    (ht : P.underlying t = some (.slice e)) (hi : P.info? e = some i) (hz : i.zero = some z) (hsize : i.size = size) (hby : i.bytes = bytes) (hzs : z.cells.size = size) (hsz : 0 < size)
    (v : Value) (n : Nat) (xs : List Value) (hs : a.eval s = v) (hown : w.ownsRow base e size v n xs)
    (ad : Addr) (m c : Nat) (news : List Value) (hx : a.eval x = .slice (some ad) m c) (hl : news.length = m * size) (hnews : ∀ j u, news[j]? = some u → w.cell? (ad.add j) = some u) (h1 : ∀ u ∈ news, u.oneCell' = true)
    (h63 : n + m ≤ maxLen) (hbytes : (n + m) * bytes ≤ 140737488355328) (hbase : base ≤ w.heap.size) (hm : m ≠ 0)
    (hK : ∀ v' w', w'.ownsRow base e size v' (n + m) (xs ++ news) → w.grownBy w' v.ownBlock → (v'.ownBlock = v.ownBlock ∨ v'.ownBlock = some w.heap.size) → K (a.put d v') w') : wpOpIn (Fr r) 0 P ops Q j K a w := by
  obtain ⟨v', w', hr, h2, h3, h4⟩ := run_append (P := P) hop ht hi hz hsize hby hzs hsz v n xs hs hown ad m c news hx hl hnews h1 h63 hbytes hbase hm
  exact opIn_value d hp hj hgd hd hr (hK v' w' h2 h3 h4)

/-- Eight rows of numbers, each in a block of its own, in an array variable. -/
def Own8 (n0 B : Nat) (T e : TypeId) (X : Nat → List Int) (W : World) : Prop :=
  ∃ vs : List Value, vs.length = 8 ∧ W.heap[B]? = some (.cells vs.toArray T (0, 0)) ∧
    (∀ u, u < 8 → W.ownsRow n0 e 1 (vs.getD u undef) (X u).length ((X u).map (Value.int .i64))) ∧
    (∀ u u' g, u < 8 → u' < 8 → (vs.getD u undef).ownBlock = some g → (vs.getD u' undef).ownBlock = some g → u = u')

theorem Own8.lt {n0 B : Nat} {T e : TypeId} {X : Nat → List Int} {W : World} (h : Own8 n0 B T e X W) : B < W.heap.size := by
  obtain ⟨vs, _, hb, _⟩ := h
  exact (Array.getElem?_eq_some_iff.1 hb).1

/-- No row lies in the array's own block, or in one that holds other cells. -/
theorem ownsRow_ne {W : World} {n0 g : Nat} {e t : TypeId} {v : Value} {n : Nat} {xs : List Value} {c : Array Value} {f : Nat × Nat} (h : W.ownsRow n0 e 1 v n xs) (hg : W.heap[g]? = some (.cells c t f)) (hte : t ≠ e) : v.ownBlock ≠ some g := by
  intro hv
  rcases h.2 with ⟨rfl, _⟩ | ⟨g', cap, cur, rfl, _, hh, _⟩
  · cases hv
  · simp only [Value.ownBlock, Option.some.injEq] at hv
    subst hv
    rw [hg] at hh
    simp only [Option.some.injEq, Obj.cells.injEq] at hh
    exact hte hh.2.1

theorem Own8.kept {n0 B : Nat} {T e : TypeId} {X : Nat → List Int} {W W' : World} {S : Nat → Prop} (h : Own8 n0 B T e X W) (hm : Mods S W W') (hB : ¬ S B) (hS : ∀ g, n0 ≤ g → ¬ S g) : Own8 n0 B T e X W' := by
  obtain ⟨vs, hl, hb, ho, hd⟩ := h
  exact ⟨vs, hl, hm.heap hb hB, fun u hu => hm.ownsRow (ho u hu) fun g hg => hS g ((ho u hu).lt g hg).1, hd⟩

theorem Stab.own8 {C : Nat} (n0 B : Nat) (T e : TypeId) (X : Nat → List Int) : Stab C (Own8 n0 B T e X) :=
  .ex fun _ => .and (.pure _) (.and (fun _ _ h k => k.block _ _ h (.inr rfl)) (.and (fun W W' h k u hu => Stab.ownsRow _ _ _ _ _ _ W W' (h u hu) k) (.pure _)))

/-- An array of eight rows of numbers, as a value. -/
def Told8 (n0 : Nat) (e : TypeId) (X : Nat → List Int) (v : Value) (W : World) : Prop :=
  ∃ vs : List Value, v = .agg vs.toArray ∧ vs.length = 8 ∧ ∀ u, u < 8 → W.ownsRow n0 e 1 (vs.getD u undef) (X u).length ((X u).map (Value.int .i64))
def Ret8 (w : World) (e : TypeId) (X : Nat → List Int) (en : Ending) (w' : World) : Prop := ∃ v, en = .returned v ∧ Told8 w.heap.size e X v w' ∧ New w w'
theorem Own8.told {n0 B : Nat} {T e : TypeId} {X : Nat → List Int} {W : World} (h : Own8 n0 B T e X W) : ∃ vs : List Value, W.heap[B]? = some (.cells vs.toArray T (0, 0)) ∧ vs.length = 8 ∧ Told8 n0 e X (.agg vs.toArray) W ∧ ∀ v ∈ vs, v.oneCell' = true := by
  obtain ⟨vs, hl, hb, ho, _⟩ := h
  refine ⟨vs, hb, hl, ⟨vs, rfl, hl, ho⟩, fun v hv => ?_⟩
  obtain ⟨i, hi, rfl⟩ := List.mem_iff_getElem.1 hv
  have := ho i (by omega)
  have e : vs.getD i undef = vs[i] := by simp [List.getD, hi]
  rw [e] at this
  rcases this.2 with ⟨h, _⟩ | ⟨g, cap, cur, h, _⟩ <;> rw [h] <;> rfl
theorem Told8.mono {n0 n1 : Nat} {e : TypeId} {X : Nat → List Int} {v : Value} {W : World} (h : Told8 n1 e X v W) (hn : n0 ≤ n1) : Told8 n0 e X v W := by
  obtain ⟨vs, hv, hl, ho⟩ := h
  refine ⟨vs, hv, hl, fun u hu => ?_⟩
  have := ho u hu
  exact ⟨this.1, this.2.imp id fun ⟨g, cap, cur, h1, h2, r⟩ => ⟨g, cap, cur, h1, by omega, r⟩⟩
theorem told8_putObj {n0 : Nat} {e : TypeId} {X : Nat → List Int} {v : Value} {W : World} (h : Told8 n0 e X v W) {D : Nat} {o o' : Obj} (hD : W.heap[D]? = some o) (ho : o.isCells = false) : Told8 n0 e X v (W.putObj D o') := by
  obtain ⟨vs, hv, hl, hr⟩ := h
  exact ⟨vs, hv, hl, fun u hu => ownsRow_putObj (hr u hu) o' hD ho⟩
theorem Told8.nil (n0 : Nat) (e : TypeId) (W : World) : Told8 n0 e (fun _ => []) (.agg #[.slice none 0 0, .slice none 0 0, .slice none 0 0, .slice none 0 0, .slice none 0 0, .slice none 0 0, .slice none 0 0, .slice none 0 0]) W := by
  refine ⟨_, rfl, rfl, fun u hu => ?_⟩
  match u, hu with
  | 0, _ => exact World.ownsRow_nil _ _ _ _
  | 1, _ => exact World.ownsRow_nil _ _ _ _
  | 2, _ => exact World.ownsRow_nil _ _ _ _
  | 3, _ => exact World.ownsRow_nil _ _ _ _
  | 4, _ => exact World.ownsRow_nil _ _ _ _
  | 5, _ => exact World.ownsRow_nil _ _ _ _
  | 6, _ => exact World.ownsRow_nil _ _ _ _
  | 7, _ => exact World.ownsRow_nil _ _ _ _
theorem Own8.nil (n0 B : Nat) (T e : TypeId) (W : World) (hb : W.heap[B]? = some (.cells #[.slice none 0 0, .slice none 0 0, .slice none 0 0, .slice none 0 0, .slice none 0 0, .slice none 0 0, .slice none 0 0, .slice none 0 0] T (0, 0))) : Own8 n0 B T e (fun _ => []) W := by
  have ho : ∀ u, u < 8 → ([.slice none 0 0, .slice none 0 0, .slice none 0 0, .slice none 0 0, .slice none 0 0, .slice none 0 0, .slice none 0 0, .slice none 0 0] : List Value).getD u undef = .slice none 0 0 := fun u hu => by
    match u, hu with
    | 0, _ => rfl
    | 1, _ => rfl
    | 2, _ => rfl
    | 3, _ => rfl
    | 4, _ => rfl
    | 5, _ => rfl
    | 6, _ => rfl
    | 7, _ => rfl
  refine ⟨_, rfl, hb, fun u hu => ?_, fun u u' g hu _ h1 _ => ?_⟩
  · rw [ho u hu]; exact World.ownsRow_nil _ _ _ _
  · rw [ho u hu] at h1; cases h1
theorem nil8_one : ∀ v ∈ ([.slice none 0 0, .slice none 0 0, .slice none 0 0, .slice none 0 0, .slice none 0 0, .slice none 0 0, .slice none 0 0, .slice none 0 0] : List Value), v.oneCell' = true := fun v hv => by simp at hv; subst hv; rfl

/-- One row of them told: its value, where it stands. -/
theorem Own8.row {n0 B : Nat} {T e : TypeId} {X : Nat → List Int} {W : World} (h : Own8 n0 B T e X W) (u : Nat) (hu : u < 8) :
    ∃ v, W.cell? ⟨B, u, none⟩ = some v ∧ W.frozen? ⟨B, u, none⟩ = false ∧ W.ownsRow n0 e 1 v (X u).length ((X u).map (Value.int .i64)) ∧
      (∀ (W1 W2 : World) (v' : Value) (x : Int), W.heap.size ≤ W1.heap.size → (∀ k, k < W.heap.size → W1.heap[k]? = W.heap[k]?) → W1.grownBy W2 v.ownBlock → (v'.ownBlock = v.ownBlock ∨ v'.ownBlock = some W1.heap.size) →
        W2.ownsRow n0 e 1 v' ((X u).length + 1) ((X u).map (Value.int .i64) ++ [.int .i64 x]) → T ≠ e → n0 ≤ W.heap.size →
        Own8 n0 B T e (fun k => if k = u then X u ++ [x] else X k) (W2.setCell ⟨B, u, none⟩ v') ∧ W2.cell? ⟨B, u, none⟩ = some v ∧ W2.frozen? ⟨B, u, none⟩ = false) := by
  obtain ⟨vs, hl, hb, ho, hd⟩ := h
  have hlt := (Array.getElem?_eq_some_iff.1 hb).1
  have hvu : vs[u]? = some (vs.getD u undef) := by simp [List.getD, show u < vs.length by omega]
  have hcell : ∀ A : World, A.heap[B]? = some (.cells vs.toArray T (0, 0)) → A.cell? ⟨B, u, none⟩ = some (vs.getD u undef) ∧ A.frozen? ⟨B, u, none⟩ = false := fun A hA => by
    constructor
    · unfold World.cell?
      rw [hA]
      show vs.toArray[u]? = _
      rw [List.getElem?_toArray]
      exact hvu
    · simp [World.frozen?, hA]
  refine ⟨vs.getD u undef, (hcell W hb).1, (hcell W hb).2, ho u hu, ?_⟩
  intro W1 W2 v' x hsz hsame hg hv' hown hTe hn0
  have hb1 : W1.heap[B]? = some (.cells vs.toArray T (0, 0)) := (hsame B hlt).trans hb
  have hne : (vs.getD u undef).ownBlock ≠ some B := ownsRow_ne (ho u hu) hb hTe
  have hb2 : W2.heap[B]? = some (.cells vs.toArray T (0, 0)) := (hg.block B (by omega) (fun e => hne e.symm)).trans hb1
  refine ⟨⟨vs.set u v', by simp [hl], ?_, ?_, ?_⟩, (hcell W2 hb2).1, (hcell W2 hb2).2⟩
  · have hB2 := (Array.getElem?_eq_some_iff.1 hb2).1
    simp only [World.setCell, Array.getElem?_modify, if_pos, hb2, Option.map_some]
    simp
  · intro k hk
    have hkeep : ∀ {n xs} , k ≠ u → W.ownsRow n0 e 1 (vs.getD k undef) n xs → W2.ownsRow n0 e 1 (vs.getD k undef) n xs := fun {n xs} hku h => by
      refine ⟨h.1, h.2.imp id ?_⟩
      rintro ⟨g, cap, cur, hv, hbg, hgg, rest⟩
      refine ⟨g, cap, cur, hv, hbg, ?_, rest⟩
      have hgl := (Array.getElem?_eq_some_iff.1 hgg).1
      refine (hg.block g (by omega) ?_).trans ((hsame g hgl).trans hgg)
      intro e
      exact hku (hd k u g hk hu (by rw [hv]; rfl) e.symm)
    have hstore : ∀ {v n xs}, W2.ownsRow n0 e 1 v n xs → (W2.setCell ⟨B, u, none⟩ v').ownsRow n0 e 1 v n xs := fun {v n xs} h => by
      refine ⟨h.1, h.2.imp id ?_⟩
      rintro ⟨g, cap, cur, hv, hbg, hgg, rest⟩
      refine ⟨g, cap, cur, hv, hbg, ?_, rest⟩
      rw [Below.heap_setCell _ _ _ _ (show g ≠ B from ?_)]
      · exact hgg
      · rintro rfl
        rw [hb2] at hgg
        simp only [Option.some.injEq, Obj.cells.injEq] at hgg
        exact hTe hgg.2.1
    by_cases hku : k = u
    · subst hku
      have e1 : (vs.set k v').getD k undef = v' := by simp [List.getD, show k < vs.length by omega]
      rw [e1]
      simp only [if_true, List.length_append, List.length_singleton, List.map_append, List.map_cons, List.map_nil]
      exact hstore hown
    · have e1 : (vs.set u v').getD k undef = vs.getD k undef := by simp [List.getD, Ne.symm hku]
      rw [e1]
      simp only [hku, if_false]
      exact hstore (hkeep hku (ho k hk))
  · intro k k' g hk hk' h1 h2
    have e1 : ∀ k, (vs.set u v').getD k undef = if k = u ∧ u < vs.length then v' else vs.getD k undef := fun k => by
      simp only [List.getD, List.getElem?_set]
      split
      · rename_i h; subst h; simp [show u < vs.length by omega]
      · rename_i h; simp [Ne.symm h]
    have old : ∀ k, k < 8 → k ≠ u → (vs.getD k undef).ownBlock = some g → v'.ownBlock = some g → False := fun k hk hku hg1 hg2 => by
      rcases hv' with h | h
      · exact hku (hd k u g hk hu hg1 (by rw [← h]; exact hg2))
      · rw [h] at hg2
        simp only [Option.some.injEq] at hg2
        have := ((ho k hk).lt g hg1).2
        omega
    rw [e1] at h1 h2
    by_cases c1 : k = u <;> by_cases c2 : k' = u
    · rw [c1, c2]
    · simp only [c1, show u < vs.length by omega, and_self, if_true, c2, false_and, if_false] at h1 h2
      exact (old k' hk' c2 h2 h1).elim
    · simp only [c1, show u < vs.length by omega, c2, and_self, if_true, false_and, if_false] at h1 h2
      exact (old k hk c1 h1 h2).elim
    · simp only [c1, c2, false_and, if_false] at h1 h2
      exact hd k k' g hk hk' h1 h2
end Go.Cs
/- Array variables read and written whole; a general step of a walk by its run. -/
namespace Go.Cs
open Go.RowKit
variable {P : Program} {ops : Array Oper} {Q : Exit → Act → World → Prop} {r : Option Nat} {rest : List Oper}

/-- An operation whose run is known: it yields a value. -/
theorem op_value {o : Oper} {a : Act} {w w' : World} {v : Value} (hg : o.guard = none) (hr : (execOp a.eval o).run P w = .ok (.value v) w') (h : wpList P ops Q rest (a.put o.dst v) w') : wpList P ops Q (o :: rest) a w :=
  wpList_plain hg fun _ hK => by unfold Oper.wp; rw [hr]; exact hK _ _ h
theorem op_skip {o : Oper} {a : Act} {w w' : World} (hg : o.guard = none) (hr : (execOp a.eval o).run P w = .ok .skip w') (h : wpList P ops Q rest (a.put o.dst undef) w') : wpList P ops Q (o :: rest) a w :=
  wpList_plain hg fun _ hK => by unfold Oper.wp; rw [hr]; exact hK _ _ h

theorem run_storeVar_row (w : World) (g : Nat) (t ty : TypeId) (cur cs : List Value) (hg : w.heap[g]? = some (.cells cur.toArray t (0, 0))) (hi : (P.info? ty).map (·.size) = some cs.length) (hl : cs.length = cur.length)
    (h1 : ∀ v ∈ cs, v.oneCell' = true) : (storeVar ty ⟨g, 0, none⟩ (.agg cs.toArray)).run P w = .ok () (w.setRow g cs.toArray) := by
  cases hq : P.info? ty with
  | none => simp [hq] at hi
  | some i =>
    have hs : i.size = cs.length := by simpa [hq] using hi
    have hst := run_storeCells_at P g 0 t cs 0 cur.toArray w hg (by simp; omega) h1
    simp only [Nat.add_zero, Nat.zero_add, List.take_zero, List.nil_append] at hst
    have e : cs ++ cur.drop cs.length = cs := by rw [List.drop_of_length_le (by omega)]; simp
    rw [e] at hst
    simp [storeVar, Sem.run_bind, sizeOf, typeInfo, hq, Value.cells, hs, hst]

theorem run_store_row {o : Oper} {a : Act} {w : World} (ty : TypeId) (x v : Operand) (ho : o.op = .store ty x v) (g : Nat) (hx : a.eval x = .pointer (some ⟨g, 0, none⟩)) (t : TypeId) (cur cs : List Value) (hv : a.eval v = .agg cs.toArray)
    (hg : w.heap[g]? = some (.cells cur.toArray t (0, 0))) (hi : (P.info? ty).map (·.size) = some cs.length) (hl : cs.length = cur.length) (h1 : ∀ v ∈ cs, v.oneCell' = true) :
    (execOp a.eval o).run P w = .ok .skip (w.setRow g cs.toArray) := by
  have := run_storeVar_row (P := P) w g t ty cur cs hg hi hl h1
  unfold execOp
  simp [ho, hx, hv, Instr.storeAt, Instr.sureAddr, this]
theorem run_load_row {o : Oper} {a : Act} {w : World} (ty : TypeId) (x : Operand) (ho : o.op = .load ty x) (g : Nat) (hx : a.eval x = .pointer (some ⟨g, 0, none⟩)) (t : TypeId) (cs : Array Value) (fr : Nat × Nat) (d : TypeDesc) (hg : w.heap[g]? = some (.cells cs t fr))
    (hu : P.underlying ty = some d) (hd : (match d with | .struct _ | .array _ _ => true | _ => false) = true) (hi : (P.info? ty).map (·.size) = some cs.size) : (execOp a.eval o).run P w = .ok (.value (.agg cs)) w := by
  unfold execOp
  simp only [ho, hx, Instr.loadAt, Instr.sureAddr, Sem.run_bind, Sem.run_pure, Result.andThen_ok, run_loadVar_row w g t ty cs fr d hg hu hd hi]
/-- An array read and written back in place: nothing has turned. -/
theorem setRow_same {w : World} {g : Nat} {cs : List Value} {t : TypeId} (hg : w.heap[g]? = some (.cells cs.toArray t (0, 0))) : w.setRow g cs.toArray = w := setRow_self w g cs.toArray t (0, 0) hg
/-- An array read and written back in place. -/
theorem run_store_same {o : Oper} {a : Act} {w : World} (ty : TypeId) (x v : Operand) (ho : o.op = .store ty x v) (g : Nat) (hx : a.eval x = .pointer (some ⟨g, 0, none⟩)) (t : TypeId) (cs : List Value) (hv : a.eval v = .agg cs.toArray)
    (hg : w.heap[g]? = some (.cells cs.toArray t (0, 0))) (hi : (P.info? ty).map (·.size) = some cs.length) (h1 : ∀ v ∈ cs, v.oneCell' = true) :
    (execOp a.eval o).run P w = .ok .skip w := by
  have := run_store_row (P := P) ty x v ho g hx t cs cs hv hg hi rfl h1
  rwa [setRow_same hg] at this
end Go.Cs

namespace Go.Cs
open Go.RowKit
variable {P : Program}
theorem run_index_arr {t e : TypeId} {n : Nat} {cs : Array Value} {u : Nat} {v : Value} {d : TypeDesc} (ht : P.underlying t = some (.array n e)) (he : P.underlying e = some d) (hd : (match d with | .struct _ | .array _ _ => true | _ => false) = false)
    (hs : (P.info? e).map (·.size) = some 1) (hu : u < n) (hv : cs[u]? = some v) (w : World) : (Instr.index t (.agg cs) (.int .i64 (u : Int))).run P w = .ok v w := by
  cases hq : P.info? e with
  | none => simp [hq] at hs
  | some i =>
    have hs : i.size = 1 := by simpa [hq] using hs
    have h1 : (0 : Int) ≤ u ∧ (u : Int) < n := by omega
    have hagg : (isAgg e).run P w = .ok false w := by
      unfold isAgg
      rw [Sem.run_bind, run_underlying he w]
      cases d <;> simp_all
    simp [Instr.index, asIntOf, Sem.run_bind, run_underlying ht w, sizeOf, typeInfo, hq, hs, part, hagg, hv]
    intro h
    omega
/-- A slice that reads as a list of numbers. -/
def ReadsI (k : IntKind) (W : World) (v : Value) (xs : List Int) : Prop :=
  xs.length ≤ 9223372036854775807 ∧ ∃ ao cap, v = .slice ao xs.length cap ∧ ∀ i, i < xs.length → ∃ b o, ao = some ⟨b, o, none⟩ ∧ W.cell? ⟨b, o + i, none⟩ = some (.int k (xs.getD i 0))
theorem ReadsI.kept {k : IntKind} {W W' : World} {v : Value} {xs : List Int} (h : ReadsI k W v xs) {S : Nat → Prop} (hm : Mods S W W') (hS : ∀ g, v.ownBlock = some g → ¬ S g) : ReadsI k W' v xs := by
  obtain ⟨hl, ao, cap, rfl, hc⟩ := h
  refine ⟨hl, ao, cap, rfl, fun i hi => ?_⟩
  obtain ⟨b, o, rfl, h⟩ := hc i hi
  exact ⟨b, o, rfl, hm.cell h (hS b rfl)⟩
theorem ReadsI.new {k : IntKind} {W W' : World} {v : Value} {xs : List Int} (h : ReadsI k W v xs) (hm : New W W') : ReadsI k W' v xs := h.kept hm fun _ _ f => f
theorem ReadsI.nil (k : IntKind) (W : World) : ReadsI k W (.slice none 0 0) [] := ⟨by simp, none, 0, rfl, fun i hi => by simp at hi⟩
theorem ReadsI.ofOwns {base : Nat} {e : TypeId} {k : IntKind} {W : World} {v : Value} {xs : List Int} (h : W.ownsRow base e 1 v xs.length (xs.map (Value.int k))) : ReadsI k W v xs := by
  obtain ⟨hl, (⟨hv, h0⟩ | ⟨g, cap, cur, hv, hb, hg, hn, hc, hs, ht⟩)⟩ := h
  · have : xs = [] := List.eq_nil_of_length_eq_zero h0
    subst this
    rw [hv]
    exact ReadsI.nil k W
  · refine ⟨by simp only [maxLen] at hc; omega, some ⟨g, 0, none⟩, cap, hv, fun i hi => ⟨g, 0, rfl, ?_⟩⟩
    have hcell := World.ownsRow.cells (w := W) (base := base) (e := e) (size := 1) (v := v) (n := xs.length) (xs := xs.map (Value.int k)) ⟨hl, .inr ⟨g, cap, cur, hv, hb, hg, hn, hc, hs, ht⟩⟩ (g := g) (by rw [hv]; rfl) i (.int k (xs.getD i 0)) (by simp [List.getD, hi])
    have hadd : (⟨g, 0, none⟩ : Addr).add i = ⟨g, 0 + i, none⟩ := by unfold Addr.add; split <;> simp_all
    rwa [hadd] at hcell
end Go.Cs

namespace Go.Cs
open Go.RowKit
variable {P : Program}
/-- A new array variable, written whole. -/
theorem alloc_setRow (w : World) (cs cs' : Array Value) (t : TypeId) (f : Nat × Nat) : (w.alloc (.cells cs t f)).setRow w.heap.size cs' = w.alloc (.cells cs' t f) := by
  unfold World.setRow World.alloc
  congr 1
  apply Array.ext_getElem?
  intro i
  simp only [Array.getElem?_modify, Array.getElem?_push]
  by_cases h : w.heap.size = i
  · subst h; simp
  · simp [h, Ne.symm h]
theorem ReadsI.one {k : IntKind} {W : World} {v : Value} {xs : List Int} (h : ReadsI k W v xs) : v.oneCell' = true := by
  obtain ⟨_, ao, cap, rfl, _⟩ := h
  rfl
/-- A store of a whole array into a variable just made. -/
theorem run_store_new {o : Oper} {a : Act} {w : World} (ty : TypeId) (x v : Operand) (ho : o.op = .store ty x v) (t : TypeId) (cur cs : List Value) (hx : a.eval x = .pointer (some ⟨w.heap.size, 0, none⟩)) (hv : a.eval v = .agg cs.toArray)
    (hi : (P.info? ty).map (·.size) = some cs.length) (hl : cs.length = cur.length) (h1 : ∀ v ∈ cs, v.oneCell' = true) :
    (execOp a.eval o).run P (w.alloc (.cells cur.toArray t)) = .ok .skip (w.alloc (.cells cs.toArray t)) := by
  have := run_store_row (P := P) (w := w.alloc (.cells cur.toArray t)) ty x v ho w.heap.size hx t cur cs hv (World.alloc_heap_new w _) hi hl h1
  rwa [alloc_setRow] at this
end Go.Cs
/- The way from a law's walk to its row: what was there reads as it did, for of it nothing has turned. -/
namespace Go.Cs
open Go.RowKit Go.ChangeAt
variable {H : Type} {enc : TypeId × Value → H} {P : Program}
theorem post_new {f : Func} {s : ChangeSpec} {apart fresh handsOn : Bool} {W W' : World} {args : Array Value} {v : Value} {ds gs : List (DataW H)} {before pa pv : List MemPlace}
    (hW : DataW.Whole enc P f.params.toList s.vars apart W args.toList ds gs before)
    (hres : ∀ (b : Nat) (sp : Nat → Bool) (hd : Bool), DataW.TrodAll enc P W' b sp hd f.resultTypes.toList (v.resultList f.resultTypes.size) (s.fn H (ds ++ gs)).results [])
    (hargs : ∀ sp : Nat → Bool, (∀ p ∈ before, sp p.block = true) → DataW.TrodAll enc P W' 0 sp true f.params.toList args.toList (s.fn H (ds ++ gs)).args pa)
    (hvars : ∀ sp : Nat → Bool, (∀ p ∈ before, sp p.block = true) → DataW.TrodVars enc P W' sp s.vars (s.fn H (ds ++ gs)).vars pv)
    (hps : before = pa ++ pv) (hN : New W W') : s.post enc P f apart fresh handsOn false W args v W' := by
  have hold : ∀ p ∈ before, (fun b => decide (b < W.heap.size)) p.block = true := fun p hp => by simpa using hW.lt p hp
  refine ⟨ds, gs, before, [], pa, pv, hW, hres _ _ _, hargs _ hold, hvars _ hold, World.keptBut_mono (fun p hp => ⟨hp, ?_⟩) (hN.toBelow.frame (may := (· ∈ before))), fun h => by cases h⟩
  rw [hps, List.mem_append] at hp
  exact Or.inr hp
end Go.Cs
/- A law's row, whatever its parameters: true is answered, and of what was there nothing has turned. Slices of structs opened. -/
namespace Go.Cs
open Go.RowKit Go.ChangeAt Go.ChangeShapes Go.WideShapes Go.Deep
variable {H : Type} {enc : TypeId × Value → H} {P : Program}
/-- What was read reads as it did. -/
theorem trodAll_new (hl : laidOutB P = true) {sp : Nat → Bool} {W W' : World} (hN : New W W') : ∀ {ts : List TypeId} {vs : List Value} {ds : List (DataW H)} {ps : List MemPlace}, (∀ t ∈ ts, P.readableRec t = true ∧ t < P.types.size) →
    DataW.TrodAll enc P W 0 (fun _ => true) true ts vs ds ps → (∀ p ∈ ps, p.block < W.heap.size) → (∀ p ∈ ps, sp p.block = true) → DataW.TrodAll enc P W' 0 sp true ts vs ds ps
  | [], [], [], _, _, h, _, _ => h
  | t :: ts, v :: vs, d :: ds, _, hr, ⟨p, q, h, hs, e⟩, hlt, hsp => by
    subst e
    have h1 := hr t (by simp)
    exact ⟨p, q, WideElems.Trod_stays hl h1.1 h1.2 h (fun x hx => hN.toBelow.same (hlt x (by simp [hx]))) (fun x hx => hsp x (by simp [hx])),
      trodAll_new hl hN (fun t ht => hr t (by simp [ht])) hs (fun x hx => hlt x (by simp [hx])) (fun x hx => hsp x (by simp [hx])), rfl⟩
theorem post_law {f : Func} {s : ChangeSpec} {apart fresh handsOn : Bool} {W W' : World} {args : Array Value} {v : Value} {ds gs : List (DataW H)} {before : List MemPlace}
    (hW : DataW.Whole enc P f.params.toList s.vars apart W args.toList ds gs before) (hv : s.vars = []) (hl : laidOutB P = true) (hr : (f.params.toList.all fun t => P.readableRec t && decide (t < P.types.size)) = true)
    (hres : ∀ (b : Nat) (sp : Nat → Bool) (hd : Bool), DataW.TrodAll enc P W' b sp hd f.resultTypes.toList (v.resultList f.resultTypes.size) (s.fn H (ds ++ gs)).results [])
    (hfa : (s.fn H (ds ++ gs)).args = ds) (hfv : (s.fn H (ds ++ gs)).vars = []) (hN : New W W') : s.post enc P f apart fresh handsOn false W args v W' := by
  have hW' := hW
  obtain ⟨p, q, hA, hV, rfl, hfz, hnd⟩ := hW
  rw [hv] at hV
  obtain ⟨rfl, rfl⟩ := trodVars_none hV
  refine post_new (pa := p) (pv := []) hW' hres (fun sp hsp => ?_) (fun sp hsp => ?_) rfl hN
  · rw [hfa]
    refine trodAll_new hl hN (fun t ht => ?_) hA (fun x hx => hW'.lt x (by simp [hx])) (fun x hx => hsp x (by simp [hx]))
    have := List.all_eq_true.1 hr t ht
    simpa using this
  · rw [hv, hfv]
    exact hV
/-- A slice of structs, each field of one cell: nil, or its cells. -/
theorem open_structs {w : World} {base : Nat} {spare : Nat → Bool} {held : Bool} {t e : TypeId} {fs : Array Field} {fuel : Nat} {cs : List Value} {x : DataW H × List MemPlace} (ht : P.underlying t = some (.slice e)) (he : P.underlying e = some (.struct fs))
    (hone : oneCellFields P fs = true) (hC : P.cellsOf e = fs.size) (h : DataW.trod enc P w base spare held fuel t cs = some x) :
    cs = [.slice none 0 0] ∨ ∃ (a : Addr) (len cap : Nat), cs = [.slice (some a) len cap] ∧ len ≤ cap ∧ cap ≤ maxLen ∧
      ∀ i, i < len → ∀ (j : Nat) (f : Field), fs[j]? = some f → ∃ (v : Value) (y : DataW H × List MemPlace) (n : Nat), w.cell? (a.add (i * fs.size + j)) = some v ∧ DataW.trod enc P w base spare held n f.type [v] = some y := by
  rcases open_slice ht h with h0 | ⟨a, len, cap, m, n, D, Pl, hcs, hb, hl, hm, hmm, hx, hi⟩
  · exact .inl h0.1
  · refine .inr ⟨a, len, cap, hcs, hl, hm, fun i hil j f hj => ?_⟩
    obtain ⟨cs', hc, ht'⟩ := hi i (by rw [hmm]; split <;> omega)
    obtain ⟨ys, n', _, _, hlen, hys, hf⟩ := DataW.trod_struct he ht'
    obtain ⟨_, hcl, hat⟩ := World.cells?_some hc
    obtain ⟨ho, hk⟩ := hone_of hone j f hj
    have hjl : j < fs.size := (Array.getElem?_eq_some_iff.1 hj).1
    have hj' : j < cs'.length := by omega
    have hv := hat j (by omega)
    rw [List.getElem?_eq_getElem hj', Go.Deep.add_add, hC] at hv
    have hft := hf j f hj
    rw [ho, hk, show (cs'.drop j).take 1 = [cs'[j]] by rw [List.drop_eq_getElem_cons hj']; rfl, List.getElem?_eq_getElem (by omega)] at hft
    exact ⟨_, _, _, hv, hft⟩
end Go.Cs
