/- A law for a range over a function whose values are a known list, and what a call leaves of the memory that it found. -/
import Derived.RangeFuncNested
import Derived.WalkKit
import Derived.Deep.QuietTactic
import Derived.ScopeJumps
import Derived.WalkMore
import Derived.Laws.BitsAllLaws
import Derived.Test.YtkjloeefcaadlaaProg
import Derived.Shelf.Abstract
import Derived.Shelf.RegionOpen
import Derived.OwnWalkIn
import Derived.TacticsInMore
import Derived.LoopNIn
import Derived.LoopIn
import Derived.WalkSpells
import Derived.Lib.Hide
import Derived.WalkLawsBesides
import Derived.BigQuiet
set_option linter.unusedSimpArgs false
set_option linter.unusedVariables false
namespace Go.Cs
open Go.RowKit

/-- What was there is as it was, but for cells of the blocks of S. -/
structure Mods (S : Nat → Prop) (w w' : World) : Prop where
  os : w'.os = w.os
  tape : w'.tape = w.tape
  output : w'.output = w.output
  size : w.heap.size ≤ w'.heap.size
  block : ∀ k o, w.heap[k]? = some o → (¬ S k ∨ o.isCells = false) → w'.heap[k]? = some o

/-- New blocks alone. -/
abbrev New (w w' : World) : Prop := Mods (fun _ => False) w w'

theorem Mods.refl (S : Nat → Prop) (w : World) : Mods S w w := ⟨rfl, rfl, rfl, Nat.le_refl _, fun _ _ h _ => h⟩
theorem Mods.trans {S : Nat → Prop} {a b c : World} (h : Mods S a b) (k : Mods S b c) : Mods S a c :=
  ⟨k.os.trans h.os, k.tape.trans h.tape, k.output.trans h.output, Nat.le_trans h.size k.size, fun i o hi ho => k.block i o (h.block i o hi ho) ho⟩
theorem Mods.mono {S T : Nat → Prop} {a b : World} (h : Mods S a b) (hST : ∀ k, S k → T k) : Mods T a b :=
  ⟨h.os, h.tape, h.output, h.size, fun i o hi ho => h.block i o hi (ho.imp (fun n m => n (hST _ m)) id)⟩
theorem Mods.ofNew {S : Nat → Prop} {a b : World} (h : New a b) : Mods S a b := h.mono fun _ f => f.elim
/-- What is written lies beyond what was there. -/
theorem Mods.new {S : Nat → Prop} {a b : World} (h : Mods S a b) (hS : ∀ k, S k → a.heap.size ≤ k) : New a b :=
  ⟨h.os, h.tape, h.output, h.size, fun i o hi _ => h.block i o hi (.inl fun hk => by have := hS i hk; have := (Array.getElem?_eq_some_iff.1 hi).1; omega)⟩
/-- Of what is written, what lies beyond what was there need not be told. -/
theorem Mods.only {S T : Nat → Prop} {a b : World} (h : Mods S a b) (hS : ∀ k, S k → a.heap.size ≤ k ∨ T k) : Mods T a b :=
  ⟨h.os, h.tape, h.output, h.size, fun i o hi ho => h.block i o hi (ho.imp (fun n m => by
    rcases hS i m with g | g
    · have := (Array.getElem?_eq_some_iff.1 hi).1; omega
    · exact n g) id)⟩
theorem Mods.alloc {S : Nat → Prop} {a w : World} (h : Mods S a w) (o : Obj) : Mods S a (w.alloc o) :=
  h.trans ⟨rfl, rfl, rfl, by simp, fun k o' hk _ => (Below.heap_alloc w o k (Array.getElem?_eq_some_iff.1 hk).1).trans hk⟩
theorem Mods.drew {S : Nat → Prop} {a w : World} (h : Mods S a w) : Mods S a w.drew := h.trans ⟨rfl, rfl, rfl, Nat.le_refl _, fun _ _ hk _ => hk⟩
theorem Mods.drewN {S : Nat → Prop} {a w : World} (h : Mods S a w) (n : Nat) : Mods S a (w.drewN n) := h.trans ⟨rfl, rfl, rfl, Nat.le_refl _, fun _ _ hk _ => hk⟩
theorem Mods.setCell {S : Nat → Prop} {a w : World} (h : Mods S a w) {p : Addr} (hp : a.heap.size ≤ p.block ∨ S p.block) (u : Value) : Mods S a (w.setCell p u) :=
  ⟨h.os, h.tape, h.output, by have := h.size; simp [World.setCell]; exact this, fun k o hk ho => by
    have hw := h.block k o hk ho
    by_cases e : k = p.block
    · subst e
      rcases ho with ho | ho
      · rcases hp with hp | hp
        · have := (Array.getElem?_eq_some_iff.1 hk).1; omega
        · exact absurd hp ho
      · exact (KeepsOthers.setCell w p u).same _ _ hw ho
    · exact (Below.heap_setCell w p u k e).trans hw⟩
/-- A contract of the library's that says what row was written. -/
theorem Mods.grown {S : Nat → Prop} {a w w' : World} {row : Option Nat} (h : Mods S a w) (hg : w.grownBy w' row) (hr : ∀ k, row = some k → a.heap.size ≤ k ∨ (S k ∧ ∀ o, w.heap[k]? = some o → o.isCells = true)) : Mods S a w' :=
  ⟨hg.os.trans h.os, hg.tape.trans h.tape, hg.output.trans h.output, Nat.le_trans h.size hg.size, fun k o hk ho => by
    have hw := h.block k o hk ho
    have hlt := (Array.getElem?_eq_some_iff.1 hw).1
    have hlt' := (Array.getElem?_eq_some_iff.1 hk).1
    refine (hg.block k hlt ?_).trans hw
    intro e
    rcases hr k e.symm with h1 | ⟨h1, h2⟩
    · omega
    · rcases ho with ho | ho
      · exact ho h1
      · rw [h2 o hw] at ho; cases ho⟩
theorem Mods.below {B : Nat} {w w' : World} (h : Below B w w') (hB : w.heap.size ≤ B) : New w w' :=
  ⟨h.os, h.tape, h.output, h.size, fun k o hk _ => (h.block k (by have := (Array.getElem?_eq_some_iff.1 hk).1; omega)).trans hk⟩
theorem New.toBelow {w w' : World} (h : New w w') : Below w.heap.size w w' :=
  ⟨h.os, h.tape, h.output, h.size, fun k hk => by
    rw [Array.getElem?_eq_getElem hk]; exact h.block k _ (Array.getElem?_eq_getElem hk) (.inl id)⟩
theorem Mods.heap {S : Nat → Prop} {w w' : World} (h : Mods S w w') {k : Nat} {o : Obj} (hk : w.heap[k]? = some o) (hS : ¬ S k) : w'.heap[k]? = some o := h.block k o hk (.inl hS)
theorem Mods.cell {S : Nat → Prop} {w w' : World} (h : Mods S w w') {p : Addr} {v : Value} (hc : w.cell? p = some v) (hS : ¬ S p.block) : w'.cell? p = some v := by
  obtain ⟨o, ho, _⟩ := cells_of_cell hc
  exact (World.cell?_of_block (w := w) ((h.block _ o ho (.inl hS)).trans ho.symm)).trans hc
theorem Mods.frozen {S : Nat → Prop} {w w' : World} (h : Mods S w w') {p : Addr} {v : Value} (hc : w.cell? p = some v) (hS : ¬ S p.block) : w'.frozen? p = w.frozen? p := by
  obtain ⟨o, ho, _⟩ := cells_of_cell hc
  exact World.frozen?_of_block (w := w) ((h.block _ o ho (.inl hS)).trans ho.symm)
theorem Mods.boxed {S : Nat → Prop} {w w' : World} (h : Mods S w w') {B : Nat} {t : TypeId} {v : Value} (hb : Boxed w B t v) (hS : ¬ S B) : Boxed w' B t v := h.block B _ hb (.inl hS)
theorem Mods.ownsRow {S : Nat → Prop} {w w' : World} (h : Mods S w w') {base : Nat} {e : TypeId} {size : Nat} {v : Value} {n : Nat} {xs : List Value} (hr : w.ownsRow base e size v n xs) (hS : ∀ g, v.ownBlock = some g → ¬ S g) : w'.ownsRow base e size v n xs := by
  refine ⟨hr.1, hr.2.imp id ?_⟩
  rintro ⟨g, cap, cur, rfl, hb, hg, r⟩
  exact ⟨g, cap, cur, rfl, hb, h.heap hg (hS g rfl), r⟩

/-- A step that keeps all cells, and whatever lies below B. -/
structure Quiet (B : Nat) (w w' : World) : Prop where
  os : w'.os = w.os
  tape : w'.tape = w.tape
  output : w'.output = w.output
  size : w.heap.size ≤ w'.heap.size
  block : ∀ k o, w.heap[k]? = some o → (k < B ∨ o.isCells = true) → w'.heap[k]? = some o
theorem New.quiet {w w' : World} (h : New w w') (B : Nat) : Quiet B w w' := ⟨h.os, h.tape, h.output, h.size, fun k o hk _ => h.block k o hk (.inl id)⟩
theorem Quiet.putObj {B : Nat} {w : World} {l : Nat} {o : Obj} (o' : Obj) (hl : w.heap[l]? = some o) (ho : o.isCells = false) (hB : B ≤ l) : Quiet B w (w.putObj l o') :=
  ⟨rfl, rfl, rfl, by simp, fun k ok hk h => by
    have : k ≠ l := by
      intro e; subst e
      rw [hl] at hk; cases hk
      rcases h with h | h
      · omega
      · rw [ho] at h; cases h
    exact (World.putObj_heap_other this).trans hk⟩

/-- What such a step keeps. -/
def Stab (B : Nat) (p : World → Prop) : Prop := ∀ W W', p W → Quiet B W W' → p W'
theorem Stab.and {B : Nat} {p q : World → Prop} (hp : Stab B p) (hq : Stab B q) : Stab B (fun W => p W ∧ q W) := fun W W' h k => ⟨hp W W' h.1 k, hq W W' h.2 k⟩
theorem Stab.or {B : Nat} {p q : World → Prop} (hp : Stab B p) (hq : Stab B q) : Stab B (fun W => p W ∨ q W) := fun W W' h k => h.imp (fun h => hp W W' h k) (fun h => hq W W' h k)
theorem Stab.ex {B : Nat} {α : Sort _} {p : α → World → Prop} (hp : ∀ x, Stab B (p x)) : Stab B (fun W => ∃ x, p x W) := fun W W' ⟨x, h⟩ k => ⟨x, hp x W W' h k⟩
theorem Stab.pure {B : Nat} (c : Prop) : Stab B (fun _ => c) := fun _ _ h _ => h
theorem Stab.boxed {B : Nat} (b : Nat) (t : TypeId) (v : Value) : Stab B (fun W => Boxed W b t v) := fun _ _ h k => k.block b _ h (.inr rfl)
theorem Stab.cell {B : Nat} (p : Addr) (v : Value) : Stab B (fun W => W.cell? p = some v) := fun W W' h k => by
  obtain ⟨o, ho, hc⟩ := cells_of_cell h
  exact (World.cell?_of_block (w := W) ((k.block _ o ho (.inr hc)).trans ho.symm)).trans h
theorem Stab.ownsRow {B : Nat} (base : Nat) (e : TypeId) (size : Nat) (v : Value) (n : Nat) (xs : List Value) : Stab B (fun W => W.ownsRow base e size v n xs) := fun W W' hr k => by
  refine ⟨hr.1, hr.2.imp id ?_⟩
  rintro ⟨g, cap, cur, rfl, hb, hg, r⟩
  exact ⟨g, cap, cur, rfl, hb, k.block g _ hg (.inr rfl), r⟩
theorem Stab.mods {B : Nat} {S : Nat → Prop} {w : World} (hB : w.heap.size ≤ B) : Stab B (fun W => Mods S w W) := fun W W' h k =>
  ⟨k.os.trans h.os, k.tape.trans h.tape, k.output.trans h.output, Nat.le_trans h.size k.size, fun i o hi ho =>
    k.block i o (h.block i o hi ho) (.inl (by have := (Array.getElem?_eq_some_iff.1 hi).1; omega))⟩

/-- An iterator value: called in W with the yield of a loop it hands out the values of L, one by one, as long as the round asks for more; the rounds write the cells of blocks of S alone (and new ones). -/
def IterAt (P : Program) (g : Nat) (lb : Array Value) (L : List (Array Value)) (S : Nat → Prop) (W : World) : Prop :=
  ∀ (l : Nat) (J Jx : Nat → World → Prop), (∀ k, ∀ A A', J k A → New A A' → J k A') → (∀ k, ∀ A A', Jx k A → New A A' → Jx k A') →
    (∀ k x W1, L[k]? = some x → J k W1 → Mods S W W1 → YieldAt Fence.wide 0 P l x W1 fun e W' =>
      (e = .returned (.bool true) ∧ J (k + 1) W' ∧ Mods S W1 W') ∨ (e = .returned (.bool false) ∧ Jx (k + 1) W')) →
    J 0 W →
    Calls P g (#[.func (.yield l) #[] #[]] ++ lb) W fun e W' => (∃ v, e = .returned v) ∧ (J L.length W' ∨ ∃ k, k ≤ L.length ∧ Jx k W')

/-- How a round's body may be left. -/
def roundQ (S : Nat → Prop) (I : Nat → World → Prop) (Ix : Code → Nat → World → Prop) (k : Nat) (W : World) : Exit → Act → World → Prop
  | .normal, _, W' => Mods S W W' ∧ I k W'
  | .ret, _, W' => Mods S W W' ∧ Ix .ret k W'
  | .exit id, _, W' => Mods S W W' ∧ Ix (.exit id) k W'
  | .goto t, _, W' => Mods S W W' ∧ Ix (.goto t) k W'
  | .panic _, _, _ => False
  | .outgrown, _, _ => False

variable {P : Program}


/-- What is no cells in A lies so in W. -/
def Others (A W : World) : Prop := ∀ (k : Nat) (o : Obj), A.heap[k]? = some o → o.isCells = false → W.heap[k]? = some o

/-- The walk's fence: nothing is asked of it; r: the loop in whose round the code runs. -/
abbrev Fr (r : Option Nat) : Fence := { Fence.wide with round := r }

theorem rangeList_core (r : Option Nat)
    {g : Operand} {ps : Array Tmp} {assign body : Code} {Q : Exit → Act → World → Prop} {a : Act} {w : World}
    {gf : Nat} {lb : Array Value} (hg : a.eval g = .func (.func gf) #[] lb) (eg : ∀ args w, (callFunc gf args).run P w = .ok (.enter gf args) w)
    (L : List (Array Value)) (S : Nat → Prop) (hit : ∀ W, New w W → IterAt P gf lb L S W) (hps : ∀ x ∈ L, x.size = ps.size)
    (W0 : World) (hW0 : New w W0) (mark : List Deferred) (d : Nat)
    (henter : ∀ fn, (Instr.enterLoop fn a.tmps ps assign body r).run P w = .ok (W0.heap.size, mark) (W0.alloc (.loop { state := .ready, pending := none, fn, tmps := a.tmps, params := ps, assign, body, defers := d })))
    (I : Nat → World → Prop) (Ix : Code → Nat → World → Prop) (hI : ∀ k, Stab w.heap.size (I k)) (hIx : ∀ c k, Stab w.heap.size (Ix c k)) (h0 : I 0 w)
    (hround : ∀ (l k : Nat) (x : Array Value) (W : World), L[k]? = some x → w.heap.size ≤ l → (∃ r, W.heap[l]? = some (.loop r)) → I k W →
      assign.wpIn (Fr (some l)) 0 P (Exit.then (fun a1 W1 => Mods S W W1 ∧ ∀ W2, Quiet w.heap.size W1 W2 → (∃ r, W2.heap[l]? = some (.loop r)) → body.wpIn (Fr (some l)) 0 P (roundQ S I Ix (k + 1) W2) a1 W2) (fun _ _ _ => False))
        { tmps := (ps.zip x).foldl (fun t (p, v) => t.setIfInBounds p v) a.tmps, defers := [] } W)
    (hdone : ∀ W, I L.length W → Others W0 W → Q .normal { a with defers := mark ++ a.defers } W)
    (hstop : ∀ c k W, k ≤ L.length → Ix c k W → Others W0 W → c.wpIn (Fr r) 0 P Q { a with defers := mark ++ a.defers } W) :
    (Code.rangeFunc g ps assign body).wpIn (Fr r) 0 P Q a w := by
  refine wpIn_rangeFunc ?_
  intro fn _
  obtain ⟨rec, hrec⟩ : ∃ rec : LoopState → Option Code → Loop, rec = fun st pe => { state := st, pending := pe, fn, tmps := a.tmps, params := ps, assign, body, defers := d } := ⟨_, rfl⟩
  obtain ⟨W1, hW1⟩ : ∃ W1, W0.alloc (.loop (rec .ready none)) = W1 := ⟨_, rfl⟩
  obtain ⟨l, hl0⟩ : ∃ l, W0.heap.size = l := ⟨_, rfl⟩
  have hL1 : W1.heap[l]? = some (.loop (rec .ready none)) := by rw [← hW1, ← hl0]; exact World.alloc_heap_new W0 _
  have hN1 : New w W1 := by rw [← hW1]; exact hW0.alloc _
  have hwl : w.heap.size ≤ l := by rw [← hl0]; exact hW0.size
  have hC1 : Others W0 W1 := fun k o hk _ => by
    rw [← hW1]; exact (Below.heap_alloc W0 _ k (Array.getElem?_eq_some_iff.1 hk).1).trans hk
  refine ⟨l, mark, W1, { target := .fn (.func gf) lb, args := #[.func (.yield l) #[] #[]] }, W1, gf,
    #[.func (.yield l) #[] #[]] ++ lb, W1, ?_, ?_, fun _ _ => trivial, ?_, fun h => by simp [Fence.wide] at h, ?_⟩
  · rw [← hW1, hrec, ← hl0]; exact henter fn
  · simp only [resolve, hg]
    simp [go_sem]
  · simp [invoke, go_sem, eg]
  · have hlW0 : ∀ {k : Nat} {o : Obj}, W0.heap[k]? = some o → k ≠ l := fun hk => by have := (Array.getElem?_eq_some_iff.1 hk).1; omega
    have hput : ∀ (W : World) (o : Obj), Others W0 W → Others W0 (W.putObj l o) := fun W o h k o' hk ho =>
      (World.putObj_heap_other (hlW0 hk)).trans (h k o' hk ho)
    refine Calls.mono (R := fun e W' => (∃ v, e = .returned v) ∧
        ((I L.length W' ∧ W'.heap[l]? = some (.loop (rec .ready none)) ∧ Others W0 W') ∨
          ∃ k, k ≤ L.length ∧ ∃ c, Ix c k W' ∧ W'.heap[l]? = some (.loop (rec .done (some c))) ∧ Others W0 W')) ?_ ?_ |> callsIn_wide.2
    · refine hit W1 hN1 l
        (fun k W => I k W ∧ W.heap[l]? = some (.loop (rec .ready none)) ∧ Others W0 W)
        (fun k W => ∃ c, Ix c k W ∧ W.heap[l]? = some (.loop (rec .done (some c))) ∧ Others W0 W)
        (fun k A A' h hn => ⟨hI k A A' h.1 (hn.quiet _), hn.heap h.2.1 id, fun j o hj ho => hn.heap (h.2.2 j o hj ho) id⟩)
        (fun k A A' h hn => by
          obtain ⟨c, h1, h2, h3⟩ := h
          exact ⟨c, hIx c k A A' h1 (hn.quiet _), hn.heap h2 id, fun j o hj ho => hn.heap (h3 j o hj ho) id⟩)
        ?_ ⟨hI 0 w W1 h0 (hN1.quiet _), hL1, hC1⟩
      rintro k x W hx ⟨hi, hl, hk⟩ _
      have hy := run_yield (P := P) (args := x) hl (by rw [hrec]; exact hps x (List.mem_of_getElem? hx))
      rw [hrec] at hy
      refine ⟨fn, _, assign, body, hy, roundIn_of_wpIn trivial (wpIn_mono (hround l k x W hx hwl ⟨_, hl⟩ hi) ?_)⟩
      clear hy
      rintro e a1 Wa he
      cases e with
      | normal =>
        obtain ⟨hma, hb⟩ := he
        have hla := hma.block _ _ hl (.inr rfl)
        have hka : Others W0 Wa := fun j o hj ho => hma.block _ _ (hk j o hj ho) (.inr ho)
        have hlt : l < Wa.heap.size := (Array.getElem?_eq_some_iff.1 hla).1
        refine ⟨_, run_beginRound hla (by rw [hrec]), ?_⟩
        obtain ⟨Wb, hWb⟩ : ∃ Wb, Wa.putObj l (.loop { rec .ready none with state := .busy }) = Wb := ⟨_, rfl⟩
        have hl2 : Wb.heap[l]? = some (.loop { rec .ready none with state := .busy }) := by rw [← hWb]; exact World.putObj_heap_same hlt
        have hk2 : Others W0 Wb := by rw [← hWb]; exact hput _ _ hka
        have hqb : Quiet w.heap.size Wa Wb := by rw [← hWb]; exact Quiet.putObj _ hla rfl hwl
        rw [hWb]
        refine wpIn_mono (hb Wb hqb ⟨_, hl2⟩) ?_
        have fin : ∀ (jump : Option Code) (W3 : World), Mods S Wb W3 →
            (Instr.endRound l jump).run P W3 = .ok (.bool jump.isNone) (W3.putObj l (.loop (rec (if jump.isNone then .ready else .done) jump))) ∧
            W3.heap[l]? = some (.loop { rec .ready none with state := .busy }) ∧
            (W3.putObj l (.loop (rec (if jump.isNone then .ready else .done) jump))).heap[l]? = some (.loop (rec (if jump.isNone then .ready else .done) jump)) ∧
            Others W0 (W3.putObj l (.loop (rec (if jump.isNone then .ready else .done) jump))) := fun jump W3 hm3 => by
          have hl3 := hm3.block _ _ hl2 (.inr rfl)
          have := run_endRound (P := P) jump hl3
          rw [hrec] at this ⊢
          exact ⟨this, by rw [hrec] at hl3; exact hl3, World.putObj_heap_same (Array.getElem?_eq_some_iff.1 hl3).1, hput _ _ fun j o hj ho => hm3.block _ _ (hk2 j o hj ho) (.inr ho)⟩
        rintro e a3 W3 hp
        cases e with
        | normal =>
          obtain ⟨hm3, hi3⟩ := hp
          obtain ⟨hr, hl3, hl4, hk4⟩ := fin none W3 hm3
          refine ⟨_, _, hr, .inl ⟨rfl, ⟨hI _ _ _ hi3 (Quiet.putObj _ hl3 rfl hwl), hl4, hk4⟩, ?_⟩⟩
          refine ⟨(hm3.os.trans hqb.os).trans hma.os, (hm3.tape.trans hqb.tape).trans hma.tape, (hm3.output.trans hqb.output).trans hma.output, ?_, ?_⟩
          · simp only [World.putObj_size]; exact Nat.le_trans hma.size (Nat.le_trans hqb.size hm3.size)
          · intro j o hj ho
            by_cases e : j = l
            · subst e; rw [hl] at hj; cases hj; exact hl4
            · refine (World.putObj_heap_other e).trans (hm3.block _ _ ?_ ho)
              rw [← hWb]; exact (World.putObj_heap_other e).trans (hma.block _ _ hj ho)
        | ret =>
          obtain ⟨hm3, hi3⟩ := hp
          obtain ⟨hr, hl3, hl4, hk4⟩ := fin (some .ret) W3 hm3
          exact ⟨_, _, hr, .inr ⟨rfl, .ret, hIx _ _ _ _ hi3 (Quiet.putObj _ hl3 rfl hwl), hl4, hk4⟩⟩
        | exit id =>
          obtain ⟨hm3, hi3⟩ := hp
          obtain ⟨hr, hl3, hl4, hk4⟩ := fin (some (.exit id)) W3 hm3
          exact ⟨_, _, hr, .inr ⟨rfl, .exit id, hIx _ _ _ _ hi3 (Quiet.putObj _ hl3 rfl hwl), hl4, hk4⟩⟩
        | goto t =>
          obtain ⟨hm3, hi3⟩ := hp
          obtain ⟨hr, hl3, hl4, hk4⟩ := fin (some (.goto t)) W3 hm3
          exact ⟨_, _, hr, .inr ⟨rfl, .goto t, hIx _ _ _ _ hi3 (Quiet.putObj _ hl3 rfl hwl), hl4, hk4⟩⟩
        | panic ch => exact hp.elim
        | outgrown => exact hp.elim
      | exit id => exact he.elim
      | goto t => exact he.elim
      | ret => exact he.elim
      | panic ch => exact he.elim
      | outgrown => exact he.elim
    · rintro e W2 ⟨⟨v, rfl⟩, (⟨hi, hl, hk⟩ | ⟨k, hkl, c, hi, hl, hk⟩)⟩
      · exact ⟨none, _, by have := run_endLoop (P := P) hl (by rw [hrec]; simp); rw [hrec] at this; exact this, hdone _ (hI _ _ _ hi (Quiet.putObj _ hl rfl hwl)) (hput _ _ hk)⟩
      · exact ⟨some c, _, by have := run_endLoop (P := P) hl (by rw [hrec]; simp); rw [hrec] at this; exact this, hstop c k _ hkl (hIx _ _ _ _ hi (Quiet.putObj _ hl rfl hwl)) (hput _ _ hk)⟩
end Go.Cs

namespace Go.Cs
open Go.RowKit
variable {P : Program}

/-- A range over a function whose values are known, at a function's own level. -/
theorem wp_rangeList {α : Type} {g : Operand} {ps : Array Tmp} {assign body : Code} {Q : Exit → Act → World → Prop} {a : Act} {w : World}
    {gf : Nat} {lb : Array Value} (hg : a.eval g = .func (.func gf) #[] lb) (eg : ∀ args w, (callFunc gf args).run P w = .ok (.enter gf args) w)
    (xs : List α) (enc : α → Array Value) (S : Nat → Prop) (hit : ∀ W, New w W → IterAt P gf lb (xs.map enc) S W) (hps : ∀ x, (enc x).size = ps.size)
    (I : Nat → World → Prop) (Ix : Code → Nat → World → Prop) (hI : ∀ k, Stab w.heap.size (I k)) (hIx : ∀ c k, Stab w.heap.size (Ix c k)) (h0 : I 0 w) (upd : α → Array Value → Array Value)
    (hassign : ∀ (l : Nat) (x : α) (W : World) (K : Act → World → Prop), K { tmps := upd x a.tmps, defers := [] } W →
      assign.wpIn (Fr (some l)) 0 P (Exit.then K (fun _ _ _ => False)) { tmps := (ps.zip (enc x)).foldl (fun t (p, v) => t.setIfInBounds p v) a.tmps, defers := [] } W)
    (hbody : ∀ (l k : Nat) (x : α) (W : World), xs[k]? = some x → w.heap.size ≤ l → (∃ r, W.heap[l]? = some (.loop r)) → I k W → body.wpIn (Fr (some l)) 0 P (roundQ S I Ix (k + 1) W) { tmps := upd x a.tmps, defers := [] } W)
    (hdone : ∀ W, I xs.length W → W.heap[w.heap.size]? = some (.deferred (some [])) → Q .normal { a with defers := { target := .collected w.heap.size, args := #[] } :: a.defers } W)
    (hstop : ∀ c k W, k ≤ xs.length → Ix c k W → W.heap[w.heap.size]? = some (.deferred (some [])) → c.wp P Q { a with defers := { target := .collected w.heap.size, args := #[] } :: a.defers } W) :
    (Code.rangeFunc g ps assign body).wp P Q a w := by
  refine (wpIn_wide (n := 0)).1 ?_
  refine rangeList_core (P := P) none hg eg (xs.map enc) S hit ?_ (w.alloc (.deferred (some []))) ((Mods.refl _ _).alloc _) [{ target := .collected w.heap.size, args := #[] }] w.heap.size ?_ I Ix hI hIx h0 ?_ ?_ ?_
  · intro x hx
    obtain ⟨y, _, rfl⟩ := List.mem_map.1 hx
    exact hps y
  · intro fn
    rw [World.size_alloc]
    exact run_enterLoop_outer _ _ _ _ _
  · intro l k x W hx hl hr hi
    rw [List.getElem?_map] at hx
    obtain ⟨y, hy, rfl⟩ := Option.map_eq_some_iff.1 hx
    exact hassign l y W _ ⟨Mods.refl _ _, fun W2 hq hr2 => hbody l k y W2 hy hl hr2 (hI k W W2 hi hq)⟩
  · intro W hi ho
    rw [List.length_map] at hi
    exact hdone W hi (ho _ _ (World.alloc_heap_new w _) rfl)
  · intro c k W hk hi ho
    rw [List.length_map] at hk
    exact (wpIn_wide (n := 0)).2 (hstop c k W hk hi (ho _ _ (World.alloc_heap_new w _) rfl))

/-- The same, in a round of another such loop. -/
theorem wpIn_rangeList {α : Type} {l₀ : Nat} {g : Operand} {ps : Array Tmp} {assign body : Code} {Q : Exit → Act → World → Prop} {a : Act} {w : World}
    (hl₀ : ∃ r, w.heap[l₀]? = some (.loop r))
    {gf : Nat} {lb : Array Value} (hg : a.eval g = .func (.func gf) #[] lb) (eg : ∀ args w, (callFunc gf args).run P w = .ok (.enter gf args) w)
    (xs : List α) (enc : α → Array Value) (S : Nat → Prop) (hit : ∀ W, New w W → IterAt P gf lb (xs.map enc) S W) (hps : ∀ x, (enc x).size = ps.size)
    (I : Nat → World → Prop) (Ix : Code → Nat → World → Prop) (hI : ∀ k, Stab w.heap.size (I k)) (hIx : ∀ c k, Stab w.heap.size (Ix c k)) (h0 : I 0 w) (upd : α → Array Value → Array Value)
    (hassign : ∀ (l : Nat) (x : α) (W : World) (K : Act → World → Prop), K { tmps := upd x a.tmps, defers := [] } W →
      assign.wpIn (Fr (some l)) 0 P (Exit.then K (fun _ _ _ => False)) { tmps := (ps.zip (enc x)).foldl (fun t (p, v) => t.setIfInBounds p v) a.tmps, defers := [] } W)
    (hbody : ∀ (l k : Nat) (x : α) (W : World), xs[k]? = some x → w.heap.size ≤ l → (∃ r, W.heap[l]? = some (.loop r)) → I k W → body.wpIn (Fr (some l)) 0 P (roundQ S I Ix (k + 1) W) { tmps := upd x a.tmps, defers := [] } W)
    (hdone : ∀ W, I xs.length W → Others w W → Q .normal a W)
    (hstop : ∀ c k W, k ≤ xs.length → Ix c k W → Others w W → c.wpIn (Fr (some l₀)) 0 P Q a W) :
    (Code.rangeFunc g ps assign body).wpIn (Fr (some l₀)) 0 P Q a w := by
  obtain ⟨r, hr⟩ := hl₀
  refine rangeList_core (P := P) (some l₀) hg eg (xs.map enc) S hit ?_ w (Mods.refl _ _) [] r.defers ?_ I Ix hI hIx h0 ?_ ?_ ?_
  · intro x hx
    obtain ⟨y, _, rfl⟩ := List.mem_map.1 hx
    exact hps y
  · intro fn
    exact run_enterLoop_inner hr _ _ _ _ _
  · intro l k x W hx hl hr hi
    rw [List.getElem?_map] at hx
    obtain ⟨y, hy, rfl⟩ := Option.map_eq_some_iff.1 hx
    exact hassign l y W _ ⟨Mods.refl _ _, fun W2 hq hr2 => hbody l k y W2 hy hl hr2 (hI k W W2 hi hq)⟩
  · intro W hi ho
    rw [List.length_map] at hi
    exact hdone W hi ho
  · intro c k W hk hi ho
    rw [List.length_map] at hk
    exact hstop c k W hk hi ho

/-- A function that holds ranges over functions, by its body's walk. -/
theorem calls_of_marks {f : FuncId} {fn : Func} {c : Code} {args : Array Value} {w : World} {R : Ending → World → Prop}
    (hf : P.funcs[f]? = some fn) (hb : fn.body = some c)
    (h : c.wp P (bodyPostM Fence.wide 0 P fn R) { tmps := args ++ Array.replicate (fn.ntmps - args.size) undef, defers := [] } w) : Calls P f args w R :=
  callsIn_wide.1 (callsIn_of_wp_marks (F := Fence.wide) (n := 0) hf hb trivial ((wpIn_wide (n := 0)).2 h))

/-- Its way out, behind one such loop. -/
theorem marks_one {fn : Func} {R : Ending → World → Prop} {a : Act} {W : World} {D : Nat} {v : Value} (hd : a.defers = [{ target := .collected D, args := #[] }])
    (hD : W.heap[D]? = some (.deferred (some []))) (hv : (results fn a.tmps).run P (W.putObj D (.deferred none)) = .ok v (W.putObj D (.deferred none))) (hR : R (.returned v) (W.putObj D (.deferred none))) :
    LeavesInM Fence.wide 0 P fn a.tmps R a.defers .returning W := by
  rw [hd]
  exact ⟨by simp, .inl ⟨_, _, rfl, run_takeDeferred hD, v, hv, hR⟩⟩
/-- Behind none. -/
theorem marks_none {fn : Func} {R : Ending → World → Prop} {a : Act} {W : World} {v : Value} (hd : a.defers = [])
    (hv : (results fn a.tmps).run P W = .ok v W) (hR : R (.returned v) W) :
    LeavesInM Fence.wide 0 P fn a.tmps R a.defers .returning W := by
  rw [hd]
  exact ⟨v, hv, hR⟩
theorem Mods.putObj {S : Nat → Prop} {w W : World} (h : Mods S w W) {D : Nat} (hD : w.heap.size ≤ D) (o : Obj) : Mods S w (W.putObj D o) :=
  ⟨h.os, h.tape, h.output, by simpa using h.size, fun k o' hk ho => (World.putObj_heap_other (by have := (Array.getElem?_eq_some_iff.1 hk).1; omega)).trans (h.block k o' hk ho)⟩
end Go.Cs

namespace Go.Cs
open Go.RowKit
variable {P : Program}
/-- A scope whose jumps all go forward, to one label. -/
theorem wp_scope_fwd {a : Act} {w : World} {Q : Exit → Act → World → Prop} {c rest : Code} (l : Nat) (J : Act → World → Prop) (hf : findLabel c l = some rest)
    (first : c.wp P (Exit.jump l J Q) a w) (pass : ∀ a w, J a w → rest.wp P (Exit.noGoto Q) a w) : (Code.scope c).wp P Q a w :=
  wp_scope_jumps l J (fun _ _ => 0) hf first fun a w h => wp_mono (pass a w h) fun e a' w' hq => by
    cases e with
    | goto l' => exact absurd hq (by simp [Exit.noGoto])
    | _ => exact hq
theorem jump_goto {l : Nat} {J : Act → World → Prop} {Q : Exit → Act → World → Prop} {a : Act} {w : World} (h : J a w) : Exit.jump l J Q (.goto l) a w := ⟨rfl, h⟩
end Go.Cs

namespace Go.Cs
open Go.RowKit
variable {P : Program}
/-- A call in a round, by the callee's contract. -/
theorem at_round {r : Option Nat} {k : FuncId} {args : Array Value} {w : World} {R R' : Ending → World → Prop} (h : Calls P k args w R') (hr : ∀ e w', R' e w' → R e w') :
    Fence.wide.fn k ∧ Fence.wide.depth = none ∧ CallsIn (Fr r) 0 P k args w R := ⟨trivial, rfl, (callsIn_wide (n := 0)).2 (h.mono hr)⟩
end Go.Cs

namespace Go.Cs
open Go.RowKit
theorem boxed1 (w : World) (o : Obj) (t : TypeId) (v : Value) : Boxed ((w.alloc o).alloc (.cells #[v] t)) (w.heap.size + 1) t v := by
  have := Boxed.new (w.alloc o) t v; rwa [World.size_alloc] at this
theorem boxed2 (w : World) (o o' : Obj) (t : TypeId) (v : Value) : Boxed (((w.alloc o).alloc o').alloc (.cells #[v] t)) (w.heap.size + 1 + 1) t v := by
  have := boxed1 (w.alloc o) o' t v; rwa [World.size_alloc] at this
theorem boxed3 (w : World) (o o' o'' : Obj) (t : TypeId) (v : Value) : Boxed ((((w.alloc o).alloc o').alloc o'').alloc (.cells #[v] t)) (w.heap.size + 1 + 1 + 1) t v := by
  have := boxed2 (w.alloc o) o' o'' t v; rwa [World.size_alloc] at this
/-- What the walk asks of a box. -/
theorem _root_.Go.Boxed.both {W : World} {B : Nat} {t : TypeId} {v : Value} (h : Boxed W B t v) : W.cell? ⟨B, 0, none⟩ = some v ∧ W.frozen? ⟨B, 0, none⟩ = false := ⟨h.cell, h.frozen⟩
end Go.Cs
/- Numbers: shifts and bits of words of 64 bits, told of natural numbers. -/
namespace Go.Cs
open Go.RowKit

theorem cast_pow (s : Nat) : ((2 : Int) ^ s) = ((2 ^ s : Nat) : Int) := by simp

theorem div_cast (x s : Nat) : (x : Int) / 2 ^ s = ((x / 2 ^ s : Nat) : Int) := by rw [cast_pow]; rfl

theorem div_min (x s : Nat) (hx : x < 18446744073709551616) : x / 2 ^ min s 64 = x / 2 ^ s := by
  by_cases h : s ≤ 64
  · rw [Nat.min_eq_left h]
  · rw [Nat.min_eq_right (by omega), Nat.div_eq_of_lt (by exact hx), Nat.div_eq_of_lt]
    exact Nat.lt_of_lt_of_le hx (Nat.pow_le_pow_right (show 2 > 0 by decide) (show 64 ≤ s by omega))

theorem shr_u64 (x s : Nat) (hx : x < 18446744073709551616) (yk : IntKind) :
    Op.shift .shr .u64 (x : Int) yk (s : Int) = pure (.int .u64 ((x / 2 ^ s : Nat) : Int)) := by
  rw [shift_shr_any .u64 yk _ _ (by omega)]
  simp only [Int.toNat_natCast, IntKind.bits]
  rw [div_cast, div_min x s hx]

theorem shl_u64 (x s : Nat) (yk : IntKind) :
    Op.shift .shl .u64 (x : Int) yk (s : Int) = pure (.int .u64 ((x * 2 ^ s % 18446744073709551616 : Nat) : Int)) := by
  unfold Op.shift
  rw [if_neg (by omega)]
  simp only [Int.toNat_natCast, IntKind.bits, IntKind.wrap_u64]
  have e : ((x : Int) * 2 ^ min s 64) % 18446744073709551616 = ((x * 2 ^ s % 18446744073709551616 : Nat) : Int) := by
    by_cases h : s ≤ 64
    · rw [Nat.min_eq_left h, cast_pow, ← Int.natCast_mul, show (18446744073709551616 : Int) = ((18446744073709551616 : Nat) : Int) from rfl, ← Int.natCast_emod]
    · rw [Nat.min_eq_right (by omega)]
      obtain ⟨d, rfl⟩ : ∃ d, s = 64 + d := ⟨s - 64, by omega⟩
      rw [Nat.pow_add, ← Nat.mul_assoc, Nat.mul_right_comm, show (2 : Nat) ^ 64 = 18446744073709551616 from rfl, Nat.mul_mod_left]
      rw [show (2 : Int) ^ 64 = 18446744073709551616 from rfl, Int.mul_emod_left]
      rfl
  rw [e]

theorem and_u64 (a b : Nat) (ha : a < 18446744073709551616) (hb : b < 18446744073709551616) : bits .and .u64 (a : Int) (b : Int) = ((a &&& b : Nat) : Int) := u64_and_nat a b ha hb
theorem or_u64 (a b : Nat) (ha : a < 18446744073709551616) (hb : b < 18446744073709551616) : bits .or .u64 (a : Int) (b : Int) = ((a ||| b : Nat) : Int) := u64_or_nat a b ha hb
theorem xor_u64 (a b : Nat) (ha : a < 18446744073709551616) (hb : b < 18446744073709551616) : bits .xor .u64 (a : Int) (b : Int) = ((a ^^^ b : Nat) : Int) := u64_xor_nat a b ha hb
theorem andNot_u64 (a b : Nat) (ha : a < 18446744073709551616) (hb : b < 18446744073709551616) : bits .andNot .u64 (a : Int) (b : Int) = ((a &&& (18446744073709551615 - b) : Nat) : Int) := u64_andNot_nat a b ha hb
theorem and7 (a : Nat) (ha : a < 18446744073709551616) : bits .and .u64 (a : Int) 7 = ((a % 8 : Nat) : Int) := by
  rw [← nat_mask3]; exact and_u64 a 7 ha (by decide)
theorem and127 (a : Nat) (ha : a < 18446744073709551616) : bits .and .u64 (a : Int) 127 = ((a % 128 : Nat) : Int) := by
  rw [← nat_mask7]; exact and_u64 a 127 ha (by decide)
theorem and64 (a : Nat) (ha : a < 18446744073709551616) : bits .and .u64 (a : Int) 64 = ((a / 64 % 2 * 64 : Nat) : Int) := by
  rw [show ((64 : Int)) = ((64 : Nat) : Int) from rfl, and_u64 a 64 ha (by decide)]
  congr 1
  exact nat_bit 6 a
theorem wrap64_nat (a : Nat) (h : a < 9223372036854775808) : wrap64 (a : Int) = (a : Int) := IntWalk.wrap64_in _ ⟨by omega, by omega⟩
theorem div_lt64 (x s : Nat) (hx : x < 18446744073709551616) : x / 2 ^ s < 18446744073709551616 := Nat.lt_of_le_of_lt (Nat.div_le_self _ _) hx
theorem and7_i64 (n : Int) (h1 : -9223372036854775808 ≤ n) (h2 : n ≤ 9223372036854775807) : bits .and .i64 n 7 = n % 8 := by
  have e : (BitVec.ofInt 64 n &&& BitVec.ofInt 64 7).toNat = (n % 8).toNat := by
    rw [BitVec.toNat_and, BitVec.toNat_ofInt, BitVec.toNat_ofInt]
    have : (7 % ((2 ^ 64 : Nat) : Int)).toNat = 7 := rfl
    rw [this, nat_mask3]
    simp only [Nat.reducePow]
    omega
  show IntKind.i64.wrap ((BitVec.ofInt 64 n &&& BitVec.ofInt 64 7).toNat : Int) = n % 8
  rw [e, IntKind.wrap_i64]
  omega
theorem and_mask (y m : Nat) : y &&& (2 ^ m - 1) = y % 2 ^ m := Nat.and_two_pow_sub_one_eq_mod y m
theorem xor_low (y m : Nat) : y ^^^ (y % 2 ^ m) = y - y % 2 ^ m := by
  have e : y - y % 2 ^ m = y / 2 ^ m * 2 ^ m := by have := Nat.div_add_mod y (2 ^ m); rw [Nat.mul_comm] at this; omega
  rw [e]
  apply Nat.eq_of_testBit_eq
  intro i
  rw [Nat.testBit_xor, Nat.testBit_mod_two_pow, Nat.testBit_mul_two_pow, Nat.testBit_div_two_pow]
  by_cases h : i < m
  · simp [h, Nat.not_le.2 h]
  · rw [Nat.add_comm]; simp [h, Nat.not_lt.1 h]
end Go.Cs
/- The places of a word, slots, urgencies; which words may be. -/
namespace Go.Proofs.Ytkjloeefcaadlaa
open Go.RowKit Go.Shelf Go.Cs
attribute [local go_sem] Oper.semAt_some
def place (x k : Nat) : Nat := x / 2 ^ (7 * k) % 128
def places (x : Nat) : List (Nat × Nat) := (List.range (x / 2 ^ 60)).map fun k => (k, place x k)
def encP (p : Nat × Nat) : Array Value := #[.int .i64 p.1, .int .u64 p.2]
theorem place_lt (x k : Nat) : place x k < 128 := Nat.mod_lt _ (by decide)
theorem places_len (x : Nat) : (places x).length = x / 2 ^ 60 := by simp [places]
set_option maxHeartbeats 400000 in
theorem places1_iter (B x : Nat) (hx : x < 18446744073709551616) (S : Nat → Prop) (hS : ¬ S B) (W : World) (hB : W.cell? ⟨B, 0, none⟩ = some (.int .u64 x)) :
    IterAt Try.prog 161 #[.pointer (some ⟨B, 0, none⟩)] ((places x).map encP) S W := by
  intro l J Jx hJ hJx hY h0
  refine (callsIn_wide (n := 0)).1 (callsIn_of_wp Try.func161 rfl trivial ?_ rfl)
  simp only [Try.ntmps161, List.size_toArray, List.length_cons, List.length_nil, Nat.reduceAdd, Nat.reduceSub, Array.replicate_succ, Array.replicate_zero, List.push_toArray, List.append_toArray, List.nil_append, List.cons_append]
  gi_wp2
  gi_loopw [7] (fun c wr => ∃ k : Nat, k ≤ x / 2 ^ 60 ∧ c = .int .i64 k ∧ J k wr ∧ Mods S W wr) (fun c _ => x / 2 ^ 60 - (intOf c).toNat)
  case atStart => exact ⟨0, Nat.zero_le _, rfl, h0, Mods.refl _ _⟩
  case round =>
    obtain ⟨k, hk, rfl, hJk, hM⟩ := hrel
    have hc := hM.cell hB hS
    by_cases hlt : k < x / 2 ^ 60
    · obtain ⟨fn, tmps, assign, body, hy, hR⟩ := hY k (encP (k, place x k)) wr (by simp [places, hlt]) hJk hM
      clear hY
      dsimp only [encP] at hy
      obtain ⟨q, hsh, hb⟩ : ∃ q : Nat, Op.shift .shr .u64 (x : Int) .i64 (7 * (k : Int)) = pure (.int .u64 (q : Int)) ∧ bits .and .u64 (q : Int) 127 = (place x k : Int) :=
        ⟨x / 2 ^ (7 * k), shr_u64 x (7 * k) hx .i64, and127 _ (div_lt64 _ _ hx)⟩
      gi_wp2
      refine ⟨rfl, hR.mono ?_⟩
      rintro e W3 (⟨rfl, hJ3, hm3⟩ | ⟨rfl, hJx3⟩)
      · gi_wp2
        go_roundw
        case rel => exact ⟨k + 1, by omega, by go_num, hJ3, hM.trans hm3⟩
        case measure => simp [intOf]; omega
      · gi_wp2
        refine bodyPost_ret (results_none rfl _ _ _) rfl ?_
        exact ⟨⟨_, rfl⟩, .inr ⟨k + 1, by simp [places_len]; omega, hJx3⟩⟩
    · gi_wp2
      go_end0
      obtain rfl : k = x / 2 ^ 60 := by omega
      exact ⟨⟨_, rfl⟩, .inl (by simpa [places_len] using hJk)⟩

theorem places_any (x : Nat) (w : World) : Calls Try.prog 124 #[.int .u64 x] w fun e w' => e = .returned (.func (.func 161) #[] #[.pointer (some ⟨w.heap.size, 0, none⟩)]) ∧ w.alloc (.cells #[.int .u64 x] 22) = w' := by
  go_enter Try.func124, Try.ntmps124
  go_wp2
  go_ret
  exact ⟨rfl, rfl⟩
theorem slot_any (p : Nat) (w : World) (h : p < 18446744073709551616) :
    Calls Try.prog 125 #[.int .u64 p] w fun e w' => e = .returned (.int .i64 (p % 8 : Nat)) ∧ w = w' := by
  have e1 := and7 p h
  obtain ⟨q, hq, hq8⟩ : ∃ q, p % 8 = q ∧ q < 8 := ⟨_, rfl, Nat.mod_lt _ (by decide)⟩
  rw [hq] at e1 ⊢
  clear hq
  go_enter Try.func125, Try.ntmps125
  go_wp2
  go_ret
  exact ⟨rfl, rfl⟩
theorem urgency_any (p : Nat) (w : World) (h : p < 18446744073709551616) :
    Calls Try.prog 130 #[.int .u64 p] w fun e w' => e = .returned (.int .i64 (p / 8 % 8 : Nat)) ∧ w = w' := by
  have e1 := and7 (p / 8) (by omega)
  have e3 : (p : Int) / 8 = ((p / 8 : Nat) : Int) := rfl
  obtain ⟨q', hq'⟩ : ∃ q, p / 8 = q := ⟨_, rfl⟩
  rw [hq'] at e1 e3 ⊢
  clear hq'
  obtain ⟨q, hq, hq8⟩ : ∃ q, q' % 8 = q ∧ q < 8 := ⟨_, rfl, Nat.mod_lt _ (by decide)⟩
  rw [hq] at e1 ⊢
  clear hq
  go_enter Try.func130, Try.ntmps130
  go_wp2
  go_ret
  exact ⟨rfl, rfl⟩
def stp : Option (Nat × Nat) → Nat → Option (Nat × Nat)
  | none, _ => none
  | some (s, l), p => if p / 64 % 2 = 0 ∨ s &&& 2 ^ (p % 8) ≠ 0 ∨ p / 8 % 8 < l then none else some (s ||| 2 ^ (p % 8), p / 8 % 8)
def stt (x : Nat) : Nat → Option (Nat × Nat)
  | 0 => some (0, 0)
  | k + 1 => stp (stt x k) (place x k)
theorem stt_none {x k : Nat} (h : stt x k = none) : ∀ n, k ≤ n → stt x n = none := by
  intro n hn
  induction n with
  | zero => obtain rfl : k = 0 := by omega
            exact h
  | succ n ih =>
    rcases Nat.lt_or_ge n k with h1 | h1
    · obtain rfl : k = n + 1 := by omega
      exact h
    · rw [stt, ih h1]; rfl
def rightB (x : Nat) : Bool := decide (x / 2 ^ 60 ≤ 8) && decide (x % 2 ^ 60 / 2 ^ (7 * (x / 2 ^ 60)) = 0) && (stt x (x / 2 ^ 60)).isSome
set_option maxHeartbeats 1000000 in
theorem right_any (x : Nat) (hx : x < 18446744073709551616) (w : World) : Calls Try.prog 65 #[.int .u64 x] w fun e w' => e = .returned (.bool (rightB x)) ∧ New w w' := by
  obtain ⟨n, hn, hn'⟩ : ∃ n : Nat, (x : Int) / 1152921504606846976 = (n : Int) ∧ x / 2 ^ 60 = n := ⟨x / 1152921504606846976, rfl, rfl⟩
  have Hn' := Lib.hid hn'
  clear hn'
  refine calls_of_marks Try.func65 rfl ?_
  simp only [Try.ntmps65, List.size_toArray, List.length_cons, List.length_nil, Nat.reduceAdd, Nat.reduceSub, Array.replicate_succ, Array.replicate_zero, List.push_toArray, List.append_toArray, List.nil_append, List.cons_append]
  go_wp2
  refine wp_scope_fwd 0 (fun a W => a.tmps.size = 50 ∧ (a.defers = [] ∨ ∃ D, a.defers = [{ target := .collected D, args := #[] }] ∧ w.heap.size ≤ D ∧ W.heap[D]? = some (.deferred (some []))) ∧ New w W ∧ rightB x = false) rfl ?first ?pass
  case pass =>
    rintro ⟨tmps, defers⟩ W ⟨hs, hd, hN, hR⟩
    go_wp2
    rcases hd with rfl | ⟨D, rfl, hD, hWD⟩
    · exact marks_none rfl (v := .bool false) (by simp [results, Try.f65, hs]) ⟨by rw [hR], hN⟩
    · exact marks_one rfl hWD (v := .bool false) (by simp [results, Try.f65, hs]) ⟨by rw [hR], hN.putObj hD _⟩
  case first =>
    by_cases h8 : 8 < n
    · have hR : rightB x = false := by have := Hn'.out; simp [rightB]; omega
      go_wp2
      exact wp_goto (And.intro rfl ⟨rfl, .inl rfl, ((Mods.refl _ _).alloc _).alloc _, hR⟩)
    have h8' : decide ((8 : Int) < n) = false := by simp; omega
    have e1 : bits .andNot .u64 (x : Int) 17293822569102704640 = ((x % 2 ^ 60 : Nat) : Int) := by
      rw [show (17293822569102704640 : Int) = ((17293822569102704640 : Nat) : Int) from rfl, andNot_u64 x _ hx (by decide)]
      congr 1
      exact nat_mask60 x
    obtain ⟨y, hy⟩ : ∃ y, x % 2 ^ 60 = y := ⟨_, rfl⟩
    have hy60 : y < 18446744073709551616 := by omega
    obtain ⟨z, hz⟩ : ∃ z, y / 2 ^ (7 * n) = z := ⟨_, rfl⟩
    have e2 : (y : Int) / 2 ^ (7 * n) = (z : Int) := by rw [← hz]; exact div_cast y (7 * n)
    rw [hy] at e1
    by_cases hz0 : z = 0
    · have hr : rightB x = (stt x n).isSome := by rw [rightB, Hn'.out, hy, hz]; simp [hz0]; omega
      subst hz0
      clear hz hy
      go_wp2_with (go_at_call 124; refine (places_any x _).mono ?_; rintro e w1 ⟨rfl, rfl⟩)
      obtain ⟨W0, hW0⟩ : ∃ W0, ((w.alloc (.cells #[.int .u64 0] 22)).alloc (.cells #[.int .u64 0] 22)).alloc (.cells #[.int .u64 x] 22) = W0 := ⟨_, rfl⟩
      have hN0 : New w W0 := by rw [← hW0]; exact (((Mods.refl _ _).alloc _).alloc _).alloc _
      have hsz : W0.heap.size = w.heap.size + 3 := by rw [← hW0]; simp
      have hb0 : Boxed W0 w.heap.size 22 (.int .u64 0) := by rw [← hW0]; exact ((Boxed.new w 22 _).alloc _).alloc _
      have hb1 : Boxed W0 (w.heap.size + 1) 22 (.int .u64 0) := by rw [← hW0]; have := Boxed.new (w.alloc (.cells #[.int .u64 0] 22)) 22 (.int .u64 0); rw [World.size_alloc] at this; exact this.alloc _
      have hb2 : Boxed W0 (w.heap.size + 2) 22 (.int .u64 x) := by rw [← hW0]; have := Boxed.new ((w.alloc (.cells #[.int .u64 0] 22)).alloc (.cells #[.int .u64 0] 22)) 22 (.int .u64 x); rwa [World.size_alloc, World.size_alloc] at this
      rw [hW0]
      refine wp_rangeList (gf := 161) (lb := #[.pointer (some ⟨w.heap.size + 2, 0, none⟩)]) rfl (enters_of Try.func161 (by kernel_rfl) rfl) (places x) encP (fun b => b = w.heap.size ∨ b = w.heap.size + 1)
        (fun W hW => places1_iter _ x hx _ (by omega) W (hW.boxed hb2 id).cell) (fun _ => rfl)
        (fun k W => ∃ s l, (stt x k = some (s, l) ∧ s < 256) ∧ Boxed W w.heap.size 22 (.int .u64 (s : Nat)) ∧ Boxed W (w.heap.size + 1) 22 (.int .u64 (l : Nat)) ∧ Mods (fun b => b = w.heap.size ∨ b = w.heap.size + 1) W0 W)
        (fun c k W => c = .goto 0 ∧ stt x k = none ∧ Mods (fun b => b = w.heap.size ∨ b = w.heap.size + 1) W0 W)
        (fun k => .ex fun s => .ex fun l => .and (.pure _) (.and (.boxed _ _ _) (.and (.boxed _ _ _) (.mods (Nat.le_refl _)))))
        (fun c k => .and (.pure _) (.and (.pure _) (.mods (Nat.le_refl _))))
        ⟨0, 0, ⟨rfl, by decide⟩, hb0, hb1, Mods.refl _ _⟩
        (fun p t => ((t.setIfInBounds 23 (.int .i64 p.1)).setIfInBounds 24 (.int .u64 p.2)).setIfInBounds 7 (.int .u64 p.2)) ?assign ?body ?done ?stop
      case assign =>
        rintro l ⟨p1, p2⟩ W K hK
        simp only [encP] at hK ⊢
        gi_wp2
        exact hK
      case body =>
        rintro l k p W hp hl _ ⟨s, la, ⟨hst, hs256⟩, hbs, hbl, hM⟩
        clear hr e1 e2 hy60 hN0 hb0 hb1 hb2 hW0
        obtain ⟨hk, rfl⟩ : k < x / 2 ^ 60 ∧ p = (k, place x k) := by
          rw [places, List.getElem?_map] at hp
          obtain ⟨j, hj, rfl⟩ := Option.map_eq_some_iff.1 hp
          obtain ⟨h1, h2⟩ := List.getElem?_eq_some_iff.1 hj
          simp at h1 h2
          subst h2
          exact ⟨h1, rfl⟩
        obtain ⟨q, hq⟩ : ∃ q, place x k = q := ⟨_, rfl⟩
        have hq128 : q < 128 := by rw [← hq]; exact place_lt x k
        have hst1 : stt x (k + 1) = stp (some (s, la)) q := by rw [stt, hst, hq]
        rw [hq]
        simp only [stp] at hst1
        have cs := hbs.cell
        have cl := hbl.cell
        have fs := hbs.frozen
        have fl := hbl.frozen
        have b64 := and64 q (by omega)
        obtain ⟨sl, hsl, hsl8⟩ : ∃ sl, q % 8 = sl ∧ sl < 8 := ⟨_, rfl, Nat.mod_lt _ (by decide)⟩
        obtain ⟨u, hu, hu8⟩ : ∃ u, q / 8 % 8 = u ∧ u < 8 := ⟨_, rfl, Nat.mod_lt _ (by decide)⟩
        obtain ⟨bt, hbt, hbt8⟩ : ∃ b, 2 ^ sl = b ∧ b ≤ 128 := ⟨_, rfl, Nat.pow_le_pow_right (n := 2) (by decide) (show sl ≤ 7 by omega)⟩
        have bu : bits .and .u64 ((q : Int) / 8) 7 = (u : Int) := by rw [← hu]; exact and7 (q / 8) (by omega)
        have bw : IntKind.u64.wrap (2 ^ sl) = (bt : Int) := by rw [IntKind.wrap_u64, cast_pow, hbt]; omega
        have hslot : ∀ w, Calls Try.prog 125 #[.int .u64 q] w fun e w' => e = .returned (.int .i64 (sl : Nat)) ∧ w = w' := fun w => by rw [← hsl]; exact slot_any q w (by omega)
        have Hslot := Lib.hid hslot
        clear hslot
        rw [hsl, hbt, hu] at hst1
        obtain ⟨m, hm⟩ : ∃ m, s &&& bt = m := ⟨_, rfl⟩
        have bm : bits .and .u64 (s : Int) (bt : Int) = (m : Int) := by rw [and_u64 s bt (by omega) (by omega), hm]
        obtain ⟨o, ho⟩ : ∃ m, s ||| bt = m := ⟨_, rfl⟩
        have bo : bits .or .u64 (s : Int) (bt : Int) = (o : Int) := by rw [or_u64 s bt (by omega) (by omega), ho]
        have ho256 : o < 256 := by rw [← ho]; exact Nat.or_lt_two_pow (n := 8) hs256 (by omega)
        rw [hm, ho] at hst1
        have hN1 : stt x (k + 1) = none → roundQ (fun b => b = w.heap.size ∨ b = w.heap.size + 1) (fun k W => ∃ s l, (stt x k = some (s, l) ∧ s < 256) ∧ Boxed W w.heap.size 22 (.int .u64 (s : Nat)) ∧ Boxed W (w.heap.size + 1) 22 (.int .u64 (l : Nat)) ∧ Mods (fun b => b = w.heap.size ∨ b = w.heap.size + 1) W0 W)
            (fun c k W => c = .goto 0 ∧ stt x k = none ∧ Mods (fun b => b = w.heap.size ∨ b = w.heap.size + 1) W0 W) (k + 1) W (.goto 0) { tmps := #[], defers := [] } W :=
          fun h => ⟨Mods.refl _ _, rfl, h, hM⟩
        clear hst hq hsl hbt hu hm ho
        by_cases c1 : q / 64 % 2 = 0
        · have HN := Lib.hid (hN1 (by rw [hst1, if_pos (.inl c1)]))
          have b64' : bits .and .u64 (q : Int) 64 = 0 := by rw [b64, c1]; rfl
          clear b64 hst1 hN1 bu bm bo
          gi_wp2_with (refine at_round (Hslot.out _) ?_; rintro e w' ⟨rfl, rfl⟩)
          exact wpIn_goto HN.out
        · have b64' : bits .and .u64 (q : Int) 64 = 64 := by rw [b64, show q / 64 % 2 = 1 by omega]; rfl
          clear b64
          by_cases c2 : m = 0
          · subst c2
            by_cases c3 : u < la
            · have HN := Lib.hid (hN1 (by rw [hst1, if_pos (.inr (.inr c3))]))
              clear hst1 hN1 bo
              gi_wp2_with (refine at_round (Hslot.out _) ?_; rintro e w' ⟨rfl, rfl⟩)
              exact wpIn_goto HN.out
            · have HI := Lib.hid (show stt x (k + 1) = some (o, u) by rw [hst1, if_neg (by omega)])
              clear hst1 hN1
              gi_wp2_with (refine at_round (Hslot.out _) ?_; rintro e w' ⟨rfl, rfl⟩)
              exact ⟨((Mods.refl _ _).setCell (p := ⟨w.heap.size, 0, none⟩) (.inr (.inl rfl)) _).setCell (p := ⟨w.heap.size + 1, 0, none⟩) (.inr (.inr rfl)) _, o, u, ⟨HI.out, ho256⟩, (hbs.set _).other (by omega) _, (hbl.other (by omega) _).set _,
                (hM.setCell (p := ⟨w.heap.size, 0, none⟩) (.inr (.inl rfl)) _).setCell (p := ⟨w.heap.size + 1, 0, none⟩) (.inr (.inr rfl)) _⟩
          · have HN := Lib.hid (hN1 (by rw [hst1, if_pos (.inr (.inl c2))]))
            have c2' : ((m : Int) != 0) = true := by simp; omega
            clear hst1 hN1 bo
            gi_wp2_with (refine at_round (Hslot.out _) ?_; rintro e w' ⟨rfl, rfl⟩)
            exact wpIn_goto HN.out
      case done =>
        rintro W ⟨s, la, ⟨hst, _⟩, _, _, hM⟩ hD
        have HR := Lib.hid hr
        have HS := Lib.hid hst
        clear hr hst
        go_wp2
        refine marks_one rfl hD (v := .bool true) (by simp [results, Try.f65]) ⟨?_, (((Mods.ofNew hN0).trans hM).new (by omega)).putObj (by omega) _⟩
        have := HS.out
        rw [places_len, Hn'.out] at this
        rw [HR.out, this]; rfl
      case stop =>
        rintro c k W hk ⟨rfl, hst, hM⟩ hD
        rw [places_len, Hn'.out] at hk
        exact wp_goto (And.intro rfl ⟨rfl, .inr ⟨_, rfl, by omega, hD⟩, ((Mods.ofNew hN0).trans hM).new (by omega), by rw [hr, stt_none hst n hk]; rfl⟩)
    · have hz1 : ((z : Int) != 0) = true := by simp; omega
      have hR : rightB x = false := by rw [rightB, Hn'.out, hy, hz]; simp [hz0]
      clear hz hy hz0
      go_wp2
      exact wp_goto (And.intro rfl ⟨rfl, .inl rfl, ((Mods.refl _ _).alloc _).alloc _, hR⟩)
end Go.Proofs.Ytkjloeefcaadlaa
/- A word: how many, who is where, the first place that is so. -/
namespace Go.Proofs.Ytkjloeefcaadlaa
open Go.RowKit Go.Shelf Go.Cs
attribute [local go_sem] Oper.semAt_some
def manyN (x : Nat) : Nat := if rightB x then x / 2 ^ 60 else 0
theorem right_le {x : Nat} (h : rightB x = true) : x / 2 ^ 60 ≤ 8 := by simp [rightB] at h; exact h.1.1
theorem manyN_le (x : Nat) : manyN x ≤ 8 := by 
  unfold manyN
  split
  · exact right_le ‹_›
  · omega
theorem many_any (x : Nat) (hx : x < 18446744073709551616) (w : World) : Calls Try.prog 80 #[.int .u64 x] w fun e w' => e = .returned (.int .i64 (manyN x : Nat)) ∧ New w w' := by
  obtain ⟨m, hm⟩ : ∃ m, manyN x = m := ⟨_, rfl⟩
  rw [hm]
  unfold manyN at hm
  obtain ⟨b, hb⟩ : ∃ b, rightB x = b := ⟨_, rfl⟩
  rw [hb] at hm
  have hR := right_any x hx w
  rw [hb] at hR
  have HR := Lib.hid hR
  have h8 : b = true → x / 2 ^ 60 ≤ 8 := fun h => right_le (hb.trans h)
  clear hR hb
  cases b with
  | false =>
    simp at hm
    subst hm
    go_enter Try.func80, Try.ntmps80
    go_wp2_with (go_at_call 65; refine HR.out.mono ?_; rintro e w1 ⟨rfl, hN⟩)
    go_ret
    exact ⟨rfl, hN⟩
  | true =>
    have hn : (x : Int) / 1152921504606846976 = (m : Int) := by simp at hm; omega
    have h8' : m ≤ 8 := by have := h8 rfl; simp at hm; omega
    clear hm h8
    go_enter Try.func80, Try.ntmps80
    go_wp2_with (go_at_call 65; refine HR.out.mono ?_; rintro e w1 ⟨rfl, hN⟩)
    go_ret
    exact ⟨rfl, hN⟩
set_option maxHeartbeats 400000 in
theorem parted_any (x k : Nat) (hk : k ≤ 8) (hx : x < 18446744073709551616) (w : World) :
    Calls Try.prog 133 #[.int .u64 x, .int .i64 k] w fun e w' => e = .returned (.tuple #[.int .u64 (x % 2 ^ 60 % 2 ^ (7 * k) : Nat), .int .u64 (x % 2 ^ 60 - x % 2 ^ 60 % 2 ^ (7 * k) : Nat)]) ∧ w = w' := by
  have e1 : bits .andNot .u64 (x : Int) 17293822569102704640 = ((x % 2 ^ 60 : Nat) : Int) := by
    rw [show (17293822569102704640 : Int) = ((17293822569102704640 : Nat) : Int) from rfl, andNot_u64 x _ hx (by decide)]
    congr 1
    exact nat_mask60 x
  obtain ⟨y, hy, hy60⟩ : ∃ y, x % 2 ^ 60 = y ∧ y < 18446744073709551616 := ⟨_, rfl, by omega⟩
  rw [hy] at e1 ⊢
  clear hy
  obtain ⟨t, ht, ht64, ht0⟩ : ∃ t, 2 ^ (7 * k) = t ∧ t < 18446744073709551616 ∧ 1 ≤ t := ⟨_, rfl, Nat.lt_of_le_of_lt (Nat.pow_le_pow_right (n := 2) (by decide) (show 7 * k ≤ 56 by omega)) (by decide), Nat.one_le_two_pow⟩
  have e2 : IntKind.u64.wrap (2 ^ (7 * k)) = (t : Int) := by rw [IntKind.wrap_u64, cast_pow, ht]; omega
  obtain ⟨lo, hlo, hlo64⟩ : ∃ lo, y % 2 ^ (7 * k) = lo ∧ lo < 18446744073709551616 := ⟨_, rfl, Nat.lt_of_le_of_lt (Nat.mod_le _ _) hy60⟩
  have e3 : bits .and .u64 (y : Int) ((t : Int) - 1) = (lo : Int) := by
    rw [show (t : Int) - 1 = ((t - 1 : Nat) : Int) by omega, and_u64 y (t - 1) hy60 (by omega), ← ht, and_mask, hlo]
  obtain ⟨hi, hhi⟩ : ∃ hi, y - lo = hi := ⟨_, rfl⟩
  have e4 : bits .xor .u64 (y : Int) (lo : Int) = (hi : Int) := by
    rw [xor_u64 y lo hy60 hlo64, ← hhi, ← hlo, xor_low]
  rw [hlo, hhi]
  clear hlo hhi ht
  go_enter Try.func133, Try.ntmps133
  go_wp2
  go_ret2
  exact ⟨rfl, rfl⟩
set_option maxHeartbeats 400000 in
theorem at_any (x : Nat) (k : Int) (hx : x < 18446744073709551616) (w : World) :
    Calls Try.prog 134 #[.int .u64 x, .int .i64 k] w fun e w' => e = .returned (if 0 ≤ k ∧ k < manyN x then .tuple #[.int .i64 (place x k.toNat % 8 : Nat), .int .i64 (place x k.toNat / 8 % 8 : Nat), .bool true] else .tuple #[.int .i64 0, .int .i64 0, .bool false]) ∧ New w w' := by
  have HM := Lib.hid (many_any x hx)
  have hm8 := manyN_le x
  obtain ⟨m, hm⟩ : ∃ m, manyN x = m := ⟨_, rfl⟩
  rw [hm] at HM hm8 ⊢
  clear hm
  by_cases h0 : k < 0
  · rw [if_neg (by omega)]
    go_enter Try.func134, Try.ntmps134
    go_wp2
    go_ret3
    exact ⟨rfl, Mods.refl _ _⟩
  by_cases h1 : k < m
  · rw [if_pos (by omega)]
    obtain ⟨j, rfl⟩ := Int.eq_ofNat_of_zero_le (Int.not_lt.1 h0)
    rw [Int.toNat_natCast]
    obtain ⟨p, hp, hp64⟩ : ∃ p, x / 2 ^ (7 * j) = p ∧ p < 18446744073709551616 := ⟨_, rfl, div_lt64 x _ hx⟩
    have he : (x : Int) / 2 ^ (7 * j) = (p : Int) := by rw [← hp]; exact div_cast x _
    have e1 : place x j % 8 = p % 8 := by rw [place, hp]; omega
    have e2 : place x j / 8 % 8 = p / 8 % 8 := by rw [place, hp]; omega
    rw [e1, e2]
    clear hp e1 e2
    have H1 := Lib.hid (slot_any p)
    have H2 := Lib.hid (urgency_any p)
    obtain ⟨a, ha⟩ : ∃ a, p % 8 = a := ⟨_, rfl⟩
    obtain ⟨b, hb⟩ : ∃ a, p / 8 % 8 = a := ⟨_, rfl⟩
    rw [ha] at H1 ⊢
    rw [hb] at H2 ⊢
    clear ha hb
    go_enter Try.func134, Try.ntmps134
    go_wp2_with (first | (go_at_call 80; refine (HM.out _).mono ?_; rintro e w1 ⟨rfl, hN⟩) | (go_at_call 125; refine (H1.out _ hp64).mono ?_; rintro e w2 ⟨rfl, rfl⟩) | (go_at_call 130; refine (H2.out _ hp64).mono ?_; rintro e w2 ⟨rfl, rfl⟩))
    go_ret3
    exact ⟨rfl, hN⟩
  · rw [if_neg (by omega)]
    go_enter Try.func134, Try.ntmps134
    go_wp2_with (go_at_call 80; refine (HM.out _).mono ?_; rintro e w1 ⟨rfl, hN⟩)
    go_ret3
    exact ⟨rfl, hN⟩
/-- The first place that is so. -/
def firstK (x : Nat) (so : Nat → Bool) : Option Nat := if rightB x then (List.range (x / 2 ^ 60)).find? (fun k => so (place x k)) else none
theorem places_at {x k : Nat} {p : Nat × Nat} (hp : (places x)[k]? = some p) : k < x / 2 ^ 60 ∧ p = (k, place x k) := by
  rw [places, List.getElem?_map] at hp
  obtain ⟨j, hj, rfl⟩ := Option.map_eq_some_iff.1 hp
  obtain ⟨h1, h2⟩ := List.getElem?_eq_some_iff.1 hj
  simp at h1 h2
  subst h2
  exact ⟨h1, rfl⟩
theorem find_range {n j : Nat} {f : Nat → Bool} (hj : j < n) (ht : f j = true) (hf : ∀ i, i < j → f i = false) : (List.range n).find? f = some j := by
  induction n with
  | zero => omega
  | succ n ih =>
    rw [List.range_succ, List.find?_append]
    by_cases h : j < n
    · rw [ih h]; rfl
    · obtain rfl : j = n := by omega
      rw [List.find?_eq_none.2 (fun i hi => by rw [hf i (List.mem_range.1 hi)]; simp)]
      simp [ht]
def optT (o : Option Nat) : Value := .tuple #[.int .i64 (o.getD 0 : Nat), .bool o.isSome]
set_option maxHeartbeats 400000 in
theorem first_any (x : Nat) (hx : x < 18446744073709551616) (g : Nat) (lb : Array Value) (so : Nat → Bool) (w : World)
    (eg : ∀ args w, (callFunc g args).run Try.prog w = .ok (.enter g args) w)
    (hso : ∀ p W, p < 128 → New w W → Calls Try.prog g (#[.int .u64 p] ++ lb) W fun e W' => e = .returned (.bool (so p)) ∧ New W W') :
    Calls Try.prog 128 #[.int .u64 x, .func (.func g) #[] lb] w fun e w' => e = .returned (optT (firstK x so)) ∧ New w w' := by
  have Hso := Lib.hid hso
  clear hso
  have HR := Lib.hid (right_any x hx)
  obtain ⟨r, hr⟩ : ∃ r, firstK x so = r := ⟨_, rfl⟩
  have Hr := Lib.hid hr
  rw [hr]
  clear hr
  obtain ⟨b, hb⟩ : ∃ b, rightB x = b := ⟨_, rfl⟩
  rw [hb] at HR
  have Hb := Lib.hid hb
  clear hb
  refine calls_of_marks Try.func128 rfl ?_
  simp only [Try.ntmps128, List.size_toArray, List.length_cons, List.length_nil, Nat.reduceAdd, Nat.reduceSub, Array.replicate_succ, Array.replicate_zero, List.push_toArray, List.append_toArray, List.nil_append, List.cons_append]
  go_wp2_with fail
  obtain ⟨W0, hW0⟩ : ∃ W0, ((w.alloc (.cells #[.func (.func g) #[] lb] 28)).alloc (.cells #[.int .i64 0] 3)).alloc (.cells #[.bool false] 4) = W0 := ⟨_, rfl⟩
  have hN0 : New w W0 := by rw [← hW0]; exact (((Mods.refl _ _).alloc _).alloc _).alloc _
  have hsz : W0.heap.size = w.heap.size + 3 := by rw [← hW0]; simp
  have hb0 : Boxed W0 w.heap.size 28 (.func (.func g) #[] lb) := by rw [← hW0]; exact ((Boxed.new w _ _).alloc _).alloc _
  have hb1 : Boxed W0 (w.heap.size + 1) 3 (.int .i64 0) := by rw [← hW0]; exact (boxed1 w _ _ _).alloc _
  have hb2 : Boxed W0 (w.heap.size + 1 + 1) 4 (.bool false) := by rw [← hW0]; exact boxed2 w _ _ _ _
  rw [hW0]
  clear hW0
  refine (HR.out _).mono ?_
  rintro e w1 ⟨rfl, hN1⟩
  have k0 := hN1.boxed hb0 id
  have k1 := hN1.boxed hb1 id
  have k2 := hN1.boxed hb2 id
  have hsz1 : w.heap.size + 3 ≤ w1.heap.size := by have := hN1.size; omega
  have hNw := hN0.trans hN1
  clear hN0 hN1 hb0 hb1 hb2 hsz
  cases b with
  | false =>
    obtain ⟨c1, f1⟩ := k1.both
    obtain ⟨c2, f2⟩ := k2.both
    go_wp2_with fail
    refine marks_none (v := optT r) rfl ?_ ⟨rfl, (hNw.setCell (p := ⟨w.heap.size + 1, 0, none⟩) (.inl (by simp)) _).setCell (p := ⟨w.heap.size + 1 + 1, 0, none⟩) (.inl (by simp; omega)) _⟩
    obtain rfl : r = none := by rw [← Hr.out, firstK, Hb.out]; rfl
    have r1 := ((k1.set (.int .i64 0)).other (B' := w.heap.size + 1 + 1) (by omega) (.bool false)).cell
    have r2 := ((k2.other (B' := w.heap.size + 1) (by omega) (.int .i64 0)).set (.bool false)).cell
    simp [results, Try.f128, go_sem, r1, r2, optT]
  | true =>
    go_wp2_with fail
    refine (places_any x _).mono ?_
    rintro e w2 ⟨rfl, hw2⟩
    have m0 := k0.alloc (.cells #[.int .u64 x] 22)
    have m1 := k1.alloc (.cells #[.int .u64 x] 22)
    have m2 := k2.alloc (.cells #[.int .u64 x] 22)
    have mp := Boxed.new w1 22 (.int .u64 x)
    have hNv := hNw.alloc (.cells #[.int .u64 x] 22)
    have hsz2 : w2.heap.size = w1.heap.size + 1 := by rw [← hw2]; simp
    obtain ⟨B, hB, hB3⟩ : ∃ B, w1.heap.size = B ∧ w.heap.size + 3 ≤ B := ⟨_, rfl, hsz1⟩
    rw [hw2] at m0 m1 m2 mp hNv
    rw [hB] at mp hsz2 ⊢
    clear k0 k1 k2 hNw hsz1 hw2 hB
    go_wp2_with fail
    refine wp_rangeList (gf := 161) (lb := #[.pointer (some ⟨B, 0, none⟩)]) rfl (enters_of Try.func161 (by kernel_rfl) rfl) (places x) encP (fun b => b = w.heap.size + 1 ∨ b = w.heap.size + 1 + 1)
      (fun W hW => places1_iter _ x hx _ (by omega) W (hW.boxed mp id).cell) (fun _ => rfl)
      (fun k W => (∀ j, j < k → so (place x j) = false) ∧ Boxed W w.heap.size 28 (.func (.func g) #[] lb) ∧ Boxed W (w.heap.size + 1) 3 (.int .i64 0) ∧ Boxed W (w.heap.size + 1 + 1) 4 (.bool false) ∧ Mods (fun b => b = w.heap.size + 1 ∨ b = w.heap.size + 1 + 1) w2 W)
      (fun c k W => c = .ret ∧ ∃ j, (j + 1 = k ∧ so (place x j) = true ∧ ∀ i, i < j → so (place x i) = false) ∧ Boxed W (w.heap.size + 1) 3 (.int .i64 (j : Nat)) ∧ Boxed W (w.heap.size + 1 + 1) 4 (.bool true) ∧ Mods (fun b => b = w.heap.size + 1 ∨ b = w.heap.size + 1 + 1) w2 W)
      (fun k => .and (.pure _) (.and (.boxed _ _ _) (.and (.boxed _ _ _) (.and (.boxed _ _ _) (.mods (Nat.le_refl _))))))
      (fun c k => .and (.pure _) (.ex fun j => .and (.pure _) (.and (.boxed _ _ _) (.and (.boxed _ _ _) (.mods (Nat.le_refl _))))))
      ⟨by omega, m0, m1, m2, Mods.refl _ _⟩
      (fun p t => (((t.setIfInBounds 13 (.int .i64 p.1)).setIfInBounds 14 (.int .u64 p.2)).setIfInBounds 6 (.int .i64 p.1)).setIfInBounds 7 (.int .u64 p.2)) ?assign ?body ?done ?stop
    case assign =>
      rintro l ⟨p1, p2⟩ W K hK
      simp only [encP] at hK ⊢
      gi_wp2
      exact hK
    case body =>
      rintro l k p W hp hl _ ⟨hbefore, n0, n1, n2, hM⟩
      clear m0 m1 m2 mp
      obtain ⟨hk, rfl⟩ := places_at hp
      clear hp
      have hp128 := place_lt x k
      obtain ⟨q, hq⟩ : ∃ q, place x k = q := ⟨_, rfl⟩
      have Hq := Lib.hid hq
      rw [hq] at hp128 ⊢
      clear hq
      have c0 := n0.cell
      have hcall := Hso.out q W hp128 (((hNv.mono (fun _ f => f.elim)).trans hM).new (by omega))
      have Hcall := Lib.hid hcall
      clear hcall
      gi_wp2
      refine at_round Hcall.out ?_
      rintro e W2 ⟨rfl, hN2⟩
      have n1' := hN2.boxed n1 id
      have n2' := hN2.boxed n2 id
      have n0' := hN2.boxed n0 id
      have hM2 : Mods (fun b => b = w.heap.size + 1 ∨ b = w.heap.size + 1 + 1) W W2 := Mods.ofNew hN2
      have Hbefore := Lib.hid hbefore
      clear hN2 n1 n2 n0 c0 hbefore
      obtain ⟨t, ht⟩ : ∃ t, so q = t := ⟨_, rfl⟩
      have Ht := Lib.hid ht
      rw [ht]
      clear ht
      obtain ⟨c1, f1⟩ := n1'.both
      obtain ⟨c2, f2⟩ := n2'.both
      cases t with
      | true =>
        gi_wp2
        refine ⟨(hM2.setCell (p := ⟨w.heap.size + 1, 0, none⟩) (.inr (.inl rfl)) _).setCell (p := ⟨w.heap.size + 1 + 1, 0, none⟩) (.inr (.inr rfl)) _, rfl, k, ⟨rfl, by rw [Hq.out]; exact Ht.out, Hbefore.out⟩,
          (n1'.set _).other (by omega) _, (n2'.other (by omega) _).set _, ((hM.trans hM2).setCell (p := ⟨w.heap.size + 1, 0, none⟩) (.inr (.inl rfl)) _).setCell (p := ⟨w.heap.size + 1 + 1, 0, none⟩) (.inr (.inr rfl)) _⟩
      | false =>
        gi_wp2
        refine ⟨hM2, fun j hj => ?_, n0', n1', n2', hM.trans hM2⟩
        rcases Nat.lt_or_ge j k with h | h
        · exact Hbefore.out j h
        · obtain rfl : j = k := by omega
          rw [Hq.out]; exact Ht.out
    case done =>
      rintro W ⟨hall, _, n1, n2, hM⟩ hD
      obtain ⟨c1, f1⟩ := n1.both
      obtain ⟨c2, f2⟩ := n2.both
      have Hall := Lib.hid hall
      clear hall
      go_wp2_with fail
      have p1 := ((n1.set (.int .i64 0)).other (B' := w.heap.size + 1 + 1) (by omega) (.bool false))
      have p2 := ((n2.other (B' := w.heap.size + 1) (by omega) (.int .i64 0)).set (.bool false))
      have hMM := (((Mods.ofNew hNv).trans hM).setCell (p := ⟨w.heap.size + 1, 0, none⟩) (.inr (.inl rfl)) (.int .i64 0)).setCell (p := ⟨w.heap.size + 1 + 1, 0, none⟩) (.inr (.inr rfl)) (.bool false)
      have hD' := (((KeepsOthers.setCell W ⟨w.heap.size + 1, 0, none⟩ (.int .i64 0)).trans (KeepsOthers.setCell _ ⟨w.heap.size + 1 + 1, 0, none⟩ (.bool false))).same _ _ hD rfl)
      have q1 := (Stab.boxed (B := 0) _ _ _ _ _ p1 (Quiet.putObj (.deferred none) hD' rfl (Nat.zero_le _))).cell
      have q2 := (Stab.boxed (B := 0) _ _ _ _ _ p2 (Quiet.putObj (.deferred none) hD' rfl (Nat.zero_le _))).cell
      refine marks_one rfl hD' (v := optT r) ?_ ⟨rfl, (hMM.new (by omega)).putObj (by omega) _⟩
      obtain rfl : r = none := by
        rw [← Hr.out, firstK, Hb.out, if_pos rfl, List.find?_eq_none]
        intro j hj
        rw [List.mem_range] at hj
        rw [Hall.out j (by rw [places_len]; exact hj)]; simp
      simp [results, Try.f128, go_sem, q1, q2, optT]
    case stop =>
      rintro c k W hk ⟨rfl, j, ⟨hj, hjt, hjf⟩, n1, n2, hM⟩ hD
      refine wp_ret ?_
      have q1 := (Stab.boxed (B := 0) _ _ _ _ _ n1 (Quiet.putObj (.deferred none) hD rfl (Nat.zero_le _))).cell
      have q2 := (Stab.boxed (B := 0) _ _ _ _ _ n2 (Quiet.putObj (.deferred none) hD rfl (Nat.zero_le _))).cell
      refine marks_one rfl hD (v := optT r) ?_ ⟨rfl, (((Mods.ofNew hNv).trans hM).new (by omega)).putObj (by omega) _⟩
      obtain rfl : r = some j := by
        rw [← Hr.out, firstK, Hb.out, if_pos rfl]
        exact find_range (by rw [places_len] at hk; omega) hjt hjf
      simp [results, Try.f128, go_sem, q1, q2, optT]
end Go.Proofs.Ytkjloeefcaadlaa
/- A word: a slot is found; a slot is pushed. -/
namespace Go.Proofs.Ytkjloeefcaadlaa
open Go.RowKit Go.Shelf Go.Cs
attribute [local go_sem] Oper.semAt_some
set_option maxHeartbeats 400000 in
theorem find1_any (p B : Nat) (s : Int) (W : World) (hp : p < 128) (hB : W.cell? ⟨B, 0, none⟩ = some (.int .i64 s)) :
    Calls Try.prog 162 #[.int .u64 p, .pointer (some ⟨B, 0, none⟩)] W fun e W' => e = .returned (.bool (((p % 8 : Nat) : Int) == s)) ∧ New W W' := by
  have H := Lib.hid (slot_any p)
  obtain ⟨q, hq⟩ : ∃ q, p % 8 = q := ⟨_, rfl⟩
  rw [hq] at H ⊢
  clear hq
  go_enter Try.func162, Try.ntmps162
  go_wp2
  go_quiet ((go_at_call 125; exact Calls.quiet_of_same ((H.out _ (by omega)).mono fun e w' h => ⟨h.1, h.2.symm⟩)))
  go_wp2
  go_ret
  exact ⟨rfl, (Mods.refl _ _).drewN _⟩
set_option maxHeartbeats 400000 in
theorem push1_any (p B : Nat) (u : Int) (W : World) (hp : p < 128) (hB : W.cell? ⟨B, 0, none⟩ = some (.int .i64 u)) :
    Calls Try.prog 129 #[.int .u64 p, .pointer (some ⟨B, 0, none⟩)] W fun e W' => e = .returned (.bool (decide (u < ((p / 8 % 8 : Nat) : Int)))) ∧ New W W' := by
  have H := Lib.hid (urgency_any p)
  obtain ⟨q, hq⟩ : ∃ q, p / 8 % 8 = q := ⟨_, rfl⟩
  rw [hq] at H ⊢
  clear hq
  go_enter Try.func129, Try.ntmps129
  go_wp2
  go_quiet ((go_at_call 130; exact Calls.quiet_of_same ((H.out _ (by omega)).mono fun e w' h => ⟨h.1, h.2.symm⟩)))
  go_wp2
  go_ret
  exact ⟨rfl, (Mods.refl _ _).drewN _⟩
def findK (x : Nat) (s : Int) : Option Nat := firstK x (fun p => ((p % 8 : Nat) : Int) == s)
set_option maxHeartbeats 400000 in
theorem find_any (x : Nat) (s : Int) (hx : x < 18446744073709551616) (w : World) :
    Calls Try.prog 131 #[.int .u64 x, .int .i64 s] w fun e w' => e = .returned (optT (findK x s)) ∧ New w w' := by
  have hf := first_any x hx 162 #[.pointer (some ⟨w.heap.size, 0, none⟩)] (fun p => ((p % 8 : Nat) : Int) == s) (w.alloc (.cells #[.int .i64 s] 3)) (enters_of Try.func162 (by kernel_rfl) rfl)
    (fun p W hp hN => find1_any p _ s W hp (hN.boxed (Boxed.new w 3 _) id).cell)
  have Hf := Lib.hid hf
  clear hf
  obtain ⟨r, hr⟩ : ∃ r, findK x s = r := ⟨_, rfl⟩
  have hr' : firstK x (fun p => ((p % 8 : Nat) : Int) == s) = r := hr
  rw [hr'] at Hf
  rw [hr]
  clear hr hr'
  go_enter Try.func131, Try.ntmps131
  go_wp2_with fail
  refine Hf.out.mono ?_
  rintro e w1 ⟨rfl, hN⟩
  unfold optT
  go_wp2
  go_ret2
  exact ⟨rfl, ((Mods.refl _ _).alloc _).trans hN⟩
def numB (n : Int) : Bool := n == n % 8
theorem number_any (n : Int) (w : World) (h1 : -9223372036854775808 ≤ n) (h2 : n ≤ 9223372036854775807) :
    Calls Try.prog 132 #[.int .i64 n] w fun e w' => e = .returned (.bool (numB n)) ∧ w = w' := by
  have hb := and7_i64 n h1 h2
  obtain ⟨q, hq⟩ : ∃ q, n % 8 = q := ⟨_, rfl⟩
  unfold numB
  rw [hq] at hb ⊢
  clear hq
  go_enter Try.func132, Try.ntmps132
  go_wp2
  go_ret
  exact ⟨rfl, rfl⟩
def firstU (x : Nat) (u : Int) : Option Nat := firstK x (fun p => decide (u < ((p / 8 % 8 : Nat) : Int)))
theorem firstK_lt {x k : Nat} {so : Nat → Bool} (h : firstK x so = some k) : rightB x = true ∧ k < x / 2 ^ 60 := by
  unfold firstK at h
  split at h
  · exact ⟨‹_›, by have := List.mem_of_find?_eq_some h; simpa using this⟩
  · cases h
def pushK (x : Nat) (u : Int) : Nat := (firstU x u).getD (manyN x)
theorem pushK_le (x : Nat) (u : Int) : pushK x u ≤ 8 := by
  unfold pushK
  cases h : firstU x u with
  | none => exact manyN_le x
  | some k => have := firstK_lt h; have := right_le this.1; simp; omega
def pushOk (x : Nat) (s u : Int) : Bool := (findK x s).isNone && rightB x && numB s && numB u
def pushX (x s u k : Nat) : Nat :=
  ((x / 2 ^ 60 + 1) * 2 ^ 60 ||| (x % 2 ^ 60 - x % 2 ^ 60 % 2 ^ (7 * k)) * 128 % 18446744073709551616) ||| ((64 ||| u * 8) ||| s) * 2 ^ (7 * k) ||| x % 2 ^ 60 % 2 ^ (7 * k)
theorem wrapN (a : Nat) : IntKind.u64.wrap (a : Int) = ((a % 18446744073709551616 : Nat) : Int) := by rw [IntKind.wrap_u64]; rfl
theorem push_val (x s u k : Nat) (hx : x < 18446744073709551616) (hn : x / 2 ^ 60 ≤ 8) (hs : s < 8) (hu : u < 8) (hk : k ≤ 8) :
    bits .or .u64 (bits .or .u64 (bits .or .u64 (((x : Int) / 1152921504606846976 + 1) * 1152921504606846976) (IntKind.u64.wrap (((x % 1152921504606846976 - x % 1152921504606846976 % 2 ^ (7 * k) : Nat) : Int) * 128)))
      (IntKind.u64.wrap (bits .or .u64 (bits .or .u64 64 ((u : Int) * 8)) (s : Int) * 2 ^ (7 * k)))) ((x : Int) % 1152921504606846976 % 2 ^ (7 * k)) = (pushX x s u k : Int) := by
  have hp : 2 ^ (7 * k) ≤ 2 ^ 56 := Nat.pow_le_pow_right (n := 2) (by decide) (by omega)
  have e1 : ((x : Int) / 1152921504606846976 + 1) * 1152921504606846976 = (((x / 2 ^ 60 + 1) * 2 ^ 60 : Nat) : Int) := by simp only [Nat.reducePow]; omega
  have e2 : ((x % 1152921504606846976 - x % 1152921504606846976 % 2 ^ (7 * k) : Nat) : Int) * 128 = (((x % 2 ^ 60 - x % 2 ^ 60 % 2 ^ (7 * k)) * 128 : Nat) : Int) := by rw [Int.natCast_mul]; rfl
  have e3 : (u : Int) * 8 = ((u * 8 : Nat) : Int) := by omega
  have e4 : (x : Int) % 1152921504606846976 % 2 ^ (7 * k) = ((x % 2 ^ 60 % 2 ^ (7 * k) : Nat) : Int) := by rw [cast_pow]; rfl
  have l1 : 64 ||| u * 8 < 128 := Nat.or_lt_two_pow (n := 7) (by decide) (by omega)
  have l2 : (64 ||| u * 8) ||| s < 128 := Nat.or_lt_two_pow (n := 7) l1 (by omega)
  have l3 : ((64 ||| u * 8) ||| s) * 2 ^ (7 * k) < 18446744073709551616 := Nat.lt_of_lt_of_le (Nat.mul_lt_mul_of_lt_of_le l2 hp (by decide)) (by decide)
  have l4 : (x / 2 ^ 60 + 1) * 2 ^ 60 < 18446744073709551616 := by simp only [Nat.reducePow] at hn ⊢; omega
  have l5 : x % 2 ^ 60 % 2 ^ (7 * k) < 18446744073709551616 := Nat.lt_of_le_of_lt (Nat.mod_le _ _) (by omega)
  rw [e1, e2, wrapN, e3, e4, show (64 : Int) = ((64 : Nat) : Int) from rfl, or_u64 64 (u * 8) (by decide) (by omega), or_u64 (64 ||| u * 8) s (by omega) (by omega), cast_pow, ← Int.natCast_mul, wrapN, Nat.mod_eq_of_lt l3,
    or_u64 _ _ l4 (Nat.mod_lt _ (by decide)), or_u64 _ _ (Nat.or_lt_two_pow (n := 64) l4 (Nat.mod_lt _ (by decide))) l3, or_u64 _ _ (Nat.or_lt_two_pow (n := 64) (Nat.or_lt_two_pow (n := 64) l4 (Nat.mod_lt _ (by decide))) l3) l5]
  rfl
theorem firstU_any (x B : Nat) (u : Int) (hx : x < 18446744073709551616) (w : World) (hB : Boxed w B 3 (.int .i64 u)) :
    Calls Try.prog 128 #[.int .u64 x, .func (.func 129) #[] #[.pointer (some ⟨B, 0, none⟩)]] w fun e w' => e = .returned (optT (firstU x u)) ∧ New w w' :=
  first_any x hx 129 #[.pointer (some ⟨B, 0, none⟩)] (fun p => decide (u < ((p / 8 % 8 : Nat) : Int))) w (enters_of Try.func129 (by kernel_rfl) rfl)
    (fun p W hp hN => push1_any p _ u W hp (hN.boxed hB id).cell)
set_option maxHeartbeats 1000000 in
theorem push_yes (x s u : Nat) (hx : x < 18446744073709551616) (hR : rightB x = true) (hF : findK x s = none) (hs : s < 8) (hu : u < 8) (w : World) :
    Calls Try.prog 71 #[.int .u64 x, .int .i64 s, .int .i64 u] w fun e w' => e = .returned (.tuple #[.int .u64 (pushX x s u (pushK x u) : Nat), .bool true]) ∧ New w w' := by
  have hM := many_any x hx
  have hK := pushK_le x u
  have hk' : pushK x u = (firstU x u).getD (manyN x) := rfl
  have hRt := right_any x hx
  have hFd := find_any x s hx
  have hN := fun (m : Nat) (hm : m < 8) w => number_any (m : Int) w (by omega) (by omega)
  have hN' : ∀ (m : Nat) (hm : m < 8) w, Calls Try.prog 132 #[.int .i64 m] w fun e w' => e = .returned (.bool true) ∧ w = w' := fun m hm w => by
    have := hN m hm w
    rwa [show numB m = true by simp [numB]; omega] at this
  have hP := fun k hk w => parted_any x k hk hx w
  rw [hR] at hRt
  rw [hF] at hFd
  obtain ⟨k, hk⟩ : ∃ k, pushK x u = k := ⟨_, rfl⟩
  obtain ⟨m, hm⟩ : ∃ m, manyN x = m := ⟨_, rfl⟩
  obtain ⟨f, hf⟩ : ∃ f, firstU x u = f := ⟨_, rfl⟩
  have hfu := firstU_any x w.heap.size u hx
  rw [hf] at hfu
  rw [hk, hf, hm] at hk'
  rw [hk] at hK ⊢
  rw [hm] at hM
  have HM := Lib.hid hM
  have HRt := Lib.hid hRt
  have HFd := Lib.hid hFd
  have HN := Lib.hid hN'
  have HP := Lib.hid hP
  have Hfu := Lib.hid hfu
  have Hk' := Lib.hid hk'
  have hn9 : x / 2 ^ 60 ≤ 8 := right_le hR
  obtain ⟨r, hr⟩ : ∃ r, pushX x s u k = r := ⟨_, rfl⟩
  have Hr := Lib.hid hr
  rw [hr]
  clear hM hRt hFd hN hN' hP hfu hk' hk hm hf hF hR hr
  go_enter Try.func71, Try.ntmps71
  go_wp2_with fail
  refine (HM.out _).mono ?_
  rintro e w1 ⟨rfl, hN1⟩
  have b1 := hN1.boxed (Boxed.new w 3 (.int .i64 u)) id
  go_wp2_with fail
  refine (Hfu.out _ b1).mono ?_
  rintro e w2 ⟨rfl, hN2⟩
  have b2 := hN2.boxed b1 id
  have hNN := (((Mods.refl _ w).alloc _).trans hN1).trans hN2
  have c2 := b2.cell
  clear hN1 hN2 b1 b2
  have hf : f = none ∧ m = k ∨ f = some k := by
    cases f with
    | none => exact .inl ⟨rfl, by simpa using Hk'.out.symm⟩
    | some f => exact .inr (by rw [Hk'.out]; rfl)
  clear Hk'
  rcases hf with ⟨rfl, rfl⟩ | rfl
  all_goals
    simp only [optT, Option.getD_none, Option.isSome_none, Option.getD_some, Option.isSome_some]
    go_wp2_with fail
    refine (HFd.out _).mono ?_
    rintro e w3 ⟨rfl, hN3⟩
    have c3 := hN3.cell c2 id
    simp only [optT, Option.getD_none, Option.isSome_none]
    go_wp2_with fail
    refine (HRt.out _).mono ?_
    rintro e w4 ⟨rfl, hN4⟩
    have c4 := hN4.cell c3 id
    have hNN := (hNN.trans hN3).trans hN4
    clear hN3 hN4 c2 c3
    go_wp2_with fail
    refine (HN.out s hs _).mono ?_
    rintro e w5 ⟨rfl, rfl⟩
    go_wp2_with fail
    refine (HN.out u hu _).mono ?_
    rintro e w5 ⟨rfl, rfl⟩
    go_wp2_with fail
    refine (HP.out _ hK _).mono ?_
    rintro e w5 ⟨rfl, rfl⟩
    go_wp2_with fail
    go_ret2
    exact ⟨by rw [push_val x s u _ hx hn9 hs hu hK, Hr.out]; rfl, hNN⟩
end Go.Proofs.Ytkjloeefcaadlaa
/- A word: a slot is pushed, or not; taken out; the best one; turned. -/
namespace Go.Proofs.Ytkjloeefcaadlaa
open Go.RowKit Go.Shelf Go.Cs
attribute [local go_sem] Oper.semAt_some
set_option maxHeartbeats 1000000 in
theorem push_no (x : Nat) (s u : Int) (hx : x < 18446744073709551616) (h1 : -9223372036854775808 ≤ s) (h2 : s ≤ 9223372036854775807) (h3 : -9223372036854775808 ≤ u) (h4 : u ≤ 9223372036854775807) (hno : pushOk x s u = false) (w : World) :
    Calls Try.prog 71 #[.int .u64 x, .int .i64 s, .int .i64 u] w fun e w' => e = .returned (.tuple #[.int .u64 x, .bool false]) ∧ New w w' := by
  have hM := many_any x hx
  have hRt := right_any x hx
  have hFd := find_any x s hx
  have hS := fun w => number_any s w h1 h2
  have hU := fun w => number_any u w h3 h4
  have hfu := firstU_any x w.heap.size u hx
  unfold pushOk at hno
  obtain ⟨m, hm⟩ : ∃ m, manyN x = m := ⟨_, rfl⟩
  obtain ⟨f, hf⟩ : ∃ f, firstU x u = f := ⟨_, rfl⟩
  obtain ⟨d, hd⟩ : ∃ d, findK x s = d := ⟨_, rfl⟩
  obtain ⟨b, hb⟩ : ∃ d, rightB x = d := ⟨_, rfl⟩
  obtain ⟨bs, hbs⟩ : ∃ d, numB s = d := ⟨_, rfl⟩
  obtain ⟨bu, hbu⟩ : ∃ d, numB u = d := ⟨_, rfl⟩
  rw [hm] at hM
  rw [hf] at hfu
  rw [hd] at hFd hno
  rw [hb] at hRt hno
  rw [hbs] at hS hno
  rw [hbu] at hU hno
  have HM := Lib.hid hM
  have HRt := Lib.hid hRt
  have HFd := Lib.hid hFd
  have HS := Lib.hid hS
  have HU := Lib.hid hU
  have Hfu := Lib.hid hfu
  have Hno := Lib.hid hno
  clear hM hRt hFd hS hU hfu hno hm hf hd hb hbs hbu
  go_enter Try.func71, Try.ntmps71
  go_wp2_with fail
  refine (HM.out _).mono ?_
  rintro e w1 ⟨rfl, hN1⟩
  have b1 := hN1.boxed (Boxed.new w 3 (.int .i64 u)) id
  go_wp2_with fail
  refine (Hfu.out _ b1).mono ?_
  rintro e w2 ⟨rfl, hN2⟩
  have b2 := hN2.boxed b1 id
  have hNN := (((Mods.refl _ w).alloc _).trans hN1).trans hN2
  have c2 := b2.cell
  clear hN1 hN2 b1 b2 HM Hfu
  cases f
  all_goals
    simp only [optT, Option.getD_none, Option.isSome_none, Option.getD_some, Option.isSome_some]
    go_wp2_with fail
    refine (HFd.out _).mono ?_
    rintro e w3 ⟨rfl, hN3⟩
    have c3 := hN3.cell c2 id
    have hNN := hNN.trans hN3
    clear hN3 c2
    cases d with
    | some d =>
      simp only [optT, Option.getD_some, Option.isSome_some]
      go_wp2_with fail
      go_ret2
      exact ⟨rfl, hNN⟩
    | none =>
      simp only [optT, Option.getD_none, Option.isSome_none]
      go_wp2_with fail
      refine (HRt.out _).mono ?_
      rintro e w4 ⟨rfl, hN4⟩
      have c4 := hN4.cell c3 id
      have hNN := hNN.trans hN4
      clear hN4 c3
      cases b with
      | false =>
        go_wp2_with fail
        go_ret2
        exact ⟨rfl, hNN⟩
      | true =>
        go_wp2_with fail
        refine (HS.out _).mono ?_
        rintro e w5 ⟨rfl, rfl⟩
        cases bs with
        | false =>
          go_wp2_with fail
          go_ret2
          exact ⟨rfl, hNN⟩
        | true =>
          go_wp2_with fail
          refine (HU.out _).mono ?_
          rintro e w5 ⟨rfl, rfl⟩
          cases bu with
          | false =>
            go_wp2_with fail
            go_ret2
            exact ⟨rfl, hNN⟩
          | true => exact absurd Hno.out (by simp)
def pair (r : Nat × Bool) : Value := .tuple #[.int .u64 r.1, .bool r.2]
def pushF (x : Nat) (s u : Int) : Nat × Bool := if pushOk x s u then (pushX x s.toNat u.toNat (pushK x u), true) else (x, false)
theorem numB_iff {n : Int} : numB n = true ↔ 0 ≤ n ∧ n < 8 := by simp [numB]; omega
theorem push_any (x : Nat) (s u : Int) (hx : x < 18446744073709551616) (h1 : -9223372036854775808 ≤ s) (h2 : s ≤ 9223372036854775807) (h3 : -9223372036854775808 ≤ u) (h4 : u ≤ 9223372036854775807) (w : World) :
    Calls Try.prog 71 #[.int .u64 x, .int .i64 s, .int .i64 u] w fun e w' => e = .returned (pair (pushF x s u)) ∧ New w w' := by
  unfold pushF
  cases ho : pushOk x s u with
  | false => exact push_no x s u hx h1 h2 h3 h4 ho w
  | true =>
    simp only [pushOk, Bool.and_eq_true, Option.isNone_iff_eq_none] at ho
    obtain ⟨⟨⟨hf, hr⟩, hs⟩, hu⟩ := ho
    obtain ⟨hs0, hs8⟩ := numB_iff.1 hs
    obtain ⟨hu0, hu8⟩ := numB_iff.1 hu
    obtain ⟨s, rfl⟩ := Int.eq_ofNat_of_zero_le hs0
    obtain ⟨u, rfl⟩ := Int.eq_ofNat_of_zero_le hu0
    exact push_yes x s u hx hr hf (by omega) (by omega) w
def outX (x k : Nat) : Nat :=
  ((x / 2 ^ 60 - 1) * 2 ^ 60 ||| (x % 2 ^ 60 - x % 2 ^ 60 % 2 ^ (7 * k)) / 2 ^ (7 * (k + 1)) * 2 ^ (7 * k) % 18446744073709551616) ||| x % 2 ^ 60 % 2 ^ (7 * k)
theorem out_val (x k : Nat) (hx : x < 18446744073709551616) (hk : k < x / 2 ^ 60) (hn : x / 2 ^ 60 ≤ 8) :
    bits .or .u64 (bits .or .u64 (((x : Int) / 1152921504606846976 - 1) * 1152921504606846976) (IntKind.u64.wrap (((x % 1152921504606846976 - x % 1152921504606846976 % 2 ^ (7 * k) : Nat) : Int) / 2 ^ (7 * (k + 1)) * 2 ^ (7 * k))))
      ((x : Int) % 1152921504606846976 % 2 ^ (7 * k)) = (outX x k : Int) := by
  have e1 : ((x : Int) / 1152921504606846976 - 1) * 1152921504606846976 = (((x / 2 ^ 60 - 1) * 2 ^ 60 : Nat) : Int) := by simp only [Nat.reducePow] at hk ⊢; omega
  have e2 : ((x % 1152921504606846976 - x % 1152921504606846976 % 2 ^ (7 * k) : Nat) : Int) / 2 ^ (7 * (k + 1)) * 2 ^ (7 * k) = (((x % 2 ^ 60 - x % 2 ^ 60 % 2 ^ (7 * k)) / 2 ^ (7 * (k + 1)) * 2 ^ (7 * k) : Nat) : Int) := by
    rw [div_cast, cast_pow, ← Int.natCast_mul]
  have e4 : (x : Int) % 1152921504606846976 % 2 ^ (7 * k) = ((x % 2 ^ 60 % 2 ^ (7 * k) : Nat) : Int) := by rw [cast_pow]; rfl
  have l4 : (x / 2 ^ 60 - 1) * 2 ^ 60 < 18446744073709551616 := by simp only [Nat.reducePow] at hn ⊢; omega
  have l5 : x % 2 ^ 60 % 2 ^ (7 * k) < 18446744073709551616 := Nat.lt_of_le_of_lt (Nat.mod_le _ _) (by omega)
  rw [e1, e2, wrapN, e4, or_u64 _ _ l4 (Nat.mod_lt _ (by decide)), or_u64 _ _ (Nat.or_lt_two_pow (n := 64) l4 (Nat.mod_lt _ (by decide))) l5]
  rfl
def outF (x : Nat) (s : Int) : Nat × Bool := match findK x s with
  | some k => (outX x k, true)
  | none => (x, false)
set_option maxHeartbeats 1000000 in
theorem out_any (x : Nat) (s : Int) (hx : x < 18446744073709551616) (w : World) :
    Calls Try.prog 78 #[.int .u64 x, .int .i64 s] w fun e w' => e = .returned (pair (outF x s)) ∧ New w w' := by
  have hFd := find_any x s hx
  have hP := fun k hk w => parted_any x k hk hx w
  have hk8 : ∀ k, findK x s = some k → k < x / 2 ^ 60 ∧ x / 2 ^ 60 ≤ 8 := fun k hk => ⟨(firstK_lt hk).2, right_le (firstK_lt hk).1⟩
  unfold outF
  obtain ⟨d, hd⟩ : ∃ d, findK x s = d := ⟨_, rfl⟩
  rw [hd] at hFd hk8 ⊢
  have HFd := Lib.hid hFd
  have HP := Lib.hid hP
  clear hFd hP hd
  cases d with
  | none =>
    have Hk8 := Lib.hid hk8
    clear hk8
    simp only [pair]
    go_enter Try.func78, Try.ntmps78
    go_wp2_with fail
    refine (HFd.out _).mono ?_
    rintro e w1 ⟨rfl, hN1⟩
    simp only [optT, Option.getD_none, Option.isSome_none]
    go_wp2_with fail
    go_ret2
    exact ⟨rfl, hN1⟩
  | some k =>
    obtain ⟨hk, hn⟩ := hk8 k rfl
    clear hk8
    simp only [pair]
    go_enter Try.func78, Try.ntmps78
    go_wp2_with fail
    refine (HFd.out _).mono ?_
    rintro e w1 ⟨rfl, hN1⟩
    simp only [optT, Option.getD_some, Option.isSome_some]
    go_wp2_with fail
    refine (HP.out k (by omega) _).mono ?_
    rintro e w2 ⟨rfl, rfl⟩
    go_wp2_with fail
    go_ret2
    exact ⟨by rw [out_val x k hx hk hn]; rfl, hN1⟩
def atF (x : Nat) (k : Int) : Nat × Nat × Bool := if 0 ≤ k ∧ k < manyN x then (place x k.toNat % 8, place x k.toNat / 8 % 8, true) else (0, 0, false)
def trip (r : Nat × Nat × Bool) : Value := .tuple #[.int .i64 r.1, .int .i64 r.2.1, .bool r.2.2]
theorem at_any' (x : Nat) (k : Int) (hx : x < 18446744073709551616) (w : World) :
    Calls Try.prog 134 #[.int .u64 x, .int .i64 k] w fun e w' => e = .returned (trip (atF x k)) ∧ New w w' :=
  (at_any x k hx w).mono fun e w' ⟨h, hN⟩ => ⟨by rw [h, atF]; split <;> rfl, hN⟩
theorem outX_lt (x k : Nat) (hn : x / 2 ^ 60 ≤ 8) : outX x k < 18446744073709551616 :=
  Nat.or_lt_two_pow (n := 64) (Nat.or_lt_two_pow (n := 64) (by simp only [Nat.reducePow] at hn ⊢; omega) (Nat.mod_lt _ (by decide))) (Nat.lt_of_le_of_lt (Nat.mod_le _ _) (by omega))
theorem outF_lt (x : Nat) (s : Int) (hx : x < 18446744073709551616) : (outF x s).1 < 18446744073709551616 := by
  unfold outF
  split
  · rename_i h; exact outX_lt _ _ (right_le (firstK_lt h).1)
  · exact hx
def bestF (x : Nat) : Nat × Nat × Bool := if (atF x 0).2.2 then ((outF x (atF x 0).1).1, (atF x 0).1, true) else (x, (atF x 0).1, false)
def trip' (r : Nat × Nat × Bool) : Value := .tuple #[.int .u64 r.1, .int .i64 r.2.1, .bool r.2.2]
set_option maxHeartbeats 1000000 in
theorem best_any (x : Nat) (hx : x < 18446744073709551616) (w : World) :
    Calls Try.prog 74 #[.int .u64 x] w fun e w' => e = .returned (trip' (bestF x)) ∧ New w w' := by
  have hA := fun w => at_any' x 0 hx w
  have hO := fun s w => out_any x s hx w
  unfold bestF
  obtain ⟨⟨s, u, b⟩, ha⟩ : ∃ d, atF x 0 = d := ⟨_, rfl⟩
  rw [ha] at hA ⊢
  have hO' := hO s
  obtain ⟨⟨o, ob⟩, ho⟩ : ∃ d, outF x s = d := ⟨_, rfl⟩
  rw [ho] at hO'
  dsimp only
  rw [ho]
  simp only [trip, trip', pair] at hA hO' ⊢
  have HA := Lib.hid hA
  have HO := Lib.hid hO'
  clear hA hO hO' ha ho
  cases b with
  | false =>
    go_enter Try.func74, Try.ntmps74
    go_wp2_with fail
    refine (HA.out _).mono ?_
    rintro e w1 ⟨rfl, hN1⟩
    go_wp2_with fail
    go_ret3
    exact ⟨rfl, hN1⟩
  | true =>
    go_enter Try.func74, Try.ntmps74
    go_wp2_with fail
    refine (HA.out _).mono ?_
    rintro e w1 ⟨rfl, hN1⟩
    go_wp2_with fail
    refine (HO.out _).mono ?_
    rintro e w2 ⟨rfl, hN2⟩
    go_wp2_with fail
    go_ret3
    exact ⟨rfl, hN1.trans hN2⟩
/-- What Turn does: not there, or no urgency, or of it already: as it is. -/
def turnF (x : Nat) (s u : Int) : Nat × Bool :=
  if (outF x s).2 && numB u && !(((atF x ((findK x s).getD 0 : Nat)).2.1 : Int) == u) then pushF (outF x s).1 s u else (x, false)
set_option maxHeartbeats 1000000 in
theorem turn_any (x : Nat) (s u : Int) (hx : x < 18446744073709551616) (h1 : -9223372036854775808 ≤ s) (h2 : s ≤ 9223372036854775807) (h3 : -9223372036854775808 ≤ u) (h4 : u ≤ 9223372036854775807) (w : World) :
    Calls Try.prog 76 #[.int .u64 x, .int .i64 s, .int .i64 u] w fun e w' => e = .returned (pair (turnF x s u)) ∧ New w w' := by
  have hO := fun w => out_any x s hx w
  have hF := fun w => find_any x s hx w
  have hA := fun k w => at_any' x k hx w
  have hU := fun w => number_any u w h3 h4
  have hP := fun w => push_any (outF x s).1 s u (outF_lt x s hx) h1 h2 h3 h4 w
  unfold turnF
  obtain ⟨k, hk⟩ : ∃ k, (findK x s).getD 0 = k := ⟨_, rfl⟩
  have hA' := hA (k : Nat)
  obtain ⟨⟨a, ua, b⟩, ha⟩ : ∃ d, atF x (k : Nat) = d := ⟨_, rfl⟩
  rw [ha] at hA'
  rw [hk, ha]
  obtain ⟨⟨o, ob⟩, ho⟩ : ∃ d, outF x s = d := ⟨_, rfl⟩
  rw [ho] at hO hP ⊢
  dsimp only at hP ⊢
  obtain ⟨⟨q, qb⟩, hq⟩ : ∃ d, pushF o s u = d := ⟨_, rfl⟩
  rw [hq] at hP ⊢
  have hF' : ∀ w, Calls Try.prog 131 #[.int .u64 x, .int .i64 s] w fun e w' => e = .returned (.tuple #[.int .i64 k, .bool (findK x s).isSome]) ∧ New w w' := fun w => (hF w).mono fun e w' ⟨h, hN⟩ => ⟨by rw [h, optT, hk], hN⟩
  obtain ⟨fs, hfs⟩ : ∃ d, (findK x s).isSome = d := ⟨_, rfl⟩
  rw [hfs] at hF'
  obtain ⟨n, hn⟩ : ∃ d, numB u = d := ⟨_, rfl⟩
  rw [hn] at hU ⊢
  obtain ⟨eq, heq⟩ : ∃ d, ((ua : Int) == u) = d := ⟨_, rfl⟩
  rw [heq]
  simp only [trip, pair] at hA' hO hP ⊢
  have HO := Lib.hid hO
  have HF := Lib.hid hF'
  have HA := Lib.hid hA'
  have HU := Lib.hid hU
  have HP := Lib.hid hP
  clear hO hF hA hU hP hA' hF' hk ha ho hq hfs hn
  go_enter Try.func76, Try.ntmps76
  go_wp2_with fail
  refine (HO.out _).mono ?_
  rintro e w1 ⟨rfl, hN1⟩
  go_wp2_with fail
  refine (HF.out _).mono ?_
  rintro e w2 ⟨rfl, hN2⟩
  go_wp2_with fail
  refine (HA.out _).mono ?_
  rintro e w3 ⟨rfl, hN3⟩
  have hNN := (hN1.trans hN2).trans hN3
  clear hN1 hN2 hN3
  cases ob with
  | false =>
    go_wp2_with fail
    go_ret2
    exact ⟨rfl, hNN⟩
  | true =>
    go_wp2_with fail
    refine (HU.out _).mono ?_
    rintro e w5 ⟨rfl, rfl⟩
    cases n with
    | false =>
      go_wp2_with fail
      go_ret2
      exact ⟨rfl, hNN⟩
    | true =>
      cases eq with
      | true =>
        go_wp2_with fail
        go_ret2
        exact ⟨rfl, hNN⟩
      | false =>
        go_wp2_with fail
        refine (HP.out _).mono ?_
        rintro e w5 ⟨rfl, hN5⟩
        go_wp2_with fail
        go_ret2
        exact ⟨rfl, hNN.trans hN5⟩
end Go.Proofs.Ytkjloeefcaadlaa
