/- A law for a range over a function whose values are a known list, and what a call leaves of the memory that it found. -/
import Derived.RangeFuncNested
import Derived.WalkKit
import Derived.Deep.QuietTactic
import Derived.ScopeJumps
import Derived.WalkMore
namespace Go.Cs
open Go.RowKit

/-- What was there is as it was, but for cells of the blocks of S. -/
structure Mods (S : Nat → Prop) (w w' : World) : Prop where
  os : w'.os = w.os
  tape : w'.tape = w.tape
  output : w'.output = w.output
  size : w.heap.size ≤ w'.heap.size
  block : ∀ k o, w.heap[k]? = some o → (¬ S k ∨ o.isCells = false) → w'.heap[k]? = some o

/-- New blocks alone. -/
abbrev New (w w' : World) : Prop := Mods (fun _ => False) w w'

theorem Mods.refl (S : Nat → Prop) (w : World) : Mods S w w := ⟨rfl, rfl, rfl, Nat.le_refl _, fun _ _ h _ => h⟩
theorem Mods.trans {S : Nat → Prop} {a b c : World} (h : Mods S a b) (k : Mods S b c) : Mods S a c :=
  ⟨k.os.trans h.os, k.tape.trans h.tape, k.output.trans h.output, Nat.le_trans h.size k.size, fun i o hi ho => k.block i o (h.block i o hi ho) ho⟩
theorem Mods.mono {S T : Nat → Prop} {a b : World} (h : Mods S a b) (hST : ∀ k, S k → T k) : Mods T a b :=
  ⟨h.os, h.tape, h.output, h.size, fun i o hi ho => h.block i o hi (ho.imp (fun n m => n (hST _ m)) id)⟩
theorem Mods.ofNew {S : Nat → Prop} {a b : World} (h : New a b) : Mods S a b := h.mono fun _ f => f.elim
/-- What is written lies beyond what was there. -/
theorem Mods.new {S : Nat → Prop} {a b : World} (h : Mods S a b) (hS : ∀ k, S k → a.heap.size ≤ k) : New a b :=
  ⟨h.os, h.tape, h.output, h.size, fun i o hi _ => h.block i o hi (.inl fun hk => by have := hS i hk; have := (Array.getElem?_eq_some_iff.1 hi).1; omega)⟩
/-- Of what is written, what lies beyond what was there need not be told. -/
theorem Mods.only {S T : Nat → Prop} {a b : World} (h : Mods S a b) (hS : ∀ k, S k → a.heap.size ≤ k ∨ T k) : Mods T a b :=
  ⟨h.os, h.tape, h.output, h.size, fun i o hi ho => h.block i o hi (ho.imp (fun n m => by
    rcases hS i m with g | g
    · have := (Array.getElem?_eq_some_iff.1 hi).1; omega
    · exact n g) id)⟩
theorem Mods.alloc {S : Nat → Prop} {a w : World} (h : Mods S a w) (o : Obj) : Mods S a (w.alloc o) :=
  h.trans ⟨rfl, rfl, rfl, by simp, fun k o' hk _ => (Below.heap_alloc w o k (Array.getElem?_eq_some_iff.1 hk).1).trans hk⟩
theorem Mods.drew {S : Nat → Prop} {a w : World} (h : Mods S a w) : Mods S a w.drew := h.trans ⟨rfl, rfl, rfl, Nat.le_refl _, fun _ _ hk _ => hk⟩
theorem Mods.drewN {S : Nat → Prop} {a w : World} (h : Mods S a w) (n : Nat) : Mods S a (w.drewN n) := h.trans ⟨rfl, rfl, rfl, Nat.le_refl _, fun _ _ hk _ => hk⟩
theorem Mods.setCell {S : Nat → Prop} {a w : World} (h : Mods S a w) {p : Addr} (hp : a.heap.size ≤ p.block ∨ S p.block) (u : Value) : Mods S a (w.setCell p u) :=
  ⟨h.os, h.tape, h.output, by have := h.size; simp [World.setCell]; exact this, fun k o hk ho => by
    have hw := h.block k o hk ho
    by_cases e : k = p.block
    · subst e
      rcases ho with ho | ho
      · rcases hp with hp | hp
        · have := (Array.getElem?_eq_some_iff.1 hk).1; omega
        · exact absurd hp ho
      · exact (KeepsOthers.setCell w p u).same _ _ hw ho
    · exact (Below.heap_setCell w p u k e).trans hw⟩
/-- A contract of the library's that says what row was written. -/
theorem Mods.grown {S : Nat → Prop} {a w w' : World} {row : Option Nat} (h : Mods S a w) (hg : w.grownBy w' row) (hr : ∀ k, row = some k → a.heap.size ≤ k ∨ (S k ∧ ∀ o, w.heap[k]? = some o → o.isCells = true)) : Mods S a w' :=
  ⟨hg.os.trans h.os, hg.tape.trans h.tape, hg.output.trans h.output, Nat.le_trans h.size hg.size, fun k o hk ho => by
    have hw := h.block k o hk ho
    have hlt := (Array.getElem?_eq_some_iff.1 hw).1
    have hlt' := (Array.getElem?_eq_some_iff.1 hk).1
    refine (hg.block k hlt ?_).trans hw
    intro e
    rcases hr k e.symm with h1 | ⟨h1, h2⟩
    · omega
    · rcases ho with ho | ho
      · exact ho h1
      · rw [h2 o hw] at ho; cases ho⟩
theorem Mods.below {B : Nat} {w w' : World} (h : Below B w w') (hB : w.heap.size ≤ B) : New w w' :=
  ⟨h.os, h.tape, h.output, h.size, fun k o hk _ => (h.block k (by have := (Array.getElem?_eq_some_iff.1 hk).1; omega)).trans hk⟩
theorem New.toBelow {w w' : World} (h : New w w') : Below w.heap.size w w' :=
  ⟨h.os, h.tape, h.output, h.size, fun k hk => by
    rw [Array.getElem?_eq_getElem hk]; exact h.block k _ (Array.getElem?_eq_getElem hk) (.inl id)⟩
theorem Mods.heap {S : Nat → Prop} {w w' : World} (h : Mods S w w') {k : Nat} {o : Obj} (hk : w.heap[k]? = some o) (hS : ¬ S k) : w'.heap[k]? = some o := h.block k o hk (.inl hS)
theorem Mods.cell {S : Nat → Prop} {w w' : World} (h : Mods S w w') {p : Addr} {v : Value} (hc : w.cell? p = some v) (hS : ¬ S p.block) : w'.cell? p = some v := by
  obtain ⟨o, ho, _⟩ := cells_of_cell hc
  exact (World.cell?_of_block (w := w) ((h.block _ o ho (.inl hS)).trans ho.symm)).trans hc
theorem Mods.frozen {S : Nat → Prop} {w w' : World} (h : Mods S w w') {p : Addr} {v : Value} (hc : w.cell? p = some v) (hS : ¬ S p.block) : w'.frozen? p = w.frozen? p := by
  obtain ⟨o, ho, _⟩ := cells_of_cell hc
  exact World.frozen?_of_block (w := w) ((h.block _ o ho (.inl hS)).trans ho.symm)
theorem Mods.boxed {S : Nat → Prop} {w w' : World} (h : Mods S w w') {B : Nat} {t : TypeId} {v : Value} (hb : Boxed w B t v) (hS : ¬ S B) : Boxed w' B t v := h.block B _ hb (.inl hS)
theorem Mods.ownsRow {S : Nat → Prop} {w w' : World} (h : Mods S w w') {base : Nat} {e : TypeId} {size : Nat} {v : Value} {n : Nat} {xs : List Value} (hr : w.ownsRow base e size v n xs) (hS : ∀ g, v.ownBlock = some g → ¬ S g) : w'.ownsRow base e size v n xs := by
  refine ⟨hr.1, hr.2.imp id ?_⟩
  rintro ⟨g, cap, cur, rfl, hb, hg, r⟩
  exact ⟨g, cap, cur, rfl, hb, h.heap hg (hS g rfl), r⟩

/-- A step that keeps all cells, and whatever lies below B. -/
structure Quiet (B : Nat) (w w' : World) : Prop where
  os : w'.os = w.os
  tape : w'.tape = w.tape
  output : w'.output = w.output
  size : w.heap.size ≤ w'.heap.size
  block : ∀ k o, w.heap[k]? = some o → (k < B ∨ o.isCells = true) → w'.heap[k]? = some o
theorem New.quiet {w w' : World} (h : New w w') (B : Nat) : Quiet B w w' := ⟨h.os, h.tape, h.output, h.size, fun k o hk _ => h.block k o hk (.inl id)⟩
theorem Quiet.putObj {B : Nat} {w : World} {l : Nat} {o : Obj} (o' : Obj) (hl : w.heap[l]? = some o) (ho : o.isCells = false) (hB : B ≤ l) : Quiet B w (w.putObj l o') :=
  ⟨rfl, rfl, rfl, by simp, fun k ok hk h => by
    have : k ≠ l := by
      intro e; subst e
      rw [hl] at hk; cases hk
      rcases h with h | h
      · omega
      · rw [ho] at h; cases h
    exact (World.putObj_heap_other this).trans hk⟩

/-- What such a step keeps. -/
def Stab (B : Nat) (p : World → Prop) : Prop := ∀ W W', p W → Quiet B W W' → p W'
theorem Stab.and {B : Nat} {p q : World → Prop} (hp : Stab B p) (hq : Stab B q) : Stab B (fun W => p W ∧ q W) := fun W W' h k => ⟨hp W W' h.1 k, hq W W' h.2 k⟩
theorem Stab.or {B : Nat} {p q : World → Prop} (hp : Stab B p) (hq : Stab B q) : Stab B (fun W => p W ∨ q W) := fun W W' h k => h.imp (fun h => hp W W' h k) (fun h => hq W W' h k)
theorem Stab.ex {B : Nat} {α : Sort _} {p : α → World → Prop} (hp : ∀ x, Stab B (p x)) : Stab B (fun W => ∃ x, p x W) := fun W W' ⟨x, h⟩ k => ⟨x, hp x W W' h k⟩
theorem Stab.pure {B : Nat} (c : Prop) : Stab B (fun _ => c) := fun _ _ h _ => h
theorem Stab.boxed {B : Nat} (b : Nat) (t : TypeId) (v : Value) : Stab B (fun W => Boxed W b t v) := fun _ _ h k => k.block b _ h (.inr rfl)
theorem Stab.cell {B : Nat} (p : Addr) (v : Value) : Stab B (fun W => W.cell? p = some v) := fun W W' h k => by
  obtain ⟨o, ho, hc⟩ := cells_of_cell h
  exact (World.cell?_of_block (w := W) ((k.block _ o ho (.inr hc)).trans ho.symm)).trans h
theorem Stab.ownsRow {B : Nat} (base : Nat) (e : TypeId) (size : Nat) (v : Value) (n : Nat) (xs : List Value) : Stab B (fun W => W.ownsRow base e size v n xs) := fun W W' hr k => by
  refine ⟨hr.1, hr.2.imp id ?_⟩
  rintro ⟨g, cap, cur, rfl, hb, hg, r⟩
  exact ⟨g, cap, cur, rfl, hb, k.block g _ hg (.inr rfl), r⟩
theorem Stab.mods {B : Nat} {S : Nat → Prop} {w : World} (hB : w.heap.size ≤ B) : Stab B (fun W => Mods S w W) := fun W W' h k =>
  ⟨k.os.trans h.os, k.tape.trans h.tape, k.output.trans h.output, Nat.le_trans h.size k.size, fun i o hi ho =>
    k.block i o (h.block i o hi ho) (.inl (by have := (Array.getElem?_eq_some_iff.1 hi).1; omega))⟩

/-- An iterator value: called in W with the yield of a loop it hands out the values of L, one by one, as long as the round asks for more; the rounds write the cells of blocks of S alone (and new ones). -/
def IterAt (P : Program) (g : Nat) (lb : Array Value) (L : List (Array Value)) (S : Nat → Prop) (W : World) : Prop :=
  ∀ (l : Nat) (J Jx : Nat → World → Prop), (∀ k, ∀ A A', J k A → New A A' → J k A') → (∀ k, ∀ A A', Jx k A → New A A' → Jx k A') →
    (∀ k x W1, L[k]? = some x → J k W1 → Mods S W W1 → YieldAt Fence.wide 0 P l x W1 fun e W' =>
      (e = .returned (.bool true) ∧ J (k + 1) W' ∧ Mods S W1 W') ∨ (e = .returned (.bool false) ∧ Jx (k + 1) W')) →
    J 0 W →
    Calls P g (#[.func (.yield l) #[] #[]] ++ lb) W fun e W' => (∃ v, e = .returned v) ∧ (J L.length W' ∨ ∃ k, k ≤ L.length ∧ Jx k W')

/-- How a round's body may be left. -/
def roundQ (S : Nat → Prop) (I : Nat → World → Prop) (Ix : Code → Nat → World → Prop) (k : Nat) (W : World) : Exit → Act → World → Prop
  | .normal, _, W' => Mods S W W' ∧ I k W'
  | .ret, _, W' => Mods S W W' ∧ Ix .ret k W'
  | .exit id, _, W' => Mods S W W' ∧ Ix (.exit id) k W'
  | .goto t, _, W' => Mods S W W' ∧ Ix (.goto t) k W'
  | .panic _, _, _ => False
  | .outgrown, _, _ => False

variable {P : Program}


/-- What is no cells in A lies so in W. -/
def Others (A W : World) : Prop := ∀ (k : Nat) (o : Obj), A.heap[k]? = some o → o.isCells = false → W.heap[k]? = some o

/-- The walk's fence: nothing is asked of it; r: the loop in whose round the code runs. -/
abbrev Fr (r : Option Nat) : Fence := { Fence.wide with round := r }

theorem rangeList_core (r : Option Nat)
    {g : Operand} {ps : Array Tmp} {assign body : Code} {Q : Exit → Act → World → Prop} {a : Act} {w : World}
    {gf : Nat} {lb : Array Value} (hg : a.eval g = .func (.func gf) #[] lb) (eg : ∀ args w, (callFunc gf args).run P w = .ok (.enter gf args) w)
    (L : List (Array Value)) (S : Nat → Prop) (hit : ∀ W, New w W → IterAt P gf lb L S W) (hps : ∀ x ∈ L, x.size = ps.size)
    (W0 : World) (hW0 : New w W0) (mark : List Deferred) (d : Nat)
    (henter : ∀ fn, (Instr.enterLoop fn a.tmps ps assign body r).run P w = .ok (W0.heap.size, mark) (W0.alloc (.loop { state := .ready, pending := none, fn, tmps := a.tmps, params := ps, assign, body, defers := d })))
    (I : Nat → World → Prop) (Ix : Code → Nat → World → Prop) (hI : ∀ k, Stab w.heap.size (I k)) (hIx : ∀ c k, Stab w.heap.size (Ix c k)) (h0 : I 0 w)
    (hround : ∀ (l k : Nat) (x : Array Value) (W : World), L[k]? = some x → w.heap.size ≤ l → (∃ r, W.heap[l]? = some (.loop r)) → I k W →
      assign.wpIn (Fr (some l)) 0 P (Exit.then (fun a1 W1 => Mods S W W1 ∧ ∀ W2, Quiet w.heap.size W1 W2 → (∃ r, W2.heap[l]? = some (.loop r)) → body.wpIn (Fr (some l)) 0 P (roundQ S I Ix (k + 1) W2) a1 W2) (fun _ _ _ => False))
        { tmps := (ps.zip x).foldl (fun t (p, v) => t.setIfInBounds p v) a.tmps, defers := [] } W)
    (hdone : ∀ W, I L.length W → Others W0 W → Q .normal { a with defers := mark ++ a.defers } W)
    (hstop : ∀ c k W, k ≤ L.length → Ix c k W → Others W0 W → c.wpIn (Fr r) 0 P Q { a with defers := mark ++ a.defers } W) :
    (Code.rangeFunc g ps assign body).wpIn (Fr r) 0 P Q a w := by
  refine wpIn_rangeFunc ?_
  intro fn _
  obtain ⟨rec, hrec⟩ : ∃ rec : LoopState → Option Code → Loop, rec = fun st pe => { state := st, pending := pe, fn, tmps := a.tmps, params := ps, assign, body, defers := d } := ⟨_, rfl⟩
  obtain ⟨W1, hW1⟩ : ∃ W1, W0.alloc (.loop (rec .ready none)) = W1 := ⟨_, rfl⟩
  obtain ⟨l, hl0⟩ : ∃ l, W0.heap.size = l := ⟨_, rfl⟩
  have hL1 : W1.heap[l]? = some (.loop (rec .ready none)) := by rw [← hW1, ← hl0]; exact World.alloc_heap_new W0 _
  have hN1 : New w W1 := by rw [← hW1]; exact hW0.alloc _
  have hwl : w.heap.size ≤ l := by rw [← hl0]; exact hW0.size
  have hC1 : Others W0 W1 := fun k o hk _ => by
    rw [← hW1]; exact (Below.heap_alloc W0 _ k (Array.getElem?_eq_some_iff.1 hk).1).trans hk
  refine ⟨l, mark, W1, { target := .fn (.func gf) lb, args := #[.func (.yield l) #[] #[]] }, W1, gf,
    #[.func (.yield l) #[] #[]] ++ lb, W1, ?_, ?_, fun _ _ => trivial, ?_, fun h => by simp [Fence.wide] at h, ?_⟩
  · rw [← hW1, hrec, ← hl0]; exact henter fn
  · simp only [resolve, hg]
    simp [go_sem]
  · simp [invoke, go_sem, eg]
  · have hlW0 : ∀ {k : Nat} {o : Obj}, W0.heap[k]? = some o → k ≠ l := fun hk => by have := (Array.getElem?_eq_some_iff.1 hk).1; omega
    have hput : ∀ (W : World) (o : Obj), Others W0 W → Others W0 (W.putObj l o) := fun W o h k o' hk ho =>
      (World.putObj_heap_other (hlW0 hk)).trans (h k o' hk ho)
    refine Calls.mono (R := fun e W' => (∃ v, e = .returned v) ∧
        ((I L.length W' ∧ W'.heap[l]? = some (.loop (rec .ready none)) ∧ Others W0 W') ∨
          ∃ k, k ≤ L.length ∧ ∃ c, Ix c k W' ∧ W'.heap[l]? = some (.loop (rec .done (some c))) ∧ Others W0 W')) ?_ ?_ |> callsIn_wide.2
    · refine hit W1 hN1 l
        (fun k W => I k W ∧ W.heap[l]? = some (.loop (rec .ready none)) ∧ Others W0 W)
        (fun k W => ∃ c, Ix c k W ∧ W.heap[l]? = some (.loop (rec .done (some c))) ∧ Others W0 W)
        (fun k A A' h hn => ⟨hI k A A' h.1 (hn.quiet _), hn.heap h.2.1 id, fun j o hj ho => hn.heap (h.2.2 j o hj ho) id⟩)
        (fun k A A' h hn => by
          obtain ⟨c, h1, h2, h3⟩ := h
          exact ⟨c, hIx c k A A' h1 (hn.quiet _), hn.heap h2 id, fun j o hj ho => hn.heap (h3 j o hj ho) id⟩)
        ?_ ⟨hI 0 w W1 h0 (hN1.quiet _), hL1, hC1⟩
      rintro k x W hx ⟨hi, hl, hk⟩ _
      have hy := run_yield (P := P) (args := x) hl (by rw [hrec]; exact hps x (List.mem_of_getElem? hx))
      rw [hrec] at hy
      refine ⟨fn, _, assign, body, hy, roundIn_of_wpIn trivial (wpIn_mono (hround l k x W hx hwl ⟨_, hl⟩ hi) ?_)⟩
      clear hy
      rintro e a1 Wa he
      cases e with
      | normal =>
        obtain ⟨hma, hb⟩ := he
        have hla := hma.block _ _ hl (.inr rfl)
        have hka : Others W0 Wa := fun j o hj ho => hma.block _ _ (hk j o hj ho) (.inr ho)
        have hlt : l < Wa.heap.size := (Array.getElem?_eq_some_iff.1 hla).1
        refine ⟨_, run_beginRound hla (by rw [hrec]), ?_⟩
        obtain ⟨Wb, hWb⟩ : ∃ Wb, Wa.putObj l (.loop { rec .ready none with state := .busy }) = Wb := ⟨_, rfl⟩
        have hl2 : Wb.heap[l]? = some (.loop { rec .ready none with state := .busy }) := by rw [← hWb]; exact World.putObj_heap_same hlt
        have hk2 : Others W0 Wb := by rw [← hWb]; exact hput _ _ hka
        have hqb : Quiet w.heap.size Wa Wb := by rw [← hWb]; exact Quiet.putObj _ hla rfl hwl
        rw [hWb]
        refine wpIn_mono (hb Wb hqb ⟨_, hl2⟩) ?_
        have fin : ∀ (jump : Option Code) (W3 : World), Mods S Wb W3 →
            (Instr.endRound l jump).run P W3 = .ok (.bool jump.isNone) (W3.putObj l (.loop (rec (if jump.isNone then .ready else .done) jump))) ∧
            W3.heap[l]? = some (.loop { rec .ready none with state := .busy }) ∧
            (W3.putObj l (.loop (rec (if jump.isNone then .ready else .done) jump))).heap[l]? = some (.loop (rec (if jump.isNone then .ready else .done) jump)) ∧
            Others W0 (W3.putObj l (.loop (rec (if jump.isNone then .ready else .done) jump))) := fun jump W3 hm3 => by
          have hl3 := hm3.block _ _ hl2 (.inr rfl)
          have := run_endRound (P := P) jump hl3
          rw [hrec] at this ⊢
          exact ⟨this, by rw [hrec] at hl3; exact hl3, World.putObj_heap_same (Array.getElem?_eq_some_iff.1 hl3).1, hput _ _ fun j o hj ho => hm3.block _ _ (hk2 j o hj ho) (.inr ho)⟩
        rintro e a3 W3 hp
        cases e with
        | normal =>
          obtain ⟨hm3, hi3⟩ := hp
          obtain ⟨hr, hl3, hl4, hk4⟩ := fin none W3 hm3
          refine ⟨_, _, hr, .inl ⟨rfl, ⟨hI _ _ _ hi3 (Quiet.putObj _ hl3 rfl hwl), hl4, hk4⟩, ?_⟩⟩
          refine ⟨(hm3.os.trans hqb.os).trans hma.os, (hm3.tape.trans hqb.tape).trans hma.tape, (hm3.output.trans hqb.output).trans hma.output, ?_, ?_⟩
          · simp only [World.putObj_size]; exact Nat.le_trans hma.size (Nat.le_trans hqb.size hm3.size)
          · intro j o hj ho
            by_cases e : j = l
            · subst e; rw [hl] at hj; cases hj; exact hl4
            · refine (World.putObj_heap_other e).trans (hm3.block _ _ ?_ ho)
              rw [← hWb]; exact (World.putObj_heap_other e).trans (hma.block _ _ hj ho)
        | ret =>
          obtain ⟨hm3, hi3⟩ := hp
          obtain ⟨hr, hl3, hl4, hk4⟩ := fin (some .ret) W3 hm3
          exact ⟨_, _, hr, .inr ⟨rfl, .ret, hIx _ _ _ _ hi3 (Quiet.putObj _ hl3 rfl hwl), hl4, hk4⟩⟩
        | exit id =>
          obtain ⟨hm3, hi3⟩ := hp
          obtain ⟨hr, hl3, hl4, hk4⟩ := fin (some (.exit id)) W3 hm3
          exact ⟨_, _, hr, .inr ⟨rfl, .exit id, hIx _ _ _ _ hi3 (Quiet.putObj _ hl3 rfl hwl), hl4, hk4⟩⟩
        | goto t =>
          obtain ⟨hm3, hi3⟩ := hp
          obtain ⟨hr, hl3, hl4, hk4⟩ := fin (some (.goto t)) W3 hm3
          exact ⟨_, _, hr, .inr ⟨rfl, .goto t, hIx _ _ _ _ hi3 (Quiet.putObj _ hl3 rfl hwl), hl4, hk4⟩⟩
        | panic ch => exact hp.elim
        | outgrown => exact hp.elim
      | exit id => exact he.elim
      | goto t => exact he.elim
      | ret => exact he.elim
      | panic ch => exact he.elim
      | outgrown => exact he.elim
    · rintro e W2 ⟨⟨v, rfl⟩, (⟨hi, hl, hk⟩ | ⟨k, hkl, c, hi, hl, hk⟩)⟩
      · exact ⟨none, _, by have := run_endLoop (P := P) hl (by rw [hrec]; simp); rw [hrec] at this; exact this, hdone _ (hI _ _ _ hi (Quiet.putObj _ hl rfl hwl)) (hput _ _ hk)⟩
      · exact ⟨some c, _, by have := run_endLoop (P := P) hl (by rw [hrec]; simp); rw [hrec] at this; exact this, hstop c k _ hkl (hIx _ _ _ _ hi (Quiet.putObj _ hl rfl hwl)) (hput _ _ hk)⟩
end Go.Cs

namespace Go.Cs
open Go.RowKit
variable {P : Program}

/-- A range over a function whose values are known, at a function's own level. -/
theorem wp_rangeList {α : Type} {g : Operand} {ps : Array Tmp} {assign body : Code} {Q : Exit → Act → World → Prop} {a : Act} {w : World}
    {gf : Nat} {lb : Array Value} (hg : a.eval g = .func (.func gf) #[] lb) (eg : ∀ args w, (callFunc gf args).run P w = .ok (.enter gf args) w)
    (xs : List α) (enc : α → Array Value) (S : Nat → Prop) (hit : ∀ W, New w W → IterAt P gf lb (xs.map enc) S W) (hps : ∀ x, (enc x).size = ps.size)
    (I : Nat → World → Prop) (Ix : Code → Nat → World → Prop) (hI : ∀ k, Stab w.heap.size (I k)) (hIx : ∀ c k, Stab w.heap.size (Ix c k)) (h0 : I 0 w) (upd : α → Array Value → Array Value)
    (hassign : ∀ (l : Nat) (x : α) (W : World) (K : Act → World → Prop), K { tmps := upd x a.tmps, defers := [] } W →
      assign.wpIn (Fr (some l)) 0 P (Exit.then K (fun _ _ _ => False)) { tmps := (ps.zip (enc x)).foldl (fun t (p, v) => t.setIfInBounds p v) a.tmps, defers := [] } W)
    (hbody : ∀ (l k : Nat) (x : α) (W : World), xs[k]? = some x → w.heap.size ≤ l → (∃ r, W.heap[l]? = some (.loop r)) → I k W → body.wpIn (Fr (some l)) 0 P (roundQ S I Ix (k + 1) W) { tmps := upd x a.tmps, defers := [] } W)
    (hdone : ∀ W, I xs.length W → W.heap[w.heap.size]? = some (.deferred (some [])) → Q .normal { a with defers := { target := .collected w.heap.size, args := #[] } :: a.defers } W)
    (hstop : ∀ c k W, k ≤ xs.length → Ix c k W → W.heap[w.heap.size]? = some (.deferred (some [])) → c.wp P Q { a with defers := { target := .collected w.heap.size, args := #[] } :: a.defers } W) :
    (Code.rangeFunc g ps assign body).wp P Q a w := by
  refine (wpIn_wide (n := 0)).1 ?_
  refine rangeList_core (P := P) none hg eg (xs.map enc) S hit ?_ (w.alloc (.deferred (some []))) ((Mods.refl _ _).alloc _) [{ target := .collected w.heap.size, args := #[] }] w.heap.size ?_ I Ix hI hIx h0 ?_ ?_ ?_
  · intro x hx
    obtain ⟨y, _, rfl⟩ := List.mem_map.1 hx
    exact hps y
  · intro fn
    rw [World.size_alloc]
    exact run_enterLoop_outer _ _ _ _ _
  · intro l k x W hx hl hr hi
    rw [List.getElem?_map] at hx
    obtain ⟨y, hy, rfl⟩ := Option.map_eq_some_iff.1 hx
    exact hassign l y W _ ⟨Mods.refl _ _, fun W2 hq hr2 => hbody l k y W2 hy hl hr2 (hI k W W2 hi hq)⟩
  · intro W hi ho
    rw [List.length_map] at hi
    exact hdone W hi (ho _ _ (World.alloc_heap_new w _) rfl)
  · intro c k W hk hi ho
    rw [List.length_map] at hk
    exact (wpIn_wide (n := 0)).2 (hstop c k W hk hi (ho _ _ (World.alloc_heap_new w _) rfl))

/-- The same, in a round of another such loop. -/
theorem wpIn_rangeList {α : Type} {l₀ : Nat} {g : Operand} {ps : Array Tmp} {assign body : Code} {Q : Exit → Act → World → Prop} {a : Act} {w : World}
    (hl₀ : ∃ r, w.heap[l₀]? = some (.loop r))
    {gf : Nat} {lb : Array Value} (hg : a.eval g = .func (.func gf) #[] lb) (eg : ∀ args w, (callFunc gf args).run P w = .ok (.enter gf args) w)
    (xs : List α) (enc : α → Array Value) (S : Nat → Prop) (hit : ∀ W, New w W → IterAt P gf lb (xs.map enc) S W) (hps : ∀ x, (enc x).size = ps.size)
    (I : Nat → World → Prop) (Ix : Code → Nat → World → Prop) (hI : ∀ k, Stab w.heap.size (I k)) (hIx : ∀ c k, Stab w.heap.size (Ix c k)) (h0 : I 0 w) (upd : α → Array Value → Array Value)
    (hassign : ∀ (l : Nat) (x : α) (W : World) (K : Act → World → Prop), K { tmps := upd x a.tmps, defers := [] } W →
      assign.wpIn (Fr (some l)) 0 P (Exit.then K (fun _ _ _ => False)) { tmps := (ps.zip (enc x)).foldl (fun t (p, v) => t.setIfInBounds p v) a.tmps, defers := [] } W)
    (hbody : ∀ (l k : Nat) (x : α) (W : World), xs[k]? = some x → w.heap.size ≤ l → (∃ r, W.heap[l]? = some (.loop r)) → I k W → body.wpIn (Fr (some l)) 0 P (roundQ S I Ix (k + 1) W) { tmps := upd x a.tmps, defers := [] } W)
    (hdone : ∀ W, I xs.length W → Others w W → Q .normal a W)
    (hstop : ∀ c k W, k ≤ xs.length → Ix c k W → Others w W → c.wpIn (Fr (some l₀)) 0 P Q a W) :
    (Code.rangeFunc g ps assign body).wpIn (Fr (some l₀)) 0 P Q a w := by
  obtain ⟨r, hr⟩ := hl₀
  refine rangeList_core (P := P) (some l₀) hg eg (xs.map enc) S hit ?_ w (Mods.refl _ _) [] r.defers ?_ I Ix hI hIx h0 ?_ ?_ ?_
  · intro x hx
    obtain ⟨y, _, rfl⟩ := List.mem_map.1 hx
    exact hps y
  · intro fn
    exact run_enterLoop_inner hr _ _ _ _ _
  · intro l k x W hx hl hr hi
    rw [List.getElem?_map] at hx
    obtain ⟨y, hy, rfl⟩ := Option.map_eq_some_iff.1 hx
    exact hassign l y W _ ⟨Mods.refl _ _, fun W2 hq hr2 => hbody l k y W2 hy hl hr2 (hI k W W2 hi hq)⟩
  · intro W hi ho
    rw [List.length_map] at hi
    exact hdone W hi ho
  · intro c k W hk hi ho
    rw [List.length_map] at hk
    exact hstop c k W hk hi ho

/-- A function that holds ranges over functions, by its body's walk. -/
theorem calls_of_marks {f : FuncId} {fn : Func} {c : Code} {args : Array Value} {w : World} {R : Ending → World → Prop}
    (hf : P.funcs[f]? = some fn) (hb : fn.body = some c)
    (h : c.wp P (bodyPostM Fence.wide 0 P fn R) { tmps := args ++ Array.replicate (fn.ntmps - args.size) undef, defers := [] } w) : Calls P f args w R :=
  callsIn_wide.1 (callsIn_of_wp_marks (F := Fence.wide) (n := 0) hf hb trivial ((wpIn_wide (n := 0)).2 h))

/-- Its way out, behind one such loop. -/
theorem marks_one {fn : Func} {R : Ending → World → Prop} {a : Act} {W : World} {D : Nat} {v : Value} (hd : a.defers = [{ target := .collected D, args := #[] }])
    (hD : W.heap[D]? = some (.deferred (some []))) (hv : (results fn a.tmps).run P (W.putObj D (.deferred none)) = .ok v (W.putObj D (.deferred none))) (hR : R (.returned v) (W.putObj D (.deferred none))) :
    LeavesInM Fence.wide 0 P fn a.tmps R a.defers .returning W := by
  rw [hd]
  exact ⟨by simp, .inl ⟨_, _, rfl, run_takeDeferred hD, v, hv, hR⟩⟩
/-- Behind none. -/
theorem marks_none {fn : Func} {R : Ending → World → Prop} {a : Act} {W : World} {v : Value} (hd : a.defers = [])
    (hv : (results fn a.tmps).run P W = .ok v W) (hR : R (.returned v) W) :
    LeavesInM Fence.wide 0 P fn a.tmps R a.defers .returning W := by
  rw [hd]
  exact ⟨v, hv, hR⟩
theorem Mods.putObj {S : Nat → Prop} {w W : World} (h : Mods S w W) {D : Nat} (hD : w.heap.size ≤ D) (o : Obj) : Mods S w (W.putObj D o) :=
  ⟨h.os, h.tape, h.output, by simpa using h.size, fun k o' hk ho => (World.putObj_heap_other (by have := (Array.getElem?_eq_some_iff.1 hk).1; omega)).trans (h.block k o' hk ho)⟩
end Go.Cs

namespace Go.Cs
open Go.RowKit
variable {P : Program}
/-- A scope whose jumps all go forward, to one label. -/
theorem wp_scope_fwd {a : Act} {w : World} {Q : Exit → Act → World → Prop} {c rest : Code} (l : Nat) (J : Act → World → Prop) (hf : findLabel c l = some rest)
    (first : c.wp P (Exit.jump l J Q) a w) (pass : ∀ a w, J a w → rest.wp P (Exit.noGoto Q) a w) : (Code.scope c).wp P Q a w :=
  wp_scope_jumps l J (fun _ _ => 0) hf first fun a w h => wp_mono (pass a w h) fun e a' w' hq => by
    cases e with
    | goto l' => exact absurd hq (by simp [Exit.noGoto])
    | _ => exact hq
theorem jump_goto {l : Nat} {J : Act → World → Prop} {Q : Exit → Act → World → Prop} {a : Act} {w : World} (h : J a w) : Exit.jump l J Q (.goto l) a w := ⟨rfl, h⟩
end Go.Cs

namespace Go.Cs
open Go.RowKit
variable {P : Program}
/-- A call in a round, by the callee's contract. -/
theorem at_round {r : Option Nat} {k : FuncId} {args : Array Value} {w : World} {R R' : Ending → World → Prop} (h : Calls P k args w R') (hr : ∀ e w', R' e w' → R e w') :
    Fence.wide.fn k ∧ Fence.wide.depth = none ∧ CallsIn (Fr r) 0 P k args w R := ⟨trivial, rfl, (callsIn_wide (n := 0)).2 (h.mono hr)⟩
end Go.Cs

namespace Go.Cs
open Go.RowKit
theorem boxed1 (w : World) (o : Obj) (t : TypeId) (v : Value) : Boxed ((w.alloc o).alloc (.cells #[v] t)) (w.heap.size + 1) t v := by
  have := Boxed.new (w.alloc o) t v; rwa [World.size_alloc] at this
theorem boxed2 (w : World) (o o' : Obj) (t : TypeId) (v : Value) : Boxed (((w.alloc o).alloc o').alloc (.cells #[v] t)) (w.heap.size + 1 + 1) t v := by
  have := boxed1 (w.alloc o) o' t v; rwa [World.size_alloc] at this
theorem boxed3 (w : World) (o o' o'' : Obj) (t : TypeId) (v : Value) : Boxed ((((w.alloc o).alloc o').alloc o'').alloc (.cells #[v] t)) (w.heap.size + 1 + 1 + 1) t v := by
  have := boxed2 (w.alloc o) o' o'' t v; rwa [World.size_alloc] at this
/-- What the walk asks of a box. -/
theorem _root_.Go.Boxed.both {W : World} {B : Nat} {t : TypeId} {v : Value} (h : Boxed W B t v) : W.cell? ⟨B, 0, none⟩ = some v ∧ W.frozen? ⟨B, 0, none⟩ = false := ⟨h.cell, h.frozen⟩
end Go.Cs
