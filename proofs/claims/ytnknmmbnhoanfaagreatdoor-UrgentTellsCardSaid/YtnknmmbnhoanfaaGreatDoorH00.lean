/- Texts joined. -/
import Derived.RangeFuncNested
import Derived.WalkKit
import Derived.Deep.QuietTactic
import Derived.ScopeJumps
import Derived.WalkMore
import Derived.OrdersIn
import Derived.Still
import Derived.Laws.OwnMore
import Derived.ProofKit
import Derived.Deep.Slices
import Derived.Deep.Fields
import Derived.Test.YtnknmmbnhoanfaaGreatDoorRows
import Derived.OrdersHeld
import Derived.Deep.MidRow
import Derived.Lib.Hide
import Derived.RangeFuncBox
import Derived.BigQuiet
import Derived.JoinedCond
import Derived.HandedShaped
import Derived.SizedLaws
import Derived.Conc.Holds
import Derived.OpenShut
set_option linter.unusedSimpArgs false
set_option linter.unusedVariables false
set_option maxHeartbeats 16000000
set_option maxRecDepth 100000
namespace Go.Cs
open Go.RowKit
structure Mods (S:Nat→Prop) (w w':World):Prop where
 os:w'.os=w.os
 tape:w'.tape=w.tape
 output:w'.output=w.output
 size:w.heap.size ≤ w'.heap.size
 block:∀ k o,w.heap[k]? = some o→(¬ S k ∨ o.isCells=false)→w'.heap[k]? = some o
abbrev New (w w':World):Prop:=Mods (fun _=>False) w w'
theorem Mods.refl (S:Nat→Prop) (w:World):Mods S w w:=⟨rfl,rfl,rfl,Nat.le_refl _,fun _ _ h _=>h⟩
theorem Mods.trans {S:Nat→Prop} {a b c:World} (h:Mods S a b) (k:Mods S b c):Mods S a c :=
 ⟨k.os.trans h.os,k.tape.trans h.tape,k.output.trans h.output,Nat.le_trans h.size k.size,fun i o hi ho=>k.block i o (h.block i o hi ho) ho⟩
theorem Mods.mono {S T:Nat→Prop} {a b:World} (h:Mods S a b) (hST:∀ k,S k→T k):Mods T a b :=
 ⟨h.os,h.tape,h.output,h.size,fun i o hi ho=>h.block i o hi (ho.imp (fun n m=>n (hST _ m)) id)⟩
theorem Mods.ofNew {S:Nat→Prop} {a b:World} (h:New a b):Mods S a b:=h.mono fun _ f=>f.elim
theorem Mods.new {S:Nat→Prop} {a b:World} (h:Mods S a b) (hS:∀ k,S k→a.heap.size ≤ k):New a b :=
 ⟨h.os,h.tape,h.output,h.size,fun i o hi _=>h.block i o hi (.inl fun hk=>by have:=hS i hk;have:=(Array.getElem?_eq_some_iff.1 hi).1;omega)⟩
theorem Mods.only {S T:Nat→Prop} {a b:World} (h:Mods S a b) (hS:∀ k,S k→a.heap.size ≤ k ∨ T k):Mods T a b :=
 ⟨h.os,h.tape,h.output,h.size,fun i o hi ho=>h.block i o hi (ho.imp (fun n m=>by
  rcases hS i m with g | g
  ·have:=(Array.getElem?_eq_some_iff.1 hi).1;omega
  ·exact n g) id)⟩
theorem Mods.alloc {S:Nat→Prop} {a w:World} (h:Mods S a w) (o:Obj):Mods S a (w.alloc o) :=
 h.trans ⟨rfl,rfl,rfl,by simp,fun k o' hk _=>(Below.heap_alloc w o k (Array.getElem?_eq_some_iff.1 hk).1).trans hk⟩
theorem Mods.drew {S:Nat→Prop} {a w:World} (h:Mods S a w):Mods S a w.drew:=h.trans ⟨rfl,rfl,rfl,Nat.le_refl _,fun _ _ hk _=>hk⟩
theorem Mods.drewN {S:Nat→Prop} {a w:World} (h:Mods S a w) (n:Nat):Mods S a (w.drewN n):=h.trans ⟨rfl,rfl,rfl,Nat.le_refl _,fun _ _ hk _=>hk⟩
theorem Mods.setCell {S:Nat→Prop} {a w:World} (h:Mods S a w) {p:Addr} (hp:a.heap.size ≤ p.block ∨ S p.block) (u:Value):Mods S a (w.setCell p u) :=
 ⟨h.os,h.tape,h.output,by have:=h.size;simp [World.setCell];exact this,fun k o hk ho=>by
  have hw:=h.block k o hk ho
  by_cases e:k=p.block
  ·subst e
   rcases ho with ho | ho
   ·rcases hp with hp | hp
    ·have:=(Array.getElem?_eq_some_iff.1 hk).1;omega
    ·exact absurd hp ho
   ·exact (KeepsOthers.setCell w p u).same _ _ hw ho
  ·exact (Below.heap_setCell w p u k e).trans hw⟩
theorem Mods.grown {S:Nat→Prop} {a w w':World} {row:Option Nat} (h:Mods S a w) (hg:w.grownBy w' row) (hr:∀ k,row=some k→a.heap.size ≤ k ∨ (S k∧∀ o,w.heap[k]? = some o→o.isCells=true)):Mods S a w' :=
 ⟨hg.os.trans h.os,hg.tape.trans h.tape,hg.output.trans h.output,Nat.le_trans h.size hg.size,fun k o hk ho=>by
  have hw:=h.block k o hk ho
  have hlt:=(Array.getElem?_eq_some_iff.1 hw).1
  have hlt':=(Array.getElem?_eq_some_iff.1 hk).1
  refine (hg.block k hlt ?_).trans hw
  intro e
  rcases hr k e.symm with h1 | ⟨h1,h2⟩
  ·omega
  ·rcases ho with ho | ho
   ·exact ho h1
   ·rw [h2 o hw] at ho;cases ho⟩
theorem Mods.below {B:Nat} {w w':World} (h:Below B w w') (hB:w.heap.size ≤ B):New w w' :=
 ⟨h.os,h.tape,h.output,h.size,fun k o hk _=>(h.block k (by have:=(Array.getElem?_eq_some_iff.1 hk).1;omega)).trans hk⟩
theorem New.toBelow {w w':World} (h:New w w'):Below w.heap.size w w' :=
 ⟨h.os,h.tape,h.output,h.size,fun k hk=>by
  rw [Array.getElem?_eq_getElem hk];exact h.block k _ (Array.getElem?_eq_getElem hk) (.inl id)⟩
theorem Mods.heap {S:Nat→Prop} {w w':World} (h:Mods S w w') {k:Nat} {o:Obj} (hk:w.heap[k]? = some o) (hS:¬ S k):w'.heap[k]? = some o:=h.block k o hk (.inl hS)
theorem Mods.cell {S:Nat→Prop} {w w':World} (h:Mods S w w') {p:Addr} {v:Value} (hc:w.cell? p=some v) (hS:¬ S p.block):w'.cell? p=some v:=by
 obtain ⟨o,ho,_⟩:=cells_of_cell hc
 exact (World.cell?_of_block (w:=w) ((h.block _ o ho (.inl hS)).trans ho.symm)).trans hc
theorem Mods.frozen {S:Nat→Prop} {w w':World} (h:Mods S w w') {p:Addr} {v:Value} (hc:w.cell? p=some v) (hS:¬ S p.block):w'.frozen? p=w.frozen? p:=by
 obtain ⟨o,ho,_⟩:=cells_of_cell hc
 exact World.frozen?_of_block (w:=w) ((h.block _ o ho (.inl hS)).trans ho.symm)
theorem Mods.boxed {S:Nat→Prop} {w w':World} (h:Mods S w w') {B:Nat} {t:TypeId} {v:Value} (hb:Boxed w B t v) (hS:¬ S B):Boxed w' B t v:=h.block B _ hb (.inl hS)
theorem Mods.ownsRow {S:Nat→Prop} {w w':World} (h:Mods S w w') {base:Nat} {e:TypeId} {size:Nat} {v:Value} {n:Nat} {xs:List Value} (hr:w.ownsRow base e size v n xs) (hS:∀ g,v.ownBlock=some g→¬ S g):w'.ownsRow base e size v n xs:=by
 refine ⟨hr.1,hr.2.imp id ?_⟩
 rintro ⟨g,cap,cur,rfl,hb,hg,r⟩
 exact ⟨g,cap,cur,rfl,hb,h.heap hg (hS g rfl),r⟩
structure Quiet (B:Nat) (w w':World):Prop where
 os:w'.os=w.os
 tape:w'.tape=w.tape
 output:w'.output=w.output
 size:w.heap.size ≤ w'.heap.size
 block:∀ k o,w.heap[k]? = some o→(k < B ∨ o.isCells=true)→w'.heap[k]? = some o
theorem New.quiet {w w':World} (h:New w w') (B:Nat):Quiet B w w':=⟨h.os,h.tape,h.output,h.size,fun k o hk _=>h.block k o hk (.inl id)⟩
theorem Quiet.putObj {B:Nat} {w:World} {l:Nat} {o:Obj} (o':Obj) (hl:w.heap[l]? = some o) (ho:o.isCells=false) (hB:B ≤ l):Quiet B w (w.putObj l o') :=
 ⟨rfl,rfl,rfl,by simp,fun k ok hk h=>by
  have:k ≠ l:=by
   intro e;subst e
   rw [hl] at hk;cases hk
   rcases h with h | h
   ·omega
   ·rw [ho] at h;cases h
  exact (World.putObj_heap_other this).trans hk⟩
def Stab (B:Nat) (p:World→Prop):Prop:=∀ W W',p W→Quiet B W W'→p W'
theorem Stab.and {B:Nat} {p q:World→Prop} (hp:Stab B p) (hq:Stab B q):Stab B (fun W=>p W∧q W):=fun W W' h k=>⟨hp W W' h.1 k,hq W W' h.2 k⟩
theorem Stab.or {B:Nat} {p q:World→Prop} (hp:Stab B p) (hq:Stab B q):Stab B (fun W=>p W ∨ q W):=fun W W' h k=>h.imp (fun h=>hp W W' h k) (fun h=>hq W W' h k)
theorem Stab.pure {B:Nat} (c:Prop):Stab B (fun _=>c):=fun _ _ h _=>h
theorem Stab.boxed {B:Nat} (b:Nat) (t:TypeId) (v:Value):Stab B (fun W=>Boxed W b t v):=fun _ _ h k=>k.block b _ h (.inr rfl)
theorem Stab.cell {B:Nat} (p:Addr) (v:Value):Stab B (fun W=>W.cell? p=some v):=fun W W' h k=>by
 obtain ⟨o,ho,hc⟩:=cells_of_cell h
 exact (World.cell?_of_block (w:=W) ((k.block _ o ho (.inr hc)).trans ho.symm)).trans h
theorem Stab.ownsRow {B:Nat} (base:Nat) (e:TypeId) (size:Nat) (v:Value) (n:Nat) (xs:List Value):Stab B (fun W=>W.ownsRow base e size v n xs):=fun W W' hr k=>by
 refine ⟨hr.1,hr.2.imp id ?_⟩
 rintro ⟨g,cap,cur,rfl,hb,hg,r⟩
 exact ⟨g,cap,cur,rfl,hb,k.block g _ hg (.inr rfl),r⟩
theorem Stab.mods {B:Nat} {S:Nat→Prop} {w:World} (hB:w.heap.size ≤ B):Stab B (fun W=>Mods S w W):=fun W W' h k =>
 ⟨k.os.trans h.os,k.tape.trans h.tape,k.output.trans h.output,Nat.le_trans h.size k.size,fun i o hi ho =>
  k.block i o (h.block i o hi ho) (.inl (by have:=(Array.getElem?_eq_some_iff.1 hi).1;omega))⟩
def IterAt (P:Program) (g:Nat) (lb:Array Value) (L:List (Array Value)) (S:Nat→Prop) (W:World):Prop :=
 ∀ (l:Nat) (J Jx:Nat→World→Prop),(∀ k,∀ A A',J k A→New A A'→J k A')→(∀ k,∀ A A',Jx k A→New A A'→Jx k A') →
  (∀ k x W1,L[k]? = some x→J k W1→Mods S W W1→YieldAt Fence.wide 0 P l x W1 fun e W' =>
   (e = .returned (.bool true)∧J (k + 1) W'∧Mods S W1 W') ∨ (e = .returned (.bool false)∧Jx (k + 1) W')) →
  J 0 W →
  Calls P g (#[.func (.yield l) #[] #[]] ++ lb) W fun e W'=>(∃ v,e = .returned v)∧(J L.length W' ∨ ∃ k,k ≤ L.length∧Jx k W')
def roundQ (S:Nat→Prop) (I:Nat→World→Prop) (Ix:Code→Nat→World→Prop) (k:Nat) (W:World):Exit→Act→World→Prop
 | .normal,_,W'=>Mods S W W'∧I k W'
 | .ret,_,W'=>Mods S W W'∧Ix .ret k W'
 | .exit id,_,W'=>Mods S W W'∧Ix (.exit id) k W'
 | .goto t,_,W'=>Mods S W W'∧Ix (.goto t) k W'
 | .panic _,_,_=>False
 | .outgrown,_,_=>False
variable {P:Program}
def Others (A W:World):Prop:=∀ (k:Nat) (o:Obj),A.heap[k]? = some o→o.isCells=false→W.heap[k]? = some o
abbrev Fr (r:Option Nat):Fence:={ Fence.wide with round:=r }
theorem rangeList_core (r:Option Nat)
  {g:Operand} {ps:Array Tmp} {assign body:Code} {Q:Exit→Act→World→Prop} {a:Act} {w:World}
  {gf:Nat} {lb:Array Value} (hg:a.eval g = .func (.func gf) #[] lb) (eg:∀ args w,(callFunc gf args).run P w = .ok (.enter gf args) w)
  (L:List (Array Value)) (S:Nat→Prop) (hit:∀ W,New w W→IterAt P gf lb L S W) (hps:∀ x ∈ L,x.size=ps.size)
  (W0:World) (hW0:New w W0) (mark:List Deferred) (d:Nat)
  (henter:∀ fn,(Instr.enterLoop fn a.tmps ps assign body r).run P w = .ok (W0.heap.size,mark) (W0.alloc (.loop { state:=.ready,pending:=none,fn,tmps:=a.tmps,params:=ps,assign,body,defers:=d })))
  (I:Nat→World→Prop) (Ix:Code→Nat→World→Prop) (hI:∀ k,Stab w.heap.size (I k)) (hIx:∀ c k,Stab w.heap.size (Ix c k)) (h0:I 0 w)
  (hround:∀ (l k:Nat) (x:Array Value) (W:World),L[k]? = some x→w.heap.size ≤ l→(∃ r,W.heap[l]? = some (.loop r))→I k W →
   assign.wpIn (Fr (some l)) 0 P (Exit.then (fun a1 W1=>Mods S W W1∧∀ W2,Quiet w.heap.size W1 W2→(∃ r,W2.heap[l]? = some (.loop r))→body.wpIn (Fr (some l)) 0 P (roundQ S I Ix (k + 1) W2) a1 W2) (fun _ _ _=>False))
    { tmps:=(ps.zip x).foldl (fun t (p,v)=>t.setIfInBounds p v) a.tmps,defers:=[] } W)
  (hdone:∀ W,I L.length W→Others W0 W→Q .normal { a with defers:=mark ++ a.defers } W)
  (hstop:∀ c k W,k ≤ L.length→Ix c k W→Others W0 W→c.wpIn (Fr r) 0 P Q { a with defers:=mark ++ a.defers } W) :
  (Code.rangeFunc g ps assign body).wpIn (Fr r) 0 P Q a w:=by
 refine wpIn_rangeFunc ?_
 intro fn _
 obtain ⟨rec,hrec⟩:∃ rec:LoopState→Option Code→Loop,rec=fun st pe=>{ state:=st,pending:=pe,fn,tmps:=a.tmps,params:=ps,assign,body,defers:=d }:=⟨_,rfl⟩
 obtain ⟨W1,hW1⟩:∃ W1,W0.alloc (.loop (rec .ready none))=W1:=⟨_,rfl⟩
 obtain ⟨l,hl0⟩:∃ l,W0.heap.size=l:=⟨_,rfl⟩
 have hL1:W1.heap[l]? = some (.loop (rec .ready none)):=by rw [← hW1,← hl0];exact World.alloc_heap_new W0 _
 have hN1:New w W1:=by rw [← hW1];exact hW0.alloc _
 have hwl:w.heap.size ≤ l:=by rw [← hl0];exact hW0.size
 have hC1:Others W0 W1:=fun k o hk _=>by
  rw [← hW1];exact (Below.heap_alloc W0 _ k (Array.getElem?_eq_some_iff.1 hk).1).trans hk
 refine ⟨l,mark,W1,{ target:=.fn (.func gf) lb,args:=#[.func (.yield l) #[] #[]] },W1,gf,
  #[.func (.yield l) #[] #[]] ++ lb,W1,?_,?_,fun _ _=>trivial,?_,fun h=>by simp [Fence.wide] at h,?_⟩
 ·rw [← hW1,hrec,← hl0];exact henter fn
 ·simp only [resolve,hg]
  simp [go_sem]
 ·simp [invoke,go_sem,eg]
 ·have hlW0:∀ {k:Nat} {o:Obj},W0.heap[k]? = some o→k ≠ l:=fun hk=>by have:=(Array.getElem?_eq_some_iff.1 hk).1;omega
  have hput:∀ (W:World) (o:Obj),Others W0 W→Others W0 (W.putObj l o):=fun W o h k o' hk ho =>
   (World.putObj_heap_other (hlW0 hk)).trans (h k o' hk ho)
  refine Calls.mono (R:=fun e W'=>(∃ v,e = .returned v) ∧
    ((I L.length W'∧W'.heap[l]? = some (.loop (rec .ready none))∧Others W0 W') ∨
     ∃ k,k ≤ L.length∧∃ c,Ix c k W'∧W'.heap[l]? = some (.loop (rec .done (some c)))∧Others W0 W')) ?_ ?_ |> callsIn_wide.2
  ·refine hit W1 hN1 l
    (fun k W=>I k W∧W.heap[l]? = some (.loop (rec .ready none))∧Others W0 W)
    (fun k W=>∃ c,Ix c k W∧W.heap[l]? = some (.loop (rec .done (some c)))∧Others W0 W)
    (fun k A A' h hn=>⟨hI k A A' h.1 (hn.quiet _),hn.heap h.2.1 id,fun j o hj ho=>hn.heap (h.2.2 j o hj ho) id⟩)
    (fun k A A' h hn=>by
     obtain ⟨c,h1,h2,h3⟩:=h
     exact ⟨c,hIx c k A A' h1 (hn.quiet _),hn.heap h2 id,fun j o hj ho=>hn.heap (h3 j o hj ho) id⟩)
    ?_ ⟨hI 0 w W1 h0 (hN1.quiet _),hL1,hC1⟩
   rintro k x W hx ⟨hi,hl,hk⟩ _
   have hy:=run_yield (P:=P) (args:=x) hl (by rw [hrec];exact hps x (List.mem_of_getElem? hx))
   rw [hrec] at hy
   refine ⟨fn,_,assign,body,hy,roundIn_of_wpIn trivial (wpIn_mono (hround l k x W hx hwl ⟨_,hl⟩ hi) ?_)⟩
   clear hy
   rintro e a1 Wa he
   cases e with
   | normal =>
    obtain ⟨hma,hb⟩:=he
    have hla:=hma.block _ _ hl (.inr rfl)
    have hka:Others W0 Wa:=fun j o hj ho=>hma.block _ _ (hk j o hj ho) (.inr ho)
    have hlt:l < Wa.heap.size:=(Array.getElem?_eq_some_iff.1 hla).1
    refine ⟨_,run_beginRound hla (by rw [hrec]),?_⟩
    obtain ⟨Wb,hWb⟩:∃ Wb,Wa.putObj l (.loop { rec .ready none with state:=.busy })=Wb:=⟨_,rfl⟩
    have hl2:Wb.heap[l]? = some (.loop { rec .ready none with state:=.busy }):=by rw [← hWb];exact World.putObj_heap_same hlt
    have hk2:Others W0 Wb:=by rw [← hWb];exact hput _ _ hka
    have hqb:Quiet w.heap.size Wa Wb:=by rw [← hWb];exact Quiet.putObj _ hla rfl hwl
    rw [hWb]
    refine wpIn_mono (hb Wb hqb ⟨_,hl2⟩) ?_
    have fin:∀ (jump:Option Code) (W3:World),Mods S Wb W3 →
      (Instr.endRound l jump).run P W3 = .ok (.bool jump.isNone) (W3.putObj l (.loop (rec (if jump.isNone then .ready else .done) jump))) ∧
      W3.heap[l]? = some (.loop { rec .ready none with state:=.busy }) ∧
      (W3.putObj l (.loop (rec (if jump.isNone then .ready else .done) jump))).heap[l]? = some (.loop (rec (if jump.isNone then .ready else .done) jump)) ∧
      Others W0 (W3.putObj l (.loop (rec (if jump.isNone then .ready else .done) jump))):=fun jump W3 hm3=>by
     have hl3:=hm3.block _ _ hl2 (.inr rfl)
     have:=run_endRound (P:=P) jump hl3
     rw [hrec] at this ⊢
     exact ⟨this,by rw [hrec] at hl3;exact hl3,World.putObj_heap_same (Array.getElem?_eq_some_iff.1 hl3).1,hput _ _ fun j o hj ho=>hm3.block _ _ (hk2 j o hj ho) (.inr ho)⟩
    rintro e a3 W3 hp
    cases e with
    | normal =>
     obtain ⟨hm3,hi3⟩:=hp
     obtain ⟨hr,hl3,hl4,hk4⟩:=fin none W3 hm3
     refine ⟨_,_,hr,.inl ⟨rfl,⟨hI _ _ _ hi3 (Quiet.putObj _ hl3 rfl hwl),hl4,hk4⟩,?_⟩⟩
     refine ⟨(hm3.os.trans hqb.os).trans hma.os,(hm3.tape.trans hqb.tape).trans hma.tape,(hm3.output.trans hqb.output).trans hma.output,?_,?_⟩
     ·simp only [World.putObj_size];exact Nat.le_trans hma.size (Nat.le_trans hqb.size hm3.size)
     ·intro j o hj ho
      by_cases e:j=l
      ·subst e;rw [hl] at hj;cases hj;exact hl4
      ·refine (World.putObj_heap_other e).trans (hm3.block _ _ ?_ ho)
       rw [← hWb];exact (World.putObj_heap_other e).trans (hma.block _ _ hj ho)
    | ret =>
     obtain ⟨hm3,hi3⟩:=hp
     obtain ⟨hr,hl3,hl4,hk4⟩:=fin (some .ret) W3 hm3
     exact ⟨_,_,hr,.inr ⟨rfl,.ret,hIx _ _ _ _ hi3 (Quiet.putObj _ hl3 rfl hwl),hl4,hk4⟩⟩
    | exit id =>
     obtain ⟨hm3,hi3⟩:=hp
     obtain ⟨hr,hl3,hl4,hk4⟩:=fin (some (.exit id)) W3 hm3
     exact ⟨_,_,hr,.inr ⟨rfl,.exit id,hIx _ _ _ _ hi3 (Quiet.putObj _ hl3 rfl hwl),hl4,hk4⟩⟩
    | goto t =>
     obtain ⟨hm3,hi3⟩:=hp
     obtain ⟨hr,hl3,hl4,hk4⟩:=fin (some (.goto t)) W3 hm3
     exact ⟨_,_,hr,.inr ⟨rfl,.goto t,hIx _ _ _ _ hi3 (Quiet.putObj _ hl3 rfl hwl),hl4,hk4⟩⟩
    | panic ch=>exact hp.elim
    | outgrown=>exact hp.elim
   | exit id=>exact he.elim
   | goto t=>exact he.elim
   | ret=>exact he.elim
   | panic ch=>exact he.elim
   | outgrown=>exact he.elim
  ·rintro e W2 ⟨⟨v,rfl⟩,(⟨hi,hl,hk⟩ | ⟨k,hkl,c,hi,hl,hk⟩)⟩
   ·exact ⟨none,_,by have:=run_endLoop (P:=P) hl (by rw [hrec];simp);rw [hrec] at this;exact this,hdone _ (hI _ _ _ hi (Quiet.putObj _ hl rfl hwl)) (hput _ _ hk)⟩
   ·exact ⟨some c,_,by have:=run_endLoop (P:=P) hl (by rw [hrec];simp);rw [hrec] at this;exact this,hstop c k _ hkl (hIx _ _ _ _ hi (Quiet.putObj _ hl rfl hwl)) (hput _ _ hk)⟩
end Go.Cs
namespace Go.Cs
open Go.RowKit
variable {P:Program}
theorem calls_of_marks {f:FuncId} {fn:Func} {c:Code} {args:Array Value} {w:World} {R:Ending→World→Prop}
  (hf:P.funcs[f]? = some fn) (hb:fn.body=some c)
  (h:c.wp P (bodyPostM Fence.wide 0 P fn R) { tmps:=args ++ Array.replicate (fn.ntmps - args.size) undef,defers:=[] } w):Calls P f args w R :=
 callsIn_wide.1 (callsIn_of_wp_marks (F:=Fence.wide) (n:=0) hf hb trivial ((wpIn_wide (n:=0)).2 h))
theorem marks_one {fn:Func} {R:Ending→World→Prop} {a:Act} {W:World} {D:Nat} {v:Value} (hd:a.defers = [{ target:=.collected D,args:=#[] }])
  (hD:W.heap[D]? = some (.deferred (some []))) (hv:(results fn a.tmps).run P (W.putObj D (.deferred none)) = .ok v (W.putObj D (.deferred none))) (hR:R (.returned v) (W.putObj D (.deferred none))) :
  LeavesInM Fence.wide 0 P fn a.tmps R a.defers .returning W:=by
 rw [hd]
 exact ⟨by simp,.inl ⟨_,_,rfl,run_takeDeferred hD,v,hv,hR⟩⟩
theorem Mods.putObj {S:Nat→Prop} {w W:World} (h:Mods S w W) {D:Nat} (hD:w.heap.size ≤ D) (o:Obj):Mods S w (W.putObj D o) :=
 ⟨h.os,h.tape,h.output,by simpa using h.size,fun k o' hk ho=>(World.putObj_heap_other (by have:=(Array.getElem?_eq_some_iff.1 hk).1;omega)).trans (h.block k o' hk ho)⟩
end Go.Cs
namespace Go.Cs
open Go.RowKit
variable {P:Program}
theorem wp_scope_fwd {a:Act} {w:World} {Q:Exit→Act→World→Prop} {c rest:Code} (l:Nat) (J:Act→World→Prop) (hf:findLabel c l=some rest)
  (first:c.wp P (Exit.jump l J Q) a w) (pass:∀ a w,J a w→rest.wp P (Exit.noGoto Q) a w):(Code.scope c).wp P Q a w :=
 wp_scope_jumps l J (fun _ _=>0) hf first fun a w h=>wp_mono (pass a w h) fun e a' w' hq=>by
  cases e with
  | goto l'=>exact absurd hq (by simp [Exit.noGoto])
  | _=>exact hq
end Go.Cs
namespace Go.Cs
open Go.RowKit
variable {P:Program}
theorem at_round {r:Option Nat} {k:FuncId} {args:Array Value} {w:World} {R R':Ending→World→Prop} (h:Calls P k args w R') (hr:∀ e w',R' e w'→R e w') :
  Fence.wide.fn k∧Fence.wide.depth=none∧CallsIn (Fr r) 0 P k args w R:=⟨trivial,rfl,(callsIn_wide (n:=0)).2 (h.mono hr)⟩
end Go.Cs
namespace Go.Cs
open Go.RowKit
theorem boxed1 (w:World) (o:Obj) (t:TypeId) (v:Value):Boxed ((w.alloc o).alloc (.cells #[v] t)) (w.heap.size + 1) t v:=by
 have:=Boxed.new (w.alloc o) t v;rwa [World.size_alloc] at this
theorem boxed2 (w:World) (o o':Obj) (t:TypeId) (v:Value):Boxed (((w.alloc o).alloc o').alloc (.cells #[v] t)) (w.heap.size + 1 + 1) t v:=by
 have:=boxed1 (w.alloc o) o' t v;rwa [World.size_alloc] at this
theorem _root_.Go.Boxed.both {W:World} {B:Nat} {t:TypeId} {v:Value} (h:Boxed W B t v):W.cell? ⟨B,0,none⟩=some v∧W.frozen? ⟨B,0,none⟩=false:=⟨h.cell,h.frozen⟩
variable {P:Program} {ops:Array Oper} {Q:Exit→Act→World→Prop} {md:Region.Mode} {r:Option Nat}
def plainOp (o:Oper):Bool:=match o.op with | .select ..=>false | .defer _=>false | _=>true
theorem plainOp_sel {o:Oper} (h:plainOp o=true):∀ cs b,o.op ≠ .select cs b:=fun cs b e=>by simp [plainOp,e] at h
theorem plainOp_def {o:Oper} (h:plainOp o=true):∀ c,o.op ≠ .defer c:=fun c e=>by simp [plainOp,e] at h
theorem semAt_plain {o:Oper} (h:plainOp o=true) (F:Option Nat) (ev:Operand→Value):o.semAt F ev=execOp ev o:=by
 cases F with
 | none=>exact Oper.semAt_none _ _
 | some l=>exact Oper.semAt_eq _ _ _ (fun c e=>absurd e (plainOp_def h c))
def Sure (P:Program) (ops:Array Oper) (o:Oper) (v:Value) (a:Act):Prop:=∀ w,YieldsAt P ops w o v a
theorem Sure.of_same {o:Oper} {v:Value} {a a':Act} (hy:Sure P ops o v a) (he:execOp a'.eval o=execOp a.eval o)
  (hw:Region.wanted o (yielded ops a'.tmps)=Region.wanted o (yielded ops a.tmps)):Sure P ops o v a':=fun w=>(hy w).of_same he hw
theorem Sure.opIn {i:Nat} {o:Oper} {v:Value} {a:Act} (hp:plainOp o=true) (hi:ops[i]? = some o) (hy:Sure P ops o v a)
  {K:Act→World→Prop} {w:World} (h:K (a.put o.dst v) w):wpOpIn (Fr r) 0 P ops Q i K a w:=by
 unfold Go.wpOpIn
 simp only [hi]
 rcases hy w with ⟨hw,hv⟩ | ⟨hw,rfl⟩
 ·simp only [hw,if_true,Oper.wpIn,semAt_plain hp]
  refine ⟨fun _ _=>trivial,?_⟩
  rcases hv with hv | ⟨hv,rfl⟩ | ⟨f,args,hv,hc⟩
  ·rw [hv];exact h
  ·rw [hv];exact h
  ·rw [hv]
   refine ⟨fun h=>by simp [Fence.wide] at h,(callsIn_wide (n:=0)).2 (hc.mono ?_)⟩
   rintro e w' ⟨rfl,rfl⟩
   exact h
 ·simp only [hw,Bool.false_eq_true,if_false];exact ⟨fun _ _=>trivial,h⟩
theorem opIn_put {j:Nat} {oi oj:Oper} {v:Value} (hj:ops[j]? = some oj) (hap:oi.apart ops oj=true) (hpi:plainOp oi=true) (hpj:plainOp oj=true)
  (hQ:∀ c a w,Q (.panic c) (a.put oi.dst v) w→Q (.panic c) a w) {K:Act→World→Prop} {a:Act} {w:World}
  (hy:Sure P ops oi v a) (h:wpOpIn (Fr r) 0 P ops Q j K (a.put oi.dst v) w) :
  wpOpIn (Fr r) 0 P ops Q j (fun a' w'=>Sure P ops oi v a'∧K (a'.put oi.dst v) w') a w:=by
 obtain ⟨h1,h2,h3⟩:=Oper.apart_spec hap
 have hsi:=plainOp_sel hpi
 have hsj:=plainOp_sel hpj
 have keep:∀ (a:Act),Sure P ops oi v a→∀ u,Sure P ops oi v (a.put oj.dst u):=fun a hy u =>
  hy.of_same (execOp_put oi hsi a oj.dst u h3) (wanted_put oi a oj.dst u h3)
 have keepD:∀ d,Sure P ops oi v { a with defers:=d::a.defers }:=fun d=>hy.of_same rfl rfl
 unfold wpOpIn at *
 simp only [hj] at *
 rw [wanted_put oj a oi.dst v h1,about_put oj w a oi.dst v h1] at h
 split
 ·rename_i hw
  simp only [hw,if_true] at h
  unfold Oper.wpIn at *
  rw [about_put oj w a oi.dst v h1] at h
  refine ⟨h.1,?_⟩
  have h:=h.2
  rw [semAt_plain hpj,execOp_put oj hsj a oi.dst v h1] at h
  rw [semAt_plain hpj]
  generalize (execOp a.eval oj).run P w=r at *
  cases r with
  | ok x w' =>
   cases x <;> simp only [Oper.uponIn] at h ⊢
   case value u=>exact ⟨keep a hy u,by rw [← Act.put_comm a v u h2];exact h⟩
   case skip=>exact ⟨keep a hy _,by rw [← Act.put_comm a v undef h2];exact h⟩
   case defer d =>
    refine ⟨keep _ (keepD d) _,?_⟩
    rw [← Act.put_comm _ v undef h2,← Act.put_defers]
    exact h
   case enter f args =>
    refine ⟨h.1,CallsIn.mono h.2 fun e w'' he=>?_⟩
    cases e with
    | returned u=>exact ⟨keep a hy u,by rw [← Act.put_comm a v u h2];exact he⟩
    | panicked c=>exact hQ _ _ _ he
    | outgrown=>exact he
   case row row args=>exact ⟨h.1,RowsIn.mono h.2 fun u w'' he=>⟨keep a hy u,by rw [← Act.put_comm a v u h2];exact he⟩⟩
   case round l f tmps assign body =>
    refine ⟨h.1,RoundIn.mono h.2 fun e w'' he=>?_⟩
    cases e with
    | returned u=>exact ⟨keep a hy u,by rw [← Act.put_comm a v u h2];exact he⟩
    | panicked c=>exact hQ _ _ _ he
    | outgrown=>exact he
  | halt x w' =>
   cases x <;> simp only [Oper.uponIn] at h ⊢
   case panic u=>exact hQ _ _ _ h
 ·rename_i hw
  simp only [hw] at h
  exact ⟨h.1,keep a hy _,by rw [← Act.put_comm a v undef h2];exact h.2⟩
theorem any_first {i:Nat} {oi:Oper} {v:Value} (hi:ops[i]? = some oi) (hpl:∀ (j:Nat) (o:Oper),ops[j]? = some o→plainOp o=true)
  (hQ:∀ c a w,Q (.panic c) (a.put oi.dst v) w→Q (.panic c) a w) :
  ∀ (fuel:Nat) (listed:Array Bool) (a:Act) (w:World),
   (∀ j oj,ops[j]? = some oj→j ≠ i→listed.getD j true=false→(∀ e ∈ oj.after,Region.binds md e=true→e.on ≠ i)→oi.apart ops oj=true) →
   i ∈ Region.ready md ops listed→Sure P ops oi v a →
   wpAnyIn (Fr r) 0 P md ops Q fuel (listed.setIfInBounds i true) (a.put oi.dst v) w→wpAnyIn (Fr r) 0 P md ops Q (fuel + 1) listed a w:=by
 intro fuel
 induction fuel with
 | zero =>
  intro listed a w _ hr hy H
  refine ⟨fun h=>(by rw [h] at hr;cases hr),fun j hj=>?_⟩
  by_cases hji:j=i
  ·subst hji;exact hy.opIn (hpl _ _ hi) hi H
  ·have:=ready_mono hj hji
   rw [H.1] at this
   cases this
 | succ fuel ih =>
  intro listed a w hfree hr hy H
  refine ⟨fun h=>(by rw [h] at hr;cases hr),fun j hj=>?_⟩
  by_cases hji:j=i
  ·subst hji;exact hy.opIn (hpl _ _ hi) hi H
  ·have h1:=H.2 j (ready_mono hj hji)
   obtain ⟨hjun,oj,hoj,hall⟩:=mem_ready.1 hj
   have hnot:∀ e ∈ oj.after,Region.binds md e=true→e.on ≠ i:=fun e he hb heq=>by
    have h1:=hall e he hb
    have h0:=(mem_ready.1 hr).1
    rw [heq] at h1
    rcases Nat.lt_or_ge i listed.size with h' | h'
    ·simp [h'] at h0 h1;rw [h0] at h1;cases h1
    ·simp [Array.getElem?_eq_none h'] at h1
   have h2:=opIn_put hoj (hfree j oj hoj hji hjun hnot) (hpl i oi hi) (hpl j oj hoj) hQ hy h1
   have hfree':∀ k ok,ops[k]? = some ok→k ≠ i→(listed.setIfInBounds j true).getD k true=false →
     (∀ e ∈ ok.after,Region.binds md e=true→e.on ≠ i)→oi.apart ops ok=true:=fun k ok hk hki hun hno=>by
    refine hfree k ok hk hki ?_ hno
    by_cases hjk:j=k
    ·subst hjk;exact hjun
    ·rw [getD_set_ne true hjk] at hun;exact hun
   refine wpOpIn_mono (fun a' w' h3=>ih (listed.setIfInBounds j true) a' w' hfree' (ready_mono hr (Ne.symm hji)) h3.1 ?_) h2
   rw [Array.setIfInBounds_comm _ _ hji]
   exact h3.2
theorem any_take (i:Nat) {oi:Oper} (d:Option Tmp) (v:Value) {fuel:Nat} {listed:Array Bool} {a:Act} {w:World} (hi:ops[i]? = some oi) (hd:oi.dst=d)
  (hpl:ops.all plainOp=true) (hf:Region.free md ops listed i=true) (hr:(Region.ready md ops listed).contains i=true)
  (hQ:∀ c a w,Q (.panic c) (a.put d v) w→Q (.panic c) a w) (hy:Sure P ops oi v a)
  (h:wpAnyIn (Fr r) 0 P md ops Q fuel (listed.setIfInBounds i true) (a.put d v) w):wpAnyIn (Fr r) 0 P md ops Q (fuel + 1) listed a w:=by
 subst hd
 exact any_first hi (fun j o hj=>by
  rw [Array.all_eq_true] at hpl
  obtain ⟨hlt,rfl⟩:=Array.getElem?_eq_some_iff.1 hj
  exact hpl j hlt) hQ fuel listed a w (Region.free_spec hi hf) (by simpa using hr) hy h
theorem Sure.value {o:Oper} {v:Value} {a:Act} (hg:o.guard=none) (h:∀ w,(execOp a.eval o).run P w = .ok (.value v) w):Sure P ops o v a :=
 fun w=>.inl ⟨by simp [Region.wanted,hg],.inl (h w)⟩
theorem Sure.call {o:Oper} {v:Value} {a:Act} (hg:o.guard=none) (f:FuncId) (args:Array Value) (h:∀ w,(execOp a.eval o).run P w = .ok (.enter f args) w)
  (hc:∀ w,Calls P f args w fun e w'=>e = .returned v∧w=w'):Sure P ops o v a :=
 fun w=>.inl ⟨by simp [Region.wanted,hg],.inr (.inr ⟨f,args,h w,(hc w).mono fun _ _ h=>⟨h.1,h.2.symm⟩⟩)⟩
theorem opIn_value {i:Nat} {o:Oper} (d:Option Tmp) {v:Value} {a:Act} {w w':World} {K:Act→World→Prop} (hp:plainOp o=true) (hi:ops[i]? = some o) (hg:o.guard=none) (hd:o.dst=d)
  (h:(execOp a.eval o).run P w = .ok (.value v) w') (hK:K (a.put d v) w'):wpOpIn (Fr r) 0 P ops Q i K a w:=by
 subst hd
 unfold Go.wpOpIn
 simp only [hi,Region.wanted,hg,if_true,Oper.wpIn,semAt_plain hp,h]
 exact ⟨fun _ _=>trivial,hK⟩
theorem opIn_skip {i:Nat} {o:Oper} (d:Option Tmp) {a:Act} {w w':World} {K:Act→World→Prop} (hp:plainOp o=true) (hi:ops[i]? = some o) (hg:o.guard=none) (hd:o.dst=d)
  (h:(execOp a.eval o).run P w = .ok .skip w') (hK:K (a.put d undef) w'):wpOpIn (Fr r) 0 P ops Q i K a w:=by
 subst hd
 unfold Go.wpOpIn
 simp only [hi,Region.wanted,hg,if_true,Oper.wpIn,semAt_plain hp,h]
 exact ⟨fun _ _=>trivial,hK⟩
def Own8 (n0 B:Nat) (T e:TypeId) (X:Nat→List Int) (W:World):Prop :=
 ∃ vs:List Value,vs.length=8∧W.heap[B]? = some (.cells vs.toArray T (0,0)) ∧
  (∀ u,u < 8→W.ownsRow n0 e 1 (vs.getD u undef) (X u).length ((X u).map (Value.int .i64))) ∧
  (∀ u u' g,u < 8→u' < 8→(vs.getD u undef).ownBlock=some g→(vs.getD u' undef).ownBlock=some g→u=u')
theorem Own8.lt {n0 B:Nat} {T e:TypeId} {X:Nat→List Int} {W:World} (h:Own8 n0 B T e X W):B < W.heap.size:=by
 obtain ⟨vs,_,hb,_⟩:=h
 exact (Array.getElem?_eq_some_iff.1 hb).1
theorem ownsRow_ne {W:World} {n0 g:Nat} {e t:TypeId} {v:Value} {n:Nat} {xs:List Value} {c:Array Value} {f:Nat × Nat} (h:W.ownsRow n0 e 1 v n xs) (hg:W.heap[g]? = some (.cells c t f)) (hte:t ≠ e):v.ownBlock ≠ some g:=by
 intro hv
 rcases h.2 with ⟨rfl,_⟩ | ⟨g',cap,cur,rfl,_,hh,_⟩
 ·cases hv
 ·simp only [Value.ownBlock,Option.some.injEq] at hv
  subst hv
  rw [hg] at hh
  simp only [Option.some.injEq,Obj.cells.injEq] at hh
  exact hte hh.2.1
theorem Own8.kept {n0 B:Nat} {T e:TypeId} {X:Nat→List Int} {W W':World} {S:Nat→Prop} (h:Own8 n0 B T e X W) (hm:Mods S W W') (hB:¬ S B) (hS:∀ g,n0 ≤ g→¬ S g):Own8 n0 B T e X W':=by
 obtain ⟨vs,hl,hb,ho,hd⟩:=h
 exact ⟨vs,hl,hm.heap hb hB,fun u hu=>hm.ownsRow (ho u hu) fun g hg=>hS g ((ho u hu).lt g hg).1,hd⟩
def Told8 (n0:Nat) (e:TypeId) (X:Nat→List Int) (v:Value) (W:World):Prop :=
 ∃ vs:List Value,v = .agg vs.toArray∧vs.length=8∧∀ u,u < 8→W.ownsRow n0 e 1 (vs.getD u undef) (X u).length ((X u).map (Value.int .i64))
theorem Own8.told {n0 B:Nat} {T e:TypeId} {X:Nat→List Int} {W:World} (h:Own8 n0 B T e X W):∃ vs:List Value,W.heap[B]? = some (.cells vs.toArray T (0,0))∧vs.length=8∧Told8 n0 e X (.agg vs.toArray) W∧∀ v ∈ vs,v.oneCell'=true:=by
 obtain ⟨vs,hl,hb,ho,_⟩:=h
 refine ⟨vs,hb,hl,⟨vs,rfl,hl,ho⟩,fun v hv=>?_⟩
 obtain ⟨i,hi,rfl⟩:=List.mem_iff_getElem.1 hv
 have:=ho i (by omega)
 have e:vs.getD i undef=vs[i]:=by simp [List.getD,hi]
 rw [e] at this
 rcases this.2 with ⟨h,_⟩ | ⟨g,cap,cur,h,_⟩ <;> rw [h] <;> rfl
theorem Told8.mono {n0 n1:Nat} {e:TypeId} {X:Nat→List Int} {v:Value} {W:World} (h:Told8 n1 e X v W) (hn:n0 ≤ n1):Told8 n0 e X v W:=by
 obtain ⟨vs,hv,hl,ho⟩:=h
 refine ⟨vs,hv,hl,fun u hu=>?_⟩
 have:=ho u hu
 exact ⟨this.1,this.2.imp id fun ⟨g,cap,cur,h1,h2,r⟩=>⟨g,cap,cur,h1,by omega,r⟩⟩
theorem Told8.nil (n0:Nat) (e:TypeId) (W:World):Told8 n0 e (fun _=>[]) (.agg #[.slice none 0 0,.slice none 0 0,.slice none 0 0,.slice none 0 0,.slice none 0 0,.slice none 0 0,.slice none 0 0,.slice none 0 0]) W:=by
 refine ⟨_,rfl,rfl,fun u hu=>?_⟩
 match u,hu with
 | 0,_=>exact World.ownsRow_nil _ _ _ _
 | 1,_=>exact World.ownsRow_nil _ _ _ _
 | 2,_=>exact World.ownsRow_nil _ _ _ _
 | 3,_=>exact World.ownsRow_nil _ _ _ _
 | 4,_=>exact World.ownsRow_nil _ _ _ _
 | 5,_=>exact World.ownsRow_nil _ _ _ _
 | 6,_=>exact World.ownsRow_nil _ _ _ _
 | 7,_=>exact World.ownsRow_nil _ _ _ _
theorem Own8.nil (n0 B:Nat) (T e:TypeId) (W:World) (hb:W.heap[B]? = some (.cells #[.slice none 0 0,.slice none 0 0,.slice none 0 0,.slice none 0 0,.slice none 0 0,.slice none 0 0,.slice none 0 0,.slice none 0 0] T (0,0))):Own8 n0 B T e (fun _=>[]) W:=by
 have ho:∀ u,u < 8→([.slice none 0 0,.slice none 0 0,.slice none 0 0,.slice none 0 0,.slice none 0 0,.slice none 0 0,.slice none 0 0,.slice none 0 0]:List Value).getD u undef = .slice none 0 0:=fun u hu=>by
  match u,hu with
  | 0,_=>rfl
  | 1,_=>rfl
  | 2,_=>rfl
  | 3,_=>rfl
  | 4,_=>rfl
  | 5,_=>rfl
  | 6,_=>rfl
  | 7,_=>rfl
 refine ⟨_,rfl,hb,fun u hu=>?_,fun u u' g hu _ h1 _=>?_⟩
 ·rw [ho u hu];exact World.ownsRow_nil _ _ _ _
 ·rw [ho u hu] at h1;cases h1
theorem Own8.row {n0 B:Nat} {T e:TypeId} {X:Nat→List Int} {W:World} (h:Own8 n0 B T e X W) (u:Nat) (hu:u < 8) :
  ∃ v,W.cell? ⟨B,u,none⟩=some v∧W.frozen? ⟨B,u,none⟩=false∧W.ownsRow n0 e 1 v (X u).length ((X u).map (Value.int .i64)) ∧
   (∀ (W1 W2:World) (v':Value) (x:Int),W.heap.size ≤ W1.heap.size→(∀ k,k < W.heap.size→W1.heap[k]? = W.heap[k]?)→W1.grownBy W2 v.ownBlock→(v'.ownBlock=v.ownBlock ∨ v'.ownBlock=some W1.heap.size) →
    W2.ownsRow n0 e 1 v' ((X u).length + 1) ((X u).map (Value.int .i64) ++ [.int .i64 x])→T ≠ e→n0 ≤ W.heap.size →
    Own8 n0 B T e (fun k=>if k=u then X u ++ [x] else X k) (W2.setCell ⟨B,u,none⟩ v')∧W2.cell? ⟨B,u,none⟩=some v∧W2.frozen? ⟨B,u,none⟩=false):=by
 obtain ⟨vs,hl,hb,ho,hd⟩:=h
 have hlt:=(Array.getElem?_eq_some_iff.1 hb).1
 have hvu:vs[u]? = some (vs.getD u undef):=by simp [List.getD,show u < vs.length by omega]
 have hcell:∀ A:World,A.heap[B]? = some (.cells vs.toArray T (0,0))→A.cell? ⟨B,u,none⟩=some (vs.getD u undef)∧A.frozen? ⟨B,u,none⟩=false:=fun A hA=>by
  constructor
  ·unfold World.cell?
   rw [hA]
   show vs.toArray[u]? = _
   rw [List.getElem?_toArray]
   exact hvu
  ·simp [World.frozen?,hA]
 refine ⟨vs.getD u undef,(hcell W hb).1,(hcell W hb).2,ho u hu,?_⟩
 intro W1 W2 v' x hsz hsame hg hv' hown hTe hn0
 have hb1:W1.heap[B]? = some (.cells vs.toArray T (0,0)):=(hsame B hlt).trans hb
 have hne:(vs.getD u undef).ownBlock ≠ some B:=ownsRow_ne (ho u hu) hb hTe
 have hb2:W2.heap[B]? = some (.cells vs.toArray T (0,0)):=(hg.block B (by omega) (fun e=>hne e.symm)).trans hb1
 refine ⟨⟨vs.set u v',by simp [hl],?_,?_,?_⟩,(hcell W2 hb2).1,(hcell W2 hb2).2⟩
 ·have hB2:=(Array.getElem?_eq_some_iff.1 hb2).1
  simp only [World.setCell,Array.getElem?_modify,if_pos,hb2,Option.map_some]
  simp
 ·intro k hk
  have hkeep:∀ {n xs} ,k ≠ u→W.ownsRow n0 e 1 (vs.getD k undef) n xs→W2.ownsRow n0 e 1 (vs.getD k undef) n xs:=fun {n xs} hku h=>by
   refine ⟨h.1,h.2.imp id ?_⟩
   rintro ⟨g,cap,cur,hv,hbg,hgg,rest⟩
   refine ⟨g,cap,cur,hv,hbg,?_,rest⟩
   have hgl:=(Array.getElem?_eq_some_iff.1 hgg).1
   refine (hg.block g (by omega) ?_).trans ((hsame g hgl).trans hgg)
   intro e
   exact hku (hd k u g hk hu (by rw [hv];rfl) e.symm)
  have hstore:∀ {v n xs},W2.ownsRow n0 e 1 v n xs→(W2.setCell ⟨B,u,none⟩ v').ownsRow n0 e 1 v n xs:=fun {v n xs} h=>by
   refine ⟨h.1,h.2.imp id ?_⟩
   rintro ⟨g,cap,cur,hv,hbg,hgg,rest⟩
   refine ⟨g,cap,cur,hv,hbg,?_,rest⟩
   rw [Below.heap_setCell _ _ _ _ (show g ≠ B from ?_)]
   ·exact hgg
   ·rintro rfl
    rw [hb2] at hgg
    simp only [Option.some.injEq,Obj.cells.injEq] at hgg
    exact hTe hgg.2.1
  by_cases hku:k=u
  ·subst hku
   have e1:(vs.set k v').getD k undef=v':=by simp [List.getD,show k < vs.length by omega]
   rw [e1]
   simp only [if_true,List.length_append,List.length_singleton,List.map_append,List.map_cons,List.map_nil]
   exact hstore hown
  ·have e1:(vs.set u v').getD k undef=vs.getD k undef:=by simp [List.getD,Ne.symm hku]
   rw [e1]
   simp only [hku,if_false]
   exact hstore (hkeep hku (ho k hk))
 ·intro k k' g hk hk' h1 h2
  have e1:∀ k,(vs.set u v').getD k undef=if k=u∧u < vs.length then v' else vs.getD k undef:=fun k=>by
   simp only [List.getD,List.getElem?_set]
   split
   ·rename_i h;subst h;simp [show u < vs.length by omega]
   ·rename_i h;simp [Ne.symm h]
  have old:∀ k,k < 8→k ≠ u→(vs.getD k undef).ownBlock=some g→v'.ownBlock=some g→False:=fun k hk hku hg1 hg2=>by
   rcases hv' with h | h
   ·exact hku (hd k u g hk hu hg1 (by rw [← h];exact hg2))
   ·rw [h] at hg2
    simp only [Option.some.injEq] at hg2
    have:=((ho k hk).lt g hg1).2
    omega
  rw [e1] at h1 h2
  by_cases c1:k=u <;> by_cases c2:k'=u
  ·rw [c1,c2]
  ·simp only [c1,show u < vs.length by omega,and_self,if_true,c2,false_and,if_false] at h1 h2
   exact (old k' hk' c2 h2 h1).elim
  ·simp only [c1,show u < vs.length by omega,c2,and_self,if_true,false_and,if_false] at h1 h2
   exact (old k hk c1 h1 h2).elim
  ·simp only [c1,c2,false_and,if_false] at h1 h2
   exact hd k k' g hk hk' h1 h2
end Go.Cs
namespace Go.Cs
open Go.RowKit
variable {P:Program} {ops:Array Oper} {Q:Exit→Act→World→Prop} {r:Option Nat} {rest:List Oper}
theorem op_value {o:Oper} {a:Act} {w w':World} {v:Value} (hg:o.guard=none) (hr:(execOp a.eval o).run P w = .ok (.value v) w') (h:wpList P ops Q rest (a.put o.dst v) w'):wpList P ops Q (o::rest) a w :=
 wpList_plain hg fun _ hK=>by unfold Oper.wp;rw [hr];exact hK _ _ h
theorem op_skip {o:Oper} {a:Act} {w w':World} (hg:o.guard=none) (hr:(execOp a.eval o).run P w = .ok .skip w') (h:wpList P ops Q rest (a.put o.dst undef) w'):wpList P ops Q (o::rest) a w :=
 wpList_plain hg fun _ hK=>by unfold Oper.wp;rw [hr];exact hK _ _ h
theorem run_storeVar_row (w:World) (g:Nat) (t ty:TypeId) (cur cs:List Value) (hg:w.heap[g]? = some (.cells cur.toArray t (0,0))) (hi:(P.info? ty).map (·.size)=some cs.length) (hl:cs.length=cur.length)
  (h1:∀ v ∈ cs,v.oneCell'=true):(storeVar ty ⟨g,0,none⟩ (.agg cs.toArray)).run P w = .ok () (w.setRow g cs.toArray):=by
 cases hq:P.info? ty with
 | none=>simp [hq] at hi
 | some i =>
  have hs:i.size=cs.length:=by simpa [hq] using hi
  have hst:=run_storeCells_at P g 0 t cs 0 cur.toArray w hg (by simp;omega) h1
  simp only [Nat.add_zero,Nat.zero_add,List.take_zero,List.nil_append] at hst
  have e:cs ++ cur.drop cs.length=cs:=by rw [List.drop_of_length_le (by omega)];simp
  rw [e] at hst
  simp [storeVar,Sem.run_bind,sizeOf,typeInfo,hq,Value.cells,hs,hst]
theorem run_store_row {o:Oper} {a:Act} {w:World} (ty:TypeId) (x v:Operand) (ho:o.op = .store ty x v) (g:Nat) (hx:a.eval x = .pointer (some ⟨g,0,none⟩)) (t:TypeId) (cur cs:List Value) (hv:a.eval v = .agg cs.toArray)
  (hg:w.heap[g]? = some (.cells cur.toArray t (0,0))) (hi:(P.info? ty).map (·.size)=some cs.length) (hl:cs.length=cur.length) (h1:∀ v ∈ cs,v.oneCell'=true) :
  (execOp a.eval o).run P w = .ok .skip (w.setRow g cs.toArray):=by
 have:=run_storeVar_row (P:=P) w g t ty cur cs hg hi hl h1
 unfold execOp
 simp [ho,hx,hv,Instr.storeAt,Instr.sureAddr,this]
theorem run_load_row {o:Oper} {a:Act} {w:World} (ty:TypeId) (x:Operand) (ho:o.op = .load ty x) (g:Nat) (hx:a.eval x = .pointer (some ⟨g,0,none⟩)) (t:TypeId) (cs:Array Value) (fr:Nat × Nat) (d:TypeDesc) (hg:w.heap[g]? = some (.cells cs t fr))
  (hu:P.underlying ty=some d) (hd:(match d with | .struct _ | .array _ _=>true | _=>false)=true) (hi:(P.info? ty).map (·.size)=some cs.size):(execOp a.eval o).run P w = .ok (.value (.agg cs)) w:=by
 unfold execOp
 simp only [ho,hx,Instr.loadAt,Instr.sureAddr,Sem.run_bind,Sem.run_pure,Result.andThen_ok,run_loadVar_row w g t ty cs fr d hg hu hd hi]
theorem setRow_same {w:World} {g:Nat} {cs:List Value} {t:TypeId} (hg:w.heap[g]? = some (.cells cs.toArray t (0,0))):w.setRow g cs.toArray=w:=setRow_self w g cs.toArray t (0,0) hg
end Go.Cs
namespace Go.Cs
open Go.RowKit
variable {P:Program}
def ReadsI (k:IntKind) (W:World) (v:Value) (xs:List Int):Prop :=
 xs.length ≤ 9223372036854775807∧∃ ao cap,v = .slice ao xs.length cap∧∀ i,i < xs.length→∃ b o,ao=some ⟨b,o,none⟩∧W.cell? ⟨b,o + i,none⟩=some (.int k (xs.getD i 0))
theorem ReadsI.kept {k:IntKind} {W W':World} {v:Value} {xs:List Int} (h:ReadsI k W v xs) {S:Nat→Prop} (hm:Mods S W W') (hS:∀ g,v.ownBlock=some g→¬ S g):ReadsI k W' v xs:=by
 obtain ⟨hl,ao,cap,rfl,hc⟩:=h
 refine ⟨hl,ao,cap,rfl,fun i hi=>?_⟩
 obtain ⟨b,o,rfl,h⟩:=hc i hi
 exact ⟨b,o,rfl,hm.cell h (hS b rfl)⟩
theorem ReadsI.new {k:IntKind} {W W':World} {v:Value} {xs:List Int} (h:ReadsI k W v xs) (hm:New W W'):ReadsI k W' v xs:=h.kept hm fun _ _ f=>f
theorem ReadsI.nil (k:IntKind) (W:World):ReadsI k W (.slice none 0 0) []:=⟨by simp,none,0,rfl,fun i hi=>by simp at hi⟩
end Go.Cs
namespace Go.Cs
open Go.RowKit
variable {P:Program}
theorem ReadsI.one {k:IntKind} {W:World} {v:Value} {xs:List Int} (h:ReadsI k W v xs):v.oneCell'=true:=by
 obtain ⟨_,ao,cap,rfl,_⟩:=h
 rfl
end Go.Cs
namespace Go.Cs
open Go.RowKit Go.ChangeAt
variable {H:Type} {enc:TypeId × Value→H} {P:Program}
theorem post_new {f:Func} {s:ChangeSpec} {apart fresh handsOn:Bool} {W W':World} {args:Array Value} {v:Value} {ds gs:List (DataW H)} {before pa pv:List MemPlace}
  (hW:DataW.Whole enc P f.params.toList s.vars apart W args.toList ds gs before)
  (hres:∀ (b:Nat) (sp:Nat→Bool) (hd:Bool),DataW.TrodAll enc P W' b sp hd f.resultTypes.toList (v.resultList f.resultTypes.size) (s.fn H (ds ++ gs)).results [])
  (hargs:∀ sp:Nat→Bool,(∀ p ∈ before,sp p.block=true)→DataW.TrodAll enc P W' 0 sp true f.params.toList args.toList (s.fn H (ds ++ gs)).args pa)
  (hvars:∀ sp:Nat→Bool,(∀ p ∈ before,sp p.block=true)→DataW.TrodVars enc P W' sp s.vars (s.fn H (ds ++ gs)).vars pv)
  (hps:before=pa ++ pv) (hN:New W W'):s.post enc P f apart fresh handsOn false W args v W':=by
 have hold:∀ p ∈ before,(fun b=>decide (b < W.heap.size)) p.block=true:=fun p hp=>by simpa using hW.lt p hp
 refine ⟨ds,gs,before,[],pa,pv,hW,hres _ _ _,hargs _ hold,hvars _ hold,World.keptBut_mono (fun p hp=>⟨hp,?_⟩) (hN.toBelow.frame (may:=(· ∈ before))),fun h=>by cases h⟩
 rw [hps,List.mem_append] at hp
 exact Or.inr hp
end Go.Cs
namespace Go.Cs
open Go.RowKit Go.ChangeAt Go.ChangeShapes Go.WideShapes Go.Deep
variable {H:Type} {enc:TypeId × Value→H} {P:Program}
theorem trodAll_new (hl:laidOutB P=true) {sp:Nat→Bool} {W W':World} (hN:New W W'):∀ {ts:List TypeId} {vs:List Value} {ds:List (DataW H)} {ps:List MemPlace},(∀ t ∈ ts,P.readableRec t=true∧t < P.types.size) →
  DataW.TrodAll enc P W 0 (fun _=>true) true ts vs ds ps→(∀ p ∈ ps,p.block < W.heap.size)→(∀ p ∈ ps,sp p.block=true)→DataW.TrodAll enc P W' 0 sp true ts vs ds ps
 | [],[],[],_,_,h,_,_=>h
 | t::ts,v::vs,d::ds,_,hr,⟨p,q,h,hs,e⟩,hlt,hsp=>by
  subst e
  have h1:=hr t (by simp)
  exact ⟨p,q,WideElems.Trod_stays hl h1.1 h1.2 h (fun x hx=>hN.toBelow.same (hlt x (by simp [hx]))) (fun x hx=>hsp x (by simp [hx])),
   trodAll_new hl hN (fun t ht=>hr t (by simp [ht])) hs (fun x hx=>hlt x (by simp [hx])) (fun x hx=>hsp x (by simp [hx])),rfl⟩
theorem post_law {f:Func} {s:ChangeSpec} {apart fresh handsOn:Bool} {W W':World} {args:Array Value} {v:Value} {ds gs:List (DataW H)} {before:List MemPlace}
  (hW:DataW.Whole enc P f.params.toList s.vars apart W args.toList ds gs before) (hv:s.vars = []) (hl:laidOutB P=true) (hr:(f.params.toList.all fun t=>P.readableRec t && decide (t < P.types.size))=true)
  (hres:∀ (b:Nat) (sp:Nat→Bool) (hd:Bool),DataW.TrodAll enc P W' b sp hd f.resultTypes.toList (v.resultList f.resultTypes.size) (s.fn H (ds ++ gs)).results [])
  (hfa:(s.fn H (ds ++ gs)).args=ds) (hfv:(s.fn H (ds ++ gs)).vars = []) (hN:New W W'):s.post enc P f apart fresh handsOn false W args v W':=by
 have hW':=hW
 obtain ⟨p,q,hA,hV,rfl,hfz,hnd⟩:=hW
 rw [hv] at hV
 obtain ⟨rfl,rfl⟩:=trodVars_none hV
 refine post_new (pa:=p) (pv:=[]) hW' hres (fun sp hsp=>?_) (fun sp hsp=>?_) rfl hN
 ·rw [hfa]
  refine trodAll_new hl hN (fun t ht=>?_) hA (fun x hx=>hW'.lt x (by simp [hx])) (fun x hx=>hsp x (by simp [hx]))
  have:=List.all_eq_true.1 hr t ht
  simpa using this
 ·rw [hv,hfv]
  exact hV
end Go.Cs
namespace Go.Proofs.YtnknmmbnhoanfaaGreatDoor
open Go.RowKit Go.Cs Go.ChangeShapes Go.WideShapes Go.ChangeAt Go.Deep
theorem run_load_mid {o:Oper} {a:Act} {w:World} (ty:TypeId) (x:Operand) (ho:o.op = .load ty x) (b off:Nat) (hx:a.eval x = .pointer (some ⟨b,off,none⟩)) (cs:List Value) (d:TypeDesc) (hc:w.rangeAt b off cs)
  (hu:Tryz.prog.underlying ty=some d) (hd:d.isRow=true) (hi:(Tryz.prog.info? ty).map (·.size)=some cs.length):(execOp a.eval o).run Tryz.prog w = .ok (.value (.agg cs.toArray)) w:=by
 unfold execOp
 simp only [ho,hx,Sem.run_bind,Sem.run_pure,Result.andThen_ok,run_loadAt_mid w b off ty cs d hc hu hd hi]
theorem _root_.Go.Cs.Mods.setRow {S:Nat→Prop} {a w:World} (h:Mods S a w) {B:Nat} (hp:a.heap.size ≤ B) (cs:Array Value):Mods S a (w.setRow B cs) :=
 ⟨h.os,h.tape,h.output,by have:=h.size;simpa [World.setRow] using this,fun k o hk ho=>by
  have hw:=h.block k o hk ho
  have:=(Array.getElem?_eq_some_iff.1 hk).1
  rw [← hw]
  simp [World.setRow,Array.getElem?_modify,show ¬ B=k by omega]⟩
theorem op_value_g {ops:Array Oper} {Q:Exit→Act→World→Prop} {rest:List Oper} {o:Oper} {a:Act} {w w':World} {v:Value} (hw:Region.wanted o (yielded ops a.tmps)=true) (hr:(execOp a.eval o).run Tryz.prog w = .ok (.value v) w') (h:wpList Tryz.prog ops Q rest (a.put o.dst v) w'):wpList Tryz.prog ops Q (o::rest) a w :=
 wpList_step fun K hK=>by rw [if_pos hw];unfold Oper.wp;rw [hr];exact hK _ _ h
theorem results_row2 {P:Program} {fn:Func} {p q:Tmp} {ty:TypeId} (h:fn.results = #[.cell p ty,.tmp q]) (tmps:Array Value) (w:World) (g:Nat) (t:TypeId) (cs:Array Value) (fr:Nat × Nat) (d:TypeDesc)
  (hp:tmps.getD p undef = .pointer (some ⟨g,0,none⟩)) (hg:w.heap[g]? = some (.cells cs t fr))
  (hu:P.underlying ty=some d) (hd:(match d with | .struct _ | .array _ _=>true | _=>false)=true) (hi:(P.info? ty).map (·.size)=some cs.size) {v:Value} (hq:tmps.getD q undef=v) :
  (results fn tmps).run P w = .ok (.tuple #[.agg cs,v]) w:=by
 subst hq
 have hp':tmps[p]?.getD undef = .pointer (some ⟨g,0,none⟩):=by simpa using hp
 simp [results,h,hp',asAddr,run_loadVar_row w g t ty cs fr d hg hu hd hi]
theorem owns_slice {W:World} {base e size n:Nat} {v:Value} {xs:List Value} (h:W.ownsRow base e size v n xs):∃ ao cap,v = .slice ao n cap:=by
 rcases h.2 with ⟨rfl,rfl⟩ | ⟨g,cap,cur,rfl,_⟩
 ·exact ⟨_,_,rfl⟩
 ·exact ⟨_,_,rfl⟩
def Only (K:Act→World→Prop):Exit→Act→World→Prop
 | .normal,a,w=>K a w
 | _,_,_=>False
theorem Only.imp {K:Act→World→Prop} {Q:Exit→Act→World→Prop} (h:∀ a w,K a w→Q .normal a w):∀ (e:Exit) (a:Act) (w:World),Only K e a w→Q e a w:=fun e a w hk=>by
 cases e <;> first | exact h a w hk | exact hk.elim
theorem piece {P:Program} {c:Code} {Q:Exit→Act→World→Prop} {a:Act} {w:World} (K:Act→Act→World→Prop) (h2:c.wp P (Only (K a)) a w) (h1:∀ a' w',K a a' w'→Q .normal a' w'):c.wp P Q a w :=
 Code.wp_mono (Only.imp h1) h2
theorem owns_mono {W:World} {base base':Nat} {e:TypeId} {sz n:Nat} {v:Value} {xs:List Value} (h:W.ownsRow base e sz v n xs) (hb:base' ≤ base):W.ownsRow base' e sz v n xs:=by
 refine ⟨h.1,h.2.imp id ?_⟩
 rintro ⟨g,cap,cur,rfl,hg,r⟩
 exact ⟨g,cap,cur,rfl,by omega,r⟩
theorem mods_setRow {W:World} {B:Nat} {cs:Array Value} {t:TypeId} {fr:Nat × Nat} (hB:W.heap[B]? = some (.cells cs t fr)) (cs':Array Value):Mods (fun b=>b=B) W (W.setRow B cs') :=
 ⟨rfl,rfl,rfl,by simp [World.setRow],fun k o hk ho=>by
  by_cases e:k=B
  ·subst e
   rcases ho with ho | ho
   ·exact absurd rfl ho
   ·rw [hB] at hk
    cases hk
    cases ho
  ·rw [← hk]
   simp [World.setRow,Array.getElem?_modify,Ne.symm e]⟩
def flatF (n:Nat) (f:Nat→List Value):List Value:=(List.range n).flatMap f
theorem flatF_succ (n:Nat) (f:Nat→List Value):flatF (n + 1) f=flatF n f ++ f n:=by simp [flatF,List.range_succ]
theorem flatF_len {sz:Nat} {f:Nat→List Value} (h:∀ i,(f i).length=sz):∀ n,(flatF n f).length=n * sz
 | 0=>by simp [flatF]
 | n + 1=>by rw [flatF_succ,List.length_append,flatF_len h n,h n,Nat.succ_mul]
theorem flatF_at {sz:Nat} (h0:0 < sz) {f:Nat→List Value} (h:∀ i,(f i).length=sz):∀ n j,(flatF n f)[j]? = if j < n * sz then (f (j / sz))[j % sz]? else none
 | 0,j=>by simp [flatF]
 | n + 1,j=>by
  rw [flatF_succ]
  have hl:=flatF_len h n
  by_cases hj:j < n * sz
  ·rw [List.getElem?_append_left (by omega),flatF_at h0 h n j,if_pos hj,if_pos (by rw [Nat.succ_mul];omega)]
  ·rw [List.getElem?_append_right (by omega),hl]
   by_cases hj2:j < n * sz + sz
   ·rw [if_pos (by rw [Nat.succ_mul];omega)]
    have e:j=(j - n * sz) + n * sz:=by omega
    have e1:j / sz=n:=by
     rw [e,Nat.add_mul_div_right _ _ h0,Nat.div_eq_of_lt (by omega)];omega
    have e2:j % sz=j - n * sz:=by
     conv=>lhs;rw [e,Nat.add_mul_mod_self_right]
     exact Nat.mod_eq_of_lt (by omega)
    rw [e1,e2]
   ·rw [if_neg (by rw [Nat.succ_mul];omega),List.getElem?_eq_none (by rw [h n];omega)]
theorem flatF_congr {n:Nat} {f g:Nat→List Value} (h:∀ i,i < n→f i=g i):flatF n f=flatF n g:=by
 unfold flatF
 rw [List.flatMap_def,List.flatMap_def]
 congr 1
 apply List.map_congr_left
 intro i hi
 exact h i (List.mem_range.1 hi)
theorem flatF_set {sz:Nat} {f:Nat→List Value} (h:∀ i,(f i).length=sz) {n i r:Nat} (hr:r < sz) (hi:i < n) (u:Value):(flatF n f).set (i * sz + r) u=flatF n (fun k=>if k=i then (f i).set r u else f k):=by
 have h0:0 < sz:=by omega
 have h':∀ k,((fun k=>if k=i then (f i).set r u else f k) k).length=sz:=by
  intro k
  dsimp only
  split
  ·rw [List.length_set,h]
  ·exact h k
 have e1:(i * sz + r) / sz=i:=by rw [Nat.add_comm,Nat.add_mul_div_right _ _ h0,Nat.div_eq_of_lt hr];omega
 have e2:(i * sz + r) % sz=r:=by rw [Nat.add_comm,Nat.add_mul_mod_self_right];exact Nat.mod_eq_of_lt hr
 have hlt:i * sz + r < n * sz:=by
  have:(i + 1) * sz ≤ n * sz:=Nat.mul_le_mul_right _ (by omega)
  rw [Nat.succ_mul] at this
  omega
 apply List.ext_getElem?
 intro j
 rw [List.getElem?_set,flatF_len h,flatF_at h0 h,flatF_at h0 h']
 by_cases hj:i * sz + r=j
 ·subst hj
  rw [if_pos rfl,if_pos hlt,if_pos hlt,e1,e2,if_pos rfl,List.getElem?_set,if_pos rfl,h i,if_pos hr]
 ·rw [if_neg hj]
  split
  ·next hjn =>
   split
   ·next hji =>
    rw [List.getElem?_set,if_neg,hji]
    intro e
    apply hj
    have:=Nat.div_add_mod j sz
    rw [hji,Nat.mul_comm] at this
    omega
   ·rfl
  ·rfl
theorem flatF_one {n:Nat} {f:Nat→List Value} (h:∀ i,i < n→∀ u ∈ f i,u.oneCell'=true):∀ u ∈ flatF n f,u.oneCell'=true:=by
 intro u hu
 unfold flatF at hu
 obtain ⟨i,hi,hp⟩:=List.mem_flatMap.1 hu
 exact h i (List.mem_range.1 hi) u hp
def ReadsF (W:World) (v:Value) (n sz:Nat) (f:Nat→List Value):Prop :=
 n ≤ 2000000∧∃ ao cap,v = .slice ao n cap∧∀ i,i < n→∃ b o,ao=some ⟨b,o,none⟩∧W.rangeAt b (o + i * sz) (f i)
theorem ReadsF.kept {W W':World} {v:Value} {n sz:Nat} {f:Nat→List Value} (h:ReadsF W v n sz f) {S:Nat→Prop} (hN:Mods S W W') (hS:∀ g,v.ownBlock=some g→¬ S g):ReadsF W' v n sz f:=by
 obtain ⟨hl,ao,cap,rfl,hc⟩:=h
 refine ⟨hl,ao,cap,rfl,fun i hi=>?_⟩
 obtain ⟨b,o,rfl,h⟩:=hc i hi
 exact ⟨b,o,rfl,fun j v hv=>hN.cell (h j v hv) (hS b rfl)⟩
theorem ReadsF.new {W W':World} {v:Value} {n sz:Nat} {f:Nat→List Value} (h:ReadsF W v n sz f) (hN:New W W'):ReadsF W' v n sz f:=h.kept hN fun _ _=>id
theorem ReadsF.congr {W:World} {v:Value} {n sz:Nat} {f g:Nat→List Value} (h:ReadsF W v n sz f) (he:∀ i,i < n→f i=g i):ReadsF W v n sz g:=by
 obtain ⟨hl,ao,cap,rfl,hc⟩:=h
 refine ⟨hl,ao,cap,rfl,fun i hi=>?_⟩
 rw [← he i hi]
 exact hc i hi
theorem add_at (g j:Nat):(⟨g,0,none⟩:Addr).add j=⟨g,j,none⟩:=by unfold Addr.add;split <;> simp_all
theorem rows_ofOwns {base sz:Nat} {e:TypeId} {W:World} {v:Value} {n:Nat} {f:Nat→List Value} (h0:0 < sz) (hf:∀ i,(f i).length=sz) (h:W.ownsRow base e sz v n (flatF n f)):∃ ao cap,v = .slice ao n cap∧∀ i,i < n→∃ b o,ao=some ⟨b,o,none⟩∧W.rangeAt b (o + i * sz) (f i):=by
 have h':=h
 obtain ⟨hl,(⟨hv,hn0⟩ | ⟨g,cap,cur,hv,hb,hg,hnc,hc,hs,ht⟩)⟩:=h'
 ·subst hn0
  exact ⟨none,0,hv,fun i hi=>by omega⟩
 ·refine ⟨some ⟨g,0,none⟩,cap,hv,fun i hi=>⟨g,0,rfl,fun j u hu=>?_⟩⟩
  have hj:j < sz:=by
   rcases Nat.lt_or_ge j sz with h | h
   ·exact h
   ·rw [List.getElem?_eq_none (by rw [hf];exact h)] at hu;cases hu
  have hlt:i * sz + j < n * sz:=by
   have:(i + 1) * sz ≤ n * sz:=Nat.mul_le_mul_right _ (by omega)
   rw [Nat.succ_mul] at this
   omega
  have e1:(i * sz + j) / sz=i:=by rw [Nat.add_comm,Nat.add_mul_div_right _ _ h0,Nat.div_eq_of_lt hj];omega
  have e2:(i * sz + j) % sz=j:=by rw [Nat.add_comm,Nat.add_mul_mod_self_right];exact Nat.mod_eq_of_lt hj
  have:=World.ownsRow.cells h (g:=g) (by rw [hv];rfl) (i * sz + j) u (by rw [flatF_at h0 hf,if_pos hlt,e1,e2];exact hu)
  rw [add_at] at this
  rw [Nat.zero_add]
  exact this
theorem ReadsF.cells {W:World} {n sz cap:Nat} {f:Nat→List Value} {ao:Option Addr} (h0:0 < sz) (hf:∀ i,(f i).length=sz) (h:ReadsF W (.slice ao n cap) n sz f):(ao=none→n=0)∧∀ a,ao=some a→∀ j u,(flatF n f)[j]? = some u→W.cell? (a.add j)=some u:=by
 obtain ⟨hl,ao',cap',he,hc⟩:=h
 cases he
 constructor
 ·rintro rfl
  rcases Nat.eq_zero_or_pos n with h | h
  ·exact h
  ·obtain ⟨b,o,h,_⟩:=hc 0 h;cases h
 ·rintro a rfl j u hu
  rw [flatF_at h0 hf] at hu
  split at hu
  ·next hj =>
   have hd:j / sz < n:=(Nat.div_lt_iff_lt_mul h0).2 hj
   obtain ⟨b,o,he,hr⟩:=hc (j / sz) hd
   cases he
   have:=hr (j % sz) u hu
   rw [Addr.add_mid]
   have e:j / sz * sz + j % sz=j:=by rw [Nat.mul_comm];exact Nat.div_add_mod j sz
   rw [show o + j=o + j / sz * sz + j % sz by omega]
   exact this
  ·cases hu
theorem own_set {W:World} {N n sz g cap:Nat} {e:TypeId} {f:Nat→List Value} (hf:∀ i,(f i).length=sz) (h:W.ownsRow N e sz (.slice (some ⟨g,0,none⟩) n cap) n (flatF n f)) {i r:Nat} (hi:i < n) (hr:r < sz) (u:Value) :
  (W.setCell ⟨g,i * sz + r,none⟩ u).ownsRow N e sz (.slice (some ⟨g,0,none⟩) n cap) n (flatF n (fun k=>if k=i then (f i).set r u else f k)):=by
 have h1:=(World.ownsRow.stored h (i * sz + r) u).1
 rwa [flatF_set hf hr hi] at h1
theorem set_len {f:Nat→List Value} {sz i r:Nat} {u:Value} (hf:∀ i,(f i).length=sz):∀ k,((fun k=>if k=i then (f i).set r u else f k) k).length=sz:=by
 intro k
 dsimp only
 split
 ·rw [List.length_set,hf]
 ·exact hf k
theorem setMods (W:World) (B o:Nat) (u:Value):Mods (fun b=>b=B) W (W.setCell ⟨B,o,none⟩ u):=(Mods.refl (fun b=>b=B) W).setCell (p:=⟨B,o,none⟩) (.inr rfl) u
def NB (W:World) (b:Nat):Prop:=∀ j v,W.cell? ⟨b,j,none⟩=some v→(∀ x,v ≠ .bool x)∧∀ z,v ≠ .int .u8 z
theorem NB.new {W W':World} {b:Nat} (h:NB W b) (hlt:b < W.heap.size) (hN:New W W'):NB W' b:=by
 intro j v hv
 obtain ⟨o,ho⟩:∃ o,W.heap[b]? = some o:=⟨_,Array.getElem?_eq_getElem hlt⟩
 have:=World.cell?_of_block (w:=W) (w':=W') (a:=⟨b,j,none⟩) ((hN.heap ho id).trans ho.symm)
 rw [this] at hv
 exact h j v hv
theorem ReadsF.no {W:World} {v:Value} {n sz:Nat} {f:Nat→List Value} (h:ReadsF W v n sz f) (h0:0 < n) {r:Nat} {u:Value} (hu:(f 0)[r]? = some u) (hb:(∃ x,u = .bool x) ∨ ∃ z,u = .int .u8 z) {g:Nat} (hg:v.ownBlock=some g):¬ NB W g:=by
 obtain ⟨_,ao,cap,rfl,hc⟩:=h
 obtain ⟨b,o,rfl,hr⟩:=hc 0 h0
 cases hg
 intro hn
 have:=hn _ _ (hr r u hu)
 rcases hb with ⟨x,rfl⟩ | ⟨z,rfl⟩
 ·exact this.1 x rfl
 ·exact this.2 z rfl
theorem partAt (t:TypeId) (d:TypeDesc) (h:Tryz.prog.underlying t=some d) (hd:(match d with | .struct _ | .array _ _=>true | _=>false)=false) (cs:Array Value) (i:Nat) (v:Value) (w:World) (hv:cs[i]? = some v):(Go.part t cs i).run Tryz.prog w = .ok v w:=by
 have hagg:(isAgg t).run Tryz.prog w = .ok false w:=by
  unfold isAgg
  rw [Sem.run_bind,run_underlying h w]
  cases d <;> simp_all
 unfold Go.part
 rw [Sem.run_bind,hagg]
 simp [hv]
theorem opH_call {P:Program} {ops:Array Oper} {Q:Exit→Act→World→Prop} {i:Nat} {o:Oper} (d:Option Tmp) {a:Act} {w:World} {K:Act→World→Prop} (hi:ops[i]? = some o) (hw:Region.wanted o (yielded ops a.tmps)=true) (hd:o.dst=d)
  (f:FuncId) (args:Array Value) (h:(execOp a.eval o).run P w = .ok (.enter f args) w) (hc:Calls P f args w fun e w'=>∃ v,e = .returned v∧K (a.put d v) w'):wpOp P ops Q i K a w:=by
 subst hd
 unfold Go.wpOp
 simp only [hi,hw,if_true,Oper.wp,h,Oper.upon]
 refine .inl (hc.mono ?_)
 rintro e w' ⟨v,rfl,hk⟩
 exact hk
theorem opH_value {P:Program} {ops:Array Oper} {Q:Exit→Act→World→Prop} {i:Nat} {o:Oper} (d:Option Tmp) {v:Value} {a:Act} {w w':World} {K:Act→World→Prop} (hi:ops[i]? = some o) (hw:Region.wanted o (yielded ops a.tmps)=true) (hd:o.dst=d)
  (h:(execOp a.eval o).run P w = .ok (.value v) w') (hK:K (a.put d v) w'):wpOp P ops Q i K a w:=by
 subst hd
 unfold Go.wpOp
 simp only [hi,hw,if_true,Oper.wp,h,Oper.upon]
 first | exact hK | exact .inl hK
theorem opH_skip {P:Program} {ops:Array Oper} {Q:Exit→Act→World→Prop} {i:Nat} {o:Oper} (d:Option Tmp) {a:Act} {w w':World} {K:Act→World→Prop} (hi:ops[i]? = some o) (hw:Region.wanted o (yielded ops a.tmps)=true) (hd:o.dst=d)
  (h:(execOp a.eval o).run P w = .ok .skip w') (hK:K (a.put d undef) w'):wpOp P ops Q i K a w:=by
 subst hd
 unfold Go.wpOp
 simp only [hi,hw,if_true,Oper.wp,h,Oper.upon]
 first | exact hK | exact .inl hK
theorem anyH_take {P:Program} {ops:Array Oper} {Q:Exit→Act→World→Prop} {md:Region.Mode} {S:World→Prop} (i:Nat) {oi:Oper} (d:Option Tmp) (v:Value) {fuel:Nat} {listed:Array Bool} {a:Act} {w:World} (hi:ops[i]? = some oi) (hd:oi.dst=d)
  (hs:Region.noSelect ops=true) (hf:Region.free md ops listed i=true) (hr:(Region.ready md ops listed).contains i=true)
  (hQ:∀ c a w,Q (.panic c) (a.put d v) w→Q (.panic c) a w) (hy:YieldsIf P ops S oi v a) (hS:S w)
  (h:wpAnyH P md ops Q S fuel (listed.setIfInBounds i true) (a.put d v) w):wpAnyH P md ops Q S (fuel + 1) listed a w:=by
 subst hd
 exact wpAnyH_take hi hs hf hr hQ hy hS h
theorem own_cells {W:World} {N n sz:Nat} {e:TypeId} {v:Value} {xs:List Value} (h:W.ownsRow N e sz v n xs) {k:Nat} (hk:v.ownBlock=some k):∀ o,W.heap[k]? = some o→o.isCells=true:=by
 intro o ho
 rcases h.2 with ⟨rfl,_⟩ | ⟨b,cap,cur,rfl,_,hb,_⟩
 ·cases hk
 ·cases hk
  rw [hb] at ho
  cases ho
  rfl
section
variable {H:Type} {enc:TypeId × Value→H} {w:World} {base:Nat} {spare:Nat→Bool} {held:Bool}
theorem spot_none {a:Addr} {v:Value} (h:w.cell? a=some v):a.spot=none:=by
 obtain ⟨b,o,sp⟩:=a
 cases sp with
 | none=>rfl
 | some x =>
  unfold World.cell? at h
  split at h <;> simp_all
end
section
variable {H:Type} {enc:TypeId × Value→H} {w:World} {base:Nat} {spare:Nat→Bool} {held:Bool}
end
theorem take_some {α:Type} {xs:List α} {k n:Nat} (h:xs.length=n) (hk:k < n):∃ y,xs[k]? = some y:=⟨_,List.getElem?_eq_getElem (by omega)⟩
theorem choose_list {α:Type} (n:Nat) (R:Nat→α→Prop) (d:α) (h:∀ i,i < n→∃ a,R i a):∃ L:List α,L.length=n∧∀ i,i < n→R i (L.getD i d):=by
 induction n with
 | zero=>exact ⟨[],rfl,fun i hi=>by omega⟩
 | succ n ih =>
  obtain ⟨L,hL,hR⟩:=ih fun i hi=>h i (by omega)
  obtain ⟨a,ha⟩:=h n (by omega)
  refine ⟨L ++ [a],by simp [hL],fun i hi=>?_⟩
  by_cases e:i < n
  ·have:(L ++ [a]).getD i d=L.getD i d:=by simp [List.getD,List.getElem?_append_left (by omega:i < L.length)]
   rw [this]
   exact hR i e
  ·obtain rfl:i=n:=by omega
   have:(L ++ [a]).getD i d=a:=by simp [List.getD,← hL]
   rw [this]
   exact ha
section
variable {H:Type}
end
section
variable {H:Type}
end
section
variable {H:Type}
end
section
variable {H:Type} {enc:TypeId × Value→H} {w:World} {base:Nat} {spare:Nat→Bool} {held:Bool}
end
theorem getD_snoc {α:Type} {l:List α} {k:Nat} {x d:α}:(l ++ [x]).getD k d=if k < l.length then l.getD k d else if k=l.length then x else d:=by
 simp only [List.getD]
 by_cases h:k < l.length
 ·rw [if_pos h,List.getElem?_append_left h]
 ·rw [if_neg h,List.getElem?_append_right (by omega)]
  by_cases h2:k=l.length
  ·subst h2;simp
  ·rw [if_neg h2,List.getElem?_eq_none (by simp;omega)];rfl
theorem getD_set {α:Type} {l:List α} {i k:Nat} {x d:α}:(l.set i x).getD k d=if i=k∧k < l.length then x else l.getD k d:=by
 simp only [List.getD,List.getElem?_set]
 by_cases h:i=k
 ·subst h
  by_cases h2:i < l.length
  ·simp [h2]
  ·simp [h2]
 ·simp [h]
theorem getD_mem {α:Type} {l:List α} {i:Nat} {d:α} (h:i < l.length):l.getD i d ∈ l:=by
 simp only [List.getD,List.getElem?_eq_getElem h,Option.getD_some]
 exact List.getElem_mem h
end Go.Proofs.YtnknmmbnhoanfaaGreatDoor
/- Shorter words for the regions' steps. -/
namespace Go.Proofs.YtnknmmbnhoanfaaGreatDoor
open Go.RowKit Go.Cs
set_option linter.unusedVariables false
def pz (t : Array Value) (z : Nat → Value) : List Nat → Array Value
  | [] => t
  | i :: l => pz (t.setIfInBounds i (z i)) z l
theorem pS : (∀ (t : Array Value) (ds : List Deferred) (d : Tmp) (v : Value), (Act.put ⟨t, ds⟩ (some d) v) = ⟨t.setIfInBounds d v, ds⟩) ∧ (∀ (a : Act) (v : Value), a.put none v = a) ∧ (∀ (l : List Value) (i : Nat) (v : Value), l.toArray.setIfInBounds i v = (l.set i v).toArray) ∧ (∀ (x : Value) (l : List Value) (n : Nat) (v : Value), (x :: l).set (n + 1) v = x :: l.set n v) ∧ (∀ (x : Value) (l : List Value) (v : Value), (x :: l).set 0 v = v :: l) ∧ (∀ (t : Array Value) (z : Nat → Value), pz t z [] = t) ∧ (∀ (t : Array Value) (z : Nat → Value) (i : Nat) (l : List Nat), pz t z (i :: l) = pz (t.setIfInBounds i (z i)) z l) :=
  ⟨fun _ _ _ _ => rfl, fun _ _ => rfl, fun _ _ _ => by simp, fun _ _ _ _ => rfl, fun _ _ _ => rfl, fun _ _ => rfl, fun _ _ _ _ => rfl⟩
theorem gS : (∀ (l : List Value) (i : Nat), l.toArray[i]? = l[i]?) ∧ (∀ (x : Value) (l : List Value) (n : Nat), (x :: l)[n + 1]? = l[n]?) ∧ (∀ (x : Value) (l : List Value), (x :: l)[0]? = some x) := ⟨fun _ _ => by simp, fun _ _ _ => by simp, fun _ _ => by simp⟩
/-- The letters of what is put are the frame's own. -/
theorem zc {a : Act} {f : (Nat → Value) → Act} {R : (Nat → Value) → Prop} (h : a = f (fun i => a.tmps.getD i undef)) (hr : R (fun i => a.tmps.getD i undef)) : ∃ z, a = f z ∧ R z := ⟨_, h, hr⟩
theorem zc1 {A : Type} {a : Act} {f : (Nat → Value) → A → Act} {R : (Nat → Value) → A → Prop} (x : A) (h : a = f (fun i => a.tmps.getD i undef) x) (hr : R (fun i => a.tmps.getD i undef) x) : ∃ z x, a = f z x ∧ R z x := ⟨_, x, h, hr⟩
variable {P : Program} {ops : Array Oper} {Q : Exit → Act → World → Prop} {md : Region.Mode} {S : World → Prop}
theorem tkA (i : Nat) {oi : Oper} (hi : ops[i]? = some oi) (d : Option Tmp) (v : Value) {fuel : Nat} {listed : Array Bool} {a : Act} {w : World} (hy : YieldsIf P ops S oi v a) (hS : S w)
    (h : wpAnyH P md ops Q S fuel (listed.setIfInBounds i true) (a.put d v) w) (hd : oi.dst = d := by rfl)
    (hs : Region.noSelect ops = true := by kernel_rfl) (hf : Region.free md ops listed i = true := by kernel_rfl) (hr : (Region.ready md ops listed).contains i = true := by kernel_rfl)
    (hQ : ∀ c a w, Q (.panic c) (a.put d v) w → Q (.panic c) a w := by exact fun _ _ _ h => h.elim) : wpAnyH P md ops Q S (fuel + 1) listed a w :=
  anyH_take i d v hi hd hs hf hr hQ hy hS h
theorem tkI (i : Nat) (d : Option Tmp) (v : Value) {oi : Oper} {fuel : Nat} {listed : Array Bool} {a : Act} {w : World} (hS : S w)
    (h : wpAnyH P md ops Q S fuel (listed.setIfInBounds i true) (a.put d v) w) (hi : ops[i]? = some oi := by rfl) (hd : oi.dst = d := by rfl) (hw : Region.wanted oi (yielded ops a.tmps) = true := by rfl) (hy : ∀ w, S w → (execOp a.eval oi).run P w = .ok (.value v) w := by (intro W hW; go_simp))
    (hs : Region.noSelect ops = true := by kernel_rfl) (hf : Region.free md ops listed i = true := by kernel_rfl) (hr : (Region.ready md ops listed).contains i = true := by kernel_rfl)
    (hQ : ∀ c a w, Q (.panic c) (a.put d v) w → Q (.panic c) a w := by exact fun _ _ _ h => h.elim) : wpAnyH P md ops Q S (fuel + 1) listed a w :=
  anyH_take i d v hi hd hs hf hr hQ (.inl ⟨hw, hy⟩) hS h
theorem tkU (i : Nat) (d : Option Tmp) {oi : Oper} {fuel : Nat} {listed : Array Bool} {a : Act} {w : World} (hS : S w)
    (h : wpAnyH P md ops Q S fuel (listed.setIfInBounds i true) (a.put d undef) w) (hi : ops[i]? = some oi := by rfl) (hd : oi.dst = d := by rfl) (hw : Region.wanted oi (yielded ops a.tmps) = false := by rfl)
    (hs : Region.noSelect ops = true := by kernel_rfl) (hf : Region.free md ops listed i = true := by kernel_rfl) (hr : (Region.ready md ops listed).contains i = true := by kernel_rfl)
    (hQ : ∀ c a w, Q (.panic c) (a.put d undef) w → Q (.panic c) a w := by exact fun _ _ _ h => h.elim) : wpAnyH P md ops Q S (fuel + 1) listed a w :=
  anyH_take i d undef hi hd hs hf hr hQ (.inr ⟨hw, rfl⟩) hS h
theorem tkO (i : Nat) {fuel : Nat} {listed : Array Bool} {a : Act} {w : World} (h : wpOp P ops Q i (fun a' w' => S w' ∧ wpAnyH P md ops Q S fuel (listed.setIfInBounds i true) a' w') a w)
    (hr : Region.ready md ops listed = [i] := by kernel_rfl) : wpAnyH P md ops Q S (fuel + 1) listed a w :=
  wpAnyH_all hr (by simp) (fun k hk => by obtain rfl : k = i := by simpa using hk
                                          exact h)
end Go.Proofs.YtnknmmbnhoanfaaGreatDoor

