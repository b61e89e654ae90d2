/- Texts joined. -/
import Derived.Test.YtnknmmbnhoanfaaGreatDoorH00
import Derived.Test.YtnknmmbnhoanfaaGreatDoorH05
import Derived.OwnWalkIn
import Derived.TacticsInMore
import Derived.LoopNIn
import Derived.LoopIn
import Derived.WalkSpells
import Derived.WalkLawsBesides
import Derived.Sort.CutIn
import Derived.Test.YtnknmmbnhoanfaaGreatDoorH03
set_option linter.unusedSimpArgs false
set_option linter.unusedVariables false
set_option maxHeartbeats 16000000
set_option maxRecDepth 100000
namespace Go.Cs
open Go.RowKit
structure ModsM (S:Nat→Prop) (M:Nat) (w w':World):Prop where
 os:w'.os=w.os
 tape:w'.tape=w.tape
 output:w'.output=w.output
 size:w.heap.size ≤ w'.heap.size
 block:∀ k o,w.heap[k]? = some o→k ≠ M→(¬ S k ∨ o.isCells=false)→w'.heap[k]? = some o
theorem ModsM.refl (S:Nat→Prop) (M:Nat) (w:World):ModsM S M w w:=⟨rfl,rfl,rfl,Nat.le_refl _,fun _ _ h _ _=>h⟩
theorem ModsM.trans {S:Nat→Prop} {M:Nat} {a b c:World} (h:ModsM S M a b) (k:ModsM S M b c):ModsM S M a c :=
 ⟨k.os.trans h.os,k.tape.trans h.tape,k.output.trans h.output,Nat.le_trans h.size k.size,fun i o hi hm ho=>k.block i o (h.block i o hi hm ho) hm ho⟩
theorem Mods.toM {S:Nat→Prop} {a b:World} (h:Mods S a b) (M:Nat):ModsM S M a b:=⟨h.os,h.tape,h.output,h.size,fun i o hi _ ho=>h.block i o hi ho⟩
theorem ModsM.putObj {S:Nat→Prop} {M:Nat} {a w:World} (h:ModsM S M a w) (o:Obj):ModsM S M a (w.putObj M o) :=
 ⟨h.os,h.tape,h.output,by simpa using h.size,fun k o' hk hm ho=>(World.putObj_heap_other hm).trans (h.block k o' hk hm ho)⟩
theorem ModsM.heap {S:Nat→Prop} {M:Nat} {w w':World} (h:ModsM S M w w') {k:Nat} {o:Obj} (hk:w.heap[k]? = some o) (hM:k ≠ M) (hS:¬ S k):w'.heap[k]? = some o:=h.block k o hk hM (.inl hS)
theorem ModsM.new {M:Nat} {a b:World} (h:ModsM (fun _=>False) M a b) (hM:a.heap.size ≤ M):New a b :=
 ⟨h.os,h.tape,h.output,h.size,fun i o hi _=>h.block i o hi (by have:=(Array.getElem?_eq_some_iff.1 hi).1;omega) (.inl id)⟩
theorem ModsM.cell {S:Nat→Prop} {M:Nat} {w w':World} (h:ModsM S M w w') {p:Addr} {v:Value} (hc:w.cell? p=some v) (hM:p.block ≠ M) (hS:¬ S p.block):w'.cell? p=some v:=by
 obtain ⟨o,ho,_⟩:=cells_of_cell hc
 exact (World.cell?_of_block (w:=w) ((h.heap ho hM hS).trans ho.symm)).trans hc
def IterM (P:Program) (g:Nat) (lb:Array Value) (L:List (Array Value)) (S:Nat→Prop) (M:Nat) (W:World):Prop :=
 ∀ (l:Nat) (J Jx:Nat→World→Prop),(∀ k,∀ A A',J k A→New A A'→J k A')→(∀ k,∀ A A',Jx k A→New A A'→Jx k A') →
  (∀ k x W1,L[k]? = some x→J k W1→ModsM S M W W1→YieldAt Fence.wide 0 P l x W1 fun e W' =>
   (e = .returned (.bool true)∧J (k + 1) W'∧ModsM S M W1 W') ∨ (e = .returned (.bool false)∧Jx (k + 1) W')) →
  J 0 W →
  Calls P g (#[.func (.yield l) #[] #[]] ++ lb) W fun e W'=>(∃ v,e = .returned v)∧(J L.length W' ∨ ∃ k,k ≤ L.length∧Jx k W')
def roundM (S:Nat→Prop) (M:Nat) (I:Nat→World→Prop) (Ix:Code→Nat→World→Prop) (k:Nat) (W:World):Exit→Act→World→Prop
 | .normal,_,W'=>ModsM S M W W'∧I k W'
 | .ret,_,W'=>ModsM S M W W'∧Ix .ret k W'
 | .exit id,_,W'=>ModsM S M W W'∧Ix (.exit id) k W'
 | .goto t,_,W'=>ModsM S M W W'∧Ix (.goto t) k W'
 | .panic _,_,_=>False
 | .outgrown,_,_=>False
variable {P:Program}
def OthersM (M:Nat) (A W:World):Prop:=∀ (k:Nat) (o:Obj),A.heap[k]? = some o→k ≠ M→o.isCells=false→W.heap[k]? = some o
theorem rangeM_core (r:Option Nat)
  {g:Operand} {ps:Array Tmp} {assign body:Code} {Q:Exit→Act→World→Prop} {a:Act} {w:World}
  {gf:Nat} {lb:Array Value} (hg:a.eval g = .func (.func gf) #[] lb) (eg:∀ args w,(callFunc gf args).run P w = .ok (.enter gf args) w)
  (L:List (Array Value)) (S:Nat→Prop) (M:Nat) (hM:M < w.heap.size) (hit:∀ W,New w W→IterM P gf lb L S M W) (hps:∀ x ∈ L,x.size=ps.size)
  (W0:World) (hW0:New w W0) (mark:List Deferred) (d:Nat)
  (henter:∀ fn,(Instr.enterLoop fn a.tmps ps assign body r).run P w = .ok (W0.heap.size,mark) (W0.alloc (.loop { state:=.ready,pending:=none,fn,tmps:=a.tmps,params:=ps,assign,body,defers:=d })))
  (I:Nat→World→Prop) (Ix:Code→Nat→World→Prop) (hI:∀ k,Stab w.heap.size (I k)) (hIx:∀ c k,Stab w.heap.size (Ix c k)) (h0:I 0 w)
  (hround:∀ (l k:Nat) (x:Array Value) (W:World),L[k]? = some x→w.heap.size ≤ l→(∃ r,W.heap[l]? = some (.loop r))→I k W →
   assign.wpIn (Fr (some l)) 0 P (Exit.then (fun a1 W1=>ModsM S M W W1∧∀ W2,Quiet w.heap.size W1 W2→(∃ r,W2.heap[l]? = some (.loop r))→body.wpIn (Fr (some l)) 0 P (roundM S M I Ix (k + 1) W2) a1 W2) (fun _ _ _=>False))
    { tmps:=(ps.zip x).foldl (fun t (p,v)=>t.setIfInBounds p v) a.tmps,defers:=[] } W)
  (hdone:∀ W,I L.length W→OthersM M W0 W→Q .normal { a with defers:=mark ++ a.defers } W)
  (hstop:∀ c k W,k ≤ L.length→Ix c k W→OthersM M W0 W→c.wpIn (Fr r) 0 P Q { a with defers:=mark ++ a.defers } W) :
  (Code.rangeFunc g ps assign body).wpIn (Fr r) 0 P Q a w:=by
 refine wpIn_rangeFunc ?_
 intro fn _
 obtain ⟨rec,hrec⟩:∃ rec:LoopState→Option Code→Loop,rec=fun st pe=>{ state:=st,pending:=pe,fn,tmps:=a.tmps,params:=ps,assign,body,defers:=d }:=⟨_,rfl⟩
 obtain ⟨W1,hW1⟩:∃ W1,W0.alloc (.loop (rec .ready none))=W1:=⟨_,rfl⟩
 obtain ⟨l,hl0⟩:∃ l,W0.heap.size=l:=⟨_,rfl⟩
 have hL1:W1.heap[l]? = some (.loop (rec .ready none)):=by rw [← hW1,← hl0];exact World.alloc_heap_new W0 _
 have hN1:New w W1:=by rw [← hW1];exact hW0.alloc _
 have hwl:w.heap.size ≤ l:=by rw [← hl0];exact hW0.size
 have hlM:l ≠ M:=by omega
 have hC1:OthersM M W0 W1:=fun k o hk _ _=>by
  rw [← hW1];exact (Below.heap_alloc W0 _ k (Array.getElem?_eq_some_iff.1 hk).1).trans hk
 refine ⟨l,mark,W1,{ target:=.fn (.func gf) lb,args:=#[.func (.yield l) #[] #[]] },W1,gf,
  #[.func (.yield l) #[] #[]] ++ lb,W1,?_,?_,fun _ _=>trivial,?_,fun h=>by simp [Fence.wide] at h,?_⟩
 ·rw [← hW1,hrec,← hl0];exact henter fn
 ·simp only [resolve,hg]
  simp [go_sem]
 ·simp [invoke,go_sem,eg]
 ·have hlW0:∀ {k:Nat} {o:Obj},W0.heap[k]? = some o→k ≠ l:=fun hk=>by have:=(Array.getElem?_eq_some_iff.1 hk).1;omega
  have hput:∀ (W:World) (o:Obj),OthersM M W0 W→OthersM M W0 (W.putObj l o):=fun W o h k o' hk hkM ho =>
   (World.putObj_heap_other (hlW0 hk)).trans (h k o' hk hkM ho)
  refine Calls.mono (R:=fun e W'=>(∃ v,e = .returned v) ∧
    ((I L.length W'∧W'.heap[l]? = some (.loop (rec .ready none))∧OthersM M W0 W') ∨
     ∃ k,k ≤ L.length∧∃ c,Ix c k W'∧W'.heap[l]? = some (.loop (rec .done (some c)))∧OthersM M W0 W')) ?_ ?_ |> callsIn_wide.2
  ·refine hit W1 hN1 l
    (fun k W=>I k W∧W.heap[l]? = some (.loop (rec .ready none))∧OthersM M W0 W)
    (fun k W=>∃ c,Ix c k W∧W.heap[l]? = some (.loop (rec .done (some c)))∧OthersM M W0 W)
    (fun k A A' h hn=>⟨hI k A A' h.1 (hn.quiet _),hn.heap h.2.1 id,fun j o hj hjM ho=>hn.heap (h.2.2 j o hj hjM ho) id⟩)
    (fun k A A' h hn=>by
     obtain ⟨c,h1,h2,h3⟩:=h
     exact ⟨c,hIx c k A A' h1 (hn.quiet _),hn.heap h2 id,fun j o hj hjM ho=>hn.heap (h3 j o hj hjM ho) id⟩)
    ?_ ⟨hI 0 w W1 h0 (hN1.quiet _),hL1,hC1⟩
   rintro k x W hx ⟨hi,hl,hk⟩ _
   have hy:=run_yield (P:=P) (args:=x) hl (by rw [hrec];exact hps x (List.mem_of_getElem? hx))
   rw [hrec] at hy
   refine ⟨fn,_,assign,body,hy,roundIn_of_wpIn trivial (wpIn_mono (hround l k x W hx hwl ⟨_,hl⟩ hi) ?_)⟩
   clear hy
   rintro e a1 Wa he
   cases e with
   | normal =>
    obtain ⟨hma,hb⟩:=he
    have hla:=hma.block _ _ hl hlM (.inr rfl)
    have hka:OthersM M W0 Wa:=fun j o hj hjM ho=>hma.block _ _ (hk j o hj hjM ho) hjM (.inr ho)
    have hlt:l < Wa.heap.size:=(Array.getElem?_eq_some_iff.1 hla).1
    refine ⟨_,run_beginRound hla (by rw [hrec]),?_⟩
    obtain ⟨Wb,hWb⟩:∃ Wb,Wa.putObj l (.loop { rec .ready none with state:=.busy })=Wb:=⟨_,rfl⟩
    have hl2:Wb.heap[l]? = some (.loop { rec .ready none with state:=.busy }):=by rw [← hWb];exact World.putObj_heap_same hlt
    have hk2:OthersM M W0 Wb:=by rw [← hWb];exact hput _ _ hka
    have hqb:Quiet w.heap.size Wa Wb:=by rw [← hWb];exact Quiet.putObj _ hla rfl hwl
    rw [hWb]
    refine wpIn_mono (hb Wb hqb ⟨_,hl2⟩) ?_
    have fin:∀ (jump:Option Code) (W3:World),ModsM S M Wb W3 →
      (Instr.endRound l jump).run P W3 = .ok (.bool jump.isNone) (W3.putObj l (.loop (rec (if jump.isNone then .ready else .done) jump))) ∧
      W3.heap[l]? = some (.loop { rec .ready none with state:=.busy }) ∧
      (W3.putObj l (.loop (rec (if jump.isNone then .ready else .done) jump))).heap[l]? = some (.loop (rec (if jump.isNone then .ready else .done) jump)) ∧
      OthersM M W0 (W3.putObj l (.loop (rec (if jump.isNone then .ready else .done) jump))):=fun jump W3 hm3=>by
     have hl3:=hm3.block _ _ hl2 hlM (.inr rfl)
     have:=run_endRound (P:=P) jump hl3
     rw [hrec] at this ⊢
     exact ⟨this,by rw [hrec] at hl3;exact hl3,World.putObj_heap_same (Array.getElem?_eq_some_iff.1 hl3).1,hput _ _ fun j o hj hjM ho=>hm3.block _ _ (hk2 j o hj hjM ho) hjM (.inr ho)⟩
    rintro e a3 W3 hp
    cases e with
    | normal =>
     obtain ⟨hm3,hi3⟩:=hp
     obtain ⟨hr,hl3,hl4,hk4⟩:=fin none W3 hm3
     refine ⟨_,_,hr,.inl ⟨rfl,⟨hI _ _ _ hi3 (Quiet.putObj _ hl3 rfl hwl),hl4,hk4⟩,?_⟩⟩
     refine ⟨(hm3.os.trans hqb.os).trans hma.os,(hm3.tape.trans hqb.tape).trans hma.tape,(hm3.output.trans hqb.output).trans hma.output,?_,?_⟩
     ·simp only [World.putObj_size];exact Nat.le_trans hma.size (Nat.le_trans hqb.size hm3.size)
     ·intro j o hj hjM ho
      by_cases e:j=l
      ·subst e;rw [hl] at hj;cases hj;exact hl4
      ·refine (World.putObj_heap_other e).trans (hm3.block _ _ ?_ hjM ho)
       rw [← hWb];exact (World.putObj_heap_other e).trans (hma.block _ _ hj hjM ho)
    | ret =>
     obtain ⟨hm3,hi3⟩:=hp
     obtain ⟨hr,hl3,hl4,hk4⟩:=fin (some .ret) W3 hm3
     exact ⟨_,_,hr,.inr ⟨rfl,.ret,hIx _ _ _ _ hi3 (Quiet.putObj _ hl3 rfl hwl),hl4,hk4⟩⟩
    | exit id =>
     obtain ⟨hm3,hi3⟩:=hp
     obtain ⟨hr,hl3,hl4,hk4⟩:=fin (some (.exit id)) W3 hm3
     exact ⟨_,_,hr,.inr ⟨rfl,.exit id,hIx _ _ _ _ hi3 (Quiet.putObj _ hl3 rfl hwl),hl4,hk4⟩⟩
    | goto t =>
     obtain ⟨hm3,hi3⟩:=hp
     obtain ⟨hr,hl3,hl4,hk4⟩:=fin (some (.goto t)) W3 hm3
     exact ⟨_,_,hr,.inr ⟨rfl,.goto t,hIx _ _ _ _ hi3 (Quiet.putObj _ hl3 rfl hwl),hl4,hk4⟩⟩
    | panic ch=>exact hp.elim
    | outgrown=>exact hp.elim
   | exit id=>exact he.elim
   | goto t=>exact he.elim
   | ret=>exact he.elim
   | panic ch=>exact he.elim
   | outgrown=>exact he.elim
  ·rintro e W2 ⟨⟨v,rfl⟩,(⟨hi,hl,hk⟩ | ⟨k,hkl,c,hi,hl,hk⟩)⟩
   ·exact ⟨none,_,by have:=run_endLoop (P:=P) hl (by rw [hrec];simp);rw [hrec] at this;exact this,hdone _ (hI _ _ _ hi (Quiet.putObj _ hl rfl hwl)) (hput _ _ hk)⟩
   ·exact ⟨some c,_,by have:=run_endLoop (P:=P) hl (by rw [hrec];simp);rw [hrec] at this;exact this,hstop c k _ hkl (hIx _ _ _ _ hi (Quiet.putObj _ hl rfl hwl)) (hput _ _ hk)⟩
end Go.Cs
namespace Go.Cs
open Go.RowKit
variable {P:Program}
theorem wp_rangeM {α:Type} {g:Operand} {ps:Array Tmp} {assign body:Code} {Q:Exit→Act→World→Prop} {a:Act} {w:World}
  {gf:Nat} {lb:Array Value} (hg:a.eval g = .func (.func gf) #[] lb) (eg:∀ args w,(callFunc gf args).run P w = .ok (.enter gf args) w)
  (xs:List α) (enc:α→Array Value) (S:Nat→Prop) (M:Nat) (hM:M < w.heap.size) (hit:∀ W,New w W→IterM P gf lb (xs.map enc) S M W) (hps:∀ x,(enc x).size=ps.size)
  (I:Nat→World→Prop) (Ix:Code→Nat→World→Prop) (hI:∀ k,Stab w.heap.size (I k)) (hIx:∀ c k,Stab w.heap.size (Ix c k)) (h0:I 0 w) (upd:α→Array Value→Array Value)
  (hassign:∀ (l:Nat) (x:α) (W:World) (K:Act→World→Prop),K { tmps:=upd x a.tmps,defers:=[] } W →
   assign.wpIn (Fr (some l)) 0 P (Exit.then K (fun _ _ _=>False)) { tmps:=(ps.zip (enc x)).foldl (fun t (p,v)=>t.setIfInBounds p v) a.tmps,defers:=[] } W)
  (hbody:∀ (l k:Nat) (x:α) (W:World),xs[k]? = some x→w.heap.size ≤ l→(∃ r,W.heap[l]? = some (.loop r))→I k W→body.wpIn (Fr (some l)) 0 P (roundM S M I Ix (k + 1) W) { tmps:=upd x a.tmps,defers:=[] } W)
  (hdone:∀ W,I xs.length W→W.heap[w.heap.size]? = some (.deferred (some []))→Q .normal { a with defers:={ target:=.collected w.heap.size,args:=#[] }::a.defers } W)
  (hstop:∀ c k W,k ≤ xs.length→Ix c k W→W.heap[w.heap.size]? = some (.deferred (some []))→c.wp P Q { a with defers:={ target:=.collected w.heap.size,args:=#[] }::a.defers } W) :
  (Code.rangeFunc g ps assign body).wp P Q a w:=by
 refine (wpIn_wide (n:=0)).1 ?_
 refine rangeM_core (P:=P) none hg eg (xs.map enc) S M hM hit ?_ (w.alloc (.deferred (some []))) ((Mods.refl _ _).alloc _) [{ target:=.collected w.heap.size,args:=#[] }] w.heap.size ?_ I Ix hI hIx h0 ?_ ?_ ?_
 ·intro x hx
  obtain ⟨y,_,rfl⟩:=List.mem_map.1 hx
  exact hps y
 ·intro fn
  rw [World.size_alloc]
  exact run_enterLoop_outer _ _ _ _ _
 ·intro l k x W hx hl hr hi
  rw [List.getElem?_map] at hx
  obtain ⟨y,hy,rfl⟩:=Option.map_eq_some_iff.1 hx
  exact hassign l y W _ ⟨ModsM.refl _ _ _,fun W2 hq hr2=>hbody l k y W2 hy hl hr2 (hI k W W2 hi hq)⟩
 ·intro W hi ho
  rw [List.length_map] at hi
  exact hdone W hi (ho _ _ (World.alloc_heap_new w _) (by omega) rfl)
 ·intro c k W hk hi ho
  rw [List.length_map] at hk
  exact (wpIn_wide (n:=0)).2 (hstop c k W hk hi (ho _ _ (World.alloc_heap_new w _) (by omega) rfl))
end Go.Cs
namespace Go.Proofs.YtnknmmbnhoanfaaGreatDoor
open Go.RowKit Go.Shelf Go.Cs
attribute [local go_sem] Oper.semAt_some


theorem _root_.Go.Cs.ModsM.mono {S T:Nat→Prop} {M:Nat} {a b:World} (h:ModsM S M a b) (hST:∀ k,S k→T k):ModsM T M a b :=
 ⟨h.os,h.tape,h.output,h.size,fun i o hi hm ho=>h.block i o hi hm (ho.imp (fun n m=>n (hST _ m)) id)⟩
theorem RowR.keptM {W W':World} {v:Value} {n sz:Nat} {f:Nat→List Value} (h:RowR W v n sz f) {S:Nat→Prop} {M:Nat} (hN:ModsM S M W W') (hM:0 < n→∀ g,v.ownBlock=some g→g ≠ M) (hS:0 < n→∀ g,v.ownBlock=some g→¬ S g):RowR W' v n sz f:=by
 obtain ⟨hl,ao,cap,rfl,hc⟩:=h
 refine ⟨hl,ao,cap,rfl,fun i hi=>?_⟩
 obtain ⟨b,o,rfl,h⟩:=hc i hi
 exact ⟨b,o,rfl,fun j v hv=>hN.cell (h j v hv) (hM (by omega) b rfl) (hS (by omega) b rfl)⟩
theorem RowR.lt {W:World} {v:Value} {n sz:Nat} {c:Nat→Value} {f:Nat→List Value} (h:RowR W v n sz (fun i=>c i::f i)) (h0:0 < n) {g:Nat} (hg:v.ownBlock=some g):g < W.heap.size:=by
 obtain ⟨hl,ao,cap,rfl,hc⟩:=h
 obtain ⟨b,o,rfl,hr⟩:=hc 0 h0
 cases hg
 obtain ⟨ob,ho,_⟩:=cells_of_cell (hr 0 (c 0) rfl)
 exact (Array.getElem?_eq_some_iff.1 ho).1
def KeysAt (g:Nat) (lb:Array Value) (L:List Bare.Bs) (w:World):Prop :=
 ∀ (S:Nat→Prop) (M:Nat) (W:World),(∀ b,S b→w.heap.size ≤ b)→w.heap.size ≤ M→New w W→IterM Tryz.prog g lb (L.map fun k=>#[.string (tx k)]) S M W
theorem keys_P {B:Nat} {v:Value} (n:Nat) (L:Nat→Bare.Par) (w:World) (hB:Boxed w B 42 v) (hr:RowR w v n 5 (fun i=>pcs (L i))) :
  KeysAt 146 #[.pointer (some ⟨B,0,none⟩)] ((List.range n).map fun i=>(L i).key) w:=by
 intro S M W hS hM hN l J Jx hJ hJx hY h0
 refine (callsIn_wide (n:=0)).1 (callsIn_of_wp Tryz.func146 rfl trivial ?_ rfl)
 simp only [Tryz.ntmps146,List.size_toArray,List.length_cons,List.length_nil,Nat.reduceAdd,Nat.reduceSub,Array.replicate_succ,Array.replicate_zero,List.push_toArray,List.append_toArray,List.nil_append,List.cons_append]
 have hB':=hN.boxed hB id
 obtain ⟨c1,f1⟩:=hB'.both
 have HR:=Lib.hid hr
 obtain ⟨ao,cap,rfl⟩:=hr.slice
 have hn:n ≤ 281474976710656:=hr.1
 clear hr hB hB'
 have hN:=Lib.hid hN
 gi_wp2
 gi_loopw [7] (fun t wr=>∃ k:Nat,k ≤ n∧t = .int .i64 k∧J k wr∧ModsM S M W wr) (fun t _=>n - (intOf t).toNat)
 case atStart=>exact ⟨0,Nat.zero_le _,rfl,h0,.refl _ _ _⟩
 case round =>
  obtain ⟨k,hk,rfl,hJk,hm⟩:=hrel
  by_cases hlt:k < n
  ·have hkd:decide ((k:Int) < (n:Int))=true:=decide_eq_true (by omega)
   have hrow:=((HR.out.new hN.out).keptM hm (fun h0 g hg=>by have:=HR.out.lt h0 hg;omega) (fun h0 g hg hs=>by have:=HR.out.lt h0 hg;have:=hS g hs;omega)).at.2.2 k hlt
   obtain ⟨b,o,rfl,hrow⟩:=hrow
   obtain ⟨k0,k1,k2,k3,k4⟩:=cells5 hrow
   have HJ:=Lib.hid (fun A' (h:New wr A')=>hJ k wr A' hJk h)
   have hget:((List.range n).map (fun i=>(L i).key) |>.map fun k=>(#[.string (tx k)]:Array Value))[k]? = some #[.string (tx (L k).key)]:=by simp [hlt]
   have HY:=Lib.hid (fun W1=>hY k _ W1 hget)
   obtain ⟨s,hs⟩:∃ s,tx (L k).key=s:=⟨_,rfl⟩
   rw [hs] at HY k0
   clear hrow hget hY hJk hs
   gi_upto_region 3 with fail
   obtain ⟨W2,hW2⟩:∃ W2,wr.alloc (.cells #[.string s,.int .u8 (L k).bare.kind,.int .i64 (L k).bare.int,.string (tx (L k).bare.text),.bool (L k).bare.yes] 83)=W2:=⟨_,rfl⟩
   have hA:New wr W2:=by rw [← hW2];exact (Mods.refl _ _).alloc _
   have r9:W2.heap[wr.heap.size]? = some (.cells #[.string s,.int .u8 (L k).bare.kind,.int .i64 (L k).bare.int,.string (tx (L k).bare.text),.bool (L k).bare.yes] 83 (0,0)):=by rw [← hW2];exact World.alloc_heap_new wr _
   have k9:W2.cell? ⟨wr.heap.size,0,none⟩=some (.string s):=cell_of_row _ _ 0 _ _ _ r9
   rw [hW2]
   have hm2:=hm.trans (hA.toM M |>.mono fun _ h=>h.elim)
   obtain ⟨fn,tmps,assign,body,hy,hR⟩:=HY.out W2 (HJ.out W2 hA) hm2
   clear k0 k1 k2 k3 k4 r9 hW2 HY HJ hA
   gi_wp2
   refine ⟨rfl,hR.mono ?_⟩
   rintro e W3 (⟨rfl,hJ3,hm3⟩ | ⟨rfl,hJx3⟩)
   ·gi_wp2
    go_roundw
    case rel=>exact ⟨k + 1,by omega,by go_num,hJ3,hm2.trans hm3⟩
    case measure=>simp [intOf];omega
   ·gi_wp2
    refine bodyPost_ret (results_none rfl _ _ _) rfl ?_
    exact ⟨⟨_,rfl⟩,.inr ⟨k + 1,by simp;omega,hJx3⟩⟩
  ·obtain rfl:k=n:=by omega
   have hkd:decide ((k:Int) < (k:Int))=false:=decide_eq_false (by omega)
   gi_wp2_with fail
   go_end0
   exact ⟨⟨_,rfl⟩,.inl (by simpa using hJk)⟩
theorem keys_M {B:Nat} {v:Value} (n:Nat) (L:Nat→Bare.Mem) (iv pv:Nat→Value) (w:World) (hB:Boxed w B 36 v) (hr:RowR w v n 4 (fun i=>mcs (L i) (iv i) (pv i))) (hsl:∀ i,i < n→(∃ a m c,iv i = .slice a m c)∧∃ a m c,pv i = .slice a m c) :
  KeysAt 88 #[.pointer (some ⟨B,0,none⟩)] ((List.range n).map fun i=>(L i).key) w:=by
 intro S M W hS hM hN l J Jx hJ hJx hY h0
 refine (callsIn_wide (n:=0)).1 (callsIn_of_wp Tryz.func88 rfl trivial ?_ rfl)
 simp only [Tryz.ntmps88,List.size_toArray,List.length_cons,List.length_nil,Nat.reduceAdd,Nat.reduceSub,Array.replicate_succ,Array.replicate_zero,List.push_toArray,List.append_toArray,List.nil_append,List.cons_append]
 have hB':=hN.boxed hB id
 obtain ⟨c1,f1⟩:=hB'.both
 have HR:=Lib.hid hr
 obtain ⟨ao,cap,rfl⟩:=hr.slice
 have hn:n ≤ 281474976710656:=hr.1
 clear hr hB hB'
 have hN:=Lib.hid hN
 gi_wp2
 gi_loopw [7] (fun t wr=>∃ k:Nat,k ≤ n∧t = .int .i64 k∧J k wr∧ModsM S M W wr) (fun t _=>n - (intOf t).toNat)
 case atStart=>exact ⟨0,Nat.zero_le _,rfl,h0,.refl _ _ _⟩
 case round =>
  obtain ⟨k,hk,rfl,hJk,hm⟩:=hrel
  by_cases hlt:k < n
  ·have hkd:decide ((k:Int) < (n:Int))=true:=decide_eq_true (by omega)
   have hrow:=((HR.out.new hN.out).keptM hm (fun h0 g hg=>by have:=HR.out.lt h0 hg;omega) (fun h0 g hg hs=>by have:=HR.out.lt h0 hg;have:=hS g hs;omega)).at.2.2 k hlt
   obtain ⟨b,o,rfl,hrow⟩:=hrow
   obtain ⟨k0,k1,k2,k3⟩:=cells4 hrow
   obtain ⟨⟨ia,im,ic,hi⟩,pa,pm,pc,hp⟩:=hsl k hlt
   rw [hi] at k2
   rw [hp] at k3
   clear hi hp
   have HJ:=Lib.hid (fun A' (h:New wr A')=>hJ k wr A' hJk h)
   have hget:((List.range n).map (fun i=>(L i).key) |>.map fun k=>(#[.string (tx k)]:Array Value))[k]? = some #[.string (tx (L k).key)]:=by simp [hlt]
   have HY:=Lib.hid (fun W1=>hY k _ W1 hget)
   obtain ⟨s,hs⟩:∃ s,tx (L k).key=s:=⟨_,rfl⟩
   rw [hs] at HY k0
   clear hrow hget hY hJk hs
   gi_upto_region 3 with fail
   obtain ⟨W2,hW2⟩:∃ W2,wr.alloc (.cells #[.string s,.bool (L k).inner,.slice ia im ic,.slice pa pm pc] 44)=W2:=⟨_,rfl⟩
   have hA:New wr W2:=by rw [← hW2];exact (Mods.refl _ _).alloc _
   have r9:W2.heap[wr.heap.size]? = some (.cells #[.string s,.bool (L k).inner,.slice ia im ic,.slice pa pm pc] 44 (0,0)):=by rw [← hW2];exact World.alloc_heap_new wr _
   have k9:W2.cell? ⟨wr.heap.size,0,none⟩=some (.string s):=cell_of_row _ _ 0 _ _ _ r9
   rw [hW2]
   have hm2:=hm.trans (hA.toM M |>.mono fun _ h=>h.elim)
   obtain ⟨fn,tmps,assign,body,hy,hR⟩:=HY.out W2 (HJ.out W2 hA) hm2
   clear k0 k1 k2 k3 r9 hW2 HY HJ hA
   gi_wp2
   refine ⟨rfl,hR.mono ?_⟩
   rintro e W3 (⟨rfl,hJ3,hm3⟩ | ⟨rfl,hJx3⟩)
   ·gi_wp2
    go_roundw
    case rel=>exact ⟨k + 1,by omega,by go_num,hJ3,hm2.trans hm3⟩
    case measure=>simp [intOf];omega
   ·gi_wp2
    refine bodyPost_ret (results_none rfl _ _ _) rfl ?_
    exact ⟨⟨_,rfl⟩,.inr ⟨k + 1,by simp;omega,hJx3⟩⟩
  ·obtain rfl:k=n:=by omega
   have hkd:decide ((k:Int) < (k:Int))=false:=decide_eq_false (by omega)
   gi_wp2_with fail
   go_end0
   exact ⟨⟨_,rfl⟩,.inl (by simpa using hJk)⟩


theorem aloneB_iff:∀ L:List Bare.Bs,Bare.aloneB L=true ↔ L.Nodup∧∀ k ∈ L,Bare.keyB k=true
 | []=>by simp [Bare.aloneB]
 | k::r=>by
  have ih:=aloneB_iff r
  simp only [Bare.aloneB,Bool.and_eq_true,Bool.not_eq_true',ih,List.nodup_cons,List.mem_cons,forall_eq_or_imp]
  constructor
  ·rintro ⟨h1,h2,h3,h4⟩
   exact ⟨⟨by simpa using h2,h3⟩,h1,h4⟩
  ·rintro ⟨⟨h2,h3⟩,h1,h4⟩
   exact ⟨h1,by simpa using h2,h3,h4⟩
def AlTo (L:List Bare.Bs) (k:Nat):Prop:=(L.take k).Nodup∧∀ x ∈ L.take k,Bare.keyB x=true
theorem AlTo.step {L:List Bare.Bs} {k:Nat} {x:Bare.Bs} (h:AlTo L k) (hx:L[k]? = some x) (h1:x ∉ L.take k) (h2:Bare.keyB x=true):AlTo L (k + 1):=by
 have e:L.take (k + 1)=L.take k ++ [x]:=by rw [List.take_add_one,hx];rfl
 unfold AlTo
 rw [e]
 refine ⟨?_,fun y hy=>?_⟩
 ·rw [List.nodup_append]
  exact ⟨h.1,by simp,fun a ha b hb=>by simp at hb;subst hb;rintro rfl;exact h1 ha⟩
 ·rcases List.mem_append.1 hy with hy | hy
  ·exact h.2 y hy
  ·simp at hy;subst hy;exact h2
theorem AlTo.all {L:List Bare.Bs} (h:AlTo L L.length):Bare.aloneB L=true:=by
 unfold AlTo at h
 rw [List.take_length] at h
 exact (aloneB_iff L).2 h
theorem alone_dup {L:List Bare.Bs} {k:Nat} {x:Bare.Bs} (hx:L[k]? = some x) (h1:x ∈ L.take k):Bare.aloneB L=false:=by
 rw [Bool.eq_false_iff]
 intro h
 have hn:=((aloneB_iff L).1 h).1
 obtain ⟨i,hi⟩:=List.getElem?_of_mem h1
 rw [List.getElem?_take] at hi
 split at hi
 ·rename_i hik
  obtain ⟨h1,e1⟩:=List.getElem?_eq_some_iff.1 hi
  obtain ⟨h2,e2⟩:=List.getElem?_eq_some_iff.1 hx
  exact (List.pairwise_iff_getElem.1 hn) i k h1 h2 hik (by rw [e1,e2])
 ·cases hi
theorem alone_no {L:List Bare.Bs} {k:Nat} {x:Bare.Bs} (hx:L[k]? = some x) (h1:Bare.keyB x=false):Bare.aloneB L=false:=by
 rw [Bool.eq_false_iff]
 intro h
 have:=((aloneB_iff L).1 h).2 x (List.mem_of_getElem? hx)
 rw [h1] at this;cases this
theorem keyS:KeyLike Tryz.prog 9 (fun k:Bare.Bs=>Value.string (tx k)) :=
 KeyLike.now (d:=.string) Tryz.underlying9 (fun a=>trivial) (fun a b h=>by injection h with h;exact tx_inj.1 h)
def seenF (L:List Bare.Bs) (k:Nat) (x:Bare.Bs):Option Value:=if x ∈ L.take k then some (.int .i64 1) else none
theorem ModsM.stab {B:Nat} {S:Nat→Prop} {M:Nat} {w:World} (hB:w.heap.size ≤ B):Stab B (fun W=>ModsM S M w W):=fun W W' h k =>
 ⟨k.os.trans h.os,k.tape.trans h.tape,k.output.trans h.output,Nat.le_trans h.size k.size,fun i o hi hm ho =>
  k.block i o (h.block i o hi hm ho) (.inl (by have:=(Array.getElem?_eq_some_iff.1 hi).1;omega))⟩
theorem _root_.Go.Cs.ModsM.setB {M B o:Nat} {v:Value} {a w:World} (h:ModsM (fun b=>b=B) M a w):ModsM (fun b=>b=B) M a (w.setCell ⟨B,o,none⟩ v):=h.trans ((setMods w B o v).toM M)
theorem MapFn.stab {α:Type} {enc:α→Value} {B M n:Nat} {f:α→Option Value} (hM:M < B):Stab B (fun W=>MapFn enc W M n f):=fun W W' h k=>h.keep fun o ho=>k.block M o ho (.inl hM)
theorem results_box {fn:Func} {p:Tmp} (h:fn.results = #[.cell p 4]) (tmps:Array Value) (w:World) (B:Nat) (b:Bool) (hp:tmps.getD p undef = .pointer (some ⟨B,0,none⟩)) (hb:Boxed w B 4 (.bool b)) :
  (results fn tmps).run Tryz.prog w = .ok (.bool b) w:=by
 have hp':tmps[p]?.getD undef = .pointer (some ⟨B,0,none⟩):=by simpa using hp
 have c:=hb.cell
 have hu:=Tryz.underlying4
 simp [results,h,hp',asAddr,loadVar,c,go_sem,hu]
theorem alone_any (g:Nat) (lb:Array Value) (L:List Bare.Bs) (w:World) (hit:KeysAt g lb L w) (eg:∀ args w,(callFunc g args).run Tryz.prog w = .ok (.enter g args) w) (hL:∀ k ∈ L,k.length ≤ 9223372036854775807) :
  Calls Tryz.prog 91 #[.func (.func g) #[] lb] w fun e w'=>e = .returned (.bool (Bare.aloneB L))∧New w w':=by
 have HL:=Lib.hid hL
 have HI:=Lib.hid hit
 clear hL hit
 have hmm:=@run_makeMap Tryz.prog
 refine calls_of_marks Tryz.func91 rfl ?_
 simp only [Tryz.ntmps91,List.size_toArray,List.length_cons,List.length_nil,Nat.reduceAdd,Nat.reduceSub,Array.replicate_succ,Array.replicate_zero,List.push_toArray,List.append_toArray,List.nil_append,List.cons_append]
 go_wp2_with fail
 clear hmm
 obtain ⟨W0,hW0⟩:∃ W0,((w.alloc (.cells #[.bool false] 4)).alloc (.map #[] 0)).alloc (.cells #[.map (some (w.heap.size + 1))] 160)=W0:=⟨_,rfl⟩
 have hN0:New w W0:=by rw [← hW0];exact (((Mods.refl _ _).alloc _).alloc _).alloc _
 have hsz:W0.heap.size=w.heap.size + 3:=by rw [← hW0];simp
 have hb0:Boxed W0 w.heap.size 4 (.bool false):=by
  rw [← hW0]
  exact (((Mods.refl (fun _=>False) (w.alloc (.cells #[.bool false] 4))).alloc (.map #[] 0)).alloc (.cells #[.map (some (w.heap.size + 1))] 160)).heap (World.alloc_heap_new w _) id
 have hb2:Boxed W0 (w.heap.size + 2) 160 (.map (some (w.heap.size + 1))):=by rw [← hW0];exact boxed2 w _ _ _ _
 have hm:W0.heap[w.heap.size + 1]? = some (.map #[] 0):=by
  rw [← hW0]
  have:=((Mods.refl (fun _=>False) ((w.alloc (.cells #[.bool false] 4)).alloc (.map #[] 0))).alloc (.cells #[.map (some (w.heap.size + 1))] 160)).heap (World.alloc_heap_new (w.alloc (.cells #[.bool false] 4)) (.map #[] 0)) id
  simpa using this
 rw [hW0]
 clear hW0
 obtain ⟨B,hB⟩:∃ B,w.heap.size=B:=⟨_,rfl⟩
 have hw2:w.heap.size + 1 + 1=B + 2:=by omega
 rw [hw2]
 rw [hB] at hsz hb0 hb2 hm ⊢
 have hBw:w.heap.size ≤ B:=by omega
 clear hw2
 have hM:B + 1 < W0.heap.size:=by omega
 refine wp_rangeM (gf:=g) (lb:=lb) rfl eg L (fun k=>#[.string (tx k)]) (fun b=>b=B) (B + 1) hM
  (fun W hW=>HI.out _ _ W (fun b hb=>by omega) (by omega) (hN0.trans hW)) (fun _=>rfl)
  (fun k W=>AlTo L k∧MapFn (fun k:Bare.Bs=>Value.string (tx k)) W (B + 1) k (seenF L k)∧Boxed W B 4 (.bool false)∧Boxed W (B + 2) 160 (.map (some (B + 1)))∧ModsM (fun b=>b=B) (B + 1) W0 W)
  (fun c k W=>c = .ret∧Bare.aloneB L=false∧Boxed W B 4 (.bool false)∧ModsM (fun b=>b=B) (B + 1) W0 W)
  (fun k=>.and (.pure _) (.and (MapFn.stab hM) (.and (.boxed _ _ _) (.and (.boxed _ _ _) (ModsM.stab (Nat.le_refl _))))))
  (fun c k=>.and (.pure _) (.and (.pure _) (.and (.boxed _ _ _) (ModsM.stab (Nat.le_refl _)))))
  ⟨by unfold AlTo;simp,(MapFn.made hm).congr (fun a=>by unfold seenF;simp),hb0,hb2,.refl _ _ _⟩
  (fun x t=>(t.setIfInBounds 7 (.string (tx x))).setIfInBounds 4 (.string (tx x))) ?assign ?body ?done ?stop
 case assign =>
  intro l x W K hK
  simp only at hK ⊢
  gi_wp2
  exact hK
 case body =>
  rintro l k x W hx hl _ ⟨hal,hmf,hbx,hbm,hmm⟩
  have hkL:k < L.length:=(List.getElem?_eq_some_iff.1 hx).1
  have hxl:=HL.out x (List.mem_of_getElem? hx)
  have HA:=Lib.hid hal
  have hlook:=hmf.look keyS Tryz.underlying160 (z:=.int .i64 0) (by go_simp) x false
  have hsee:seenF L k x=if x ∈ L.take k then some (.int .i64 1) else none:=rfl
  obtain ⟨c0,f0⟩:=hbx.both
  obtain ⟨c2,f2⟩:=hbm.both
  by_cases hin:x ∈ L.take k
  ·have hno:=Lib.hid (alone_dup hx hin)
   rw [hsee,if_pos hin] at hlook
   have hlook:(Instr.lookup 160 (.map (some (B + 1))) (.string (tx x)) false).run Tryz.prog W = .ok (.int .i64 1) W:=hlook
   obtain ⟨s,hs⟩:∃ s,tx x=s:=⟨_,rfl⟩
   rw [hs] at hlook ⊢
   have HM:=Lib.hid hmm
   have HB:=Lib.hid hbx
   clear hs hin hsee hmf hal hmm hbx hx
   gi_wp2
   refine ⟨trivial,?_⟩
   gi_wp2
   exact ⟨(ModsM.refl _ _ _).setB,rfl,hno.out,HB.out.set _,HM.out.trans ((ModsM.refl _ _ _).setB)⟩
  ·rw [hsee,if_neg hin] at hlook
   have hlook:(Instr.lookup 160 (.map (some (B + 1))) (.string (tx x)) false).run Tryz.prog W = .ok (.int .i64 0) W:=hlook
   have HK:=Lib.hid (fun W=>key_any (tx x) W (by rw [tx_size];exact hxl))
   rw [bl_tx] at HK
   have HMF:=Lib.hid hmf
   have HM:=Lib.hid hmm
   have HB:=Lib.hid hbx
   have HB2:=Lib.hid hbm
   cases hk:Bare.keyB x with
   | false =>
    have hno:=Lib.hid (alone_no hx hk)
    rw [hk] at HK
    obtain ⟨s,hs⟩:∃ s,tx x=s:=⟨_,rfl⟩
    rw [hs] at hlook HK ⊢
    clear hs hin hsee hmf hal hmm hbx hbm hx hk HMF
    gi_wp2_with (refine at_round (HK.out _) ?_;rintro e w' ⟨rfl,hNk⟩;have hbw:=hNk.boxed HB.out id;obtain ⟨c0',f0'⟩:=hbw.both)
    have hm1:ModsM (fun b=>b=B) (B + 1) W w':=(hNk.toM _).mono fun _ h=>h.elim
    exact ⟨hm1.setB,rfl,hno.out,hbw.set _,HM.out.trans hm1.setB⟩
   | true =>
    have hst:=Lib.hid (hal.step hx hin hk)
    rw [hk] at HK
    have Hse:Hid (∀ a,(if a=x then some (Value.int .i64 1) else seenF L k a)=seenF L (k + 1) a):=Lib.hid fun a=>by
     unfold seenF
     rw [List.take_add_one,hx]
     by_cases ha:a=x
     ·subst ha;simp
     ·rw [if_neg ha];simp [ha]
    have Hfn:Hid (seenF L k x=none):=Lib.hid (by rw [hsee,if_neg hin])
    obtain ⟨s,hs⟩:∃ s,tx x=s:=⟨_,rfl⟩
    have HS:=Lib.hid hs
    rw [hs] at hlook HK ⊢
    clear hs hin hsee hmf hal hmm hbx hbm hx hk
    gi_wp2_with (refine at_round (HK.out _) ?_;rintro e w' ⟨rfl,hNk⟩;have hb1:=hNk.boxed HB.out id;have hb2':=hNk.boxed HB2.out id;obtain ⟨c2',f2'⟩:=hb2'.both;obtain ⟨o,ho,hoc,hmf2⟩:=(HMF.out.new hNk).put keyS Tryz.underlying160 x (.int .i64 1) Hfn.out;rw [HS.out] at ho;have HF:=Lib.hid (hmf2.congr Hse.out);clear hmf2)
    have hm1:ModsM (fun b=>b=B) (B + 1) W w':=(hNk.toM _).mono fun _ h=>h.elim
    refine ⟨hm1.putObj _,hst.out,HF.out,?_,?_,HM.out.trans (hm1.putObj _)⟩
    ·exact (World.putObj_heap_other (by omega)).trans hb1
    ·exact (World.putObj_heap_other (by omega)).trans hb2'
 case done =>
  rintro W ⟨hal,hmf,hbx,hbm,hmm⟩ hD
  have hres:=Lib.hid hal.all
  obtain ⟨c0,f0⟩:=hbx.both
  have HB:=Lib.hid hbx
  have HM:=Lib.hid hmm
  have HD:=Lib.hid hD
  clear hal hmf hbm hmm hbx hD
  go_wp2
  have hne:W0.heap.size ≠ B:=by omega
  have hb':=HB.out.set (.bool true)
  have hbp:Boxed ((W.setCell ⟨B,0,none⟩ (.bool true)).putObj W0.heap.size (.deferred none)) B 4 (.bool true):=(World.putObj_heap_other (by omega)).trans hb'
  refine marks_one rfl ((setMods W B 0 _).block _ _ HD.out (.inr rfl)) (v:=.bool true) (results_box rfl _ _ B true rfl hbp) ⟨by rw [hres.out],?_⟩
  have h1:ModsM (fun b=>b=B) (B + 1) w ((W.setCell ⟨B,0,none⟩ (.bool true)).putObj W0.heap.size (.deferred none)):=by
   have h2:=(((hN0.toM (B + 1)).mono (T:=fun b=>b=B) fun _ h=>h.elim).trans HM.out).trans ((ModsM.refl (fun b=>b=B) (B + 1) W).setB (v:=.bool true) (o:=0))
   exact ⟨h2.os,h2.tape,h2.output,by simpa using h2.size,fun k o hk hm ho=>(World.putObj_heap_other (by have:=(Array.getElem?_eq_some_iff.1 hk).1;omega)).trans (h2.block k o hk hm ho)⟩
  exact ⟨h1.os,h1.tape,h1.output,h1.size,fun k o hk _=>by
   have:=(Array.getElem?_eq_some_iff.1 hk).1
   exact h1.block k o hk (by omega) (.inl (by omega))⟩
 case stop =>
  rintro c k W hk ⟨rfl,hno,hbx,hmm⟩ hD
  go_wp2
  have hbp:Boxed (W.putObj W0.heap.size (.deferred none)) B 4 (.bool false):=(World.putObj_heap_other (by omega)).trans hbx
  refine marks_one rfl hD (v:=.bool false) (results_box rfl _ _ B false rfl hbp) ⟨by rw [hno],?_⟩
  have h1:ModsM (fun b=>b=B) (B + 1) w (W.putObj W0.heap.size (.deferred none)):=by
   have h2:=((hN0.toM (B + 1)).mono (T:=fun b=>b=B) fun _ h=>h.elim).trans hmm
   exact ⟨h2.os,h2.tape,h2.output,by simpa using h2.size,fun k o hk hm ho=>(World.putObj_heap_other (by have:=(Array.getElem?_eq_some_iff.1 hk).1;omega)).trans (h2.block k o hk hm ho)⟩
  exact ⟨h1.os,h1.tape,h1.output,h1.size,fun k o hk _=>by
   have:=(Array.getElem?_eq_some_iff.1 hk).1
   exact h1.block k o hk (by omega) (.inl (by omega))⟩


theorem map_getD {α β:Type} (l:List α) (d:α) (f:α→β):(List.range l.length).map (fun i=>f (l.getD i d))=l.map f:=by
 apply List.ext_getElem?
 intro i
 rw [List.getElem?_map,List.getElem?_map]
 by_cases hi:i < l.length
 ·simp [hi,List.getD]
 ·simp [hi]
theorem any_getD {α:Type} (l:List α) (d:α) (p:α→Bool):(List.range l.length).any (fun i=>p (l.getD i d))=l.any p:=by
 have:=congrArg (fun m:List Bool=>m.any id) (map_getD l d p)
 simpa [List.any_map] using this
theorem par_wrong (p:Bare.Par) (hs:SmP p) (w:World) :
  Calls Tryz.prog 148 #[.agg (pcs p).toArray] w fun e w'=>e = .returned (.bool (!Bare.rightI p.bare))∧New w w':=by
 have HR:=Lib.hid (fun W=>right_any p.bare hs.2.1 (by have:=hs.2.2;omega) W)
 obtain ⟨b,hb⟩:∃ b,Bare.rightI p.bare=b:=⟨_,rfl⟩
 rw [hb] at HR ⊢
 clear hb hs
 unfold bv bcs at HR
 unfold pcs
 obtain ⟨key,k,n,t,y⟩:=p
 simp only at HR ⊢
 obtain ⟨s,hs⟩:∃ s,tx t=s:=⟨_,rfl⟩
 obtain ⟨q,hq⟩:∃ s,tx key=s:=⟨_,rfl⟩
 rw [hs] at HR ⊢
 rw [hq]
 clear hs hq
 go_enter Tryz.func148,Tryz.ntmps148
 go_upto_region 1 with fail
 have hr:=World.alloc_heap_new w (.cells #[.string q,.int .u8 k,.int .i64 n,.string s,.bool y] 83)
 have hN:New w (w.alloc (.cells #[.string q,.int .u8 k,.int .i64 n,.string s,.bool y] 83)):=(Mods.refl _ _).alloc _
 obtain ⟨W,hW⟩:∃ W,w.alloc (.cells #[.string q,.int .u8 k,.int .i64 n,.string s,.bool y] 83)=W:=⟨_,rfl⟩
 rw [hW] at hr hN ⊢
 obtain ⟨B,hB⟩:∃ B,w.heap.size=B:=⟨_,rfl⟩
 rw [hB] at hr ⊢
 have k1:=cell_of_row _ _ 1 _ _ _ hr
 have k2:=cell_of_row _ _ 2 _ _ _ hr
 have k3:=cell_of_row _ _ 3 _ _ _ hr
 have k4:=cell_of_row _ _ 4 _ _ _ hr
 simp only [gS] at k1 k2 k3 k4
 clear hW hr
 go_wp2_with (refine (HR.out _).mono ?_;rintro e w' ⟨rfl,hN'⟩)
 go_ret
 exact ⟨rfl,hN.trans hN'⟩
theorem params_any {τ:Bool} (v:Value) (L:List Bare.Par) (w:World) (h:RdP τ w v L) (hs:∀ p ∈ L,SmP p) :
  Calls Tryz.prog 90 #[v] w fun e w'=>e = .returned (.bool (Bare.paramsB L))∧New w w':=by
 have hB:=Boxed.new w 42 v
 have hN:New w (w.alloc (.cells #[v] 42)):=(Mods.refl _ _).alloc _
 obtain ⟨ao,cap,rfl⟩:=h.slice
 obtain ⟨W,hW⟩:∃ W,w.alloc (.cells #[.slice ao L.length cap] 42)=W:=⟨_,rfl⟩
 rw [hW] at hB hN
 have hK:=keys_P L.length (fun i=>L.getD i noP) W hB ((h.new hN).1)
 rw [map_getD L noP (·.key)] at hK
 have HA:=Lib.hid (alone_any _ _ _ W hK (enters_of Tryz.func146 (by kernel_rfl) rfl) (fun k hk=>by
  obtain ⟨p,hp,rfl⟩:=List.mem_map.1 hk
  have:=(hs p hp).1;omega))
 have HC:Hid (∀ W',New W W'→Calls Tryz.prog 147 #[.slice ao L.length cap,.func (.func 148) #[] #[]] W' fun e w'=>e = .returned (.bool (!(L.all fun p=>Bare.rightI p.bare)))∧New W' w'):=Lib.hid fun W' hW'=>by
  have:=contains_P 148 #[] L.length (fun i j=>(pcs (L.getD i noP)).getD j undef) (fun _=>True) (fun _ _ _ _=>trivial) (fun i=>!Bare.rightI (L.getD i noP).bare) (fun i W1 hi _=>par_wrong (L.getD i noP) (hs _ (getD_mem hi)) W1) (enters_of Tryz.func148 (by kernel_rfl) rfl) _ W' ((h.new hN).new hW').1 trivial
  rw [any_getD L noP (fun p=>!Bare.rightI p.bare)] at this
  refine this.mono fun e w' ⟨he,hn⟩=>⟨?_,hn⟩
  rw [he,List.all_eq_not_any_not,Bool.not_not]
 obtain ⟨A,hA⟩:∃ A,Bare.aloneB (L.map (·.key))=A:=⟨_,rfl⟩
 obtain ⟨C,hC⟩:∃ C,(L.all fun p=>Bare.rightI p.bare)=C:=⟨_,rfl⟩
 have e:Bare.paramsB L=(A && C):=by unfold Bare.paramsB;rw [hA,hC]
 rw [e]
 rw [hA] at HA
 rw [hC] at HC
 obtain ⟨k0,f0⟩:=hB.both
 obtain ⟨B,hBB⟩:∃ B,w.heap.size=B:=⟨_,rfl⟩
 rw [hBB] at HA hB k0 f0
 clear e hA hC hK hs h f0
 go_enter Tryz.func90,Tryz.ntmps90
 go_upto_region 1 with fail
 cases A with
 | false =>
  go_wp2_with fail
  refine HA.out.mono ?_
  rintro e w1 ⟨rfl,hN1⟩
  go_wp2_with fail
  go_ret
  exact ⟨rfl,hN.trans hN1⟩
 | true =>
  go_wp2_with fail
  refine HA.out.mono ?_
  rintro e w1 ⟨rfl,hN1⟩
  have k1:=hN1.cell k0 id
  go_wp2_with fail
  refine (HC.out _ hN1).mono ?_
  rintro e w2 ⟨rfl,hN2⟩
  go_wp2_with fail
  go_ret
  exact ⟨by cases C <;> rfl,(hN.trans hN1).trans hN2⟩


theorem item_wrong {τ:Bool} (x:Bare.Itm) (pv:Value) (w:World) (hs:SmX x) (h:RdP τ w pv x.params) :
  Calls Tryz.prog 89 #[.agg (ics x pv).toArray] w fun e w'=>e = .returned (.bool (!Bare.itemB x))∧New w w':=by
 have HR:=Lib.hid (fun W=>right_any x.bare hs.1 (by have:=hs.2.1;omega) W)
 have HP:=Lib.hid (fun W (hN:New w W)=>params_any pv x.params W (h.new hN) hs.2.2.2)
 obtain ⟨ao,cap,rfl⟩:=h.slice
 obtain ⟨b,hb⟩:∃ b,Bare.rightI x.bare=b:=⟨_,rfl⟩
 obtain ⟨c,hc⟩:∃ c,Bare.paramsB x.params=c:=⟨_,rfl⟩
 have e:Bare.itemB x=(b && c):=by unfold Bare.itemB;rw [hb,hc]
 rw [e]
 rw [hb] at HR
 rw [hc] at HP
 clear hb hc e hs h
 unfold bv bcs at HR
 unfold ics
 obtain ⟨⟨k,n,t,y⟩,ps⟩:=x
 simp only at HR HP ⊢
 obtain ⟨s,hs⟩:∃ s,tx t=s:=⟨_,rfl⟩
 obtain ⟨m,hm⟩:∃ m,ps.length=m:=⟨_,rfl⟩
 rw [hs] at HR ⊢
 rw [hm] at HP ⊢
 clear hs hm
 go_enter Tryz.func89,Tryz.ntmps89
 go_upto_region 1 with fail
 have hr:=World.alloc_heap_new w (.cells #[.int .u8 k,.int .i64 n,.string s,.bool y,.slice ao m cap] 85)
 have hN:New w (w.alloc (.cells #[.int .u8 k,.int .i64 n,.string s,.bool y,.slice ao m cap] 85)):=(Mods.refl _ _).alloc _
 obtain ⟨W,hW⟩:∃ W,w.alloc (.cells #[.int .u8 k,.int .i64 n,.string s,.bool y,.slice ao m cap] 85)=W:=⟨_,rfl⟩
 rw [hW] at hr hN ⊢
 obtain ⟨B,hB⟩:∃ B,w.heap.size=B:=⟨_,rfl⟩
 rw [hB] at hr ⊢
 have k0:=cell_of_row _ _ 0 _ _ _ hr
 have k1:=cell_of_row _ _ 1 _ _ _ hr
 have k2:=cell_of_row _ _ 2 _ _ _ hr
 have k3:=cell_of_row _ _ 3 _ _ _ hr
 have k4:=cell_of_row _ _ 4 _ _ _ hr
 simp only [gS] at k0 k1 k2 k3 k4
 clear hW hr hB
 cases b with
 | false =>
  go_wp2_with (refine (HR.out _).mono ?_;rintro e w' ⟨rfl,hN'⟩)
  go_ret
  exact ⟨rfl,hN.trans hN'⟩
 | true =>
  go_wp2_with (go_at_call 13;refine (HR.out _).mono ?_;rintro e w1 ⟨rfl,hN1⟩;have k5:=hN1.cell k4 id)
  refine (HP.out _ (hN.trans hN1)).mono ?_
  rintro e w2 ⟨rfl,hN2⟩
  go_wp2_with fail
  go_ret
  exact ⟨rfl,(hN.trans hN1).trans hN2⟩
theorem items_wrong {τ:Bool} (v:Value) (L:List Bare.Itm) (w:World) (h:RdI τ w v L) (hs:∀ x ∈ L,SmX x) :
  Calls Tryz.prog 92 #[v,.func (.func 89) #[] #[]] w fun e w'=>e = .returned (.bool (!(L.all Bare.itemB)))∧New w w':=by
 obtain ⟨pv,h1,-,h3⟩:=h
 have:=contains_I 89 #[] L.length (fun i j=>(ics (L.getD i Bare.noI) (pv i)).getD j undef) (fun W=>New w W) (fun _ _ a b=>a.trans b) (fun i=>!Bare.itemB (L.getD i Bare.noI)) (fun i W1 hi hN=>item_wrong (L.getD i Bare.noI) (pv i) W1 (hs _ (getD_mem hi)) ((h3 i hi).new hN)) (enters_of Tryz.func89 (by kernel_rfl) rfl) v w h1 (Mods.refl _ _)
 rw [any_getD L Bare.noI (fun x=>!Bare.itemB x)] at this
 refine this.mono fun e w' ⟨he,hn⟩=>⟨?_,hn⟩
 rw [he,List.all_eq_not_any_not,Bool.not_not]
theorem lit45 (t:Array Value) (h:t.size=45):∃ u:Nat→Value,t=([u 0,u 1,u 2,u 3,u 4,u 5,u 6,u 7,u 8,u 9,u 10,u 11,u 12,u 13,u 14,u 15,u 16,u 17,u 18,u 19,u 20,u 21,u 22,u 23,u 24,u 25,u 26,u 27,u 28,u 29,u 30,u 31,u 32,u 33,u 34,u 35,u 36,u 37,u 38,u 39,u 40,u 41,u 42,u 43,u 44]:List Value).toArray:=⟨fun i=>t.getD i undef,range_lit t 45 h⟩
theorem all_upto {α:Type} (l:List α) (d:α) (p:α→Bool):(l.all p=true) ↔ ∀ i,i < l.length→p (l.getD i d)=true:=by
 rw [List.all_eq_true]
 constructor
 ·intro h i hi;exact h _ (getD_mem hi)
 ·intro h x hx
  obtain ⟨i,hi⟩:=List.getElem?_of_mem hx
  obtain ⟨h1,h2⟩:=List.getElem?_eq_some_iff.1 hi
  have:=h i h1
  rwa [List.getD_eq_getElem?_getD,hi,Option.getD_some] at this
theorem right_d {τ:Bool} (v:Value) (d:List Bare.Mem) (w:World) (h:RdD τ w v d) (hs:∀ m ∈ d,SmM m) :
  Calls Tryz.prog 31 #[v] w fun e w'=>e = .returned (.bool (Bare.rightD d))∧New w w':=by
 have hB:=Boxed.new w 36 v
 have hN0:New w (w.alloc (.cells #[v] 36)):=(Mods.refl _ _).alloc _
 obtain ⟨ao,cap,rfl⟩:=h.slice
 have hlen:d.length ≤ 281474976710656:=by obtain ⟨_,_,h1,_⟩:=h;exact h1.1
 obtain ⟨W0,hW⟩:∃ W,w.alloc (.cells #[.slice ao d.length cap] 36)=W:=⟨_,rfl⟩
 rw [hW] at hB hN0
 have h0:=h.new hN0
 have HD:=Lib.hid h0
 obtain ⟨iv,pv,h1,-,h3⟩:=h0
 have hK:=keys_M d.length (fun i=>d.getD i noM) iv pv W0 hB h1 (fun i hi=>by
  obtain ⟨a,c,e⟩:=(h3 i hi).1.slice
  obtain ⟨a',c',e'⟩:=(h3 i hi).2.slice
  exact ⟨⟨a,_,c,e⟩,a',_,c',e'⟩)
 rw [map_getD d noM (·.key)] at hK
 have HA:=Lib.hid (alone_any _ _ _ W0 hK (enters_of Tryz.func88 (by kernel_rfl) rfl) (fun k hk=>by
  obtain ⟨p,hp,rfl⟩:=List.mem_map.1 hk
  have:=(hs p hp).1;omega))
 have HS:=Lib.hid hs
 obtain ⟨A,hA⟩:∃ A,Bare.aloneB (d.map (·.key))=A:=⟨_,rfl⟩
 obtain ⟨r,hr⟩:∃ r,Bare.rightD d=r:=⟨_,rfl⟩
 have HR:Hid (r=(A && d.all Bare.memB)):=Lib.hid (by rw [← hr];unfold Bare.rightD;rw [hA])
 rw [hr]
 rw [hA] at HA
 obtain ⟨k0,f0⟩:=hB.both
 obtain ⟨B,hBB⟩:∃ B,w.heap.size=B:=⟨_,rfl⟩
 rw [hBB] at HA hB k0 f0
 clear hr hA hK hs h f0 h1 h3 iv pv
 go_enter Tryz.func31,Tryz.ntmps31
 go_upto_region 1 with fail
 refine wp_scope_fwd 0 (fun a W=>(a.tmps.size=45∧a.defers = [])∧Hid (r=false)∧New w W) rfl ?first ?pass
 case pass =>
  rintro ⟨z,dfs⟩ W ⟨⟨hs,hd⟩,hrn,hN⟩
  simp only at hs hd
  subst hd
  obtain ⟨u,rfl⟩:=lit45 z hs
  clear hs
  have hr:=hrn.out
  subst hr
  clear hrn HR
  go_wp2_with fail
  rw [Exit.noGoto_ret]
  go_ret
  exact ⟨rfl,hN⟩
 case first =>
  cases A with
  | false =>
   have hrn:Hid (r=false):=Lib.hid (by rw [HR.out];rfl)
   go_wp2_with fail
   refine HA.out.mono ?_
   rintro e w1 ⟨rfl,hN1⟩
   go_wp2_with fail
   exact wp_goto (And.intro rfl ⟨⟨rfl,rfl⟩,hrn,hN0.trans hN1⟩)
  | true =>
   go_wp2_with fail
   refine HA.out.mono ?_
   rintro e w1 ⟨rfl,hN1⟩
   have k1:=hN1.cell k0 id
   clear HA k0 hW hBB
   go_wp2_with fail
   go_loopw [13] (fun t wr=>∃ k:Nat,k ≤ d.length∧t = .int .i64 k∧Hid (∀ i,i < k→Bare.memB (d.getD i noM)=true)∧New W0 wr) (fun t _=>d.length - (intOf t).toNat)
   case atStart=>exact ⟨0,Nat.zero_le _,rfl,Lib.hid fun i hi=>by omega,hN1⟩
   case round =>
    obtain ⟨k,hk,rfl,hbef,hN⟩:=hrel
    by_cases hlt:k < d.length
    ·have hkd:decide ((k:Int) < (d.length:Int))=true:=decide_eq_true (by omega)
     have hd:=HD.out.new hN
     obtain ⟨iv,pv,h1,-,h3⟩:=hd
     obtain ⟨b,o,rfl,hrow⟩:=h1.at.2.2 k hlt
     obtain ⟨c0,c1,c2,c3⟩:=cells4 hrow
     obtain ⟨hi,hp⟩:=h3 k hlt
     have hm:=HS.out _ (getD_mem (d:=noM) hlt)
     have HP:=Lib.hid (fun W (hN:New wr W)=>params_any (pv k) _ W (hp.new hN) hm.2.2.2.2)
     have HC:=Lib.hid (fun W (hN:New wr W)=>items_wrong (iv k) _ W (hi.new hN) hm.2.2.2.1)
     obtain ⟨ia,ic,hie⟩:=hi.slice
     obtain ⟨pa,pc,hpe⟩:=hp.slice
     rw [hie] at c2 HC
     rw [hpe] at c3 HP
     have Hbad:Hid (Bare.memB (d.getD k noM)=false→r=false):=Lib.hid fun hb=>by
      rw [HR.out,Bool.true_and,Bool.eq_false_iff]
      intro h
      rw [(all_upto d noM _).1 h k hlt] at hb;cases hb
     have Hgood:Hid (Bare.memB (d.getD k noM)=true→Hid (∀ i,i < k + 1→Bare.memB (d.getD i noM)=true)):=Lib.hid fun hb=>Lib.hid fun i hi=>by
      by_cases hik:i < k
      ·exact hbef.out i hik
      ·obtain rfl:i=k:=by omega
       exact hb
     clear hrow hi hp hm h1 h3 hie hpe iv pv
     obtain ⟨⟨key,y,its,ps⟩,hme⟩:∃ m,d.getD k noM=m:=⟨_,rfl⟩
     rw [hme] at c0 c1 c2 c3 HP HC Hbad Hgood
     simp only at c0 c1 c2 c3 HP HC
     have e:Bare.memB ⟨key,y,its,ps⟩=((y || (decide (its.length=1) && decide (ps.length=0))) && (Bare.paramsB ps && its.all Bare.itemB)):=by
      unfold Bare.memB
      have:ps.isEmpty=decide (ps.length=0):=by cases ps <;> simp
      rw [this]
     rw [e] at Hbad Hgood
     obtain ⟨PB,hPB⟩:∃ x,Bare.paramsB ps=x:=⟨_,rfl⟩
     obtain ⟨CB,hCB⟩:∃ x,its.all Bare.itemB=x:=⟨_,rfl⟩
     obtain ⟨il,hil⟩:∃ x,its.length=x:=⟨_,rfl⟩
     obtain ⟨pl,hpl⟩:∃ x,ps.length=x:=⟨_,rfl⟩
     obtain ⟨q,hq⟩:∃ x,tx key=x:=⟨_,rfl⟩
     rw [hPB] at HP Hbad Hgood
     rw [hCB] at HC Hbad Hgood
     rw [hil] at HC Hbad Hgood c2
     rw [hpl] at HP Hbad Hgood c3
     rw [hq] at c0
     clear hPB hCB hil hpl hq e hme
     go_upto_region 7 with fail
     obtain ⟨W1,hW1⟩:∃ W1,wr.alloc (.cells #[.string q,.bool y,.slice ia il ic,.slice pa pl pc] 44)=W1:=⟨_,rfl⟩
     have hr1:W1.heap[wr.heap.size]? = some (.cells #[.string q,.bool y,.slice ia il ic,.slice pa pl pc] 44 (0,0)):=by rw [← hW1];exact World.alloc_heap_new _ _
     have hA:New wr W1:=by rw [← hW1];exact (Mods.refl _ _).alloc _
     rw [hW1]
     obtain ⟨B1,hB1⟩:∃ B1,wr.heap.size=B1:=⟨_,rfl⟩
     rw [hB1] at hr1 ⊢
     have k0:=cell_of_row _ _ 0 _ _ _ hr1
     have k1':=cell_of_row _ _ 1 _ _ _ hr1
     have k2:=cell_of_row _ _ 2 _ _ _ hr1
     have k3:=cell_of_row _ _ 3 _ _ _ hr1
     simp only [gS] at k0 k1' k2 k3
     clear hr1 hW1 hB1 c0 c1 c2 c3
     cases y with
     | true =>
      simp only [Bool.true_or,Bool.true_and] at Hbad Hgood
      cases PB with
      | false =>
       have hrn:Hid (r=false):=Lib.hid (Hbad.out (by simp))
       clear Hbad Hgood HR HD HS hbef HC
       go_wp2_with fail
       refine (HP.out _ hA).mono ?_
       rintro e w2 ⟨rfl,hN2⟩
       go_wp2_with fail
       exact wp_goto (And.intro rfl ⟨⟨rfl,rfl⟩,hrn,(hN0.trans hN).trans (hA.trans hN2)⟩)
      | true =>
       go_wp2_with fail
       refine (HP.out _ hA).mono ?_
       rintro e w2 ⟨rfl,hN2⟩
       have q2:=hN2.cell k2 id
       have hNN:=hA.trans hN2
       clear k0 k1' k2 k3 HP
       cases CB with
       | false =>
        have hrn:Hid (r=false):=Lib.hid (Hbad.out (by simp))
        clear Hbad Hgood HR HD HS hbef
        go_wp2_with fail
        refine (HC.out _ hNN).mono ?_
        rintro e w3 ⟨rfl,hN3⟩
        go_wp2_with fail
        exact wp_goto (And.intro rfl ⟨⟨rfl,rfl⟩,hrn,(hN0.trans hN).trans (hNN.trans hN3)⟩)
       | true =>
        have hgo:=Lib.hid (Hgood.out (by simp))
        clear Hbad Hgood
        go_wp2_with fail
        refine (HC.out _ hNN).mono ?_
        rintro e w3 ⟨rfl,hN3⟩
        go_wp2_with fail
        go_roundw
        case rel=>exact ⟨k + 1,by omega,by go_num,hgo.out,hN.trans (hNN.trans hN3)⟩
        case measure=>simp [intOf];omega
     | false =>
      by_cases h1:il=1
      ·subst h1
       by_cases h0:pl=0
       ·subst h0
        simp only [Bool.false_or,decide_true,Bool.true_and] at Hbad Hgood
        cases PB with
        | false =>
         have hrn:Hid (r=false):=Lib.hid (Hbad.out (by simp))
         clear Hbad Hgood HR HD HS hbef HC
         go_wp2_with fail
         refine (HP.out _ hA).mono ?_
         rintro e w2 ⟨rfl,hN2⟩
         go_wp2_with fail
         exact wp_goto (And.intro rfl ⟨⟨rfl,rfl⟩,hrn,(hN0.trans hN).trans (hA.trans hN2)⟩)
        | true =>
         go_wp2_with fail
         refine (HP.out _ hA).mono ?_
         rintro e w2 ⟨rfl,hN2⟩
         have q2:=hN2.cell k2 id
         have hNN:=hA.trans hN2
         clear k0 k1' k2 k3 HP
         cases CB with
         | false =>
          have hrn:Hid (r=false):=Lib.hid (Hbad.out (by simp))
          clear Hbad Hgood HR HD HS hbef
          go_wp2_with fail
          refine (HC.out _ hNN).mono ?_
          rintro e w3 ⟨rfl,hN3⟩
          go_wp2_with fail
          exact wp_goto (And.intro rfl ⟨⟨rfl,rfl⟩,hrn,(hN0.trans hN).trans (hNN.trans hN3)⟩)
         | true =>
          have hgo:=Lib.hid (Hgood.out (by simp))
          clear Hbad Hgood
          go_wp2_with fail
          refine (HC.out _ hNN).mono ?_
          rintro e w3 ⟨rfl,hN3⟩
          go_wp2_with fail
          go_roundw
          case rel=>exact ⟨k + 1,by omega,by go_num,hgo.out,hN.trans (hNN.trans hN3)⟩
          case measure=>simp [intOf];omega
       ·have hne:((pl:Int) != 0)=true:=by rw [bne_iff_ne];omega
        have hrn:Hid (r=false):=Lib.hid (Hbad.out (by simp [h0]))
        clear Hbad Hgood HR HD HS hbef h0 HP HC
        go_wp2_with fail
        exact wp_goto (And.intro rfl ⟨⟨rfl,rfl⟩,hrn,(hN0.trans hN).trans hA⟩)
      ·have hne:((il:Int) != 1)=true:=by rw [bne_iff_ne];omega
       have hrn:Hid (r=false):=Lib.hid (Hbad.out (by simp [h1]))
       clear Hbad Hgood HR HD HS hbef h1 HP HC
       go_wp2_with fail
       exact wp_goto (And.intro rfl ⟨⟨rfl,rfl⟩,hrn,(hN0.trans hN).trans hA⟩)
    ·have hke:k=d.length:=by omega
     have hr1:r=true:=by rw [HR.out,Bool.true_and];exact (all_upto d noM _).2 (by rw [← hke];exact hbef.out)
     have hkd:decide ((k:Int) < (d.length:Int))=false:=decide_eq_false (by omega)
     subst hr1
     clear HR HD HS
     go_wp2_with fail
     simp only [Exit.jump]
     go_ret
     exact ⟨rfl,hN0.trans hN⟩


theorem wp_scope_loop {P:Program} {a:Act} {w:World} {Q:Exit→Act→World→Prop} {c rest:Code} (l:Nat) (J:Act→World→Prop) (μ:Act→World→Nat) (hf:findLabel c l=some rest)
  (pass:∀ a w,J a w→rest.wp P (Exit.jump l (fun a' w'=>J a' w'∧μ a' w' < μ a w) Q) a w)
  (first:(∀ a w,J a w→rest.wp P (Exit.jump l J Q) a w)→c.wp P (Exit.jump l J Q) a w):(Code.scope c).wp P Q a w :=
 wp_scope_jumps l J μ hf (first fun a w h=>wp_mono (pass a w h) fun e a' w' hq=>by
  cases e with
  | goto l'=>exact ⟨hq.1,hq.2.1⟩
  | _=>exact hq) pass
theorem quoted_at (acc:Bare.Bs) (s:ByteArray) (k:Nat) (h:k < s.size):Bare.quoted acc ((bl s).drop k)=(if Bare.plnB (gb s k)=false then none
  else if gb s k=34 then some (⟨3,0,acc,false⟩,(bl s).drop (k + 1))
  else if gb s k=92 then (if k + 1 < s.size∧(gb s (k + 1)=34 ∨ gb s (k + 1)=92) then Bare.quoted (acc ++ [gb s (k + 1)]) ((bl s).drop (k + 2)) else none)
  else Bare.quoted (acc ++ [gb s k]) ((bl s).drop (k + 1))):=by
 have hdr:(bl s).drop k=gb s k::(bl s).drop (k + 1):=by
  have:=gb_get s k h
  obtain ⟨h1,h2⟩:=List.getElem?_eq_some_iff.1 this
  rw [List.drop_eq_getElem_cons h1,h2]
 rw [hdr,Bare.quoted_cons]
 by_cases hp:Bare.plnB (gb s k)=false
 ·rw [if_pos hp,if_pos hp]
 rw [if_neg hp,if_neg hp]
 by_cases h34:gb s k=34
 ·rw [if_pos h34,if_pos h34]
 rw [if_neg h34,if_neg h34]
 by_cases h92:gb s k=92
 ·rw [if_pos h92,if_pos h92]
  by_cases hk:k + 1 < s.size
  ·have hdr2:(bl s).drop (k + 1)=gb s (k + 1)::(bl s).drop (k + 2):=by
    have:=gb_get s (k + 1) hk
    obtain ⟨h1,h2⟩:=List.getElem?_eq_some_iff.1 this
    rw [List.drop_eq_getElem_cons h1,h2]
   rw [hdr2]
   simp only
   by_cases hd:gb s (k + 1)=34 ∨ gb s (k + 1)=92
   ·rw [if_pos hd,if_pos ⟨hk,hd⟩]
   ·rw [if_neg hd,if_neg (fun h=>hd h.2)]
  ·have hdr2:(bl s).drop (k + 1) = []:=List.drop_eq_nil_of_le (by rw [bl_len];omega)
   rw [hdr2,if_neg (fun h=>hk h.1)]
 ·rw [if_neg h92,if_neg h92]
theorem quoted_end (acc:Bare.Bs) (s:ByteArray) (k:Nat) (h:s.size ≤ k):Bare.quoted acc ((bl s).drop k)=none:=by
 rw [List.drop_eq_nil_of_le (by rw [bl_len];exact h)]
 rfl
theorem byte_test (c:UInt8) (d:Nat) (hd:d < 256) (n:Nat) (hn:c.toNat=n):((n:Int) == (d:Int))=decide (c=UInt8.ofNat d)∧((n:Int) != (d:Int)) = !decide (c=UInt8.ofNat d):=by
 have e:((n:Int) == (d:Int))=decide (c=UInt8.ofNat d):=by
  rw [Bool.eq_iff_iff,beq_iff_eq,decide_eq_true_eq,← UInt8.toNat_inj,hn,UInt8.toNat_ofNat']
  omega
 exact ⟨e,by rw [← e];rfl⟩
theorem lit62' (t:Array Value) (h:t.size=62):∃ u:Nat→Value,t=(u 0::u 1::u 2::u 3::u 4::u 5::u 6::u 7::u 8::u 9::u 10::u 11::u 12::u 13::u 14::u 15::u 16::u 17::u 18::u 19::u 20::u 21::u 22::u 23::u 24::u 25::u 26::u 27::u 28::u 29::u 30::u 31::u 32::u 33::u 34::u 35::u 36::u 37::u 38::u 39::u 40::u 41::u 42::u 43::u 44::u 45::u 46::u 47::u 48::u 49::u 50::u 51::u 52::u 53::u 54::u 55::u 56::u 57::u 58::u 59::u 60::u 61::([]:List Value)).toArray:=⟨fun i=>t.getD i undef,range_lit t 62 h⟩
def scopeOf:Code→Option Code
 | .scope c=>some c
 | .seq a b=>(scopeOf a).orElse fun _=>scopeOf b
 | .block _ c=>scopeOf c
 | _=>none
def behindSkip:Code→Code
 | .seq .skip x=>x
 | x=>x
noncomputable def quotedX:Code:=((((Tryz.f54.body.bind scopeOf).bind fun c=>findLabel c 0).map behindSkip).getD .skip)
def QJ (s:ByteArray) (w:World) (B:Nat) (r:Option (Bare.It × Bare.Bs)) (a:Act) (W:World):Prop:=∃ (k:Nat) (acc:Bare.Bs) (v:Value),(a.tmps.size=62∧a.defers = []∧a.tmps.getD 0 undef = .string s∧a.tmps.getD 2 undef = .pointer (some ⟨B,0,none⟩)∧a.tmps.getD 5 undef=v∧a.tmps.getD 6 undef = .int .i64 k)∧k ≤ s.size∧acc.length ≤ k∧W.ownsRow (B + 1) 5 1 v acc.length (u8s acc)∧W.heap[B]? = some (.cells #[.int .u8 0,.int .i64 0,.string ⟨#[]⟩,.bool false] 23 (0,0))∧New w W∧Hid (Bare.quoted acc ((bl s).drop k)=r)
def Qμ (s:ByteArray) (a:Act) (_:World):Nat:=s.size - (intOf (a.tmps.getD 6 undef)).toNat
theorem quoted_X (s:ByteArray) (w:World) (B:Nat) (r:Option (Bare.It × Bare.Bs)) (hs:s.size ≤ 1000000) (hBw:w.heap.size ≤ B) (a0:Act) (W:World) (hJ:QJ s w B r a0 W) :
  quotedX.wp Tryz.prog (Exit.jump 0 (fun a' w'=>QJ s w B r a' w'∧Qμ s a' w' < Qμ s a0 W) (bodyPost Tryz.prog Tryz.f54 fun e w'=>ReadP r w e w')) a0 W:=by
 conv=>arg 2;whnf
 obtain ⟨i0,hi,hz0,hz1,hz2⟩:=info_parts infoB'
 obtain ⟨z,dfs⟩:=a0
 obtain ⟨k,acc,v,⟨hsz,hd,hq0,hq2,hq5,hq6⟩,hk,hacc,hown,hr,hN,HR⟩:=hJ
 simp only at hsz hd hq0 hq2 hq5 hq6
 subst hd
 obtain ⟨u,rfl⟩:=lit62' z hsz
 have hp0:u 0 = _:=hq0
 have hp2:u 2 = _:=hq2
 have hp5:u 5 = _:=hq5
 have hp6:u 6 = _:=hq6
 rw [hp0,hp2,hp5,hp6]
 clear hp0 hp2 hp5 hp6 hq0 hq2 hq5 hq6 hsz
 skip
 obtain ⟨⟨c0,c1,c2,c3⟩,f0,f1,f2,f3⟩:=row_facts hr
 have hBl:B < W.heap.size:=(Array.getElem?_eq_some_iff.1 hr).1
 by_cases hlt:k < s.size
 ·have hge:decide ((s.size:Int) ≤ (k:Int))=false:=decide_eq_false (by omega)
  have hix:=run_idx s k hlt
  have HP:=Lib.hid (fun W=>(plain_p (gb s k) W).mono fun e w' h=>show e = _∧W=w' from ⟨h.1,h.2.symm⟩)
  have hqa:=quoted_at acc s k hlt
  rw [HR.out] at hqa
  obtain ⟨n,hn⟩:∃ n,(gb s k).toNat=n:=⟨_,rfl⟩
  obtain ⟨t34,t34n⟩:=byte_test (gb s k) 34 (by decide) n hn
  obtain ⟨t92,t92n⟩:=byte_test (gb s k) 92 (by decide) n hn
  rw [show UInt8.ofNat 34=34 from rfl] at t34
  rw [show UInt8.ofNat 92=92 from rfl] at t92
  have t34:((n:Int) == 34)=decide (gb s k=34):=t34
  have t92:((n:Int) == 92)=decide (gb s k=92):=t92
  have hnc:(gb s k).toNat=n:=hn
  rw [hn] at HP hix
  clear t34n t92n HR hn
  cases hp:Bare.plnB (gb s k) with
  | false =>
   rw [hp,if_pos rfl] at hqa
   rw [hp] at HP
   subst hqa
   unfold ReadP bv bcs noIt
   simp only
   clear t34 t92 hp
   go_wp2_with (go_at_call 110;refine (HP.out _).mono ?_;rintro e w' ⟨rfl,rfl⟩)
   simp only [Exit.jump]
   obtain ⟨hN2,hr2⟩:=set4 hN hBw hr (.int .u8 0) (.int .i64 0) (.string ⟨#[]⟩) (.bool false)
   obtain ⟨W2,hW2⟩:∃ W2,((((W.setCell ⟨B,0,none⟩ (.int .u8 0)).setCell ⟨B,1,none⟩ (.int .i64 0)).setCell ⟨B,2,none⟩ (.string ⟨#[]⟩)).setCell ⟨B,3,none⟩ (.bool false))=W2:=⟨_,rfl⟩
   rw [hW2] at hN2 hr2 ⊢
   exact read_end (by kernel_rfl) rfl rfl rfl hr2 ⟨rfl,hN2⟩
  | true =>
   rw [hp,if_neg (by decide)] at hqa
   rw [hp] at HP
   have hkb:(k:Int) ≤ 1000000:=by omega
   by_cases h34:gb s k=34
   ·rw [if_pos h34] at hqa
    rw [decide_eq_true h34] at t34
    have hcv:=conv_own (w:=W.drew) hown
    have hsl:∀ W,(Instr.slice 9 (.string s) (some (.int .i64 ((k:Int) + 1))) none none).run Tryz.prog W = .ok (.string (tx ((bl s).drop (k + 1)))) W:=fun W=>run_sl_l s (k + 1) (by omega) W
    subst hqa
    unfold ReadP bv bcs
    simp only
    obtain ⟨x,hx⟩:∃ x,tx acc=x:=⟨_,rfl⟩
    obtain ⟨y,hy⟩:∃ y,tx ((bl s).drop (k + 1))=y:=⟨_,rfl⟩
    rw [hx] at hcv ⊢
    rw [hy] at hsl ⊢
    clear hx hy hp h34 t92 hacc hk
    go_upto_region 7 with (go_at_call 110;refine (HP.out _).mono ?_;rintro e w' ⟨rfl,rfl⟩)
    go_region
    obtain ⟨hN2,hr2⟩:=set4 hN hBw hr (.int .u8 3) (.int .i64 0) (.string x) (.bool false)
    have hN2:=hN2.drew
    have hr2:((((W.setCell ⟨B,0,none⟩ (.int .u8 3)).setCell ⟨B,1,none⟩ (.int .i64 0)).setCell ⟨B,2,none⟩ (.string x)).setCell ⟨B,3,none⟩ (.bool false)).drew.heap[B]? = some (.cells #[(.int .u8 3),(.int .i64 0),(.string x),(.bool false)] 23 (0,0)):=hr2
    obtain ⟨W2,hW2⟩:∃ W2,((((W.setCell ⟨B,0,none⟩ (.int .u8 3)).setCell ⟨B,1,none⟩ (.int .i64 0)).setCell ⟨B,2,none⟩ (.string x)).setCell ⟨B,3,none⟩ (.bool false)).drew=W2:=⟨_,rfl⟩
    rw [hW2] at hN2 hr2 ⊢
    go_wp2_with fail
    simp only [Exit.jump]
    exact read_end (by kernel_rfl) rfl rfl rfl hr2 ⟨rfl,hN2⟩
   rw [if_neg h34] at hqa
   rw [decide_eq_false h34] at t34
   by_cases h92:gb s k=92
   ·rw [if_pos h92] at hqa
    rw [decide_eq_true h92] at t92
    by_cases hk1:k + 1 < s.size
    ·have hge1:decide ((s.size:Int) ≤ (k:Int) + 1)=false:=decide_eq_false (by omega)
     have hix2:∀ W,(Instr.index 9 (.string s) (.int .i64 ((k:Int) + 1))).run Tryz.prog W = .ok (.int .u8 ((gb s (k + 1)).toNat:Nat)) W:=fun W=>run_idx s (k + 1) hk1 W
     obtain ⟨m,hm⟩:∃ m,(gb s (k + 1)).toNat=m:=⟨_,rfl⟩
     obtain ⟨-,m34⟩:=byte_test (gb s (k + 1)) 34 (by decide) m hm
     obtain ⟨-,m92⟩:=byte_test (gb s (k + 1)) 92 (by decide) m hm
     rw [show UInt8.ofNat 34=34 from rfl] at m34
     rw [show UInt8.ofNat 92=92 from rfl] at m92
     have m34:((m:Int) != 34) = !decide (gb s (k + 1)=34):=m34
     have m92:((m:Int) != 92) = !decide (gb s (k + 1)=92):=m92
     have hmc:(gb s (k + 1)).toNat=m:=hm
     rw [hm] at hix2
     by_cases hok:gb s (k + 1)=34 ∨ gb s (k + 1)=92
     ·rw [if_pos ⟨hk1,hok⟩] at hqa
      obtain ⟨a,ha⟩:∃ a,decide (gb s (k + 1)=34)=a:=⟨_,rfl⟩
      obtain ⟨b,hb⟩:∃ b,decide (gb s (k + 1)=92)=b:=⟨_,rfl⟩
      have hab:a=true ∨ (a=false∧b=true):=by
       rw [← ha,← hb]
       by_cases h:gb s (k + 1)=34
       ·exact .inl (decide_eq_true h)
       ·exact .inr ⟨decide_eq_false h,decide_eq_true (hok.resolve_left h)⟩
      rw [ha] at m34
      rw [hb] at m92
      clear ha hb hok hm hp h34 h92
      rcases hab with rfl | ⟨rfl,rfl⟩
      ·have m34:((m:Int) != 34)=false:=m34
       clear m92
       go_wp2_with (first | (go_at_call 110;refine (HP.out _).mono ?_;rintro e w' ⟨rfl,rfl⟩) | (at_builtin;refine wpList_append_own _ rfl _ _ 62 rfl (B + 1) 5 i0 _ 1 1 Tryz.underlying62 hi hz0 hz1 hz2 rfl (by decide) _ _ _ rfl (hown.alloc _) ⟨W.heap.size,0,none⟩ 1 1 [.int .u8 (m:Nat)] rfl rfl ?c1 ?c2 ?c3 ?c4 ?c5 ?_))
       case c1=>exact cell_one_new _ _ _
       case c2=>simp [Value.oneCell']
       case c3=>unfold maxLen;omega
       case c4=>have:=hown.1;simp;omega
       case c5=>simp;omega
       intro v' W2 hown' hgrow _
       have hk2:New W (W.alloc (.cells #[.int .u8 (m:Nat)] 5)):=(Mods.refl _ _).alloc _
       have hN3:New w W2:=(hN.alloc _).grown hgrow (fun g hg=>.inl (by have:=(hown.lt g hg).1;omega))
       have hr3:W2.heap[B]? = some (.cells #[.int .u8 0,.int .i64 0,.string ⟨#[]⟩,.bool false] 23 (0,0)):=by
        have h2:=hk2.heap hr id
        have h3:Mods (fun b=>B + 1 ≤ b) (W.alloc (.cells #[.int .u8 (m:Nat)] 5)) W2:=(Mods.refl _ _).grown hgrow (fun g hg=>.inr ⟨(hown.lt g hg).1,own_cells (hown.alloc _) hg⟩)
        exact h3.heap h2 (by omega)
       have hown3:W2.ownsRow (B + 1) 5 1 v' (acc ++ [gb s (k + 1)]).length (u8s (acc ++ [gb s (k + 1)])):=by
        have:u8s (acc ++ [gb s (k + 1)])=u8s acc ++ [.int .u8 (m:Nat)]:=by rw [u8s_snoc,hmc]
        rw [this,List.length_append]
        exact hown'
       clear hown hown' hgrow c0 c1 c2 c3 f0 f1 f2 f3 hk2
       go_wp2_with fail
       exact wp_goto (And.intro rfl ⟨⟨k + 2,acc ++ [gb s (k + 1)],v',⟨rfl,rfl,rfl,rfl,rfl,rfl⟩,by omega,by rw [List.length_append];show acc.length + 1 ≤ _;omega,hown3,hr3,hN3,Lib.hid hqa.symm⟩,by simp [Qμ,intOf];omega⟩)
      ·have m34:((m:Int) != 34)=true:=m34
       have m92:((m:Int) != 92)=false:=m92
       go_wp2_with (first | (go_at_call 110;refine (HP.out _).mono ?_;rintro e w' ⟨rfl,rfl⟩) | (at_builtin;refine wpList_append_own _ rfl _ _ 62 rfl (B + 1) 5 i0 _ 1 1 Tryz.underlying62 hi hz0 hz1 hz2 rfl (by decide) _ _ _ rfl (hown.alloc _) ⟨W.heap.size,0,none⟩ 1 1 [.int .u8 (m:Nat)] rfl rfl ?c1 ?c2 ?c3 ?c4 ?c5 ?_))
       case c1=>exact cell_one_new _ _ _
       case c2=>simp [Value.oneCell']
       case c3=>unfold maxLen;omega
       case c4=>have:=hown.1;simp;omega
       case c5=>simp;omega
       intro v' W2 hown' hgrow _
       have hk2:New W (W.alloc (.cells #[.int .u8 (m:Nat)] 5)):=(Mods.refl _ _).alloc _
       have hN3:New w W2:=(hN.alloc _).grown hgrow (fun g hg=>.inl (by have:=(hown.lt g hg).1;omega))
       have hr3:W2.heap[B]? = some (.cells #[.int .u8 0,.int .i64 0,.string ⟨#[]⟩,.bool false] 23 (0,0)):=by
        have h2:=hk2.heap hr id
        have h3:Mods (fun b=>B + 1 ≤ b) (W.alloc (.cells #[.int .u8 (m:Nat)] 5)) W2:=(Mods.refl _ _).grown hgrow (fun g hg=>.inr ⟨(hown.lt g hg).1,own_cells (hown.alloc _) hg⟩)
        exact h3.heap h2 (by omega)
       have hown3:W2.ownsRow (B + 1) 5 1 v' (acc ++ [gb s (k + 1)]).length (u8s (acc ++ [gb s (k + 1)])):=by
        have:u8s (acc ++ [gb s (k + 1)])=u8s acc ++ [.int .u8 (m:Nat)]:=by rw [u8s_snoc,hmc]
        rw [this,List.length_append]
        exact hown'
       clear hown hown' hgrow c0 c1 c2 c3 f0 f1 f2 f3 hk2
       go_wp2_with fail
       exact wp_goto (And.intro rfl ⟨⟨k + 2,acc ++ [gb s (k + 1)],v',⟨rfl,rfl,rfl,rfl,rfl,rfl⟩,by omega,by rw [List.length_append];show acc.length + 1 ≤ _;omega,hown3,hr3,hN3,Lib.hid hqa.symm⟩,by simp [Qμ,intOf];omega⟩)
     ·rw [if_neg (fun h=>hok h.2)] at hqa
      have n34:((m:Int) != 34)=true:=by rw [m34,decide_eq_false (fun h=>hok (.inl h))];rfl
      have n92:((m:Int) != 92)=true:=by rw [m92,decide_eq_false (fun h=>hok (.inr h))];rfl
      clear m34 m92
      subst hqa
      unfold ReadP bv bcs noIt
      simp only
      clear hok hm hmc hp h34 h92
      go_wp2_with (go_at_call 110;refine (HP.out _).mono ?_;rintro e w' ⟨rfl,rfl⟩)
      simp only [Exit.jump]
      obtain ⟨hN2,hr2⟩:=set4 hN hBw hr (.int .u8 0) (.int .i64 0) (.string ⟨#[]⟩) (.bool false)
      obtain ⟨W2,hW2⟩:∃ W2,((((W.setCell ⟨B,0,none⟩ (.int .u8 0)).setCell ⟨B,1,none⟩ (.int .i64 0)).setCell ⟨B,2,none⟩ (.string ⟨#[]⟩)).setCell ⟨B,3,none⟩ (.bool false))=W2:=⟨_,rfl⟩
      rw [hW2] at hN2 hr2 ⊢
      exact read_end (by kernel_rfl) rfl rfl rfl hr2 ⟨rfl,hN2⟩
    ·have hge1:decide ((s.size:Int) ≤ (k:Int) + 1)=true:=decide_eq_true (by omega)
     rw [if_neg (fun h=>hk1 h.1)] at hqa
     subst hqa
     unfold ReadP bv bcs noIt
     simp only
     have hge1':(s.size:Int) ≤ (k:Int) + 1:=by omega
     clear hp h34 h92 hk1
     go_wp2_with (go_at_call 110;refine (HP.out _).mono ?_;rintro e w' ⟨rfl,rfl⟩)
     simp only [Exit.jump]
     obtain ⟨hN2,hr2⟩:=set4 hN hBw hr (.int .u8 0) (.int .i64 0) (.string ⟨#[]⟩) (.bool false)
     obtain ⟨W2,hW2⟩:∃ W2,((((W.setCell ⟨B,0,none⟩ (.int .u8 0)).setCell ⟨B,1,none⟩ (.int .i64 0)).setCell ⟨B,2,none⟩ (.string ⟨#[]⟩)).setCell ⟨B,3,none⟩ (.bool false))=W2:=⟨_,rfl⟩
     rw [hW2] at hN2 hr2 ⊢
     exact read_end (by kernel_rfl) rfl rfl rfl hr2 ⟨rfl,hN2⟩
   ·rw [if_neg h92] at hqa
    rw [decide_eq_false h92] at t92
    clear hp h34 h92
    go_wp2_with (first | (go_at_call 110;refine (HP.out _).mono ?_;rintro e w' ⟨rfl,rfl⟩) | (at_builtin;refine wpList_append_own _ rfl _ _ 62 rfl (B + 1) 5 i0 _ 1 1 Tryz.underlying62 hi hz0 hz1 hz2 rfl (by decide) _ _ _ rfl (hown.alloc _) ⟨W.heap.size,0,none⟩ 1 1 [.int .u8 (n:Nat)] rfl rfl ?c1 ?c2 ?c3 ?c4 ?c5 ?_))
    case c1=>exact cell_one_new _ _ _
    case c2=>simp [Value.oneCell']
    case c3=>unfold maxLen;omega
    case c4=>have:=hown.1;simp;omega
    case c5=>simp;omega
    intro v' W2 hown' hgrow _
    have hk2:New W (W.alloc (.cells #[.int .u8 (n:Nat)] 5)):=(Mods.refl _ _).alloc _
    have hN3:New w W2:=(hN.alloc _).grown hgrow (fun g hg=>.inl (by have:=(hown.lt g hg).1;omega))
    have hr3:W2.heap[B]? = some (.cells #[.int .u8 0,.int .i64 0,.string ⟨#[]⟩,.bool false] 23 (0,0)):=by
     have h2:=hk2.heap hr id
     have h3:Mods (fun b=>B + 1 ≤ b) (W.alloc (.cells #[.int .u8 (n:Nat)] 5)) W2:=(Mods.refl _ _).grown hgrow (fun g hg=>.inr ⟨(hown.lt g hg).1,own_cells (hown.alloc _) hg⟩)
     exact h3.heap h2 (by omega)
    have hown3:W2.ownsRow (B + 1) 5 1 v' (acc ++ [gb s k]).length (u8s (acc ++ [gb s k])):=by
     have:u8s (acc ++ [gb s k])=u8s acc ++ [.int .u8 (n:Nat)]:=by rw [u8s_snoc,hnc]
     rw [this,List.length_append]
     exact hown'
    clear hown hown' hgrow c0 c1 c2 c3 f0 f1 f2 f3 hk2
    go_wp2_with fail
    exact wp_goto (And.intro rfl ⟨⟨k + 1,acc ++ [gb s k],v',⟨rfl,rfl,rfl,rfl,rfl,rfl⟩,by omega,by rw [List.length_append];show acc.length + 1 ≤ _;omega,hown3,hr3,hN3,Lib.hid hqa.symm⟩,by simp [Qμ,intOf];omega⟩)
 ·have hge:decide ((s.size:Int) ≤ (k:Int))=true:=decide_eq_true (by omega)
  have hqa:=quoted_end acc s k (by omega)
  rw [HR.out] at hqa
  subst hqa
  unfold ReadP bv bcs noIt
  simp only
  have hge':s.size ≤ k:=by omega
  clear HR hlt
  go_wp2_with fail
  simp only [Exit.jump]
  obtain ⟨hN2,hr2⟩:=set4 hN hBw hr (.int .u8 0) (.int .i64 0) (.string ⟨#[]⟩) (.bool false)
  obtain ⟨W2,hW2⟩:∃ W2,((((W.setCell ⟨B,0,none⟩ (.int .u8 0)).setCell ⟨B,1,none⟩ (.int .i64 0)).setCell ⟨B,2,none⟩ (.string ⟨#[]⟩)).setCell ⟨B,3,none⟩ (.bool false))=W2:=⟨_,rfl⟩
  rw [hW2] at hN2 hr2 ⊢
  exact read_end (by kernel_rfl) rfl rfl rfl hr2 ⟨rfl,hN2⟩
theorem quoted_read (s:ByteArray) (w:World) (hs:s.size ≤ 1000000) (h0:0 < s.size) :
  Calls Tryz.prog 54 #[.string s] w (ReadP (Bare.quoted [] ((bl s).drop 1)) w):=by
 obtain ⟨r,hr'⟩:∃ r,Bare.quoted [] ((bl s).drop 1)=r:=⟨_,rfl⟩
 have HR:=Lib.hid hr'
 rw [hr']
 clear hr'
 obtain ⟨hN,hr⟩:=no_row w
 go_enter Tryz.func54,Tryz.ntmps54
 go_upto_region 1 with fail
 obtain ⟨W,hW⟩:∃ W,w.alloc (.cells #[.int .u8 0,.int .i64 0,.string ⟨#[]⟩,.bool false] 23)=W:=⟨_,rfl⟩
 rw [hW] at hN hr ⊢
 obtain ⟨B,hB⟩:∃ B,w.heap.size=B:=⟨_,rfl⟩
 have hBw:w.heap.size ≤ B:=by omega
 rw [hB] at hr ⊢
 clear hW hB
 obtain ⟨⟨c0,c1,c2,c3⟩,f0,f1,f2,f3⟩:=row_facts hr
 clear c0 c1 c2 c3 f0 f1 f2 f3
 refine wp_scope_loop 0 (QJ s w B r) (Qμ s) rfl ?pass ?first
 case first =>
  intro hp
  go_wp2_with fail
  refine wp_label ?_
  rename_i K hK
  refine hK _ _ (wp_mono (quoted_X s w B r hs hBw _ _ ⟨1,[],.slice none 0 0,⟨rfl,rfl,rfl,rfl,rfl,rfl⟩,by omega,by simp,World.ownsRow_nil _ _ _ _,hr,hN,HR⟩) ?_)
  intro e a' w' hq
  cases e with
  | goto l'=>exact ⟨hq.1,hq.2.1⟩
  | _=>exact hq
 case pass =>
  intro a W' hJ
  refine wp_seq (wp_skip ?_)
  exact quoted_X s w B r hs hBw a W' hJ
end Go.Proofs.YtnknmmbnhoanfaaGreatDoor
