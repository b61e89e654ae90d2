/- Texts joined. -/
import Derived.Test.YtnknmmbnhoanfaaGreatDoorH00
import Derived.Test.YtnknmmbnhoanfaaGreatDoorH09
import Derived.OwnWalkIn
import Derived.TacticsInMore
import Derived.LoopNIn
import Derived.LoopIn
import Derived.WalkSpells
import Derived.WalkLawsBesides
import Derived.Sort.CutIn
import Derived.OrdersHeld
set_option linter.unusedSimpArgs false
set_option linter.unusedVariables false
set_option maxHeartbeats 16000000
set_option maxRecDepth 100000
namespace Go.Cs
open Go.RowKit
variable {P:Program}
def IterX (P:Program) (g:Nat) (lb:Array Value) (n:Nat) (El:Nat→Array Value→World→Prop) (S:Nat→Prop) (T:World→World→Prop) (E:World→Prop) (W:World):Prop :=
 ∀ (l:Nat) (J Jx:Nat→World→Prop),(∀ k,∀ A A',J k A→T A A'→J k A')→(∀ k,∀ A A',Jx k A→T A A'→Jx k A') →
  (∀ k x W1,k < n→El k x W1→J k W1→YieldAt Fence.wide 0 P l x W1 fun e W' =>
   (e = .returned (.bool true)∧J (k + 1) W'∧Mods S W1 W') ∨ (e = .returned (.bool false)∧Jx (k + 1) W')) →
  J 0 W →
  Calls P g (#[.func (.yield l) #[] #[]] ++ lb) W fun e W'=>(∃ v,e = .returned v)∧((J n W'∧E W') ∨ ∃ k,k ≤ n∧Jx k W')
theorem rangeX_core (r:Option Nat)
  {g:Operand} {ps:Array Tmp} {assign body:Code} {Q:Exit→Act→World→Prop} {a:Act} {w:World}
  {gf:Nat} {lb:Array Value} (hg:a.eval g = .func (.func gf) #[] lb) (eg:∀ args w,(callFunc gf args).run P w = .ok (.enter gf args) w)
  (n:Nat) (El:Nat→Array Value→World→Prop) (S:Nat→Prop) (T:World→World→Prop) (E:World→Prop) (hE:Stab w.heap.size E) (hit:∀ W,New w W→IterX P gf lb n El S T E W) (hps:∀ k x W,El k x W→x.size=ps.size)
  (W0:World) (hW0:New w W0) (mark:List Deferred) (d:Nat)
  (henter:∀ fn,(Instr.enterLoop fn a.tmps ps assign body r).run P w = .ok (W0.heap.size,mark) (W0.alloc (.loop { state:=.ready,pending:=none,fn,tmps:=a.tmps,params:=ps,assign,body,defers:=d })))
  (I:Nat→World→Prop) (Ix:Code→Nat→World→Prop) (hTK:∀ A A',T A A'→∀ (k:Nat) (o:Obj),A.heap[k]? = some o→o.isCells=false→A'.heap[k]? = some o) (hIT:∀ k A A',I k A→T A A'→I k A') (hIxT:∀ c k A A',Ix c k A→T A A'→Ix c k A') (hI:∀ k,Stab w.heap.size (I k)) (hIx:∀ c k,Stab w.heap.size (Ix c k)) (h0:I 0 w)
  (hround:∀ (l k:Nat) (x:Array Value) (W:World),k < n→El k x W→w.heap.size ≤ l→(∃ r,W.heap[l]? = some (.loop r))→I k W →
   assign.wpIn (Fr (some l)) 0 P (Exit.then (fun a1 W1=>Mods S W W1∧∀ W2,Quiet w.heap.size W1 W2→(∃ r,W2.heap[l]? = some (.loop r))→body.wpIn (Fr (some l)) 0 P (roundQ S I Ix (k + 1) W2) a1 W2) (fun _ _ _=>False))
    { tmps:=(ps.zip x).foldl (fun t (p,v)=>t.setIfInBounds p v) a.tmps,defers:=[] } W)
  (hdone:∀ W,I n W→E W→Others W0 W→Q .normal { a with defers:=mark ++ a.defers } W)
  (hstop:∀ c k W,k ≤ n→Ix c k W→Others W0 W→c.wpIn (Fr r) 0 P Q { a with defers:=mark ++ a.defers } W) :
  (Code.rangeFunc g ps assign body).wpIn (Fr r) 0 P Q a w:=by
 refine wpIn_rangeFunc ?_
 intro fn _
 obtain ⟨rec,hrec⟩:∃ rec:LoopState→Option Code→Loop,rec=fun st pe=>{ state:=st,pending:=pe,fn,tmps:=a.tmps,params:=ps,assign,body,defers:=d }:=⟨_,rfl⟩
 obtain ⟨W1,hW1⟩:∃ W1,W0.alloc (.loop (rec .ready none))=W1:=⟨_,rfl⟩
 obtain ⟨l,hl0⟩:∃ l,W0.heap.size=l:=⟨_,rfl⟩
 have hL1:W1.heap[l]? = some (.loop (rec .ready none)):=by rw [← hW1,← hl0];exact World.alloc_heap_new W0 _
 have hN1:New w W1:=by rw [← hW1];exact hW0.alloc _
 have hwl:w.heap.size ≤ l:=by rw [← hl0];exact hW0.size
 have hC1:Others W0 W1:=fun k o hk _=>by
  rw [← hW1];exact (Below.heap_alloc W0 _ k (Array.getElem?_eq_some_iff.1 hk).1).trans hk
 refine ⟨l,mark,W1,{ target:=.fn (.func gf) lb,args:=#[.func (.yield l) #[] #[]] },W1,gf,
  #[.func (.yield l) #[] #[]] ++ lb,W1,?_,?_,fun _ _=>trivial,?_,fun h=>by simp [Fence.wide] at h,?_⟩
 ·rw [← hW1,hrec,← hl0];exact henter fn
 ·simp only [resolve,hg]
  simp [go_sem]
 ·simp [invoke,go_sem,eg]
 ·have hlW0:∀ {k:Nat} {o:Obj},W0.heap[k]? = some o→k ≠ l:=fun hk=>by have:=(Array.getElem?_eq_some_iff.1 hk).1;omega
  have hput:∀ (W:World) (o:Obj),Others W0 W→Others W0 (W.putObj l o):=fun W o h k o' hk ho =>
   (World.putObj_heap_other (hlW0 hk)).trans (h k o' hk ho)
  refine Calls.mono (R:=fun e W'=>(∃ v,e = .returned v) ∧
    (((I n W'∧W'.heap[l]? = some (.loop (rec .ready none))∧Others W0 W')∧E W') ∨
     ∃ k,k ≤ n∧∃ c,Ix c k W'∧W'.heap[l]? = some (.loop (rec .done (some c)))∧Others W0 W')) ?_ ?_ |> callsIn_wide.2
  ·refine hit W1 hN1 l
    (fun k W=>I k W∧W.heap[l]? = some (.loop (rec .ready none))∧Others W0 W)
    (fun k W=>∃ c,Ix c k W∧W.heap[l]? = some (.loop (rec .done (some c)))∧Others W0 W)
    (fun k A A' h hn=>⟨hIT k A A' h.1 hn,hTK _ _ hn _ _ h.2.1 rfl,fun j o hj ho=>hTK _ _ hn _ _ (h.2.2 j o hj ho) ho⟩)
    (fun k A A' h hn=>by
     obtain ⟨c,h1,h2,h3⟩:=h
     exact ⟨c,hIxT c k A A' h1 hn,hTK _ _ hn _ _ h2 rfl,fun j o hj ho=>hTK _ _ hn _ _ (h3 j o hj ho) ho⟩)
    ?_ ⟨hI 0 w W1 h0 (hN1.quiet _),hL1,hC1⟩
   rintro k x W hkn hx ⟨hi,hl,hk⟩
   have hy:=run_yield (P:=P) (args:=x) hl (by rw [hrec];exact hps k x W hx)
   rw [hrec] at hy
   refine ⟨fn,_,assign,body,hy,roundIn_of_wpIn trivial (wpIn_mono (hround l k x W hkn hx hwl ⟨_,hl⟩ hi) ?_)⟩
   clear hy
   rintro e a1 Wa he
   cases e with
   | normal =>
    obtain ⟨hma,hb⟩:=he
    have hla:=hma.block _ _ hl (.inr rfl)
    have hka:Others W0 Wa:=fun j o hj ho=>hma.block _ _ (hk j o hj ho) (.inr ho)
    have hlt:l < Wa.heap.size:=(Array.getElem?_eq_some_iff.1 hla).1
    refine ⟨_,run_beginRound hla (by rw [hrec]),?_⟩
    obtain ⟨Wb,hWb⟩:∃ Wb,Wa.putObj l (.loop { rec .ready none with state:=.busy })=Wb:=⟨_,rfl⟩
    have hl2:Wb.heap[l]? = some (.loop { rec .ready none with state:=.busy }):=by rw [← hWb];exact World.putObj_heap_same hlt
    have hk2:Others W0 Wb:=by rw [← hWb];exact hput _ _ hka
    have hqb:Quiet w.heap.size Wa Wb:=by rw [← hWb];exact Quiet.putObj _ hla rfl hwl
    rw [hWb]
    refine wpIn_mono (hb Wb hqb ⟨_,hl2⟩) ?_
    have fin:∀ (jump:Option Code) (W3:World),Mods S Wb W3 →
      (Instr.endRound l jump).run P W3 = .ok (.bool jump.isNone) (W3.putObj l (.loop (rec (if jump.isNone then .ready else .done) jump))) ∧
      W3.heap[l]? = some (.loop { rec .ready none with state:=.busy }) ∧
      (W3.putObj l (.loop (rec (if jump.isNone then .ready else .done) jump))).heap[l]? = some (.loop (rec (if jump.isNone then .ready else .done) jump)) ∧
      Others W0 (W3.putObj l (.loop (rec (if jump.isNone then .ready else .done) jump))):=fun jump W3 hm3=>by
     have hl3:=hm3.block _ _ hl2 (.inr rfl)
     have:=run_endRound (P:=P) jump hl3
     rw [hrec] at this ⊢
     exact ⟨this,by rw [hrec] at hl3;exact hl3,World.putObj_heap_same (Array.getElem?_eq_some_iff.1 hl3).1,hput _ _ fun j o hj ho=>hm3.block _ _ (hk2 j o hj ho) (.inr ho)⟩
    rintro e a3 W3 hp
    cases e with
    | normal =>
     obtain ⟨hm3,hi3⟩:=hp
     obtain ⟨hr,hl3,hl4,hk4⟩:=fin none W3 hm3
     refine ⟨_,_,hr,.inl ⟨rfl,⟨hI _ _ _ hi3 (Quiet.putObj _ hl3 rfl hwl),hl4,hk4⟩,?_⟩⟩
     refine ⟨(hm3.os.trans hqb.os).trans hma.os,(hm3.tape.trans hqb.tape).trans hma.tape,(hm3.output.trans hqb.output).trans hma.output,?_,?_⟩
     ·simp only [World.putObj_size];exact Nat.le_trans hma.size (Nat.le_trans hqb.size hm3.size)
     ·intro j o hj ho
      by_cases e:j=l
      ·subst e;rw [hl] at hj;cases hj;exact hl4
      ·refine (World.putObj_heap_other e).trans (hm3.block _ _ ?_ ho)
       rw [← hWb];exact (World.putObj_heap_other e).trans (hma.block _ _ hj ho)
    | ret =>
     obtain ⟨hm3,hi3⟩:=hp
     obtain ⟨hr,hl3,hl4,hk4⟩:=fin (some .ret) W3 hm3
     exact ⟨_,_,hr,.inr ⟨rfl,.ret,hIx _ _ _ _ hi3 (Quiet.putObj _ hl3 rfl hwl),hl4,hk4⟩⟩
    | exit id =>
     obtain ⟨hm3,hi3⟩:=hp
     obtain ⟨hr,hl3,hl4,hk4⟩:=fin (some (.exit id)) W3 hm3
     exact ⟨_,_,hr,.inr ⟨rfl,.exit id,hIx _ _ _ _ hi3 (Quiet.putObj _ hl3 rfl hwl),hl4,hk4⟩⟩
    | goto t =>
     obtain ⟨hm3,hi3⟩:=hp
     obtain ⟨hr,hl3,hl4,hk4⟩:=fin (some (.goto t)) W3 hm3
     exact ⟨_,_,hr,.inr ⟨rfl,.goto t,hIx _ _ _ _ hi3 (Quiet.putObj _ hl3 rfl hwl),hl4,hk4⟩⟩
    | panic ch=>exact hp.elim
    | outgrown=>exact hp.elim
   | exit id=>exact he.elim
   | goto t=>exact he.elim
   | ret=>exact he.elim
   | panic ch=>exact he.elim
   | outgrown=>exact he.elim
  ·rintro e W2 ⟨⟨v,rfl⟩,(⟨⟨hi,hl,hk⟩,hEE⟩ | ⟨k,hkl,c,hi,hl,hk⟩)⟩
   ·exact ⟨none,_,by have:=run_endLoop (P:=P) hl (by rw [hrec];simp);rw [hrec] at this;exact this,hdone _ (hI _ _ _ hi (Quiet.putObj _ hl rfl hwl)) (hE _ _ hEE (Quiet.putObj _ hl rfl hwl)) (hput _ _ hk)⟩
   ·exact ⟨some c,_,by have:=run_endLoop (P:=P) hl (by rw [hrec];simp);rw [hrec] at this;exact this,hstop c k _ hkl (hIx _ _ _ _ hi (Quiet.putObj _ hl rfl hwl)) (hput _ _ hk)⟩
theorem wp_rangeX2 {g:Operand} {ps:Array Tmp} {assign body:Code} {Q:Exit→Act→World→Prop} {a:Act} {w:World}
  {gf:Nat} {lb:Array Value} (hg:a.eval g = .func (.func gf) #[] lb) (eg:∀ args w,(callFunc gf args).run P w = .ok (.enter gf args) w)
  (n:Nat) (El:Nat→Array Value→World→Prop) (S:Nat→Prop) (T:World→World→Prop) (E:World→Prop) (hE:Stab w.heap.size E) (hit:∀ W,New w W→IterX P gf lb n El S T E W) (hps:∀ k x W,El k x W→x.size=ps.size)
  (I:Nat→World→Prop) (Ix:Code→Nat→World→Prop) (hTK:∀ A A',T A A'→∀ (k:Nat) (o:Obj),A.heap[k]? = some o→o.isCells=false→A'.heap[k]? = some o) (hIT:∀ k A A',I k A→T A A'→I k A') (hIxT:∀ c k A A',Ix c k A→T A A'→Ix c k A') (hI:∀ k,Stab w.heap.size (I k)) (hIx:∀ c k,Stab w.heap.size (Ix c k)) (h0:I 0 w)
  (hround:∀ (l k:Nat) (x:Array Value) (W:World),k < n→El k x W→w.heap.size ≤ l→(∃ r,W.heap[l]? = some (.loop r))→I k W →
   assign.wpIn (Fr (some l)) 0 P (Exit.then (fun a1 W1=>Mods S W W1∧∀ W2,Quiet w.heap.size W1 W2→(∃ r,W2.heap[l]? = some (.loop r))→body.wpIn (Fr (some l)) 0 P (roundQ S I Ix (k + 1) W2) a1 W2) (fun _ _ _=>False))
    { tmps:=(ps.zip x).foldl (fun t (p,v)=>t.setIfInBounds p v) a.tmps,defers:=[] } W)
  (hdone:∀ W,I n W→E W→W.heap[w.heap.size]? = some (.deferred (some []))→Q .normal { a with defers:={ target:=.collected w.heap.size,args:=#[] }::a.defers } W)
  (hstop:∀ c k W,k ≤ n→Ix c k W→W.heap[w.heap.size]? = some (.deferred (some []))→c.wp P Q { a with defers:={ target:=.collected w.heap.size,args:=#[] }::a.defers } W) :
  (Code.rangeFunc g ps assign body).wp P Q a w:=by
 refine (wpIn_wide (n:=0)).1 ?_
 refine rangeX_core (P:=P) none hg eg n El S T E hE hit hps (w.alloc (.deferred (some []))) ((Mods.refl _ _).alloc _) [{ target:=.collected w.heap.size,args:=#[] }] w.heap.size ?_ I Ix hTK hIT hIxT hI hIx h0 hround ?_ ?_
 ·intro fn
  rw [World.size_alloc]
  exact run_enterLoop_outer _ _ _ _ _
 ·intro W hi hEE ho
  exact hdone W hi hEE (ho _ _ (World.alloc_heap_new w _) rfl)
 ·intro c k W hk hi ho
  exact (wpIn_wide (n:=0)).2 (hstop c k W hk hi (ho _ _ (World.alloc_heap_new w _) rfl))
end Go.Cs
namespace Go.Proofs.YtnknmmbnhoanfaaGreatDoor
open Go.RowKit Go.Shelf Go.Cs
attribute [local go_sem] Oper.semAt_some


def ElM (L:List Bare.Mem) (k:Nat) (x:Array Value) (W:World):Prop:=∃ v,x = #[v]∧RdM true W v (L.getD k noM)
theorem RdM.modR {R:Nat} {W W':World} {v:Value} {m:Bare.Mem} {s:Bare.Bs} {bad:Bool} (h:RdM true W v m) (hr:Rdr W R s bad) (hm:ModR R W W'):RdM true W' v m :=
 h.far hm (fun g cs t fr hg hc=>by subst hg;rw [show W.heap[g]? = _ from hr] at hc;cases hc;decide)
theorem RdM.open {W:World} {v:Value} {m:Bare.Mem} (h:RdM true W v m):∃ ia il ic pa pl pc,v = .agg #[.string (tx m.key),.bool m.inner,.slice ia il ic,.slice pa pl pc]:=by
 obtain ⟨iv,pv,rfl,h1,h2⟩:=h
 obtain ⟨ia,ic,rfl⟩:=h1.slice
 obtain ⟨pa,pc,rfl⟩:=h2.slice
 exact ⟨ia,_,ic,pa,_,pc,rfl⟩
theorem trim1_len (s:Bare.Bs) (c:UInt8):(Lib.trimPrefix s [c]).length ≤ s.length:=by
 unfold Lib.trimPrefix
 split
 ·rw [List.length_drop];omega
 ·exact Nat.le_refl _
theorem memsL_head {s r:Bare.Bs} {m:Bare.Mem} (hs:s ≠ []) (h:Bare.readMem s=some (m,r)):∃ t,(Bare.memsL s).1=m::t:=by
 by_cases hr:r = []
 ·subst hr;exact ⟨[],by rw [Bare.memsL_last hs h]⟩
 ·rw [Bare.memsL_some hs h hr]
  split
  ·split
   ·exact ⟨[],rfl⟩
   ·exact ⟨_,rfl⟩
  ·exact ⟨[],rfl⟩
theorem lit52' (t:Array Value) (h:t.size=52):∃ u:Nat→Value,t=(u 0::u 1::u 2::u 3::u 4::u 5::u 6::u 7::u 8::u 9::u 10::u 11::u 12::u 13::u 14::u 15::u 16::u 17::u 18::u 19::u 20::u 21::u 22::u 23::u 24::u 25::u 26::u 27::u 28::u 29::u 30::u 31::u 32::u 33::u 34::u 35::u 36::u 37::u 38::u 39::u 40::u 41::u 42::u 43::u 44::u 45::u 46::u 47::u 48::u 49::u 50::u 51::([]:List Value)).toArray:=⟨fun i=>t.getD i undef,range_lit t 52 h⟩
noncomputable def reg___dict_reader__members_1_4:Code:=((Tryz.f130.body.bind (regionOf 4)).getD .skip)
theorem mem4 (t:Array Value) (hs:t.size=52) (w:World) {R Bx:Nat} {x0 x2:Value} {s:Bare.Bs}
  (hq0:t.getD 0 undef=x0)
  (hq1:t.getD 1 undef = .pointer (some ⟨Bx,0,none⟩))
  (hq2:t.getD 2 undef=x2)
  (hb:Boxed w Bx 88 (.pointer (some ⟨R,0,none⟩))) (hr:Rdr w R s false) (hne:¬ Bx=R) :
  reg___dict_reader__members_1_4.wp Tryz.prog (Only fun a' W'=>(a'.tmps.size=52∧a'.defers = []∧a'.tmps.getD 0 undef=x0∧a'.tmps.getD 1 undef = .pointer (some ⟨Bx,0,none⟩)∧a'.tmps.getD 2 undef=x2)∧Rdr W' R (Lib.trimPrefix s [44]) (!Lib.hasPrefix s [44])∧ModR R w W') ⟨t,[]⟩ w:=by
 conv=>arg 2;whnf
 obtain ⟨u,rfl⟩:=lit52' t hs
 have hq0:u 0 = _:=hq0
 have hq1:u 1 = _:=hq1
 have hq2:u 2 = _:=hq2
 rw [hq0,hq1,hq2]
 clear hq0 hq1 hq2 hs
 refine wp_region_held (S:=fun W=>Boxed W Bx 88 (.pointer (some ⟨R,0,none⟩))) (by kernel_rfl) ?_
 show wpAnyH _ _ _ _ _ 7 _ _ w.drew
 have hS:Boxed w.drew Bx 88 (.pointer (some ⟨R,0,none⟩)):=hb
 have hrd:Rdr w.drew R s false:=hr
 refine tkA 0 rfl (some 30) (.pointer (some ⟨R,0,none⟩)) (.inl ⟨by rfl,fun W hW=>by have q:=(show Boxed W Bx 88 (.pointer (some ⟨R,0,none⟩)) from hW).cell;go_simp⟩) hS ?_
 simp only [pS]
 refine tkA 1 rfl (some 31) (.pointer (some ⟨R,0,none⟩)) (.inl ⟨by rfl,fun W hW=>by have q:=(show Boxed W Bx 88 (.pointer (some ⟨R,0,none⟩)) from hW).cell;go_simp⟩) hS ?_
 simp only [pS]
 refine tkO 2 ?_
 refine opH_call (some 32) rfl (by rfl) rfl 133 #[.pointer (some ⟨R,0,none⟩),.string ⟨#[44]⟩] (by go_simp) ((see_any R s [44] false w.drew hrd).mono ?_)
 rintro e w2 ⟨rfl,hr2,hm2⟩
 have hS:=hm2.boxed hS hne
 obtain ⟨⟨c0,d1⟩,f0,e1⟩:=hr2.facts
 refine ⟨_,rfl,hS,?_⟩
 simp only [pS]
 refine tkI 3 (some 33) (.bool (!Lib.hasPrefix s [44])) hS ?_
 simp only [pS]
 refine tkI 4 (some 34) (.pointer (some ⟨R,0,none⟩)) hS ?_
 simp only [pS]
 refine tkI 5 (some 35) (.pointer (some ⟨R,1,none⟩)) hS ?_
 simp only [pS]
 refine tkO 6 ?_
 refine opH_skip none (w':=w2.setCell ⟨R,1,none⟩ (.bool (!Lib.hasPrefix s [44]))) rfl (by rfl) rfl (by go_simp) ?_
 refine ⟨(ModR.set _ _ _ _).boxed hS hne,?_⟩
 refine wpAnyH_done (by kernel_rfl) ?_ _
 exact ⟨⟨rfl,rfl,rfl,rfl,rfl⟩,hr2.set1 _,((Mods.refl _ _).drew.trans hm2).trans (ModR.set _ _ _ _)⟩
theorem members_iter (R Bx:Nat) (s0:Bare.Bs) (S:Nat→Prop) (W:World) (hl:s0.length ≤ 1000000) (hr:Rdr W R s0 false) (hb:Boxed W Bx 88 (.pointer (some ⟨R,0,none⟩))) (hT:Tab W) (hSR:¬ S R) (hSB:¬ S Bx) (hST:∀ A A',Tab A→Mods S A A'→Tab A') :
  IterX Tryz.prog 130 #[.pointer (some ⟨Bx,0,none⟩)] (Bare.memsL s0).1.length (ElM (Bare.memsL s0).1) S (fun A A'=>ModR R A A'∧∃ s bad,Rdr A R s bad) (fun W=>∃ s,Rdr W R s (Bare.memsL s0).2) W:=by
 intro l J Jx hJ hJx hY h0
 have hne:¬ Bx=R:=by
  rintro rfl
  have hb':W.heap[Bx]? = _:=hb
  rw [show W.heap[Bx]? = _ from hr] at hb'
  cases hb'
 refine (callsIn_wide (n:=0)).1 (callsIn_of_wp Tryz.func130 rfl trivial ?_ rfl)
 simp only [Tryz.ntmps130,List.size_toArray,List.length_cons,List.length_nil,Nat.reduceAdd,Nat.reduceSub,Array.replicate_succ,Array.replicate_zero,List.push_toArray,List.append_toArray,List.nil_append,List.cons_append]
 gi_wp2
 gi_loopw [] (fun wr=>∃ (k:Nat) (s:Bare.Bs),J k wr∧Rdr wr R s false∧Boxed wr Bx 88 (.pointer (some ⟨R,0,none⟩))∧Tab wr∧Hid ((Bare.memsL s0).1.drop k=(Bare.memsL s).1∧(Bare.memsL s0).2=(Bare.memsL s).2)∧k ≤ (Bare.memsL s0).1.length∧s.length ≤ 1000000) (fun wr=>left R wr)
 case atStart=>exact ⟨0,s0,h0,hr,hb,hT,Lib.hid ⟨rfl,rfl⟩,Nat.zero_le _,hl⟩
 case round =>
  obtain ⟨k,s,hJk,hrd,hbx,hTw,hinv,hkn,hsl⟩:=hrel
  obtain ⟨c1,f1⟩:=hbx.both
  obtain ⟨⟨c0,d1⟩,f0,e1⟩:=hrd.facts
  have C0:=Lib.hid c0
  have hem:=tx_empty s
  obtain ⟨sb,hsb⟩:∃ x,tx s=x:=⟨_,rfl⟩
  rw [hsb] at c0 hem
  cases hsn:s.isEmpty with
  | true =>
   obtain rfl:s = []:=by simpa using hsn
   rw [hsn] at hem
   have hkE:k=(Bare.memsL s0).1.length:=by
    have:=congrArg List.length hinv.out.1
    rw [List.length_drop,Bare.memsL_nil] at this
    simp at this
    omega
   have hE:(Bare.memsL s0).2=false:=by rw [hinv.out.2,Bare.memsL_nil]
   have HE:=Lib.hid hE
   have HK:=Lib.hid hkE
   clear hsb C0 hinv hE hkE
   gi_wp2
   go_end0
   exact ⟨⟨_,rfl⟩,.inl ⟨by rw [← HK.out];exact hJk,[],by rw [HE.out];exact hrd⟩⟩
  | false =>
   rw [hsn] at hem
   have hsne:s ≠ []:=by rintro rfl;cases hsn
   have hsb':=Lib.hid hsb
   clear hsb hsn
   gi_wp2
   refine at_round (r:=none) (member_r R s false wr hsl hrd hTw) ?_
   rintro e w1 ⟨m,s1,bad1,v,rfl,hv,hr1,hm1,hp1,hsl1⟩
   have hb1:=hm1.boxed hbx hne
   have hT1:=hTw.modR hrd hm1
   have hJ1:=hJ k wr w1 hJk ⟨hm1,_,_,hrd⟩
   have Hr0:=Lib.hid hrd
   obtain ⟨ia,il,ic,pa,pl,pc,rfl⟩:=hv.open
   obtain ⟨K,hK⟩:∃ x,tx m.key=x:=⟨_,rfl⟩
   obtain ⟨y,hy0⟩:∃ x,m.inner=x:=⟨_,rfl⟩
   rw [hK,hy0] at hv ⊢
   obtain ⟨b1,b2⟩:=hb1.both
   clear hrd hbx c1 f1 c0 d1 f0 e1 hm1 hJk hTw hem hK hy0 b1 b2
   gi_upto_region 2 with fail
   obtain ⟨W2,hW2⟩:∃ W2,w1.alloc (.cells #[.string K,.bool y,.slice ia il ic,.slice pa pl pc] 44)=W2:=⟨_,rfl⟩
   have hN2:New w1 W2:=by rw [← hW2];exact (Mods.refl _ _).alloc _
   have r2:W2.heap[w1.heap.size]? = some (.cells #[.string K,.bool y,.slice ia il ic,.slice pa pl pc] 44 (0,0)):=by rw [← hW2];exact World.alloc_heap_new _ _
   rw [hW2]
   obtain ⟨B2,hB2⟩:∃ B2,w1.heap.size=B2:=⟨_,rfl⟩
   rw [hB2] at r2 ⊢
   have hv2:=hv.new hN2
   have hr2:=hr1.new hN2
   have hb2:=hN2.boxed hb1 id
   have hT2:=hT1.new hN2
   have hJ2:=hJ k w1 W2 hJ1 ⟨Mods.ofNew hN2,_,_,hr1⟩
   have k0:=cell_of_row _ _ 0 _ _ _ r2
   have k1:=cell_of_row _ _ 1 _ _ _ r2
   have k2:=cell_of_row _ _ 2 _ _ _ r2
   have k3:=cell_of_row _ _ 3 _ _ _ r2
   simp only [gS] at k0 k1 k2 k3
   obtain ⟨⟨c0,d1⟩,f0,e1⟩:=hr2.facts
   obtain ⟨c1,f1⟩:=hb2.both
   have HC0:=Lib.hid c0
   clear hW2 hB2 hv hr1 hb1 hT1 hJ1 r2 hN2 c0 f0 e1
   cases bad1 with
   | true =>
    have hnone:Bare.readMem s=none:=by
     unfold PostM at hp1
     rw [if_neg (by decide)] at hp1
     cases hq:Bare.readMem s with
     | none=>rfl
     | some z =>
      obtain ⟨m0,r0⟩:=z
      rw [hq] at hp1
      cases hp1.2.2
    have hmem:=Bare.memsL_none hsne hnone
    have hkE:k=(Bare.memsL s0).1.length:=by
     have:=congrArg List.length hinv.out.1
     rw [List.length_drop,hmem] at this
     simp at this
     omega
    have HK:=Lib.hid hkE
    have HE:Hid ((Bare.memsL s0).2=true):=Lib.hid (by rw [hinv.out.2,hmem])
    clear hp1 hinv hkE hmem hnone hv2 k0 k1 k2 k3
    gi_wp2
    refine ⟨(fun f h=>by cases h),?_⟩
    gi_wp2
    refine bodyPost_ret (results_none rfl _ _ _) rfl ?_
    exact ⟨⟨_,rfl⟩,.inl ⟨by rw [← HK.out];exact hJ2,s1,by rw [HE.out];exact hr2⟩⟩
   | false =>
    have hsome:Bare.readMem s=some (m,s1):=by
     unfold PostM at hp1
     rw [if_neg (by decide)] at hp1
     cases hq:Bare.readMem s with
     | none=>rw [hq] at hp1;cases hp1
     | some z =>
      obtain ⟨m0,r0⟩:=z
      rw [hq] at hp1
      obtain ⟨rfl,rfl,-⟩:=hp1
      rfl
    obtain ⟨tl,htl⟩:=memsL_head hsne hsome
    have hkl:k < (Bare.memsL s0).1.length:=by
     have:=congrArg List.length hinv.out.1
     rw [List.length_drop,htl] at this
     simp at this
     omega
    have hLk:(Bare.memsL s0).1.getD k noM=m:=by
     have:=congrArg List.head? hinv.out.1
     rw [List.head?_drop,htl] at this
     rw [List.getD_eq_getElem?_getD,this]
     rfl
    have hsl1':s1.length < s.length:=Bare.readMem_len hsome
    obtain ⟨fn,tmps,assign,body,hy,hR⟩:=hY k #[.agg #[.string K,.bool y,.slice ia il ic,.slice pa pl pc]] W2 hkl ⟨_,rfl,by rw [hLk];exact hv2⟩ hJ2
    have HS:=Lib.hid hsome
    have HI:=Lib.hid hinv.out
    have HR2:=Lib.hid hr2
    have HB2:=Lib.hid hb2
    have HT2:=Lib.hid hT2
    clear hp1 hLk hv2 hsome htl tl hr2 hb2 hT2 hY hinv hJ2
    gi_wp2
    refine ⟨rfl,hR.mono ?_⟩
    clear hy hR
    rintro e W3 (⟨rfl,hJ3,hm3⟩ | ⟨rfl,hJx3⟩)
    ·have hr3:Rdr W3 R s1 false:=hm3.heap HR2.out hSR
     have hb3:=hm3.boxed HB2.out hSB
     have hT3:=hST _ _ HT2.out hm3
     obtain ⟨⟨c0,d1'⟩,f0,e1⟩:=hr3.facts
     obtain ⟨c1',f1'⟩:=hb3.both
     have hem:=tx_empty s1
     obtain ⟨sb1,hsb1⟩:∃ x,tx s1=x:=⟨_,rfl⟩
     have Hsb1:=Lib.hid hsb1
     rw [hsb1] at c0 hem
     clear hsb1 k0 k1 k2 k3 c1 f1 d1 hm3
     cases hs1:s1.isEmpty with
     | true =>
      obtain rfl:s1 = []:=by simpa using hs1
      rw [hs1] at hem
      have hmem:=Bare.memsL_last hsne HS.out
      have hkE:k + 1=(Bare.memsL s0).1.length:=by
       have:=congrArg List.length HI.out.1
       rw [List.length_drop,hmem] at this
       simp at this
       omega
      have HE:Hid ((Bare.memsL s0).2=false):=Lib.hid (by rw [HI.out.2,hmem])
      have HK:=Lib.hid hkE
      clear hkE hmem hs1
      gi_wp2
      refine bodyPost_ret (results_none rfl _ _ _) rfl ?_
      exact ⟨⟨_,rfl⟩,.inl ⟨by rw [← HK.out];exact hJ3,[],by rw [HE.out];exact hr3⟩⟩
     | false =>
      rw [hs1] at hem
      have hs1n:s1 ≠ []:=by rintro rfl;cases hs1
      clear hs1
      gi_upto_region 3 with fail
      gi_wp2
      refine at_round (r:=none) (skip_any R s1 [32,9] false W3 (by decide) (by decide) hr3) ?_
      rintro e w4 ⟨⟨v4,rfl⟩,hr4,hm4⟩
      have hb4:=hm4.boxed hb3 hne
      have hT4:=hT3.modR hr3 hm4
      have hJ4:=hJ _ _ _ hJ3 ⟨hm4,_,_,hr3⟩
      obtain ⟨s2,hs2⟩:∃ x,Bare.skipB [32,9] s1=x:=⟨_,rfl⟩
      have hsl2:s2.length ≤ s1.length:=by rw [← hs2];exact Bare.skip_len _ _
      rw [hs2] at hr4
      have Hs2:=Lib.hid hs2
      clear hs2 hr3 hb3 hT3 hJ3 hm4 c0 d1' f0 e1 c1' f1' hem
      gi_upto_region 4 with fail
      obtain ⟨c1,f1⟩:=hb4.both
      have HR4:=Lib.hid hr4
      have HB4:=Lib.hid hb4
      obtain ⟨b,hbp⟩:∃ b,Lib.hasPrefix s2 [44]=b:=⟨_,rfl⟩
      obtain ⟨s3,hs3⟩:∃ x,Lib.trimPrefix s2 [44]=x:=⟨_,rfl⟩
      clear hbp hs3 HR4 HB4
      refine (wpIn_wide (n:=0)).2 (piece (fun _=>_) (mem4 _ rfl w4 rfl rfl rfl hb4 hr4 hne) ?_)
      rintro ⟨z,dfs⟩ w5 ⟨⟨hs,hd,hq0,hq1,hq2⟩,hr5,hm5⟩
      simp only at hs hd hq0 hq1 hq2
      subst hd
      obtain ⟨u,rfl⟩:=lit52' z hs
      have hp0:u 0 = .func (.yield l) #[] #[]:=hq0
      have hp1:u 1 = .pointer (some ⟨Bx,0,none⟩):=hq1
      have hp2:u 2=undef:=hq2
      rw [hp0,hp1,hp2]
      clear hp0 hq0 hp1 hq1 hp2 hq2 hs
      have hb5:=hm5.boxed hb4 hne
      have hT5:=hT4.modR hr4 hm5
      have hJ5:=hJ _ _ _ hJ4 ⟨hm5,_,_,hr4⟩
      obtain ⟨c1,f1⟩:=hb5.both
      have hsl3:=trim1_len s2 44
      have Hcm:=Lib.hid (fun r2 (e:s2=44::r2)=>Bare.memsL_comma hsne HS.out (show Bare.skipB [32,9] s1=44::r2 by rw [Hs2.out,e]))
      have Hst:=Lib.hid (fun (e:s2.head? ≠ some 44)=>Bare.memsL_stop hsne HS.out hs1n (by rw [Hs2.out];exact e))
      obtain ⟨s3,hs3⟩:∃ x,Lib.trimPrefix s2 [44]=x:=⟨_,rfl⟩
      rw [hs3] at hr5 hsl3
      have HR5:=Lib.hid hr5
      cases hbp:Lib.hasPrefix s2 [44] with
      | false =>
       rw [hbp] at hr5
       have hmem:=Hst.out (pre1_false hbp).1
       have hkE:k + 1=(Bare.memsL s0).1.length:=by
        have:=congrArg List.length HI.out.1
        rw [List.length_drop,hmem] at this
        simp at this
        omega
       have HE:Hid ((Bare.memsL s0).2=true):=Lib.hid (by rw [HI.out.2,hmem])
       have HK:=Lib.hid hkE
       clear hkE hmem hbp hr4 hb4 hs3 Hcm Hst
       gi_wp2
       refine at_round (r:=none) (skip_any R s3 [32,9] true w5 (by decide) (by decide) hr5) ?_
       rintro e w6 ⟨⟨v6,rfl⟩,hr6,hm6⟩
       have hb6:=hm6.boxed hb5 hne
       have hJ6:=hJ _ _ _ hJ5 ⟨hm6,_,_,hr5⟩
       obtain ⟨c6,f6⟩:=hb6.both
       obtain ⟨⟨c0,d1⟩,f0,e1⟩:=hr6.facts
       have hr7:=hr6.set1 true
       have HR6:=Lib.hid hr6
       have hJ7:=hJ _ _ _ hJ6 ⟨ModR.set w6 R 1 (.bool true),_,_,HR6.out⟩
       have HR7:=Lib.hid hr7
       clear c1 f1 hb5 hr5 hJ5 hm6 hr7 hr6
       gi_wp2
       refine bodyPost_ret (results_none rfl _ _ _) rfl ?_
       exact ⟨⟨_,rfl⟩,.inl ⟨by rw [← HK.out];exact hJ7,_,by rw [HE.out];exact HR7.out⟩⟩
      | true =>
       obtain ⟨r2,rfl,q2⟩:=pre1_true hbp
       rw [hs3] at q2
       subst q2
       rw [hbp] at hr5
       have hcm:=Hcm.out _ rfl
       have hr5:Rdr w5 R s3 false:=hr5
       gi_wp2
       refine at_round (r:=none) (skip_any R s3 [32,9] false w5 (by decide) (by decide) hr5) ?_
       rintro e w6 ⟨⟨v6,rfl⟩,hr6,hm6⟩
       have hb6:=hm6.boxed hb5 hne
       have hJ6:=hJ _ _ _ hJ5 ⟨hm6,_,_,hr5⟩
       have hT6:=hT5.modR hr5 hm6
       obtain ⟨c6,f6⟩:=hb6.both
       obtain ⟨s4,hs4⟩:∃ x,Bare.skipB [32,9] s3=x:=⟨_,rfl⟩
       have hsl4:s4.length ≤ s3.length:=by rw [← hs4];exact Bare.skip_len _ _
       rw [hs4] at hr6 hcm
       obtain ⟨⟨c0,d1⟩,f0,e1⟩:=hr6.facts
       have hem:=tx_empty s4
       have HC6:=Lib.hid c0
       obtain ⟨sb4,hsb4⟩:∃ x,tx s4=x:=⟨_,rfl⟩
       rw [hsb4] at c0 hem
       clear hsb4
       have hr7:=hr6.set1 true
       have HR7:=Lib.hid hr7
       have HR6:=Lib.hid hr6
       clear c1 f1 hb5 hJ5 hm6 hr7 hr6 hbp hr4 hb4 hs3 Hcm Hst hs4
       cases hs4e:s4.isEmpty with
       | true =>
        rw [hs4e] at hem
        rw [hs4e,if_pos rfl] at hcm
        have hkE:k + 1=(Bare.memsL s0).1.length:=by
         have:=congrArg List.length HI.out.1
         rw [List.length_drop,hcm] at this
         simp at this
         omega
        have HE:Hid ((Bare.memsL s0).2=true):=Lib.hid (by rw [HI.out.2,hcm])
        have HK:=Lib.hid hkE
        have hJ7:=hJ _ _ _ hJ6 ⟨ModR.set w6 R 1 (.bool true),_,_,HR6.out⟩
        clear hkE hs4e hcm
        gi_wp2
        refine bodyPost_ret (results_none rfl _ _ _) rfl ?_
        exact ⟨⟨_,rfl⟩,.inl ⟨by rw [← HK.out];exact hJ7,_,by rw [HE.out];exact HR7.out⟩⟩
       | false =>
        rw [hs4e] at hem
        rw [hs4e,if_neg (by decide)] at hcm
        have HN:Hid ((Bare.memsL s0).1.drop (k + 1)=(Bare.memsL s4).1∧(Bare.memsL s0).2=(Bare.memsL s4).2):=Lib.hid (by
         have h1:=congrArg List.tail HI.out.1
         rw [List.tail_drop,hcm] at h1
         exact ⟨h1,by rw [HI.out.2,hcm]⟩)
        clear hs4e hcm
        gi_wp2
        go_roundw
        case rel=>exact ⟨k + 1,s4,hJ6,HR6.out,hb6,hT6,HN,hkl,by simp at hsl3 hsl2;omega⟩
        case measure =>
         have e1:left R wr=s.length:=by unfold left;rw [C0.out];exact tx_size _
         have e2:left R w6=s4.length:=by unfold left;rw [HC6.out];exact tx_size _
         rw [e1,e2]
         simp at hsl3 hsl2;omega
    ·gi_wp2
     refine bodyPost_ret (results_none rfl _ _ _) rfl ?_
     exact ⟨⟨_,rfl⟩,.inr ⟨k + 1,hkl,hJx3⟩⟩


theorem setM_set {l:List Bare.Mem} {p:Bare.Mem} (hd:(l.map (·.key)).Nodup) {i:Nat} (hi:i < l.length) (he:(l.getD i noM).key=p.key):Bare.setM l p=l.set i p:=by
 unfold Bare.setM
 have hg:l.getD i noM=l[i]:=by simp [List.getD,hi]
 rw [hg] at he
 rw [if_pos (by
  rw [List.contains_iff_mem,← he]
  exact List.mem_map_of_mem (List.getElem_mem hi))]
 apply List.ext_getElem?
 intro j
 rw [List.getElem?_map,List.getElem?_set]
 by_cases hj:i=j
 ·subst hj
  rw [if_pos rfl,if_pos hi,List.getElem?_eq_getElem hi]
  simp [he]
 ·rw [if_neg hj]
  by_cases hjl:j < l.length
  ·rw [List.getElem?_eq_getElem hjl]
   simp only [Option.map_some]
   rw [if_neg]
   intro e
   have h1:(l.map (·.key))[i]'(by simpa using hi)=(l.map (·.key))[j]'(by simpa using hjl):=by simp [he,e]
   rcases Nat.lt_or_ge i j with h | h
   ·exact (List.pairwise_iff_getElem.1 hd) i j (by simpa using hi) (by simpa using hjl) h h1
   ·exact (List.pairwise_iff_getElem.1 hd) j i (by simpa using hjl) (by simpa using hi) (by omega) h1.symm
  ·rw [List.getElem?_eq_none (by omega)];rfl
theorem setM_add {l:List Bare.Mem} {p:Bare.Mem} (h:∀ i,i < l.length→(l.getD i noM).key ≠ p.key):Bare.setM l p=l ++ [p]:=by
 refine Bare.setM_new fun hm=>?_
 obtain ⟨q,hq,he⟩:=List.mem_map.1 hm
 obtain ⟨i,hi⟩:=List.getElem?_of_mem hq
 obtain ⟨h1,h2⟩:=List.getElem?_eq_some_iff.1 hi
 have hg:l.getD i noM=q:=by simp [List.getD,hi]
 exact h i h1 (by rw [hg];exact he)
theorem setM_nodup {l:List Bare.Mem} {p:Bare.Mem} (hd:(l.map (·.key)).Nodup):((Bare.setM l p).map (·.key)).Nodup:=by
 unfold Bare.setM
 split
 ·rename_i h
  have e:(l.map fun q=>if q.key=p.key then p else q).map (·.key)=l.map (·.key):=by
   rw [List.map_map]
   refine List.map_congr_left fun q _=>?_
   simp only [Function.comp]
   split
   ·rename_i e;exact e.symm
   ·rfl
  rw [e];exact hd
 ·rename_i h
  rw [List.map_append,List.nodup_append]
  refine ⟨hd,by simp,fun a ha b hb=>?_⟩
  simp at hb
  subst hb
  rintro rfl
  exact h (List.contains_iff_mem.2 ha)
theorem setM_len (l:List Bare.Mem) (p:Bare.Mem):(Bare.setM l p).length ≤ l.length + 1:=by
 unfold Bare.setM
 split <;> simp
theorem foldM_len:∀ (L d:List Bare.Mem),(L.foldl Bare.setM d).length ≤ d.length + L.length
 | [],d=>by simp
 | m::L,d=>by
  have:=foldM_len L (Bare.setM d m)
  have:=setM_len d m
  simp only [List.foldl_cons,List.length_cons]
  omega
theorem memsL_count:∀ (n:Nat) (s:Bare.Bs),s.length ≤ n→(Bare.memsL s).1.length ≤ s.length:=by
 intro n
 induction n with
 | zero =>
  intro s hn
  obtain rfl:s = []:=List.length_eq_zero_iff.1 (by omega)
  rw [Bare.memsL_nil];simp
 | succ n ih =>
  intro s hn
  by_cases hs:s = []
  ·subst hs;rw [Bare.memsL_nil];simp
  ·cases h:Bare.readMem s with
   | none=>rw [Bare.memsL_none hs h];simp
   | some y =>
    obtain ⟨m,r⟩:=y
    have hl:=Bare.readMem_len h
    have h1:1 ≤ s.length:=List.length_pos_iff.2 hs
    by_cases hr:r = []
    ·subst hr;rw [Bare.memsL_last hs h];simp;omega
    ·rw [Bare.memsL_some hs h hr]
     split
     ·rename_i r2 h2
      have a2:=Bare.skip_len [32,9] r
      rw [h2] at a2
      have a3:=Bare.skip_len [32,9] r2
      split
      ·simp;omega
      ·have:=ih (Bare.skipB [32,9] r2) (by simp at a2;omega)
       simp at a2 ⊢;omega
     ·simp;omega
def OwD (base:Nat) (W:World) (v:Value) (d:List Bare.Mem):Prop:=∃ iv pv:Nat→Value,OwM base W v d.length (fun i=>mcs (d.getD i noM) (iv i) (pv i))∧∀ i,i < d.length→RdI true W (iv i) (d.getD i noM).items∧RdP true W (pv i) (d.getD i noM).params
theorem OwD.nil (base:Nat) (W:World):OwD base W (.slice none 0 0) []:=⟨fun _=>undef,fun _=>undef,OwM.nil _ _ _ (fun _=>rfl),fun i hi=>by simp at hi⟩
theorem OwD.reads {base:Nat} {W:World} {v:Value} {d:List Bare.Mem} (h:OwD base W v d) (hl:d.length ≤ 2000000):RdD true W v d:=by
 obtain ⟨iv,pv,h1,h2⟩:=h
 exact ⟨iv,pv,h1.row (by omega),fun _=>h1.tag,h2⟩
theorem OwD.slice {base:Nat} {W:World} {v:Value} {d:List Bare.Mem} (h:OwD base W v d):∃ ao cap,v = .slice ao d.length cap:=by
 obtain ⟨iv,pv,h1,h2⟩:=h
 exact h1.slice
theorem OwD.lt {base:Nat} {W:World} {v:Value} {d:List Bare.Mem} (h:OwD base W v d) {g:Nat} (hg:v.ownBlock=some g):base ≤ g∧g < W.heap.size:=by
 obtain ⟨iv,pv,h1,h2⟩:=h
 exact h1.lt hg
theorem OwD.tag {base:Nat} {W:World} {v:Value} {d:List Bare.Mem} (h:OwD base W v d):TagAt W v 44:=by
 obtain ⟨iv,pv,h1,h2⟩:=h
 exact h1.tag
theorem OwD.mods {base:Nat} {W W':World} {v:Value} {d:List Bare.Mem} (h:OwD base W v d) {S:Nat→Prop} (hN:Mods S W W') (hS:∀ g,v.ownBlock=some g→¬ S g) (hP:FarI W S):OwD base W' v d:=by
 obtain ⟨iv,pv,h1,h2⟩:=h
 exact ⟨iv,pv,h1.mods hN hS,fun i hi=>⟨(h2 i hi).1.far hN hP,(h2 i hi).2.far hN hP⟩⟩
theorem OwD.new {base:Nat} {W W':World} {v:Value} {d:List Bare.Mem} (h:OwD base W v d) (hN:New W W'):OwD base W' v d:=h.mods hN (fun _ _ h=>h) (fun _ _ _ _ h=>h.elim)
theorem row_quiet {B:Nat} {W W':World} {v:Value} {n sz:Nat} {f:Nat→List Value} (h:RowR W v n sz f) (q:Quiet B W W'):RowR W' v n sz f:=by
 obtain ⟨hl,ao,cap,rfl,hc⟩:=h
 refine ⟨hl,ao,cap,rfl,fun i hi=>?_⟩
 obtain ⟨b,o,rfl,h⟩:=hc i hi
 exact ⟨b,o,rfl,fun j v hv=>Stab.cell (B:=B) _ _ W W' (h j v hv) q⟩
theorem tag_quiet {B:Nat} {W W':World} {v:Value} {t:TypeId} (h:TagAt W v t) (q:Quiet B W W'):TagAt W' v t:=fun g hg=>by
 obtain ⟨cs,fr,hc⟩:=h g hg
 exact ⟨cs,fr,q.block g _ hc (.inr rfl)⟩
theorem RdP.quiet {B:Nat} {W W':World} {v:Value} {L:List Bare.Par} (h:RdP true W v L) (q:Quiet B W W'):RdP true W' v L:=⟨row_quiet h.1 q,fun _=>tag_quiet (h.2 rfl) q⟩
theorem RdI.quiet {B:Nat} {W W':World} {v:Value} {L:List Bare.Itm} (h:RdI true W v L) (q:Quiet B W W'):RdI true W' v L:=by
 obtain ⟨pv,h1,h2,h3⟩:=h
 exact ⟨pv,row_quiet h1 q,fun _=>tag_quiet (h2 rfl) q,fun i hi=>(h3 i hi).quiet q⟩
theorem RdM.quiet {B:Nat} {W W':World} {v:Value} {m:Bare.Mem} (h:RdM true W v m) (q:Quiet B W W'):RdM true W' v m:=by
 obtain ⟨iv,pv,e,h,h'⟩:=h
 exact ⟨iv,pv,e,h.quiet q,h'.quiet q⟩
theorem OwD.quiet {base B:Nat} {W W':World} {v:Value} {d:List Bare.Mem} (h:OwD base W v d) (q:Quiet B W W'):OwD base W' v d:=by
 obtain ⟨iv,pv,h1,h2⟩:=h
 exact ⟨iv,pv,⟨h1.1,h1.2.1,Stab.ownsRow (B:=B) _ _ _ _ _ _ W W' h1.2.2 q⟩,fun i hi=>⟨(h2 i hi).1.quiet q,(h2 i hi).2.quiet q⟩⟩
theorem run_append_D {o:Oper} {a:Act} {w W:World} {s x:Operand} {base:Nat} {v:Value} {d:List Bare.Mem} {m:Bare.Mem} {ia pa:Option Addr} {il ic pl pc:Nat} (hop:o.op = .call { callee:=.builtin .append,args:=#[s,x],argTypes:=#[36,36] })
  (hs:a.eval s=v) (hx:a.eval x = .slice (some ⟨w.heap.size,0,none⟩) 1 1) (hW:w.alloc (.cells (mcs m (.slice ia il ic) (.slice pa pl pc)).toArray 44)=W) (hown:OwD base w v d) (hi:RdI true w (.slice ia il ic) m.items) (hp:RdP true w (.slice pa pl pc) m.params) (hn:d.length ≤ 2000000) (hbase:base ≤ w.heap.size) :
  ∃ v' W',(execOp a.eval o).run Tryz.prog W = .ok (.value v') W'∧OwD base W' v' (d ++ [m])∧∀ (w0:World) (S:Nat→Prop),Mods S w0 w→(∀ g,v.ownBlock=some g→w0.heap.size ≤ g ∨ S g)→Mods S w0 W':=by
 have h0:=hown
 obtain ⟨iv,pv,h1,h2⟩:=hown
 obtain ⟨v',W',hr,ho,hm⟩:=run_append_M hop hs hx hW rfl (mcs_one _ _ _ _ _ _ _ _) h1 hn hbase
 refine ⟨v',W',hr,?_,hm⟩
 have hmm:=hm w (fun b=>v.ownBlock=some b) (Mods.refl _ _) (fun g hg=>.inr hg)
 have htag:=h0.tag
 have hfar:FarI w (fun b=>v.ownBlock=some b):=fun g cs t fr hg hc=>by
  obtain ⟨cs',fr',hc'⟩:=htag g hg
  rw [hc'] at hc;cases hc;decide
 refine ⟨fun i=>if i=d.length then .slice ia il ic else iv i,fun i=>if i=d.length then .slice pa pl pc else pv i,?_,fun i hi'=>?_⟩
 ·rw [List.length_append]
  refine ho.congr (fun _=>rfl) fun i hi=>?_
  dsimp only
  rw [getD_snoc]
  by_cases e:i=d.length
  ·subst e;rw [if_pos rfl,if_neg (by omega),if_pos rfl,if_pos rfl,if_pos rfl]
  ·rw [if_neg e,if_pos (by omega),if_neg e,if_neg e]
 ·dsimp only
  rw [getD_snoc]
  rw [List.length_append] at hi'
  have hi':i < d.length + 1:=hi'
  by_cases e:i=d.length
  ·subst e;rw [if_pos rfl,if_neg (by omega),if_pos rfl,if_pos rfl];exact ⟨hi.far hmm hfar,hp.far hmm hfar⟩
  ·rw [if_neg e,if_pos (by omega),if_neg e];exact ⟨(h2 i (by omega)).1.far hmm hfar,(h2 i (by omega)).2.far hmm hfar⟩
theorem OwD.put {base g cap:Nat} {W:World} {d:List Bare.Mem} {m:Bare.Mem} {ia pa:Option Addr} {il ic pl pc i:Nat} (h:OwD base W (.slice (some ⟨g,0,none⟩) d.length cap) d) (hi:i < d.length) (hI:RdI true W (.slice ia il ic) m.items) (hP:RdP true W (.slice pa pl pc) m.params) :
  OwD base (W.setCells g (i * 4) (mcs m (.slice ia il ic) (.slice pa pl pc))) (.slice (some ⟨g,0,none⟩) (d.set i m).length cap) (d.set i m):=by
 have htag:=h.tag
 obtain ⟨iv,pv,h1,h2⟩:=h
 have hput:=h1.put hi (.string (tx m.key)) (.bool m.inner) (.slice ia il ic) (.slice pa pl pc) (mcs_one _ _ _ _ _ _ _ _)
 have hmm:Mods (fun x=>x=g) W (W.setCells g (i * 4) (mcs m (.slice ia il ic) (.slice pa pl pc))):=setCells_mods _ _ _ _
 have hfar:FarI W (fun x=>x=g):=fun b cs t fr hb hc=>by
  subst hb
  obtain ⟨cs',fr',hc'⟩:=htag b rfl
  rw [hc'] at hc;cases hc;decide
 refine ⟨fun j=>if j=i then .slice ia il ic else iv j,fun j=>if j=i then .slice pa pl pc else pv j,?_,fun j hj=>?_⟩
 ·rw [List.length_set]
  refine OwM.congr hput (fun _=>rfl) fun j hj=>?_
  dsimp only
  rw [getD_set]
  by_cases e:j=i
  ·subst e;rw [if_pos rfl,if_pos ⟨rfl,hj⟩,if_pos rfl,if_pos rfl];rfl
  ·rw [if_neg e,if_neg (fun h=>e h.1.symm),if_neg e,if_neg e]
 ·dsimp only
  rw [List.length_set] at hj
  rw [getD_set]
  by_cases e:j=i
  ·subst e;rw [if_pos rfl,if_pos ⟨rfl,hj⟩,if_pos rfl];exact ⟨hI.far hmm hfar,hP.far hmm hfar⟩
  ·rw [if_neg e,if_neg (fun h=>e h.1.symm),if_neg e];exact ⟨(h2 j hj).1.far hmm hfar,(h2 j hj).2.far hmm hfar⟩


theorem same_mem (B:Nat) (p q:Bare.Mem) (ia pa:Option Addr) (il ic pl pc:Nat) (cs:List Value) (w:World) (h:w.heap[B]? = some (.cells (.string (tx p.key)::cs).toArray 44 (0,0))) :
  Calls Tryz.prog 75 #[.agg (mcs q (.slice ia il ic) (.slice pa pl pc)).toArray,.pointer (some ⟨B,0,none⟩)] w fun e w'=>e = .returned (.bool (decide (q.key=p.key)))∧New w w':=by
 have k0:w.cell? ⟨B,0,none⟩=some (.string (tx p.key)):=by rw [cell_of_row _ _ 0 _ _ _ h];rfl
 have he:=eq_tx (tx q.key) (tx p.key)
 rw [bl_tx,bl_tx] at he
 obtain ⟨d,hd⟩:∃ d,decide (q.key=p.key)=d:=⟨_,rfl⟩
 rw [hd] at he ⊢
 unfold mcs
 obtain ⟨kq,y,its,ps⟩:=q
 simp only at he ⊢
 obtain ⟨P,hP⟩:∃ x,tx p.key=x:=⟨_,rfl⟩
 obtain ⟨Q,hQ⟩:∃ x,tx kq=x:=⟨_,rfl⟩
 rw [hP] at k0 he
 rw [hQ] at he ⊢
 clear hP hQ hd h
 have hN:New w (w.alloc (.cells #[.string Q,.bool y,.slice ia il ic,.slice pa pl pc] 44)):=(Mods.refl _ _).alloc _
 have hr:=World.alloc_heap_new w (.cells #[.string Q,.bool y,.slice ia il ic,.slice pa pl pc] 44)
 have k1:=hN.cell k0 id
 have k2:=cell_of_row _ _ 0 _ _ _ hr
 simp only [gS] at k2
 go_enter Tryz.func75,Tryz.ntmps75
 go_upto_region 1 with fail
 obtain ⟨W,hW⟩:∃ W,w.alloc (.cells #[.string Q,.bool y,.slice ia il ic,.slice pa pl pc] 44)=W:=⟨_,rfl⟩
 rw [hW] at k1 k2 hN ⊢
 clear hW hr
 go_wp2_with fail
 go_ret
 exact ⟨rfl,hN⟩
theorem members_any (R:Nat) (w:World):Calls Tryz.prog 73 #[.pointer (some ⟨R,0,none⟩)] w fun e w'=>e = .returned (.func (.func 130) #[] #[.pointer (some ⟨w.heap.size,0,none⟩)])∧w.alloc (.cells #[.pointer (some ⟨R,0,none⟩)] 88)=w':=by
 go_enter Tryz.func73,Tryz.ntmps73
 go_wp2
 go_ret
 exact ⟨rfl,rfl⟩
theorem dw_nil (p:UInt8→Bool):∀ l:Bare.Bs,l.dropWhile p = [] ↔ ∀ x ∈ l,p x=true
 | []=>by simp
 | c::r=>by
  rw [List.dropWhile_cons]
  by_cases hc:p c=true
  ·rw [if_pos hc,dw_nil p r];simp [hc]
  ·rw [if_neg hc];simp [hc]
theorem rev_drop (p:UInt8→Bool):∀ l:Bare.Bs,((l.dropWhile p).reverse.dropWhile p).reverse=((l.reverse.dropWhile p).reverse).dropWhile p
 | []=>rfl
 | c::r=>by
  by_cases hc:p c=true
  ·rw [List.dropWhile_cons,if_pos hc,rev_drop p r]
   rw [List.reverse_cons]
   by_cases hr:(r.reverse.dropWhile p) = []
   ·have hall:∀ x ∈ r.reverse,p x=true:=by
     exact (dw_nil p _).1 hr
    have e:(r.reverse ++ [c]).dropWhile p = []:=(dw_nil p _).2 (fun x hx=>by
     rcases List.mem_append.1 hx with h | h
     ·exact hall x h
     ·simp at h;subst h;exact hc)
    rw [hr,e]
   ·have e:(r.reverse ++ [c]).dropWhile p=r.reverse.dropWhile p ++ [c]:=by
     rw [List.dropWhile_append,if_neg (by simpa using hr)]
    rw [e,List.reverse_append,List.reverse_singleton,List.singleton_append,List.dropWhile_cons,if_pos hc]
  ·have hc:p c=false:=by simpa using hc
   rw [List.dropWhile_cons,if_neg (by rw [hc];decide),List.reverse_cons]
   have e:(r.reverse ++ [c]).dropWhile p=r.reverse.dropWhile p ++ [c]:=by
    rw [List.dropWhile_append]
    split
    ·rename_i h
     have h:r.reverse.dropWhile p = []:=by simpa using h
     rw [h];simp [hc]
    ·rfl
   rw [e,List.reverse_append,List.reverse_singleton,List.singleton_append,List.dropWhile_cons,if_neg (by rw [hc];decide)]
theorem one_contains (c:UInt8):([c]:List UInt8).contains=(fun x=>x == c):=by
 funext x
 by_cases h:x=c
 ·subst h;simp
 ·have h2:(x == c)=false:=by simpa using h
  rw [h2];simp [h]
theorem trim_eq (l:Bare.Bs):Lib.trimB l 32=Bare.trimR 32 (Bare.skipB [32] l):=by
 unfold Lib.trimB Lib.trimLeftB Lib.trimRightB Bare.trimR Bare.skipB
 rw [one_contains,← rev_drop]
theorem trim_any (s:ByteArray) (w:World) (hs:s.size ≤ 1000000):Calls Tryz.prog 72 #[.string s,.string ⟨#[32]⟩] w fun e w'=>e = .returned (.string (tx (Bare.trimR 32 (Bare.skipB [32] (bl s)))))∧New w w' :=
 (Tryz.strings_Trim_one s 32 (by decide) w (by omega)).mono fun e w' ⟨he,hw⟩=>⟨by rw [he,trim_eq],by
  rcases hw with rfl | rfl
  ·exact Mods.refl _ _
  ·exact (Mods.refl _ _).drew⟩
theorem Tab.modS {W W':World} {S:Nat→Prop} (h:Tab W) (hm:Mods S W W') (h1:¬ S 1) (h2:¬ S 0):Tab W':=by
 refine ⟨?_,?_⟩
 ·have hp:=h.pow
  unfold Lib.TabIs at hp ⊢
  simp only [World.var?,gPow,Option.bind_some] at hp ⊢
  split at hp
  ·rename_i cs t fr he
   rw [hm.heap he h1]
   exact hp
  ·cases hp
 ·obtain ⟨m,hmm⟩:=h.max
  exact ⟨m,hm.cell hmm h2⟩
theorem Tab.lt {W:World} (h:Tab W):1 < W.heap.size∧0 < W.heap.size:=by
 constructor
 ·have hp:=h.pow
  unfold Lib.TabIs at hp
  simp only [World.var?,gPow,Option.bind_some] at hp
  split at hp
  ·rename_i cs t fr he
   exact (Array.getElem?_eq_some_iff.1 he).1
  ·cases hp
 ·obtain ⟨m,hmm⟩:=h.max
  obtain ⟨o,ho,_⟩:=cells_of_cell hmm
  exact (Array.getElem?_eq_some_iff.1 ho).1


theorem results_box_t {fn:Func} {p q:Tmp} {ty:TypeId} {e:TypeId} (hu:Tryz.prog.underlying ty=some (.slice e)) (h:fn.results = #[.cell p ty,.tmp q]) (tmps:Array Value) (w:World) (B:Nat) (v u:Value) (hp:tmps.getD p undef = .pointer (some ⟨B,0,none⟩)) (hq:tmps.getD q undef=u) (hb:Boxed w B ty v) :
  (results fn tmps).run Tryz.prog w = .ok (.tuple #[v,u]) w:=by
 have hp':tmps[p]?.getD undef = .pointer (some ⟨B,0,none⟩):=by simpa using hp
 have hq':tmps[q]?.getD undef=u:=by simpa using hq
 have c:=hb.cell
 have hagg:(isAgg ty).run Tryz.prog w = .ok false w:=by
  unfold isAgg
  rw [Sem.run_bind,run_underlying hu w]
  simp
 simp [results,h,hp',hq',asAddr,loadVar,c,go_sem,hagg]
theorem trimR_len (c:UInt8) (l:Bare.Bs):(Bare.trimR c l).length ≤ l.length:=by
 unfold Bare.trimR
 rw [List.length_reverse]
 have:=Bare.drop_len (· == c) l.reverse
 rw [List.length_reverse] at this
 exact this
theorem opIn_value1 {r:Option Nat} {ops:Array Oper} {Q:Exit→Act→World→Prop} {rest:List Oper} {o:Oper} {a:Act} {w w':World} {v:Value} (hp:plainOp o=true) (hg:o.guard=none) (hr:(execOp a.eval o).run Tryz.prog w = .ok (.value v) w') (h:wpListIn (Fr r) 0 Tryz.prog ops Q rest (a.put o.dst v) w'):wpListIn (Fr r) 0 Tryz.prog ops Q (o::rest) a w:=by
 simp only [wpListIn,Region.wanted,hg,if_true,Oper.wpIn,semAt_plain hp,hr]
 exact ⟨fun _ _=>trivial,h⟩
theorem opIn_got1 {r:Option Nat} {ops:Array Oper} {Q:Exit→Act→World→Prop} {rest:List Oper} {o:Oper} {a:Act} {w:World} {R:Value→World→Prop} (hp:plainOp o=true) (hg:o.guard=none) (hr:∃ v w',(execOp a.eval o).run Tryz.prog w = .ok (.value v) w'∧R v w') (h:∀ v w',R v w'→wpListIn (Fr r) 0 Tryz.prog ops Q rest (a.put o.dst v) w'):wpListIn (Fr r) 0 Tryz.prog ops Q (o::rest) a w:=by
 obtain ⟨v,w',h1,h2⟩:=hr
 exact opIn_value1 hp hg h1 (h v w' h2)
theorem opIn_skip1 {r:Option Nat} {ops:Array Oper} {Q:Exit→Act→World→Prop} {rest:List Oper} {o:Oper} {a:Act} {w w':World} (hp:plainOp o=true) (hg:o.guard=none) (hd:o.dst=none) (hr:(execOp a.eval o).run Tryz.prog w = .ok .skip w') (h:wpListIn (Fr r) 0 Tryz.prog ops Q rest a w'):wpListIn (Fr r) 0 Tryz.prog ops Q (o::rest) a w:=by
 simp only [wpListIn,Region.wanted,hg,if_true,Oper.wpIn,semAt_plain hp,hr]
 refine ⟨fun _ _=>trivial,show wpListIn (Fr r) 0 Tryz.prog ops Q rest (a.put o.dst undef) w' from ?_⟩
 rw [hd]
 exact h
theorem run_store_mid {o:Oper} {a:Act} {w:World} (ty:TypeId) (x y:Operand) (ho:o.op = .store ty x y) (b off:Nat) (cells:List Value) (hx:a.eval x = .pointer (some ⟨b,off,none⟩)) (hy:a.eval y = .agg cells.toArray)
  (ht:w.there b off cells.length) (hi:(Tryz.prog.info? ty).map (·.size)=some cells.length) (h1:∀ v ∈ cells,v.oneCell'=true):(execOp a.eval o).run Tryz.prog w = .ok .skip (w.setCells b off cells):=by
 have:=run_storeAt_mid (P:=Tryz.prog) w b off ty cells.toArray (by simpa using ht) (by simpa using hi) (all_oneCell_toArray h1)
 unfold execOp
 simp only [ho,hx,hy,this,Sem.run_bind,Result.andThen_ok]
 rfl
theorem OwM.there {base g cap n i:Nat} {W:World} {f:Nat→List Value} (h:OwM base W (.slice (some ⟨g,0,none⟩) n cap) n f) (hi:i < n):W.there g (i * 4) 4:=fun j hj=>by
 obtain ⟨ao,cap',e,hc⟩:=rows_ofOwns (show 0 < 4 by decide) h.1 h.2.2
 cases e
 obtain ⟨b,o,e,hr⟩:=hc i hi
 cases e
 rw [Nat.zero_add] at hr
 obtain ⟨a,b,c,d,hf⟩:=len4 (h.1 i)
 rw [hf] at hr
 obtain ⟨c0,c1,c2,c3⟩:=cells4 hr
 have:j=0 ∨ j=1 ∨ j=2 ∨ j=3:=by omega
 refine ⟨?_,h.frozen rfl _⟩
 rcases this with rfl | rfl | rfl | rfl
 ·rw [Nat.add_zero,c0];rfl
 ·rw [c1];rfl
 ·rw [c2];rfl
 ·rw [c3];rfl
def PostD (s:Bare.Bs) (w:World) (e:Ending) (w':World):Prop:=∃ v z,e = .returned (.tuple #[v,.int .i64 z])∧New w w'∧match Bare.parseD s with
 | some d=>z=0∧RdD true w' v d∧d.length ≤ s.length
 | none=>z=130∧v = .slice none 0 0
theorem lit32 (t:Array Value) (h:t.size=32):∃ u:Nat→Value,t=(u 0::u 1::u 2::u 3::u 4::u 5::u 6::u 7::u 8::u 9::u 10::u 11::u 12::u 13::u 14::u 15::u 16::u 17::u 18::u 19::u 20::u 21::u 22::u 23::u 24::u 25::u 26::u 27::u 28::u 29::u 30::u 31::([]:List Value)).toArray:=⟨fun i=>t.getD i undef,range_lit t 32 h⟩
theorem parse_d (s:ByteArray) (w:World) (hs:s.size ≤ 1000000) (hT:Tab w):Calls Tryz.prog 21 #[.string s] w (PostD (bl s) w):=by
 obtain ⟨t,ht⟩:∃ t,Bare.trimR 32 (Bare.skipB [32] (bl s))=t:=⟨_,rfl⟩
 have htl:t.length ≤ s.size:=by
  rw [← ht,← bl_len]
  have h1:=Bare.skip_len [32] (bl s)
  have h2:=trimR_len 32 (Bare.skipB [32] (bl s))
  omega
 have hpd:Bare.parseD (bl s)=if (Bare.memsL t).2 then none else some ((Bare.memsL t).1.foldl Bare.setM []):=by
  unfold Bare.parseD
  rw [ht]
  exact Bare.readD_mems _ _ _ (Nat.le_refl _)
 have hcnt:=memsL_count _ t (Nat.le_refl _)
 have hTr:=Lib.hid (fun W=>trim_any s W hs)
 rw [ht] at hTr
 have hbl:=bl_len s
 unfold PostD
 rw [hpd]
 obtain ⟨L,hL⟩:∃ L,(Bare.memsL t).1=L:=⟨_,rfl⟩
 obtain ⟨bd,hbd⟩:∃ b,(Bare.memsL t).2=b:=⟨_,rfl⟩
 rw [hL,hbd]
 rw [hL] at hcnt
 have HL:=Lib.hid hL
 have HBD:=Lib.hid hbd
 have hfl:=foldM_len L []
 simp only [List.length_nil,Nat.zero_add] at hfl
 clear hpd ht hL hbd
 refine calls_of_marks Tryz.func21 rfl ?_
 simp only [Tryz.ntmps21,List.size_toArray,List.length_cons,List.length_nil,Nat.reduceAdd,Nat.reduceSub,Array.replicate_succ,Array.replicate_zero,List.push_toArray,List.append_toArray,List.nil_append,List.cons_append]
 go_upto_region 1 with fail
 refine wp_scope_fwd 0 (fun a W=>(a.tmps.size=32∧a.tmps.getD 2 undef = .pointer (some ⟨w.heap.size,0,none⟩))∧(∃ D,a.defers = [{ target:=.collected D,args:=#[] }]∧w.heap.size < D∧W.heap[D]? = some (.deferred (some [])))∧New w W∧(∃ v,Boxed W w.heap.size 36 v)∧bd=true) rfl ?first ?pass
 case pass =>
  rintro ⟨z,dfs⟩ W ⟨⟨hsz,hq2⟩,⟨D,hd,hDl,hD⟩,hN,⟨v,hb⟩,rfl⟩
  simp only at hsz hq2 hd
  subst hd
  obtain ⟨u,rfl⟩:=lit32 z hsz
  have hp2:u 2 = .pointer (some ⟨w.heap.size,0,none⟩):=hq2
  rw [hp2]
  obtain ⟨c0,f0⟩:=hb.both
  have HB:=Lib.hid hb
  have HD:=Lib.hid hD
  clear hb hD hsz hq2 hp2
  go_wp2_with fail
  have hb':=HB.out.set (.slice none 0 0)
  have hbp:Boxed ((W.setCell ⟨w.heap.size,0,none⟩ (.slice none 0 0)).putObj D (.deferred none)) w.heap.size 36 (.slice none 0 0):=(World.putObj_heap_other (by omega)).trans hb'
  refine marks_one rfl ((setMods W w.heap.size 0 _).block _ _ HD.out (.inr rfl)) (v:=.tuple #[.slice none 0 0,.int .i64 130]) (results_box_t Tryz.underlying36 rfl _ _ w.heap.size _ _ rfl rfl hbp) ⟨_,_,rfl,?_,by simp⟩
  exact (hN.setCell (p:=⟨w.heap.size,0,none⟩) (.inl (Nat.le_refl _)) _).putObj (by omega) _
 case first =>
  go_wp2_with fail
  refine (hTr.out _).mono ?_
  rintro e w2 ⟨rfl,hN2⟩
  have hb0:=Boxed.new w 36 (.slice none 0 0)
  have hN1:New w (w.alloc (.cells #[.slice none 0 0] 36)):=(Mods.refl _ _).alloc _
  have hb2:=hN2.boxed hb0 id
  have hNN2:=hN1.trans hN2
  obtain ⟨B,hB⟩:∃ B,w.heap.size=B:=⟨_,rfl⟩
  have hBw:w.heap.size ≤ B:=by omega
  rw [hB] at hb2 ⊢
  obtain ⟨T,hTx⟩:∃ x,tx t=x:=⟨_,rfl⟩
  have HTx:=Lib.hid hTx
  rw [hTx]
  clear hb0 hN1 hN2 hTx hTr
  go_upto_region 2 with fail
  obtain ⟨w3,hW3⟩:∃ w3,w2.alloc (.cells #[.string T,.bool false] 90)=w3:=⟨_,rfl⟩
  have hN3:New w2 w3:=by rw [← hW3];exact (Mods.refl _ _).alloc _
  have hr3:Rdr w3 w2.heap.size t false:=by unfold Rdr;rw [HTx.out,← hW3];exact World.alloc_heap_new _ _
  rw [hW3]
  have hb3:=hN3.boxed hb2 id
  have hNN3:=hNN2.trans hN3
  have hBl:=hb2.lt
  obtain ⟨R,hR⟩:∃ R,w2.heap.size=R:=⟨_,rfl⟩
  rw [hR] at hr3 hBl ⊢
  clear hW3 hR hb2 hN3 hNN2
  go_wp2_with fail
  refine (members_any R w3).mono ?_
  rintro e w4 ⟨rfl,hw4⟩
  have hN4:New w3 w4:=by rw [← hw4];exact (Mods.refl _ _).alloc _
  have hbx:Boxed w4 w3.heap.size 88 (.pointer (some ⟨R,0,none⟩)):=by rw [← hw4];exact Boxed.new _ _ _
  have hsz4:w4.heap.size=w3.heap.size + 1:=by rw [← hw4];simp
  have hr4:=hr3.new hN4
  have hb4:=hN4.boxed hb3 id
  have hNN4:=hNN3.trans hN4
  have hRl:=hr3.lt
  obtain ⟨X,hX⟩:∃ X,w3.heap.size=X:=⟨_,rfl⟩
  rw [hX] at hbx hsz4 hRl ⊢
  have hXl:X < w4.heap.size:=by omega
  have hRl4:R < w4.heap.size:=by omega
  have hT4:=hT.new hNN4
  clear hw4 hX hr3 hb3 hNN3 hN4 hsz4
  go_wp2_with fail
  have hTl:=hT.lt
  refine wp_rangeX2 (gf:=130) (lb:=#[.pointer (some ⟨X,0,none⟩)]) rfl (enters_of Tryz.func130 (by kernel_rfl) rfl) L.length (ElM L) (fun b=>b=B ∨ w4.heap.size ≤ b) (fun A A'=>ModR R A A'∧∃ s bad,Rdr A R s bad) (fun W=>∃ s,Rdr W R s bd)
   (fun W W' ⟨s,h⟩ q=>⟨s,q.block R _ h (.inr rfl)⟩)
   (fun W hW=>by
    have:=members_iter R X t (fun b=>b=B ∨ w4.heap.size ≤ b) W (by omega) (hr4.new hW) (hW.boxed hbx id) (hT4.new hW) (by omega) (by omega) (fun A A' hA hm=>hA.modS hm (by omega) (by omega))
    rw [HL.out,HBD.out] at this
    exact this)
   (fun k x W h=>by obtain ⟨v,rfl,_⟩:=h;rfl)
   (fun k W=>∃ v,Boxed W B 36 v∧OwD w4.heap.size W v ((L.take k).foldl Bare.setM [])∧(((L.take k).foldl Bare.setM []).map fun m:Bare.Mem=>m.key).Nodup∧Mods (fun b=>b=B ∨ b=R) w4 W)
   (fun _ _ _=>False)
   (fun A A' h k o hk ho=>h.1.block k o hk (.inr ho))
   (fun k A A' ⟨v,h1,h2,h3,h4⟩ ⟨hm,s,bad,hr⟩=>⟨v,hm.boxed h1 (by omega),h2.mods hm (fun g hg e=>by have:=(h2.lt hg).1;omega) (fun g cs t fr hg hc=>by subst hg;rw [show A.heap[g]? = _ from hr] at hc;cases hc;decide),h3,h4.trans (hm.mono fun b hb=>.inr hb)⟩)
   (fun c k A A' h _=>h)
   (fun k W W' ⟨v,h1,h2,h3,h4⟩ q=>⟨v,Stab.boxed (B:=w4.heap.size) _ _ _ W W' h1 q,h2.quiet q,h3,Stab.mods (Nat.le_refl _) W W' h4 q⟩)
   (fun c k W W' h _=>h)
   ⟨.slice none 0 0,hb4,.nil _ _,by simp,Mods.refl _ _⟩ ?round ?done ?stop
  case stop=>intro c k W hk h;exact h.elim
  case done =>
   rintro W ⟨v,hb,ho,hnd,hm⟩ ⟨s',hr⟩ hD
   rw [List.take_length] at ho
   obtain ⟨va,vc,rfl⟩:=ho.slice
   have HO:=Lib.hid ho
   have HB:=Lib.hid hb
   have HD:=Lib.hid hD
   obtain ⟨⟨d0,d1⟩,g0,g1⟩:=hr.facts
   obtain ⟨c0,f0⟩:=hb.both
   have hNW:New w W:=((Mods.ofNew hNN4).trans hm).new (by omega)
   clear d0 g0 hD
   cases bd with
   | true =>
    go_wp2_with fail
    exact wp_goto (And.intro rfl ⟨⟨rfl,by rw [hB];rfl⟩,⟨_,rfl,by omega,HD.out⟩,hNW,⟨_,by rw [hB];exact HB.out⟩,rfl⟩)
   | false =>
    go_wp2_with fail
    simp only [Exit.jump]
    obtain ⟨V,hV⟩:∃ V,(Value.slice va (L.foldl Bare.setM []).length vc)=V:=⟨_,rfl⟩
    rw [hV] at HB HO ⊢
    have hbs:=HB.out.set V
    have hbp:Boxed ((W.setCell ⟨B,0,none⟩ V).putObj w4.heap.size (.deferred none)) B 36 V:=(World.putObj_heap_other (by omega)).trans hbs
    have hDs:=(setMods W B 0 V).block _ _ HD.out (.inr rfl)
    have ho2:OwD w4.heap.size (W.setCell ⟨B,0,none⟩ V) V (L.foldl Bare.setM []):=HO.out.mods (setMods W B 0 V) (fun g hg e=>by have:=(HO.out.lt hg).1;omega) (fun g cs t fr hg hc=>by
     subst hg
     rw [show W.heap[g]? = _ from HB.out] at hc
     cases hc;decide)
    have ho3:=ho2.quiet (Quiet.putObj (.deferred none) hDs rfl (Nat.le_refl _))
    refine marks_one rfl hDs (v:=.tuple #[V,.int .i64 0]) (results_box_t Tryz.underlying36 rfl _ _ B _ _ rfl rfl hbp) ⟨_,_,rfl,(hNW.setCell (p:=⟨B,0,none⟩) (.inl hBw) _).putObj (by omega) _,?_⟩
    exact ⟨rfl,ho3.reads (by omega),by omega⟩
  case round =>
   intro l k x W hk ⟨xv,hxe,hx⟩ hl hrl ⟨v,hb,ho,hnd,hm⟩
   subst hxe
   obtain ⟨m,hme⟩:∃ m,L.getD k noM=m:=⟨_,rfl⟩
   rw [hme] at hx
   obtain ⟨ia,il,ic,pa,pl,pc,rfl⟩:=hx.open
   have Hnx:Hid ((L.take (k + 1)).foldl Bare.setM []=Bare.setM ((L.take k).foldl Bare.setM []) m):=Lib.hid (by
    rw [List.take_add_one,List.getElem?_eq_getElem hk,List.foldl_append]
    have:L[k]=m:=by rw [← hme];simp [List.getD,hk]
    rw [this];rfl)
   have hdl:((L.take k).foldl Bare.setM []).length ≤ 2000000:=by
    have:=foldM_len (L.take k) []
    rw [List.length_take] at this
    simp at this;omega
   obtain ⟨d,hd⟩:∃ d,(L.take k).foldl Bare.setM []=d:=⟨_,rfl⟩
   rw [hd] at ho hnd hdl Hnx
   obtain ⟨K,hK⟩:∃ x,tx m.key=x:=⟨_,rfl⟩
   obtain ⟨y,hy⟩:∃ x,m.inner=x:=⟨_,rfl⟩
   rw [hK,hy] at hx ⊢
   have HK:=Lib.hid hK
   have HY:=Lib.hid hy
   clear hd hK hy hme
   gi_wp2
   refine ⟨(Mods.refl _ _).alloc _,fun W2 hq hr2=>?_⟩
   have hN1:New W (W.alloc (.cells #[.string K,.bool y,.slice ia il ic,.slice pa pl pc] 44)):=(Mods.refl _ _).alloc _
   have r5:=hq.block _ _ (World.alloc_heap_new W (.cells #[.string K,.bool y,.slice ia il ic,.slice pa pl pc] 44)) (.inr rfl)
   have ho2:=(ho.new hN1).quiet hq
   have hb2:=Stab.boxed (B:=w4.heap.size) _ _ _ _ _ (hN1.boxed hb id) hq
   have hx2:=(hx.new hN1).quiet hq
   have hm2:=Stab.mods (Nat.le_refl _) _ _ (hm.trans (Mods.ofNew hN1)) hq
   have hBW:=hm.size
   obtain ⟨B5,hB5⟩:∃ B5,W.heap.size=B5:=⟨_,rfl⟩
   rw [hB5] at r5 hBW ⊢
   obtain ⟨iv,pv,hxe,hxi,hxp⟩:=hx2
   obtain ⟨rfl,rfl⟩:Value.slice ia il ic=iv∧Value.slice pa pl pc=pv:=by
    unfold mcs at hxe
    injection hxe with hxe
    have:=congrArg Array.toList hxe
    simp at this
    exact ⟨this.2.2.1,this.2.2.2⟩
   obtain ⟨va,vc,rfl⟩:=ho2.slice
   have hIdx:Hid (∀ W',W'.heap[B5]? = some (.cells #[.string K,.bool y,.slice ia il ic,.slice pa pl pc] 44 (0,0))→OwD w4.heap.size W' (.slice va d.length vc) d→Calls Tryz.prog 74 #[.slice va d.length vc,.func (.func 75) #[] #[.pointer (some ⟨B5,0,none⟩)]] W' fun e w'=>e = .returned (.int .i64 (firstFrom (fun i=>decide ((d.getD i noM).key=m.key)) d.length))∧New W' w'):=Lib.hid fun W' h5 hd=>by
    obtain ⟨iv',pv',q1,q2⟩:=hd
    refine index_M 75 #[.pointer (some ⟨B5,0,none⟩)] d.length (fun i j=>(mcs (d.getD i noM) (iv' i) (pv' i)).getD j undef) (fun W=>W.heap[B5]? = some (.cells #[.string K,.bool y,.slice ia il ic,.slice pa pl pc] 44 (0,0))) (fun W W' h hN=>hN.heap h id) (fun i=>decide ((d.getD i noM).key=m.key)) (fun i W1 hi hW=>?_) (enters_of Tryz.func75 (by kernel_rfl) rfl) _ W' (q1.row (by omega)) h5
    obtain ⟨a1,c1,e1⟩:=(q2 i hi).1.slice
    obtain ⟨a2,c2,e2⟩:=(q2 i hi).2.slice
    have:=same_mem B5 m (d.getD i noM) a1 a2 (d.getD i noM).items.length c1 (d.getD i noM).params.length c2 [.bool y,.slice ia il ic,.slice pa pl pc] W1 (by rw [HK.out];exact hW)
    rw [← e1,← e2] at this
    exact this
   obtain ⟨c0,f0⟩:=hb2.both
   have HB2:=Lib.hid hb2
   have HO2:=Lib.hid ho2
   have HX:=Lib.hid hxi
   have HP:=Lib.hid hxp
   have HR5:=Lib.hid r5
   have HM2:=Lib.hid hm2
   clear hB5 hx hm hb ho hN1 hxe hq
   by_cases hex:∃ i,i < d.length∧(d.getD i noM).key=m.key∧∀ j,j < i→(d.getD j noM).key ≠ m.key
   ·obtain ⟨i0,hi0,hk0,hb0⟩:=hex
    have hix:firstFrom (fun i=>decide ((d.getD i noM).key=m.key)) d.length=i0:=first_at _ _ i0 hi0 (fun j hj=>decide_eq_false (hb0 j hj)) (decide_eq_true hk0)
    rw [hix] at hIdx
    have hset:=Lib.hid (setM_set hnd hi0 hk0)
    obtain ⟨g,rfl⟩:∃ g,va=some ⟨g,0,none⟩:=by
     obtain ⟨_,_,hq,_⟩:=HO2.out
     rcases hq.2.2.2 with ⟨h,h'⟩ | ⟨b',cap',cur,h,_⟩
     ·simp only [Value.slice.injEq] at h;omega
     ·simp only [Value.slice.injEq] at h;exact ⟨b',h.1⟩
    have hi0':decide ((0:Int) ≤ (i0:Int))=true:=decide_eq_true (by omega)
    have hth:∀ W3,New W2 W3→W3.there g (i0 * 4) 4:=fun W3 hN=>by
     obtain ⟨_,_,hq,_⟩:=HO2.out.new hN
     exact hq.there hi0
    have hgl:=Lib.hid (HO2.out.lt rfl)
    clear hix hk0 hb0
    gi_wp2_with (first | (refine at_round (hIdx.out _ HR5.out HO2.out) ?_;rintro e W3 ⟨rfl,hN3⟩;have hb3:=hN3.boxed HB2.out id;obtain ⟨c3,f3⟩:=hb3.both;have r6:=hN3.heap HR5.out id;have k0:=cell_of_row _ _ 0 _ _ _ r6;have k1:=cell_of_row _ _ 1 _ _ _ r6;have k2:=cell_of_row _ _ 2 _ _ _ r6;have k3:=cell_of_row _ _ 3 _ _ _ r6;simp only [gS] at k0 k1 k2 k3;have hth3:=hth W3 hN3) | (refine opIn_skip1 rfl rfl rfl (run_store_mid 44 (.tmp 22) (.tmp 21) rfl g (i0 * 4) [.string K,.bool y,.slice ia il ic,.slice pa pl pc] rfl rfl hth3 sizeM (mcs_one _ _ _ _ _ _ _ _)) ?_))
    have hsm:=setCells_mods g [.string K,.bool y,.slice ia il ic,.slice pa pl pc] W3 (i0 * 4)
    have hgl':=hgl.out.1
    have hput:=(HO2.out.new hN3).put (m:=m) hi0 (HX.out.new hN3) (HP.out.new hN3)
    have hmc:mcs m (.slice ia il ic) (.slice pa pl pc) = [.string K,.bool y,.slice ia il ic,.slice pa pl pc]:=by unfold mcs;rw [HK.out,HY.out]
    rw [hmc,List.length_set] at hput
    refine ⟨(Mods.ofNew hN3).trans (hsm.mono fun b hb=>.inr (by rw [hb];exact hgl')),_,hsm.boxed hb3 (by omega),?_,?_,(HM2.out.trans (Mods.ofNew hN3)).trans' hsm hgl'⟩
    ·rw [Hnx.out,hset.out];exact hput
    ·rw [Hnx.out];exact setM_nodup hnd
   ·have hno:∀ i,i < d.length→(d.getD i noM).key ≠ m.key:=fun i hi he=>by
     have:∀ n i,i ≤ n→i < d.length→(d.getD i noM).key=m.key→False:=fun n=>by
      induction n with
      | zero =>
       intro i h0 hi he
       obtain rfl:i=0:=by omega
       exact hex ⟨0,hi,he,fun j hj=>by omega⟩
      | succ n ih =>
       intro i h0 hi he
       by_cases h:∃ j,j < i∧(d.getD j noM).key=m.key
       ·obtain ⟨j,hj,hje⟩:=h
        exact ih j (by omega) (by omega) hje
       ·exact hex ⟨i,hi,he,fun j hj hje=>h ⟨j,hj,hje⟩⟩
     exact this i i (Nat.le_refl _) hi he
    have hix:firstFrom (fun i=>decide ((d.getD i noM).key=m.key)) d.length = -1:=first_none _ _ (fun j hj=>decide_eq_false (hno j hj))
    rw [hix] at hIdx
    have hset:=Lib.hid (setM_add hno)
    clear hix hex hno
    have hrun:∀ W3,New W2 W3→∀ (o:Oper) (a:Act),o.op = .call { callee:=.builtin .append,args:=#[.tmp 23,.tmp 25],argTypes:=#[36,36] }→a.eval (.tmp 23) = .slice va d.length vc→a.eval (.tmp 25) = .slice (some ⟨W3.heap.size,0,none⟩) 1 1→∃ v' W',(execOp a.eval o).run Tryz.prog (W3.alloc (.cells #[.string K,.bool y,.slice ia il ic,.slice pa pl pc] 44)) = .ok (.value v') W'∧(OwD w4.heap.size W' v' (d ++ [m])∧∀ (w0:World) (S:Nat→Prop),Mods S w0 W3→(∀ g,Value.ownBlock (.slice va d.length vc)=some g→w0.heap.size ≤ g ∨ S g)→Mods S w0 W'):=fun W3 hN o a h1 h2 h3=>by
     refine run_append_D (m:=m) (ia:=ia) (il:=il) (ic:=ic) (pa:=pa) (pl:=pl) (pc:=pc) h1 h2 h3 (by unfold mcs;rw [HK.out,HY.out]) (HO2.out.new hN) (HX.out.new hN) (HP.out.new hN) hdl ?_
     have:=hN.size
     have:=HM2.out.size
     omega
    gi_wp2_with (first | (refine at_round (hIdx.out _ HR5.out HO2.out) ?_;rintro e W3 ⟨rfl,hN3⟩;have hb3:=hN3.boxed HB2.out id;obtain ⟨c3,f3⟩:=hb3.both;have r6:=hN3.heap HR5.out id;have k0:=cell_of_row _ _ 0 _ _ _ r6;have k1:=cell_of_row _ _ 1 _ _ _ r6;have k2:=cell_of_row _ _ 2 _ _ _ r6;have k3:=cell_of_row _ _ 3 _ _ _ r6;simp only [gS] at k0 k1 k2 k3) | (gi_at_builtin;refine opIn_got1 rfl rfl (hrun _ hN3 _ _ rfl rfl rfl) ?_;rintro v' W' ⟨ho',hm'⟩;obtain ⟨a',c',rfl⟩:=ho'.slice;have hb4:=(hm' W3 (fun b=>Value.ownBlock (.slice va d.length vc)=some b) (Mods.refl _ _) (fun g hg=>.inr hg)).boxed hb3 (fun hg=>by have:=(HO2.out.lt hg).1;omega);obtain ⟨c4,f4⟩:=hb4.both))
    rw [List.length_append,List.length_singleton] at ho'
    obtain ⟨V,hV⟩:∃ V,(Value.slice a' (d.length + 1) c')=V:=⟨_,rfl⟩
    rw [hV] at ho' ⊢
    refine ⟨(hm' W2 _ (Mods.ofNew hN3) (fun g hg=>.inr (.inr (HO2.out.lt hg).1))).trans ((setMods W' B 0 V).mono fun b hb=>.inl hb),_,hb4.set V,?_,?_,(hm' w4 _ (HM2.out.trans (Mods.ofNew hN3)) (fun g hg=>.inl (HO2.out.lt hg).1)).trans ((setMods W' B 0 V).mono fun b hb=>.inl hb)⟩
    ·rw [Hnx.out,hset.out]
     exact ho'.mods (setMods W' B 0 V) (fun g hg e=>by have:=(ho'.lt hg).1;omega) (fun g cs t fr hg hc=>by
      subst hg
      rw [show W'.heap[g]? = _ from hb4] at hc
      cases hc;decide)
    ·rw [Hnx.out];exact setM_nodup hnd


theorem RowR.cells {W:World} {n sz cap:Nat} {f:Nat→List Value} {ao:Option Addr} (h0:0 < sz) (hf:∀ i,(f i).length=sz) (h:RowR W (.slice ao n cap) n sz f):(ao=none→n=0)∧∀ a,ao=some a→∀ j u,(flatF n f)[j]? = some u→W.cell? (a.add j)=some u:=by
 obtain ⟨hn,ao',cap',e,hc⟩:=h
 cases e
 refine ⟨fun e=>?_,?_⟩
 ·subst e
  rcases Nat.eq_zero_or_pos n with h | h
  ·exact h
  ·obtain ⟨b,o,e,_⟩:=hc 0 h
   cases e
 ·rintro a rfl j u hj
  rw [flatF_at h0 hf] at hj
  split at hj
  ·rename_i hlt
   have hq:j / sz < n:=Nat.div_lt_of_lt_mul (by rw [Nat.mul_comm];exact hlt)
   obtain ⟨b,o,e,hr⟩:=hc _ hq
   cases e
   have:=hr (j % sz) u hj
   rw [show (⟨b,o,none⟩:Addr).add j=⟨b,o + j,none⟩ by unfold Addr.add;split <;> simp_all]
   have e2:o + j / sz * sz + j % sz=o + j:=by
    have:=Nat.div_add_mod j sz
    rw [Nat.mul_comm] at this
    omega
   rw [e2] at this
   exact this
  ·cases hj
theorem clone_P (v:Value) (n:Nat) (f:Nat→List Value) (w:World) (hf:∀ i,(f i).length=5) (h1:∀ i,i < n→∀ u ∈ f i,u.oneCell'=true) (hv:RowR w v n 5 f) (hn:n ≤ 2513169434880):Calls Tryz.prog 145 #[v] w fun e w'=>∃ v',e = .returned v'∧OwP w.heap.size w' v' n f∧New w w':=by
 obtain ⟨i0,hi,hz0,hz1,hz2⟩:=info_parts infoP
 obtain ⟨ao,cap,rfl⟩:=hv.slice
 obtain ⟨g1,g2⟩:=hv.cells (by decide) hf
 clear hv
 cases ao with
 | none =>
  obtain rfl:n=0:=g1 rfl
  clear g1 g2
  have q:∀ (w:World) (a:Option Addr) (n c n' c':Nat),(binOp .eql 42 (.slice a n c) (.slice none n' c')).run Tryz.prog w = .ok (.bool a.isNone) w:=fun w a n c n' c'=>Lib.run_eql_slice_nil w _ _ a n c n' c' Tryz.underlying42
  go_enter Tryz.func145,Tryz.ntmps145
  go_wp2_with fail
  go_ret
  exact ⟨_,rfl,OwP.nil _ _ _ hf,Mods.refl _ _⟩
 | some a =>
  have hg2:=Lib.hid (g2 a rfl)
  have hfl:=flatF_len hf n
  have hone:=Lib.hid (flatF_one h1)
  have h1':=Lib.hid h1
  have hf':=Lib.hid hf
  obtain ⟨L,hL⟩:∃ L,flatF n f=L:=⟨_,rfl⟩
  have HL:=Lib.hid hL
  rw [hL] at hg2 hfl hone
  clear g1 g2 hf h1 hL
  have q:∀ (w:World) (a:Option Addr) (n c n' c':Nat),(binOp .eql 42 (.slice a n c) (.slice none n' c')).run Tryz.prog w = .ok (.bool a.isNone) w:=fun w a n c n' c'=>Lib.run_eql_slice_nil w _ _ a n c n' c' Tryz.underlying42
  go_enter Tryz.func145,Tryz.ntmps145
  go_wp2_with (at_builtin;refine wpList_append_own _ rfl _ _ 42 rfl w.heap.size 83 i0 _ 5 56 Tryz.underlying42 hi hz0 hz1 hz2 rfl (by decide) _ _ _ rfl (World.ownsRow_made w #[] 0 (Nat.le_refl _) (Nat.zero_le _) rfl) a n cap L rfl ?qc1 ?qc2 ?qc3 ?qc4 ?qc5 ?qc6 ?_)
  case qc1=>omega
  case qc2 =>
   intro j u hj
   exact Lib.cell?_alloc_some _ (hg2.out j u hj)
  case qc3=>exact hone.out
  case qc4=>unfold maxLen;omega
  case qc5=>omega
  case qc6=>simp
  intro v' w1 hown hgrow hnil
  go_wp2_with fail
  go_ret
  refine ⟨v',rfl,⟨hf'.out,h1'.out,?_⟩,((Mods.refl _ w).alloc _).grown hgrow (by intro k hk;simp [Value.ownBlock] at hk;exact .inl (by omega))⟩
  rw [HL.out]
  simpa using hown
theorem clone_X (v:Value) (n:Nat) (f:Nat→List Value) (w:World) (hf:∀ i,(f i).length=5) (h1:∀ i,i < n→∀ u ∈ f i,u.oneCell'=true) (hv:RowR w v n 5 f) (hn:n ≤ 2199023255552):Calls Tryz.prog 144 #[v] w fun e w'=>∃ v',e = .returned v'∧OwX w.heap.size w' v' n f∧New w w':=by
 obtain ⟨i0,hi,hz0,hz1,hz2⟩:=info_parts infoX
 obtain ⟨ao,cap,rfl⟩:=hv.slice
 obtain ⟨g1,g2⟩:=hv.cells (by decide) hf
 clear hv
 cases ao with
 | none =>
  obtain rfl:n=0:=g1 rfl
  clear g1 g2
  have q:∀ (w:World) (a:Option Addr) (n c n' c':Nat),(binOp .eql 41 (.slice a n c) (.slice none n' c')).run Tryz.prog w = .ok (.bool a.isNone) w:=fun w a n c n' c'=>Lib.run_eql_slice_nil w _ _ a n c n' c' Tryz.underlying41
  go_enter Tryz.func144,Tryz.ntmps144
  go_wp2_with fail
  go_ret
  exact ⟨_,rfl,OwX.nil _ _ _ hf,Mods.refl _ _⟩
 | some a =>
  have hg2:=Lib.hid (g2 a rfl)
  have hfl:=flatF_len hf n
  have hone:=Lib.hid (flatF_one h1)
  have h1':=Lib.hid h1
  have hf':=Lib.hid hf
  obtain ⟨L,hL⟩:∃ L,flatF n f=L:=⟨_,rfl⟩
  have HL:=Lib.hid hL
  rw [hL] at hg2 hfl hone
  clear g1 g2 hf h1 hL
  have q:∀ (w:World) (a:Option Addr) (n c n' c':Nat),(binOp .eql 41 (.slice a n c) (.slice none n' c')).run Tryz.prog w = .ok (.bool a.isNone) w:=fun w a n c n' c'=>Lib.run_eql_slice_nil w _ _ a n c n' c' Tryz.underlying41
  go_enter Tryz.func144,Tryz.ntmps144
  go_wp2_with (at_builtin;refine wpList_append_own _ rfl _ _ 41 rfl w.heap.size 85 i0 _ 5 64 Tryz.underlying41 hi hz0 hz1 hz2 rfl (by decide) _ _ _ rfl (World.ownsRow_made w #[] 0 (Nat.le_refl _) (Nat.zero_le _) rfl) a n cap L rfl ?qc1 ?qc2 ?qc3 ?qc4 ?qc5 ?qc6 ?_)
  case qc1=>omega
  case qc2 =>
   intro j u hj
   exact Lib.cell?_alloc_some _ (hg2.out j u hj)
  case qc3=>exact hone.out
  case qc4=>unfold maxLen;omega
  case qc5=>omega
  case qc6=>simp
  intro v' w1 hown hgrow hnil
  go_wp2_with fail
  go_ret
  refine ⟨v',rfl,⟨hf'.out,h1'.out,?_⟩,((Mods.refl _ w).alloc _).grown hgrow (by intro k hk;simp [Value.ownBlock] at hk;exact .inl (by omega))⟩
  rw [HL.out]
  simpa using hown
end Go.Proofs.YtnknmmbnhoanfaaGreatDoor
