/- Texts joined. -/
import Derived.Test.YtkiiameibdhdfaaGreatDoorS00
import Derived.MapKept
import Derived.Laws.StructEq
import Derived.Test.YtkiiameibdhdfaaGreatDoorS03
import Derived.Test.YtkiiameibdhdfaaGreatDoorS02
import Derived.ChangeMaps5
import Derived.WalkKit
set_option linter.unusedSimpArgs false
set_option linter.unusedVariables false
set_option maxHeartbeats 16000000
set_option maxRecDepth 100000
namespace Go.Cs
open Go.RowKit
structure KeyLike (P:Program) (k:TypeId) {α:Type} (enc:α→Value):Prop where
 inj:∀ a b,enc a=enc b→a=b
 check:∀ (w:World) (em:Bool) (a:α),(Instr.checkKey em 10000 k (enc a)).run P w = .ok () w
 find:∀ (w:World) (a:α) (es:List MapEntry),(∀ e ∈ es,∃ b,e.key=enc b) →
  ((Instr.findKey k (enc a) es).run P w = .ok none w∧∀ e ∈ es,e.key ≠ enc a) ∨ ∃ j e,(Instr.findKey k (enc a) es).run P w = .ok (some (j,e.val)) w∧es[j]? = some e∧e.key=enc a
 stays:∀ (w:World) (a:α),(Instr.keyThatStays (enc a) (enc a)).run P w = .ok (enc a) w
variable {P:Program} {k:TypeId} {α:Type} {enc:α→Value}
theorem run_findAsking [DecidableEq α] (heq:∀ w a b,(Op.equal k (enc a) (enc b)).run P w = .ok (decide (a=b)) w) (w:World) (a:α):∀ (es:List MapEntry) (i:Nat),(∀ e ∈ es,∃ b,e.key=enc b) →
  ((Instr.findAsking k (enc a) es i).run P w = .ok none w∧∀ e ∈ es,∃ b,e.key=enc b∧b ≠ a) ∨ ∃ j e,(Instr.findAsking k (enc a) es i).run P w = .ok (some (i + j,e.val)) w∧es[j]? = some e∧e.key=enc a
 | [],i,_=>.inl ⟨by simp [Instr.findAsking],fun e he=>by cases he⟩
 | e::es,i,h=>by
  obtain ⟨b,hb⟩:=h e (by simp)
  by_cases hab:a=b
  ·refine .inr ⟨0,e,?_,rfl,by rw [hb,hab]⟩
   simp [Instr.findAsking,hb,heq,hab,Sem.run_bind]
  ·have hd:decide (a=b)=false:=by simpa using hab
   have step:(Instr.findAsking k (enc a) (e::es) i).run P w=(Instr.findAsking k (enc a) es (i + 1)).run P w:=by
    simp [Instr.findAsking,hb,heq,hd,Sem.run_bind]
   rcases run_findAsking heq w a es (i + 1) (fun e he=>h e (by simp [he])) with ⟨h1,h2⟩ | ⟨j,e',h1,h2,h3⟩
   ·refine .inl ⟨by rw [step,h1],fun e' he=>?_⟩
    rcases List.mem_cons.1 he with rfl | he
    ·exact ⟨b,hb,fun e=>hab e.symm⟩
    ·exact h2 e' he
   ·exact .inr ⟨j + 1,e',by rw [step,h1];congr 3;omega,by simpa using h2,h3⟩
theorem KeyLike.asked [DecidableEq α] {d:TypeDesc} (hd:P.underlying k=some d) (hno:∀ a es i,Instr.findNow d (enc a) es i=if es = [] then some none else none) (hi:∀ a b,enc a=enc b→a=b)
  (hc:∀ (w:World) (em:Bool) (a:α),(Instr.checkKey em 10000 k (enc a)).run P w = .ok () w) (heq:∀ w a b,(Op.equal k (enc a) (enc b)).run P w = .ok (decide (a=b)) w) (hs:∀ a,Instr.sameBits 10000 (enc a) (enc a)=true):KeyLike P k enc where
 inj:=hi
 check:=hc
 find w a es h:=by
  cases es with
  | nil=>exact .inl ⟨by simp [Instr.findKey,run_underlying hd,Result.andThen,hno],fun e he=>by cases he⟩
  | cons e es =>
   have step:(Instr.findKey k (enc a) (e::es)).run P w=(Instr.findAsking k (enc a) (e::es)).run P w:=by
    simp [Instr.findKey,run_underlying hd,Result.andThen,hno]
   rw [step]
   rcases run_findAsking heq w a (e::es) 0 h with ⟨h1,h2⟩ | ⟨j,e',h1,h2,h3⟩
   ·refine .inl ⟨h1,fun e' he hk=>?_⟩
    obtain ⟨b,hb,hne⟩:=h2 e' he
    exact hne (hi _ _ (hb.symm.trans hk))
   ·exact .inr ⟨j,e',by rw [h1,Nat.zero_add],h2,h3⟩
 stays w a:=by simp [Instr.keyThatStays,hs]
def MapFn (enc:α→Value) (W:World) (B n:Nat) (f:α→Option Value):Prop :=
 ∃ es c,W.heap[B]? = some (.map es c)∧es.size ≤ n∧(∀ e ∈ es.toList,∃ a,e.key=enc a∧f a=some e.val)∧∀ a v,f a=some v→∃ e ∈ es.toList,e.key=enc a
theorem MapFn.made {W:World} {B c:Nat} (h:W.heap[B]? = some (.map #[] c)):MapFn enc W B 0 (fun _=>none) :=
 ⟨#[],c,h,by simp,fun e he=>by simp at he,fun a v h=>by cases h⟩
theorem MapFn.keep {W W':World} {B n:Nat} {f:α→Option Value} (h:MapFn enc W B n f) (hk:∀ o,W.heap[B]? = some o→W'.heap[B]? = some o):MapFn enc W' B n f:=by
 obtain ⟨es,c,h1,r⟩:=h
 exact ⟨es,c,hk _ h1,r⟩
theorem MapFn.new {W W':World} {B n:Nat} {f:α→Option Value} (h:MapFn enc W B n f) (hN:New W W'):MapFn enc W' B n f:=h.keep fun _ ho=>hN.heap ho id
theorem MapFn.congr {W:World} {B n:Nat} {f g:α→Option Value} (h:MapFn enc W B n f) (hf:∀ a,f a=g a):MapFn enc W B n g:=by
 have e:f=g:=funext hf
 rwa [← e]
theorem MapFn.find (K:KeyLike P k enc) {W:World} {B n:Nat} {f:α→Option Value} (h:MapFn enc W B n f) (a:α) :
  ∃ es c,W.heap[B]? = some (.map es c)∧es.size ≤ n∧∃ r,(Instr.findKey k (enc a) es.toList).run P W = .ok r W∧r.map (·.2)=f a:=by
 obtain ⟨es,c,h1,hn,h2,h3⟩:=h
 refine ⟨es,c,h1,hn,?_⟩
 rcases K.find W a es.toList (fun e he=>by obtain ⟨b,hb,_⟩:=h2 e he;exact ⟨b,hb⟩) with ⟨hf,hne⟩ | ⟨j,e,hf,hj,hk⟩
 ·refine ⟨none,hf,?_⟩
  cases hfa:f a with
  | none=>rfl
  | some v =>
   obtain ⟨e,he,hk⟩:=h3 a v hfa
   exact absurd hk (hne e he)
 ·refine ⟨_,hf,?_⟩
  obtain ⟨b,hb,hv⟩:=h2 e (List.mem_of_getElem? hj)
  rw [K.inj _ _ (hk.symm.trans hb),hv]
  rfl
theorem MapFn.look (K:KeyLike P k enc) {t e:TypeId} (ht:P.underlying t=some (.map k e)) {W:World} {z:Value} (hz:(zeroValue e).run P W = .ok z W) {B n:Nat} {f:α→Option Value} (h:MapFn enc W B n f) (a:α) (ok:Bool) :
  (Instr.lookup t (.map (some B)) (enc a) ok).run P W = .ok (if ok then .tuple #[(f a).getD z,.bool (f a).isSome] else (f a).getD z) W:=by
 obtain ⟨es,c,h1,_,r,hf,hr⟩:=h.find K a
 have hg:=MapKept.run_getObj_map (P:=P) h1
 simp only [Instr.lookup,Sem.run_bind,run_underlying ht W,Result.andThen_ok,hg,Sem.run_pure,K.check,hf]
 rw [← hr]
 cases r with
 | none=>cases ok <;> simp [hz]
 | some p=>cases ok <;> simp
theorem MapFn.put [DecidableEq α] (K:KeyLike P k enc) {t e:TypeId} (ht:P.underlying t=some (.map k e)) {W:World} {B n:Nat} {f:α→Option Value} (h:MapFn enc W B n f) (a:α) (v:Value) (hfa:f a=none) :
  ∃ o,(Instr.mapUpdate t (.map (some B)) (enc a) v).run P W = .ok () (W.putObj B o)∧o.isCells=false∧MapFn enc (W.putObj B o) B (n + 1) (fun b=>if b=a then some v else f b):=by
 obtain ⟨es,c,h1,hn,h2,h3⟩:=h
 have hg:=MapKept.run_getObj_map (P:=P) h1
 have hs:=fun o=>MapKept.run_setObj_map (P:=P) o h1
 have hlt:=(Array.getElem?_eq_some_iff.1 h1).1
 rcases K.find W a es.toList (fun e he=>by obtain ⟨b,hb,_⟩:=h2 e he;exact ⟨b,hb⟩) with ⟨hf,hne⟩ | ⟨j,e',hf,hj,hk⟩
 ·refine ⟨.map (es.push { key:=enc a,val:=v,born:=c }) (c + 1),?_,rfl,es.push { key:=enc a,val:=v,born:=c },c + 1,World.putObj_heap_same hlt,by simp;omega,?_,?_⟩
  ·simp only [Instr.mapUpdate,Sem.run_bind,run_underlying ht W,Result.andThen_ok,hg,K.check,hf,hs]
   rfl
  ·intro x hx
   rw [Array.toList_push,List.mem_append] at hx
   rcases hx with hx | hx
   ·obtain ⟨b,hb,hv⟩:=h2 x hx
    exact ⟨b,hb,(if_neg (fun e=>hne x hx (by rw [hb,e]))).trans hv⟩
   ·rw [List.mem_singleton] at hx
    subst hx
    exact ⟨a,rfl,by simp⟩
  ·intro b u hb
   rw [Array.toList_push]
   by_cases e:b=a
   ·exact ⟨{ key:=enc a,val:=v,born:=c },by simp,by rw [e]⟩
   ·have hb:(if b=a then some v else f b)=some u:=hb
    rw [if_neg e] at hb
    obtain ⟨x,hx,hk⟩:=h3 b u hb
    exact ⟨x,by simp [hx],hk⟩
 ·obtain ⟨b,hb,hv⟩:=h2 e' (List.mem_of_getElem? hj)
  rw [← K.inj _ _ (hk.symm.trans hb),hfa] at hv
  cases hv
end Go.Cs
namespace Go.Proofs.YtkiiameibdhdfaaGreatDoor
open Go.RowKit Go.Shelf Go.Cs
attribute [local go_sem] Oper.semAt_some


def cntU (b:Bare.It) (u:Int):Int:=if b.kind=1∧0 ≤ b.int∧b.int ≤ 7 then b.int else u
def cntI (b:Bare.It):Bool:=decide (b.kind=6) && b.yes
def ItI (b:Bare.It):Prop:=-9223372036854775808 ≤ b.int∧b.int ≤ 9223372036854775807
theorem pr_facts {W:World} {B:Nat} {a b:Value} (h:W.heap[B]? = some (.cells #[a,b] 31 (0,0))) :
  (W.cell? ⟨B,0,none⟩=some a∧W.cell? ⟨B,1,none⟩=some b)∧(W.frozen? ⟨B,0,none⟩=false∧W.frozen? ⟨B,1,none⟩=false) :=
 ⟨⟨cell_of_row _ _ 0 _ _ _ h,cell_of_row _ _ 1 _ _ _ h⟩,frozen_row (i:=0) h,frozen_row (i:=1) h⟩
theorem counts_u (B:Nat) (b:Bare.It) (u:Int) (i:Bool) (hb:ItI b) (w:World) (h:w.heap[B]? = some (.cells #[.int .u8 u,.bool i] 31 (0,0))) :
  Calls Tryz.prog 136 #[.pointer (some ⟨B,0,none⟩),bv b] w fun e w'=>(∃ v,e = .returned v)∧w'.heap[B]? = some (.cells #[.int .u8 (cntU b u),.bool i] 31 (0,0))∧Mods (fun x=>x=B) w w':=by
 obtain ⟨k,n,t,y⟩:=b
 unfold bv bcs cntU
 unfold ItI at hb
 simp only at hb ⊢
 obtain ⟨s,hs⟩:∃ s,tx t=s:=⟨_,rfl⟩
 rw [hs]
 clear hs
 have hA:New w (w.alloc (.cells #[.int .u8 k,.int .i64 n,.string s,.bool y] 66)):=(Mods.refl _ _).alloc _
 have r3:=World.alloc_heap_new w (.cells #[.int .u8 k,.int .i64 n,.string s,.bool y] 66)
 have rB:=hA.heap h id
 obtain ⟨W1,hW1⟩:∃ W,w.alloc (.cells #[.int .u8 k,.int .i64 n,.string s,.bool y] 66)=W:=⟨_,rfl⟩
 have HW:=Lib.hid hW1
 rw [hW1] at hA r3 rB
 obtain ⟨D,hD⟩:∃ D,w.heap.size=D:=⟨_,rfl⟩
 have HD:=Lib.hid hD
 rw [hD] at r3
 obtain ⟨⟨c0,c1⟩,f0,f1⟩:=pr_facts rB
 obtain ⟨⟨k0,k1,k2,k3⟩,-⟩:=row_facts r3
 clear hW1 hD h r3
 by_cases hk:k=1
 ·subst hk
  by_cases h7:0 ≤ n∧n ≤ 7
  ·rw [if_pos ⟨rfl,h7⟩]
   have hw:IntKind.u64.wrap n=n:=by rw [IntKind.wrap_u64];omega
   have hw8:IntKind.u8.wrap n=n:=by rw [IntKind.wrap_u8];omega
   have hd:n / 8=0:=by omega
   go_enter Tryz.func136,Tryz.ntmps136
   go_upto_region 1 with fail
   rw [HW.out,HD.out]
   clear HW HD
   go_wp2_with fail
   go_end0
   exact ⟨⟨_,rfl⟩,setCell_heap rB _,(Mods.ofNew (S:=fun x=>x=B) hA).setCell (p:=⟨B,0,none⟩) (.inr rfl) _⟩
  ·rw [if_neg (fun q=>h7 q.2)]
   obtain ⟨m,hm⟩:∃ m,IntKind.u64.wrap n=m:=⟨_,rfl⟩
   have hd:(m / 8 == 0)=false:=by
    rw [beq_eq_false_iff_ne]
    rw [IntKind.wrap_u64] at hm
    omega
   clear h7 hb
   go_enter Tryz.func136,Tryz.ntmps136
   go_upto_region 1 with fail
   rw [HW.out,HD.out]
   clear HW HD
   go_wp2_with fail
   go_end0
   exact ⟨⟨_,rfl⟩,rB,Mods.ofNew hA⟩
 ·rw [if_neg (fun q=>hk q.1)]
  have hk':(k == 1)=false:=by simpa using hk
  clear hk
  go_enter Tryz.func136,Tryz.ntmps136
  go_upto_region 1 with fail
  rw [HW.out,HD.out]
  clear HW HD
  go_wp2_with fail
  go_end0
  exact ⟨⟨_,rfl⟩,rB,Mods.ofNew hA⟩
theorem counts_i (B:Nat) (b:Bare.It) (u:Int) (i:Bool) (w:World) (h:w.heap[B]? = some (.cells #[.int .u8 u,.bool i] 31 (0,0))) :
  Calls Tryz.prog 137 #[.pointer (some ⟨B,0,none⟩),bv b] w fun e w'=>(∃ v,e = .returned v)∧w'.heap[B]? = some (.cells #[.int .u8 u,.bool (cntI b)] 31 (0,0))∧Mods (fun x=>x=B) w w':=by
 obtain ⟨k,n,t,y⟩:=b
 unfold bv bcs cntI
 simp only
 obtain ⟨s,hs⟩:∃ s,tx t=s:=⟨_,rfl⟩
 rw [hs]
 clear hs
 have hA:New w (w.alloc (.cells #[.int .u8 k,.int .i64 n,.string s,.bool y] 66)):=(Mods.refl _ _).alloc _
 have r3:=World.alloc_heap_new w (.cells #[.int .u8 k,.int .i64 n,.string s,.bool y] 66)
 have rB:=hA.heap h id
 obtain ⟨W1,hW1⟩:∃ W,w.alloc (.cells #[.int .u8 k,.int .i64 n,.string s,.bool y] 66)=W:=⟨_,rfl⟩
 have HW:=Lib.hid hW1
 rw [hW1] at hA r3 rB
 obtain ⟨D,hD⟩:∃ D,w.heap.size=D:=⟨_,rfl⟩
 have HD:=Lib.hid hD
 rw [hD] at r3
 obtain ⟨⟨c0,c1⟩,f0,f1⟩:=pr_facts rB
 obtain ⟨⟨k0,k1,k2,k3⟩,-⟩:=row_facts r3
 clear hW1 hD h r3
 by_cases hk:k=6
 ·subst hk
  rw [decide_eq_true rfl,Bool.true_and]
  go_enter Tryz.func137,Tryz.ntmps137
  go_upto_region 1 with fail
  rw [HW.out,HD.out]
  clear HW HD
  go_wp2_with fail
  go_end0
  exact ⟨⟨_,rfl⟩,setCell_heap rB _,(Mods.ofNew (S:=fun x=>x=B) hA).setCell (p:=⟨B,1,none⟩) (.inr rfl) _⟩
 ·rw [decide_eq_false hk,Bool.false_and]
  have hk':(k == 6)=false:=by simpa using hk
  clear hk
  go_enter Tryz.func137,Tryz.ntmps137
  go_upto_region 1 with fail
  rw [HW.out,HD.out]
  clear HW HD
  go_wp2_with fail
  go_end0
  exact ⟨⟨_,rfl⟩,setCell_heap rB _,(Mods.ofNew (S:=fun x=>x=B) hA).setCell (p:=⟨B,1,none⟩) (.inr rfl) _⟩
end Go.Proofs.YtkiiameibdhdfaaGreatDoor
namespace Go.Proofs.YtkiiameibdhdfaaGreatDoor
open Go.RowKit Go.Shelf Go.Cs Go.ChangeShapes Go.WideShapes Go.ChangeAt Go.WideMaps Go.WideElems Go.ChangeMaps

theorem weightsAll_mem {H:Type} {P:Program} {e:TypeId}:∀ {l:List (DataW H)} {d:DataW H},d ∈ l→∀ n ∈ d.weights P e,n ∈ DataW.weightsAll P e l
 | d'::r,d,hd,n,hn=>by
  simp only [DataW.weightsAll,List.mem_append]
  rcases List.mem_cons.1 hd with rfl | h
  ·exact Or.inl hn
  ·exact Or.inr (weightsAll_mem h n hn)
section
variable {H:Type} {enc:TypeId × Value→H} {w:World} {base:Nat} {spare:Nat→Bool} {held:Bool} {fuel:Nat}
theorem open_rowW {t e C B:Nat} {v:Value} {x:DataW H × List MemPlace} (ht:Tryz.prog.underlying t=some (.slice e)) (hC:Tryz.prog.cellsOf e=C) (hB:Tryz.prog.bytesOf e=B) (h0:0 < C) (h:DataW.trod enc Tryz.prog w base spare held fuel t [v]=some x)
  (hw:∀ n ∈ x.1.weights Tryz.prog t,n ≤ reachBytes) {α:Type} (R:List Value→α→Prop) (d0:α)
  (hel:∀ (cs:List Value) (y:DataW H × List MemPlace) (n:Nat),DataW.trod enc Tryz.prog w base spare held n e cs=some y→(∀ k ∈ y.1.weights Tryz.prog e,k ≤ reachBytes)→∃ a,R cs a) :
  ∃ (L:List α) (ao:Option Addr) (cap:Nat),v = .slice ao L.length cap∧L.length * B ≤ reachBytes∧∃ f:Nat→List Value,∀ i,i < L.length→R (f i) (L.getD i d0)∧∃ b o,ao=some ⟨b,o,none⟩∧w.rangeAt b (o + i * C) (f i):=by
 rcases DataW.trod_slice ht h with ⟨hc,rfl⟩ | ⟨a,len,cap,elems,rest,n,rfl,hc,rfl,hb,hl,hm,hle,hi,-,-⟩
 ·obtain rfl:v = .slice none 0 0:=by simpa using hc
  exact ⟨[],none,0,rfl,by simp,fun _=>[],fun i hi=>by simp at hi⟩
 ·obtain rfl:v = .slice (some a) len cap:=by simpa using hc
  have hwe:∀ (i:Nat) (y:DataW H × List MemPlace),elems[i]? = some y→∀ k ∈ y.1.weights Tryz.prog e,k ≤ reachBytes:=fun i y hy k hk=>hw k (by
   have hmem:y.1 ∈ elems.map (·.1):=List.mem_map.2 ⟨_,List.mem_of_getElem? hy,rfl⟩
   have:=weightsAll_mem (P:=Tryz.prog) (e:=e) hmem k hk
   simp only [DataW.weights,ht,List.mem_cons,List.mem_append]
   exact .inr (.inl this))
  have hlen:len * B ≤ reachBytes:=by
   have:=hw _ (by simp only [DataW.weights,ht];exact List.mem_cons_self ..)
   rw [hB,List.length_map,hle] at this
   refine Nat.le_trans (Nat.mul_le_mul_right _ (Nat.le_add_right _ _)) this
  have hone:∀ i,i < len→∃ a':α × List Value,R a'.2 a'.1∧∃ b o,some a=some ⟨b,o,none⟩∧w.rangeAt b (o + i * C) a'.2:=by
   intro i hil
   have hE:=hi i hil
   obtain ⟨y,hy⟩:=take_some hle hil
   rw [hy] at hE
   obtain ⟨cs',hcs,htr⟩:=Option.bind_eq_some_iff.1 hE
   obtain ⟨r,hr⟩:=hel cs' y _ htr (hwe i y hy)
   refine ⟨(r,cs'),hr,?_⟩
   obtain ⟨_,hcl,hat⟩:=World.cells?_some hcs
   rw [hC] at hcl hat
   obtain ⟨b,o,sp⟩:=a
   obtain rfl:sp=none:=by
    have hE0:=hi 0 (by omega)
    obtain ⟨y0,hy0⟩:=take_some hle (show 0 < len by omega)
    obtain ⟨cs0,hcs0,_⟩:=Option.bind_eq_some_iff.1 (hE0.trans hy0)
    obtain ⟨_,hcl0,hat0⟩:=World.cells?_some hcs0
    rw [hC] at hcl0 hat0
    have hs0:=hat0 0 (by omega)
    rw [List.getElem?_eq_getElem (by omega)] at hs0
    have hsp:=spot_none hs0
    simpa [Addr.add] using hsp
   refine ⟨b,o,rfl,fun j u hj=>?_⟩
   have hjl:j < C:=by
    rcases Nat.lt_or_ge j C with h | h
    ·exact h
    ·have hj':cs'[j]? = some u:=hj
     rw [List.getElem?_eq_none (by omega)] at hj';cases hj'
   have:=hat j hjl
   have hj':cs'[j]? = some u:=hj
   rw [hj',Addr.add_mid,Addr.add_mid] at this
   exact this
  obtain ⟨L,hL,hR⟩:=choose_list len _ (d0,[]) hone
  refine ⟨L.map (·.1),some a,cap,by rw [List.length_map,hL],by rw [List.length_map,hL];exact hlen,fun i=>(L.getD i (d0,[])).2,fun i hi=>?_⟩
  rw [List.length_map] at hi
  obtain ⟨h1,h2⟩:=hR i (by omega)
  have e:(L.map (·.1)).getD i d0=(L.getD i (d0,[])).1:=by
   simp [List.getD,hi]
  rw [e]
  exact ⟨h1,h2⟩
end
end Go.Proofs.YtkiiameibdhdfaaGreatDoor
namespace Go.Proofs.YtkiiameibdhdfaaGreatDoor
open Go.RowKit Go.Shelf Go.Cs
attribute [local go_sem] Oper.semAt_some


theorem wp_scope_loop {P:Program} {a:Act} {w:World} {Q:Exit→Act→World→Prop} {c rest:Code} (l:Nat) (J:Act→World→Prop) (μ:Act→World→Nat) (hf:findLabel c l=some rest)
  (pass:∀ a w,J a w→rest.wp P (Exit.jump l (fun a' w'=>J a' w'∧μ a' w' < μ a w) Q) a w)
  (first:(∀ a w,J a w→rest.wp P (Exit.jump l J Q) a w)→c.wp P (Exit.jump l J Q) a w):(Code.scope c).wp P Q a w :=
 wp_scope_jumps l J μ hf (first fun a w h=>wp_mono (pass a w h) fun e a' w' hq=>by
  cases e with
  | goto l'=>exact ⟨hq.1,hq.2.1⟩
  | _=>exact hq) pass
theorem quoted_at (acc:Bare.Bs) (s:ByteArray) (k:Nat) (h:k < s.size):Bare.quoted acc ((bl s).drop k)=(if Bare.plnB (gb s k)=false then none
  else if gb s k=34 then some (⟨3,0,acc,false⟩,(bl s).drop (k + 1))
  else if gb s k=92 then (if k + 1 < s.size∧(gb s (k + 1)=34 ∨ gb s (k + 1)=92) then Bare.quoted (acc ++ [gb s (k + 1)]) ((bl s).drop (k + 2)) else none)
  else Bare.quoted (acc ++ [gb s k]) ((bl s).drop (k + 1))):=by
 have hdr:(bl s).drop k=gb s k::(bl s).drop (k + 1):=by
  have:=gb_get s k h
  obtain ⟨h1,h2⟩:=List.getElem?_eq_some_iff.1 this
  rw [List.drop_eq_getElem_cons h1,h2]
 rw [hdr,Bare.quoted_cons]
 by_cases hp:Bare.plnB (gb s k)=false
 ·rw [if_pos hp,if_pos hp]
 rw [if_neg hp,if_neg hp]
 by_cases h34:gb s k=34
 ·rw [if_pos h34,if_pos h34]
 rw [if_neg h34,if_neg h34]
 by_cases h92:gb s k=92
 ·rw [if_pos h92,if_pos h92]
  by_cases hk:k + 1 < s.size
  ·have hdr2:(bl s).drop (k + 1)=gb s (k + 1)::(bl s).drop (k + 2):=by
    have:=gb_get s (k + 1) hk
    obtain ⟨h1,h2⟩:=List.getElem?_eq_some_iff.1 this
    rw [List.drop_eq_getElem_cons h1,h2]
   rw [hdr2]
   simp only
   by_cases hd:gb s (k + 1)=34 ∨ gb s (k + 1)=92
   ·rw [if_pos hd,if_pos ⟨hk,hd⟩]
   ·rw [if_neg hd,if_neg (fun h=>hd h.2)]
  ·have hdr2:(bl s).drop (k + 1) = []:=List.drop_eq_nil_of_le (by rw [bl_len];omega)
   rw [hdr2,if_neg (fun h=>hk h.1)]
 ·rw [if_neg h92,if_neg h92]
theorem quoted_end (acc:Bare.Bs) (s:ByteArray) (k:Nat) (h:s.size ≤ k):Bare.quoted acc ((bl s).drop k)=none:=by
 rw [List.drop_eq_nil_of_le (by rw [bl_len];exact h)]
 rfl
theorem byte_test (c:UInt8) (d:Nat) (hd:d < 256) (n:Nat) (hn:c.toNat=n):((n:Int) == (d:Int))=decide (c=UInt8.ofNat d)∧((n:Int) != (d:Int)) = !decide (c=UInt8.ofNat d):=by
 have e:((n:Int) == (d:Int))=decide (c=UInt8.ofNat d):=by
  rw [Bool.eq_iff_iff,beq_iff_eq,decide_eq_true_eq,← UInt8.toNat_inj,hn,UInt8.toNat_ofNat']
  omega
 exact ⟨e,by rw [← e];rfl⟩
theorem lit62' (t:Array Value) (h:t.size=62):∃ u:Nat→Value,t=(u 0::u 1::u 2::u 3::u 4::u 5::u 6::u 7::u 8::u 9::u 10::u 11::u 12::u 13::u 14::u 15::u 16::u 17::u 18::u 19::u 20::u 21::u 22::u 23::u 24::u 25::u 26::u 27::u 28::u 29::u 30::u 31::u 32::u 33::u 34::u 35::u 36::u 37::u 38::u 39::u 40::u 41::u 42::u 43::u 44::u 45::u 46::u 47::u 48::u 49::u 50::u 51::u 52::u 53::u 54::u 55::u 56::u 57::u 58::u 59::u 60::u 61::([]:List Value)).toArray:=⟨fun i=>t.getD i undef,range_lit t 62 h⟩
def scopeOf:Code→Option Code
 | .scope c=>some c
 | .seq a b=>(scopeOf a).orElse fun _=>scopeOf b
 | .block _ c=>scopeOf c
 | _=>none
def behindSkip:Code→Code
 | .seq .skip x=>x
 | x=>x
noncomputable def quotedX:Code:=((((Tryz.f211.body.bind scopeOf).bind fun c=>findLabel c 0).map behindSkip).getD .skip)
def QJ (s:ByteArray) (w:World) (B:Nat) (r:Option (Bare.It × Bare.Bs)) (a:Act) (W:World):Prop:=∃ (k:Nat) (acc:Bare.Bs) (v:Value),(a.tmps.size=62∧a.defers = []∧a.tmps.getD 0 undef = .string s∧a.tmps.getD 2 undef = .pointer (some ⟨B,0,none⟩)∧a.tmps.getD 5 undef=v∧a.tmps.getD 6 undef = .int .i64 k)∧k ≤ s.size∧acc.length ≤ k∧W.ownsRow (B + 1) 5 1 v acc.length (u8s acc)∧W.heap[B]? = some (.cells #[.int .u8 0,.int .i64 0,.string ⟨#[]⟩,.bool false] 66 (0,0))∧New w W∧Hid (Bare.quoted acc ((bl s).drop k)=r)
def Qμ (s:ByteArray) (a:Act) (_:World):Nat:=s.size - (intOf (a.tmps.getD 6 undef)).toNat
theorem quoted_X (s:ByteArray) (w:World) (B:Nat) (r:Option (Bare.It × Bare.Bs)) (hs:s.size ≤ 1000000) (hBw:w.heap.size ≤ B) (a0:Act) (W:World) (hJ:QJ s w B r a0 W) :
  quotedX.wp Tryz.prog (Exit.jump 0 (fun a' w'=>QJ s w B r a' w'∧Qμ s a' w' < Qμ s a0 W) (bodyPost Tryz.prog Tryz.f211 fun e w'=>ReadP r w e w')) a0 W:=by
 conv=>arg 2;whnf
 obtain ⟨i0,hi,hz0,hz1,hz2⟩:=info_parts infoB'
 obtain ⟨z,dfs⟩:=a0
 obtain ⟨k,acc,v,⟨hsz,hd,hq0,hq2,hq5,hq6⟩,hk,hacc,hown,hr,hN,HR⟩:=hJ
 simp only at hsz hd hq0 hq2 hq5 hq6
 subst hd
 obtain ⟨u,rfl⟩:=lit62' z hsz
 have hp0:u 0 = _:=hq0
 have hp2:u 2 = _:=hq2
 have hp5:u 5 = _:=hq5
 have hp6:u 6 = _:=hq6
 rw [hp0,hp2,hp5,hp6]
 clear hp0 hp2 hp5 hp6 hq0 hq2 hq5 hq6 hsz
 skip
 obtain ⟨⟨c0,c1,c2,c3⟩,f0,f1,f2,f3⟩:=row_facts hr
 have hBl:B < W.heap.size:=(Array.getElem?_eq_some_iff.1 hr).1
 by_cases hlt:k < s.size
 ·have hge:decide ((s.size:Int) ≤ (k:Int))=false:=decide_eq_false (by omega)
  have hix:=run_idx s k hlt
  have HP:=Lib.hid (fun W=>(plain_p (gb s k) W).mono fun e w' h=>show e = _∧W=w' from ⟨h.1,h.2.symm⟩)
  have hqa:=quoted_at acc s k hlt
  rw [HR.out] at hqa
  obtain ⟨n,hn⟩:∃ n,(gb s k).toNat=n:=⟨_,rfl⟩
  obtain ⟨t34,t34n⟩:=byte_test (gb s k) 34 (by decide) n hn
  obtain ⟨t92,t92n⟩:=byte_test (gb s k) 92 (by decide) n hn
  rw [show UInt8.ofNat 34=34 from rfl] at t34
  rw [show UInt8.ofNat 92=92 from rfl] at t92
  have t34:((n:Int) == 34)=decide (gb s k=34):=t34
  have t92:((n:Int) == 92)=decide (gb s k=92):=t92
  have hnc:(gb s k).toNat=n:=hn
  rw [hn] at HP hix
  clear t34n t92n HR hn
  cases hp:Bare.plnB (gb s k) with
  | false =>
   rw [hp,if_pos rfl] at hqa
   rw [hp] at HP
   subst hqa
   unfold ReadP bv bcs noIt
   simp only
   clear t34 t92 hp
   go_wp2_with (go_at_call 151;refine (HP.out _).mono ?_;rintro e w' ⟨rfl,rfl⟩)
   simp only [Exit.jump]
   obtain ⟨hN2,hr2⟩:=set4 hN hBw hr (.int .u8 0) (.int .i64 0) (.string ⟨#[]⟩) (.bool false)
   obtain ⟨W2,hW2⟩:∃ W2,((((W.setCell ⟨B,0,none⟩ (.int .u8 0)).setCell ⟨B,1,none⟩ (.int .i64 0)).setCell ⟨B,2,none⟩ (.string ⟨#[]⟩)).setCell ⟨B,3,none⟩ (.bool false))=W2:=⟨_,rfl⟩
   rw [hW2] at hN2 hr2 ⊢
   exact read_end (by kernel_rfl) rfl rfl rfl hr2 ⟨rfl,hN2⟩
  | true =>
   rw [hp,if_neg (by decide)] at hqa
   rw [hp] at HP
   have hkb:(k:Int) ≤ 1000000:=by omega
   by_cases h34:gb s k=34
   ·rw [if_pos h34] at hqa
    rw [decide_eq_true h34] at t34
    have hcv:=conv_own (w:=W.drew) hown
    have hsl:∀ W,(Instr.slice 9 (.string s) (some (.int .i64 ((k:Int) + 1))) none none).run Tryz.prog W = .ok (.string (tx ((bl s).drop (k + 1)))) W:=fun W=>run_sl_l s (k + 1) (by omega) W
    subst hqa
    unfold ReadP bv bcs
    simp only
    obtain ⟨x,hx⟩:∃ x,tx acc=x:=⟨_,rfl⟩
    obtain ⟨y,hy⟩:∃ y,tx ((bl s).drop (k + 1))=y:=⟨_,rfl⟩
    rw [hx] at hcv ⊢
    rw [hy] at hsl ⊢
    clear hx hy hp h34 t92 hacc hk
    go_upto_region 7 with (go_at_call 151;refine (HP.out _).mono ?_;rintro e w' ⟨rfl,rfl⟩)
    go_region
    obtain ⟨hN2,hr2⟩:=set4 hN hBw hr (.int .u8 3) (.int .i64 0) (.string x) (.bool false)
    have hN2:=hN2.drew
    have hr2:((((W.setCell ⟨B,0,none⟩ (.int .u8 3)).setCell ⟨B,1,none⟩ (.int .i64 0)).setCell ⟨B,2,none⟩ (.string x)).setCell ⟨B,3,none⟩ (.bool false)).drew.heap[B]? = some (.cells #[(.int .u8 3),(.int .i64 0),(.string x),(.bool false)] 66 (0,0)):=hr2
    obtain ⟨W2,hW2⟩:∃ W2,((((W.setCell ⟨B,0,none⟩ (.int .u8 3)).setCell ⟨B,1,none⟩ (.int .i64 0)).setCell ⟨B,2,none⟩ (.string x)).setCell ⟨B,3,none⟩ (.bool false)).drew=W2:=⟨_,rfl⟩
    rw [hW2] at hN2 hr2 ⊢
    go_wp2_with fail
    simp only [Exit.jump]
    exact read_end (by kernel_rfl) rfl rfl rfl hr2 ⟨rfl,hN2⟩
   rw [if_neg h34] at hqa
   rw [decide_eq_false h34] at t34
   by_cases h92:gb s k=92
   ·rw [if_pos h92] at hqa
    rw [decide_eq_true h92] at t92
    by_cases hk1:k + 1 < s.size
    ·have hge1:decide ((s.size:Int) ≤ (k:Int) + 1)=false:=decide_eq_false (by omega)
     have hix2:∀ W,(Instr.index 9 (.string s) (.int .i64 ((k:Int) + 1))).run Tryz.prog W = .ok (.int .u8 ((gb s (k + 1)).toNat:Nat)) W:=fun W=>run_idx s (k + 1) hk1 W
     obtain ⟨m,hm⟩:∃ m,(gb s (k + 1)).toNat=m:=⟨_,rfl⟩
     obtain ⟨-,m34⟩:=byte_test (gb s (k + 1)) 34 (by decide) m hm
     obtain ⟨-,m92⟩:=byte_test (gb s (k + 1)) 92 (by decide) m hm
     rw [show UInt8.ofNat 34=34 from rfl] at m34
     rw [show UInt8.ofNat 92=92 from rfl] at m92
     have m34:((m:Int) != 34) = !decide (gb s (k + 1)=34):=m34
     have m92:((m:Int) != 92) = !decide (gb s (k + 1)=92):=m92
     have hmc:(gb s (k + 1)).toNat=m:=hm
     rw [hm] at hix2
     by_cases hok:gb s (k + 1)=34 ∨ gb s (k + 1)=92
     ·rw [if_pos ⟨hk1,hok⟩] at hqa
      obtain ⟨a,ha⟩:∃ a,decide (gb s (k + 1)=34)=a:=⟨_,rfl⟩
      obtain ⟨b,hb⟩:∃ b,decide (gb s (k + 1)=92)=b:=⟨_,rfl⟩
      have hab:a=true ∨ (a=false∧b=true):=by
       rw [← ha,← hb]
       by_cases h:gb s (k + 1)=34
       ·exact .inl (decide_eq_true h)
       ·exact .inr ⟨decide_eq_false h,decide_eq_true (hok.resolve_left h)⟩
      rw [ha] at m34
      rw [hb] at m92
      clear ha hb hok hm hp h34 h92
      rcases hab with rfl | ⟨rfl,rfl⟩
      ·have m34:((m:Int) != 34)=false:=m34
       clear m92
       go_wp2_with (first | (go_at_call 151;refine (HP.out _).mono ?_;rintro e w' ⟨rfl,rfl⟩) | (at_builtin;refine wpList_append_own _ rfl _ _ 113 rfl (B + 1) 5 i0 _ 1 1 Tryz.underlying113 hi hz0 hz1 hz2 rfl (by decide) _ _ _ rfl (hown.alloc _) ⟨W.heap.size,0,none⟩ 1 1 [.int .u8 (m:Nat)] rfl rfl ?c1 ?c2 ?c3 ?c4 ?c5 ?_))
       case c1=>exact cell_one_new _ _ _
       case c2=>simp [Value.oneCell']
       case c3=>unfold maxLen;omega
       case c4=>have:=hown.1;simp;omega
       case c5=>simp;omega
       intro v' W2 hown' hgrow _
       have hk2:New W (W.alloc (.cells #[.int .u8 (m:Nat)] 5)):=(Mods.refl _ _).alloc _
       have hN3:New w W2:=(hN.alloc _).grown hgrow (fun g hg=>.inl (by have:=(hown.lt g hg).1;omega))
       have hr3:W2.heap[B]? = some (.cells #[.int .u8 0,.int .i64 0,.string ⟨#[]⟩,.bool false] 66 (0,0)):=by
        have h2:=hk2.heap hr id
        have h3:Mods (fun b=>B + 1 ≤ b) (W.alloc (.cells #[.int .u8 (m:Nat)] 5)) W2:=(Mods.refl _ _).grown hgrow (fun g hg=>.inr ⟨(hown.lt g hg).1,own_cells (hown.alloc _) hg⟩)
        exact h3.heap h2 (by omega)
       have hown3:W2.ownsRow (B + 1) 5 1 v' (acc ++ [gb s (k + 1)]).length (u8s (acc ++ [gb s (k + 1)])):=by
        have:u8s (acc ++ [gb s (k + 1)])=u8s acc ++ [.int .u8 (m:Nat)]:=by rw [u8s_snoc,hmc]
        rw [this,List.length_append]
        exact hown'
       clear hown hown' hgrow c0 c1 c2 c3 f0 f1 f2 f3 hk2
       go_wp2_with fail
       exact wp_goto (And.intro rfl ⟨⟨k + 2,acc ++ [gb s (k + 1)],v',⟨rfl,rfl,rfl,rfl,rfl,rfl⟩,by omega,by rw [List.length_append];show acc.length + 1 ≤ _;omega,hown3,hr3,hN3,Lib.hid hqa.symm⟩,by simp [Qμ,intOf];omega⟩)
      ·have m34:((m:Int) != 34)=true:=m34
       have m92:((m:Int) != 92)=false:=m92
       go_wp2_with (first | (go_at_call 151;refine (HP.out _).mono ?_;rintro e w' ⟨rfl,rfl⟩) | (at_builtin;refine wpList_append_own _ rfl _ _ 113 rfl (B + 1) 5 i0 _ 1 1 Tryz.underlying113 hi hz0 hz1 hz2 rfl (by decide) _ _ _ rfl (hown.alloc _) ⟨W.heap.size,0,none⟩ 1 1 [.int .u8 (m:Nat)] rfl rfl ?c1 ?c2 ?c3 ?c4 ?c5 ?_))
       case c1=>exact cell_one_new _ _ _
       case c2=>simp [Value.oneCell']
       case c3=>unfold maxLen;omega
       case c4=>have:=hown.1;simp;omega
       case c5=>simp;omega
       intro v' W2 hown' hgrow _
       have hk2:New W (W.alloc (.cells #[.int .u8 (m:Nat)] 5)):=(Mods.refl _ _).alloc _
       have hN3:New w W2:=(hN.alloc _).grown hgrow (fun g hg=>.inl (by have:=(hown.lt g hg).1;omega))
       have hr3:W2.heap[B]? = some (.cells #[.int .u8 0,.int .i64 0,.string ⟨#[]⟩,.bool false] 66 (0,0)):=by
        have h2:=hk2.heap hr id
        have h3:Mods (fun b=>B + 1 ≤ b) (W.alloc (.cells #[.int .u8 (m:Nat)] 5)) W2:=(Mods.refl _ _).grown hgrow (fun g hg=>.inr ⟨(hown.lt g hg).1,own_cells (hown.alloc _) hg⟩)
        exact h3.heap h2 (by omega)
       have hown3:W2.ownsRow (B + 1) 5 1 v' (acc ++ [gb s (k + 1)]).length (u8s (acc ++ [gb s (k + 1)])):=by
        have:u8s (acc ++ [gb s (k + 1)])=u8s acc ++ [.int .u8 (m:Nat)]:=by rw [u8s_snoc,hmc]
        rw [this,List.length_append]
        exact hown'
       clear hown hown' hgrow c0 c1 c2 c3 f0 f1 f2 f3 hk2
       go_wp2_with fail
       exact wp_goto (And.intro rfl ⟨⟨k + 2,acc ++ [gb s (k + 1)],v',⟨rfl,rfl,rfl,rfl,rfl,rfl⟩,by omega,by rw [List.length_append];show acc.length + 1 ≤ _;omega,hown3,hr3,hN3,Lib.hid hqa.symm⟩,by simp [Qμ,intOf];omega⟩)
     ·rw [if_neg (fun h=>hok h.2)] at hqa
      have n34:((m:Int) != 34)=true:=by rw [m34,decide_eq_false (fun h=>hok (.inl h))];rfl
      have n92:((m:Int) != 92)=true:=by rw [m92,decide_eq_false (fun h=>hok (.inr h))];rfl
      clear m34 m92
      subst hqa
      unfold ReadP bv bcs noIt
      simp only
      clear hok hm hmc hp h34 h92
      go_wp2_with (go_at_call 151;refine (HP.out _).mono ?_;rintro e w' ⟨rfl,rfl⟩)
      simp only [Exit.jump]
      obtain ⟨hN2,hr2⟩:=set4 hN hBw hr (.int .u8 0) (.int .i64 0) (.string ⟨#[]⟩) (.bool false)
      obtain ⟨W2,hW2⟩:∃ W2,((((W.setCell ⟨B,0,none⟩ (.int .u8 0)).setCell ⟨B,1,none⟩ (.int .i64 0)).setCell ⟨B,2,none⟩ (.string ⟨#[]⟩)).setCell ⟨B,3,none⟩ (.bool false))=W2:=⟨_,rfl⟩
      rw [hW2] at hN2 hr2 ⊢
      exact read_end (by kernel_rfl) rfl rfl rfl hr2 ⟨rfl,hN2⟩
    ·have hge1:decide ((s.size:Int) ≤ (k:Int) + 1)=true:=decide_eq_true (by omega)
     rw [if_neg (fun h=>hk1 h.1)] at hqa
     subst hqa
     unfold ReadP bv bcs noIt
     simp only
     have hge1':(s.size:Int) ≤ (k:Int) + 1:=by omega
     clear hp h34 h92 hk1
     go_wp2_with (go_at_call 151;refine (HP.out _).mono ?_;rintro e w' ⟨rfl,rfl⟩)
     simp only [Exit.jump]
     obtain ⟨hN2,hr2⟩:=set4 hN hBw hr (.int .u8 0) (.int .i64 0) (.string ⟨#[]⟩) (.bool false)
     obtain ⟨W2,hW2⟩:∃ W2,((((W.setCell ⟨B,0,none⟩ (.int .u8 0)).setCell ⟨B,1,none⟩ (.int .i64 0)).setCell ⟨B,2,none⟩ (.string ⟨#[]⟩)).setCell ⟨B,3,none⟩ (.bool false))=W2:=⟨_,rfl⟩
     rw [hW2] at hN2 hr2 ⊢
     exact read_end (by kernel_rfl) rfl rfl rfl hr2 ⟨rfl,hN2⟩
   ·rw [if_neg h92] at hqa
    rw [decide_eq_false h92] at t92
    clear hp h34 h92
    go_wp2_with (first | (go_at_call 151;refine (HP.out _).mono ?_;rintro e w' ⟨rfl,rfl⟩) | (at_builtin;refine wpList_append_own _ rfl _ _ 113 rfl (B + 1) 5 i0 _ 1 1 Tryz.underlying113 hi hz0 hz1 hz2 rfl (by decide) _ _ _ rfl (hown.alloc _) ⟨W.heap.size,0,none⟩ 1 1 [.int .u8 (n:Nat)] rfl rfl ?c1 ?c2 ?c3 ?c4 ?c5 ?_))
    case c1=>exact cell_one_new _ _ _
    case c2=>simp [Value.oneCell']
    case c3=>unfold maxLen;omega
    case c4=>have:=hown.1;simp;omega
    case c5=>simp;omega
    intro v' W2 hown' hgrow _
    have hk2:New W (W.alloc (.cells #[.int .u8 (n:Nat)] 5)):=(Mods.refl _ _).alloc _
    have hN3:New w W2:=(hN.alloc _).grown hgrow (fun g hg=>.inl (by have:=(hown.lt g hg).1;omega))
    have hr3:W2.heap[B]? = some (.cells #[.int .u8 0,.int .i64 0,.string ⟨#[]⟩,.bool false] 66 (0,0)):=by
     have h2:=hk2.heap hr id
     have h3:Mods (fun b=>B + 1 ≤ b) (W.alloc (.cells #[.int .u8 (n:Nat)] 5)) W2:=(Mods.refl _ _).grown hgrow (fun g hg=>.inr ⟨(hown.lt g hg).1,own_cells (hown.alloc _) hg⟩)
     exact h3.heap h2 (by omega)
    have hown3:W2.ownsRow (B + 1) 5 1 v' (acc ++ [gb s k]).length (u8s (acc ++ [gb s k])):=by
     have:u8s (acc ++ [gb s k])=u8s acc ++ [.int .u8 (n:Nat)]:=by rw [u8s_snoc,hnc]
     rw [this,List.length_append]
     exact hown'
    clear hown hown' hgrow c0 c1 c2 c3 f0 f1 f2 f3 hk2
    go_wp2_with fail
    exact wp_goto (And.intro rfl ⟨⟨k + 1,acc ++ [gb s k],v',⟨rfl,rfl,rfl,rfl,rfl,rfl⟩,by omega,by rw [List.length_append];show acc.length + 1 ≤ _;omega,hown3,hr3,hN3,Lib.hid hqa.symm⟩,by simp [Qμ,intOf];omega⟩)
 ·have hge:decide ((s.size:Int) ≤ (k:Int))=true:=decide_eq_true (by omega)
  have hqa:=quoted_end acc s k (by omega)
  rw [HR.out] at hqa
  subst hqa
  unfold ReadP bv bcs noIt
  simp only
  have hge':s.size ≤ k:=by omega
  clear HR hlt
  go_wp2_with fail
  simp only [Exit.jump]
  obtain ⟨hN2,hr2⟩:=set4 hN hBw hr (.int .u8 0) (.int .i64 0) (.string ⟨#[]⟩) (.bool false)
  obtain ⟨W2,hW2⟩:∃ W2,((((W.setCell ⟨B,0,none⟩ (.int .u8 0)).setCell ⟨B,1,none⟩ (.int .i64 0)).setCell ⟨B,2,none⟩ (.string ⟨#[]⟩)).setCell ⟨B,3,none⟩ (.bool false))=W2:=⟨_,rfl⟩
  rw [hW2] at hN2 hr2 ⊢
  exact read_end (by kernel_rfl) rfl rfl rfl hr2 ⟨rfl,hN2⟩
theorem quoted_read (s:ByteArray) (w:World) (hs:s.size ≤ 1000000) (h0:0 < s.size) :
  Calls Tryz.prog 211 #[.string s] w (ReadP (Bare.quoted [] ((bl s).drop 1)) w):=by
 obtain ⟨r,hr'⟩:∃ r,Bare.quoted [] ((bl s).drop 1)=r:=⟨_,rfl⟩
 have HR:=Lib.hid hr'
 rw [hr']
 clear hr'
 obtain ⟨hN,hr⟩:=no_row w
 go_enter Tryz.func211,Tryz.ntmps211
 go_upto_region 1 with fail
 obtain ⟨W,hW⟩:∃ W,w.alloc (.cells #[.int .u8 0,.int .i64 0,.string ⟨#[]⟩,.bool false] 66)=W:=⟨_,rfl⟩
 rw [hW] at hN hr ⊢
 obtain ⟨B,hB⟩:∃ B,w.heap.size=B:=⟨_,rfl⟩
 have hBw:w.heap.size ≤ B:=by omega
 rw [hB] at hr ⊢
 clear hW hB
 obtain ⟨⟨c0,c1,c2,c3⟩,f0,f1,f2,f3⟩:=row_facts hr
 clear c0 c1 c2 c3 f0 f1 f2 f3
 refine wp_scope_loop 0 (QJ s w B r) (Qμ s) rfl ?pass ?first
 case first =>
  intro hp
  go_wp2_with fail
  refine wp_label ?_
  rename_i K hK
  refine hK _ _ (wp_mono (quoted_X s w B r hs hBw _ _ ⟨1,[],.slice none 0 0,⟨rfl,rfl,rfl,rfl,rfl,rfl⟩,by omega,by simp,World.ownsRow_nil _ _ _ _,hr,hN,HR⟩) ?_)
  intro e a' w' hq
  cases e with
  | goto l'=>exact ⟨hq.1,hq.2.1⟩
  | _=>exact hq
 case pass =>
  intro a W' hJ
  refine wp_seq (wp_skip ?_)
  exact quoted_X s w B r hs hBw a W' hJ


def numR (g:Int) (t:Bare.Bs):Option (Bare.It × Bare.Bs) :=
 let d:=t.takeWhile Bare.digB
 let r:=t.drop d.length
 if d.length < 1 ∨ 15 < d.length then none
 else if r.head? ≠ some 46 then some (⟨1,g * (Bare.valD d:Int),[],false⟩,r)
 else
  let e:=(r.drop 1).takeWhile Bare.digB
  if 12 < d.length ∨ e.length < 1 ∨ 3 < e.length then none
  else some (⟨2,g * (1000 * (Bare.valD d:Int) + Bare.valD ((e ++ [48,48]).take 3)),[],false⟩,r.drop (1 + e.length))
theorem number_numR (l:Bare.Bs):Bare.number l=if l.head? == some 45 then numR (-1) (l.drop 1) else numR 1 l:=by
 unfold Bare.number numR
 cases h:(l.head? == some 45) <;> simp
theorem _root_.Go.Cs.Mods.freeze {S:Nat→Prop} {a w:World} (h:Mods S a w) (p:Addr) (n:Nat) (hp:a.heap.size ≤ p.block):Mods S a (w.freeze p n):=by
 unfold World.freeze
 split
 ·exact h
 ·refine ⟨h.os,h.tape,h.output,by simpa using h.size,fun k o hk ho=>?_⟩
  have:=(Array.getElem?_eq_some_iff.1 hk).1
  simp only [Array.getElem?_modify]
  rw [if_neg (by omega)]
  exact h.block k o hk ho
theorem bytesWorld_new (w:World) (e:TypeId) (t:ByteArray):New w (Lib.bytesWorld w e t):=by
 unfold Lib.bytesWorld
 exact (((Mods.refl _ _).drew).alloc _).freeze _ _ (Nat.le_refl _)
theorem atoi_any (l:Bare.Bs) (h:l.all Bare.digB=true) (h1:l ≠ []) (h2:l.length ≤ 18) (w:World) :
  Calls Tryz.prog 218 #[.string (tx l)] w fun e w'=>e = .returned (.tuple #[.int .i64 (Bare.valD l:Nat),.nilIface])∧New w w' :=
 (Tryz.strconv_Atoi (tx l) (Bare.valD l:Nat) (by rw [tx_size];exact h2) (Bare.atoi_digits h h1) w).mono fun e w' ⟨he,t,hw⟩=>⟨he,by rw [hw];exact bytesWorld_new _ _ _⟩
theorem digs_take (l:Bare.Bs):((l.takeWhile Bare.digB).all Bare.digB)=true:=Bare.all_takeWhile _ _
theorem val_lt {l:Bare.Bs} (h:l.all Bare.digB=true) (n:Nat) (hl:l.length ≤ n):Bare.valD l < 10 ^ n :=
 Nat.lt_of_lt_of_le (Bare.valD_lt h) (Nat.pow_le_pow_right (by decide) hl)
theorem head_drop (s:ByteArray) (n:Nat) (h:n < s.size):((bl s).drop n).head? = some (gb s n):=by
 rw [List.head?_drop];exact gb_get s n h
theorem head_end (s:ByteArray):((bl s).drop s.size).head? = none:=by
 rw [List.head?_drop,List.getElem?_eq_none]
 rw [bl_len];exact Nat.le_refl _
theorem u8_eq (c d:UInt8):decide (c=d)=decide ((c.toNat:Int)=(d.toNat:Int)):=by
 rw [decide_eq_decide,← UInt8.toNat_inj]
 omega
theorem number_pos (s:ByteArray) (w:World) (hs:s.size ≤ 1000000) (h0:0 < s.size) (hng:gb s 0 ≠ 45) :
  Calls Tryz.prog 209 #[.string s] w (ReadP (Bare.number (bl s)) w):=by
 have hc45:decide (gb s 0=45)=false:=decide_eq_false hng
 rw [u8_eq] at hc45
 have hix0:∀ W,(Instr.index 9 (.string s) (.int .i64 0)).run Tryz.prog W = .ok (.int .u8 ((gb s 0).toNat:Nat)) W:=run_idx s 0 (by omega)
 have e0:Bare.number (bl s)=numR 1 (bl s):=by
  have hh:(bl s).head? = some (gb s 0):=by have:=head_drop s 0 h0;rwa [List.drop_zero] at this
  rw [number_numR,hh]
  simp [hng]
 rw [e0]
 clear e0
 have hTs:=hs
 obtain ⟨c,hc⟩:∃ c,(gb s 0).toNat=c:=⟨_,rfl⟩
 rw [hc] at hc45 hix0
 have hceq:((c:Int) == 45)=false:=hc45
 clear hc hc45 hng
 have HR:=Lib.hid (fun W=>(run_any 176 #[] _ digit_p (enters_of Tryz.func176 (by kernel_rfl) rfl) s W (by omega)).mono fun e w' h=>show e = _∧W=w' from ⟨h.1,h.2.symm⟩)
 have hle:=Bare.takeWhile_len Bare.digB (bl s)
 have htk:=Bare.takeWhile_take Bare.digB (bl s)
 have hdg:=digs_take (bl s)
 unfold numR
 simp only
 obtain ⟨d,hd⟩:∃ d,(bl s).takeWhile Bare.digB=d:=⟨_,rfl⟩
 rw [hd] at HR hle htk hdg ⊢
 obtain ⟨n,hn⟩:∃ n,d.length=n:=⟨_,rfl⟩
 rw [hn] at HR hle htk ⊢
 rw [bl_len] at hle
 clear hd
 obtain ⟨hN,hr⟩:=no_row w
 by_cases h1:n < 1
 ·have d1:decide ((n:Int) < 1)=true:=decide_eq_true (by omega)
  rw [if_pos (.inl h1)]
  unfold ReadP bv bcs noIt
  simp only
  clear htk h1 hn hle
  go_enter Tryz.func209,Tryz.ntmps209
  go_upto_region 1 with fail
  obtain ⟨W,hW⟩:∃ W,w.alloc (.cells #[.int .u8 0,.int .i64 0,.string ⟨#[]⟩,.bool false] 66)=W:=⟨_,rfl⟩
  rw [hW] at hN hr ⊢
  obtain ⟨B,hB⟩:∃ B,w.heap.size=B:=⟨_,rfl⟩
  have hBw:w.heap.size ≤ B:=by omega
  rw [hB] at hr ⊢
  clear hW hB
  obtain ⟨⟨c0,c1,c2,c3⟩,f0,f1,f2,f3⟩:=row_facts hr
  go_upto_region 6 with (go_at_call 217;refine (HR.out _).mono ?_;rintro e w' ⟨rfl,rfl⟩)
  go_wp2_with fail
  obtain ⟨hN2,hr2⟩:=set4 hN hBw hr (.int .u8 0) (.int .i64 0) (.string ⟨#[]⟩) (.bool false)
  obtain ⟨W2,hW2⟩:∃ W2,((((W.setCell ⟨B,0,none⟩ (.int .u8 0)).setCell ⟨B,1,none⟩ (.int .i64 0)).setCell ⟨B,2,none⟩ (.string ⟨#[]⟩)).setCell ⟨B,3,none⟩ (.bool false))=W2:=⟨_,rfl⟩
  rw [hW2] at hN2 hr2 ⊢
  exact read_end (by kernel_rfl) rfl rfl rfl hr2 ⟨rfl,hN2⟩
 have d1:decide ((n:Int) < 1)=false:=decide_eq_false (by omega)
 by_cases h15:15 < n
 ·have d2:decide (15 < (n:Int))=true:=decide_eq_true (by omega)
  rw [if_pos (.inr h15)]
  unfold ReadP bv bcs noIt
  simp only
  clear htk h1 h15 hn hle
  go_enter Tryz.func209,Tryz.ntmps209
  go_upto_region 1 with fail
  obtain ⟨W,hW⟩:∃ W,w.alloc (.cells #[.int .u8 0,.int .i64 0,.string ⟨#[]⟩,.bool false] 66)=W:=⟨_,rfl⟩
  rw [hW] at hN hr ⊢
  obtain ⟨B,hB⟩:∃ B,w.heap.size=B:=⟨_,rfl⟩
  have hBw:w.heap.size ≤ B:=by omega
  rw [hB] at hr ⊢
  clear hW hB
  obtain ⟨⟨c0,c1,c2,c3⟩,f0,f1,f2,f3⟩:=row_facts hr
  go_upto_region 6 with (go_at_call 217;refine (HR.out _).mono ?_;rintro e w' ⟨rfl,rfl⟩)
  go_wp2_with fail
  obtain ⟨hN2,hr2⟩:=set4 hN hBw hr (.int .u8 0) (.int .i64 0) (.string ⟨#[]⟩) (.bool false)
  obtain ⟨W2,hW2⟩:∃ W2,((((W.setCell ⟨B,0,none⟩ (.int .u8 0)).setCell ⟨B,1,none⟩ (.int .i64 0)).setCell ⟨B,2,none⟩ (.string ⟨#[]⟩)).setCell ⟨B,3,none⟩ (.bool false))=W2:=⟨_,rfl⟩
  rw [hW2] at hN2 hr2 ⊢
  exact read_end (by kernel_rfl) rfl rfl rfl hr2 ⟨rfl,hN2⟩
 have d2:decide (15 < (n:Int))=false:=decide_eq_false (by omega)
 rw [if_neg (by omega)]
 have hne:d ≠ []:=by rintro rfl;simp at hn;omega
 have HA:=Lib.hid (fun W=>atoi_any d hdg hne (by omega) W)
 have hsh:=run_sl_h s n hle
 have hvl:=val_lt hdg 15 (by omega)
 have hvl12:=fun h=>val_lt hdg 12 h
 rw [htk] at hsh
 have hsl:=run_sl_l s n hle
 obtain ⟨v,hv⟩:∃ v,Bare.valD d=v:=⟨_,rfl⟩
 rw [hv] at HA hvl hvl12 ⊢
 obtain ⟨dx,hdx⟩:∃ dx,tx d=dx:=⟨_,rfl⟩
 rw [hdx] at HA hsh
 rw [hn] at hvl12
 clear hv hdx htk hne hdg hn
 simp at hvl
 by_cases hend:n=s.size
 ·have d3:decide ((n:Int)=(s.size:Int))=true:=decide_eq_true (by omega)
  have d3':((n:Int) == (s.size:Int))=true:=d3
  have hhd:((bl s).drop n).head? ≠ some 46:=by rw [hend,head_end];simp
  rw [if_pos hhd]
  obtain ⟨x,hx⟩:∃ x,tx ((bl s).drop n)=x:=⟨_,rfl⟩
  rw [hx] at hsl
  unfold ReadP bv bcs
  simp only
  rw [hx,Int.one_mul]
  clear hhd hend h1 h15 hle hx hvl12
  go_enter Tryz.func209,Tryz.ntmps209
  go_upto_region 1 with fail
  obtain ⟨W,hW⟩:∃ W,w.alloc (.cells #[.int .u8 0,.int .i64 0,.string ⟨#[]⟩,.bool false] 66)=W:=⟨_,rfl⟩
  rw [hW] at hN hr ⊢
  obtain ⟨B,hB⟩:∃ B,w.heap.size=B:=⟨_,rfl⟩
  have hBw:w.heap.size ≤ B:=by omega
  rw [hB] at hr ⊢
  clear hW hB
  obtain ⟨⟨c0,c1,c2,c3⟩,f0,f1,f2,f3⟩:=row_facts hr
  go_upto_region 9 with (first | (go_at_call 217;refine (HR.out _).mono ?_;rintro e w' ⟨rfl,rfl⟩) | (go_at_call 218;refine (HA.out _).mono ?_;rintro e wa ⟨rfl,hNa⟩))
  have hN:=hN.trans hNa
  have hr:=hNa.heap hr id
  clear c0 c1 c2 c3 f0 f1 f2 f3 hNa
  obtain ⟨⟨c0,c1,c2,c3⟩,f0,f1,f2,f3⟩:=row_facts hr
  go_region
  obtain ⟨hN2,hr2⟩:=set4 hN hBw hr (.int .u8 1) (.int .i64 (v:Int)) (.string ⟨#[]⟩) (.bool false)
  have hN2:=hN2.drew
  have hr2:((((wa.setCell ⟨B,0,none⟩ (.int .u8 1)).setCell ⟨B,1,none⟩ (.int .i64 (v:Int))).setCell ⟨B,2,none⟩ (.string ⟨#[]⟩)).setCell ⟨B,3,none⟩ (.bool false)).drew.heap[B]? = some (.cells #[(.int .u8 1),(.int .i64 (v:Int)),(.string ⟨#[]⟩),(.bool false)] 66 (0,0)):=hr2
  obtain ⟨W2,hW2⟩:∃ W2,((((wa.setCell ⟨B,0,none⟩ (.int .u8 1)).setCell ⟨B,1,none⟩ (.int .i64 (v:Int))).setCell ⟨B,2,none⟩ (.string ⟨#[]⟩)).setCell ⟨B,3,none⟩ (.bool false)).drew=W2:=⟨_,rfl⟩
  rw [hW2] at hN2 hr2 ⊢
  go_wp2_with fail
  exact read_end (by kernel_rfl) rfl rfl rfl hr2 ⟨rfl,hN2⟩
 have hlt:n < s.size:=by omega
 have d3:decide ((n:Int)=(s.size:Int))=false:=decide_eq_false (by omega)
 have d3':((n:Int) == (s.size:Int))=false:=d3
 have hixn:=run_idx s n hlt
 have hhn:=head_drop s n hlt
 have hq46:=u8_eq (gb s n) 46
 by_cases hq:gb s n=46
 case neg =>
  rw [decide_eq_false hq] at hq46
  have hhd:((bl s).drop n).head? ≠ some 46:=by rw [hhn];simpa using hq
  rw [if_pos hhd]
  obtain ⟨x,hx⟩:∃ x,tx ((bl s).drop n)=x:=⟨_,rfl⟩
  rw [hx] at hsl
  obtain ⟨q,hqn⟩:∃ q,(gb s n).toNat=q:=⟨_,rfl⟩
  rw [hqn] at hixn hq46
  have hq1:((q:Int) == 46)=false:=hq46.symm
  have hq2:((q:Int) != 46)=true:=by simp [bne,hq1]
  clear hq hqn hq46 hhd hhn hend hlt
  unfold ReadP bv bcs
  simp only
  rw [hx,Int.one_mul]
  clear h1 h15 hle hx hvl12
  go_enter Tryz.func209,Tryz.ntmps209
  go_upto_region 1 with fail
  obtain ⟨W,hW⟩:∃ W,w.alloc (.cells #[.int .u8 0,.int .i64 0,.string ⟨#[]⟩,.bool false] 66)=W:=⟨_,rfl⟩
  rw [hW] at hN hr ⊢
  obtain ⟨B,hB⟩:∃ B,w.heap.size=B:=⟨_,rfl⟩
  have hBw:w.heap.size ≤ B:=by omega
  rw [hB] at hr ⊢
  clear hW hB
  obtain ⟨⟨c0,c1,c2,c3⟩,f0,f1,f2,f3⟩:=row_facts hr
  go_upto_region 9 with (first | (go_at_call 217;refine (HR.out _).mono ?_;rintro e w' ⟨rfl,rfl⟩) | (go_at_call 218;refine (HA.out _).mono ?_;rintro e wa ⟨rfl,hNa⟩))
  have hN:=hN.trans hNa
  have hr:=hNa.heap hr id
  clear c0 c1 c2 c3 f0 f1 f2 f3 hNa
  obtain ⟨⟨c0,c1,c2,c3⟩,f0,f1,f2,f3⟩:=row_facts hr
  go_region
  obtain ⟨hN2,hr2⟩:=set4 hN hBw hr (.int .u8 1) (.int .i64 (v:Int)) (.string ⟨#[]⟩) (.bool false)
  have hN2:=hN2.drew
  have hr2:((((wa.setCell ⟨B,0,none⟩ (.int .u8 1)).setCell ⟨B,1,none⟩ (.int .i64 (v:Int))).setCell ⟨B,2,none⟩ (.string ⟨#[]⟩)).setCell ⟨B,3,none⟩ (.bool false)).drew.heap[B]? = some (.cells #[(.int .u8 1),(.int .i64 (v:Int)),(.string ⟨#[]⟩),(.bool false)] 66 (0,0)):=hr2
  obtain ⟨W2,hW2⟩:∃ W2,((((wa.setCell ⟨B,0,none⟩ (.int .u8 1)).setCell ⟨B,1,none⟩ (.int .i64 (v:Int))).setCell ⟨B,2,none⟩ (.string ⟨#[]⟩)).setCell ⟨B,3,none⟩ (.bool false)).drew=W2:=⟨_,rfl⟩
  rw [hW2] at hN2 hr2 ⊢
  go_wp2_with fail
  exact read_end (by kernel_rfl) rfl rfl rfl hr2 ⟨rfl,hN2⟩
 case pos =>
  rw [decide_eq_true hq] at hq46
  have hhd:¬ ((bl s).drop n).head? ≠ some 46:=by rw [hhn,hq];simp
  rw [if_neg hhd]
  obtain ⟨q,hqn⟩:∃ q,(gb s n).toNat=q:=⟨_,rfl⟩
  rw [hqn] at hixn hq46
  have hq1:((q:Int) == 46)=true:=hq46.symm
  have hq2:((q:Int) != 46)=false:=by simp [bne,hq1]
  have hnb:(n:Int) ≤ 1000000:=by omega
  clear hq hqn hq46 hhd hhn hend
  have hsl1:∀ W,(Instr.slice 9 (.string s) (some (.int .i64 ((n:Int) + 1))) none none).run Tryz.prog W = .ok (.string (tx ((bl s).drop (n + 1)))) W:=fun W=>run_sl_l s (n + 1) (by omega) W
  obtain ⟨U,hU⟩:∃ U,tx ((bl s).drop (n + 1))=U:=⟨_,rfl⟩
  have hUl:((bl s).drop n).drop 1=bl U:=by rw [← hU,List.drop_drop]
  have hUs:U.size=s.size - (n + 1):=by rw [← hU,tx_size,List.length_drop,bl_len]
  have hdd:∀ k,((bl s).drop n).drop (1 + k)=(bl s).drop (n + 1 + k):=fun k=>by rw [List.drop_drop];congr 1;omega
  have hpc:∀ k,piec s (n + 1) (n + 1 + k)=tx ((bl U).take k):=fun k=>by unfold piec;rw [← hU,Nat.add_sub_cancel_left]
  rw [hU] at hsl1
  rw [hUl]
  have HU:=Lib.hid (fun W=>(run_any 176 #[] _ digit_p (enters_of Tryz.func176 (by kernel_rfl) rfl) U W (by omega)).mono fun e w' h=>show e = _∧W=w' from ⟨h.1,h.2.symm⟩)
  have hek:=Bare.takeWhile_len Bare.digB (bl U)
  have het:=Bare.takeWhile_take Bare.digB (bl U)
  have hed:=digs_take (bl U)
  obtain ⟨e,he⟩:∃ e,(bl U).takeWhile Bare.digB=e:=⟨_,rfl⟩
  rw [he] at HU hek het hed ⊢
  obtain ⟨k,hk⟩:∃ k,e.length=k:=⟨_,rfl⟩
  rw [hk] at HU hek het ⊢
  rw [bl_len,hUs] at hek
  rw [hdd]
  have hkb:(k:Int) ≤ 1000000:=by omega
  clear he hU hUl hdd
  by_cases hn12:12 < n
  ·have d4:decide (12 < (n:Int))=true:=decide_eq_true (by omega)
   rw [if_pos (.inl hn12)]
   unfold ReadP bv bcs noIt
   simp only
   clear hn12 h1 h15 hle hed het hpc hek hUs hlt hk hvl12
   go_enter Tryz.func209,Tryz.ntmps209
   go_upto_region 1 with fail
   obtain ⟨W,hW⟩:∃ W,w.alloc (.cells #[.int .u8 0,.int .i64 0,.string ⟨#[]⟩,.bool false] 66)=W:=⟨_,rfl⟩
   rw [hW] at hN hr ⊢
   obtain ⟨B,hB⟩:∃ B,w.heap.size=B:=⟨_,rfl⟩
   have hBw:w.heap.size ≤ B:=by omega
   rw [hB] at hr ⊢
   clear hW hB
   obtain ⟨⟨c0,c1,c2,c3⟩,f0,f1,f2,f3⟩:=row_facts hr
   go_upto_region 10 with (first | (go_at_call 217;refine (HR.out _).mono ?_;rintro e w' ⟨rfl,rfl⟩) | (go_at_call 218;refine (HA.out _).mono ?_;rintro e wa ⟨rfl,hNa⟩))
   have hN:=hN.trans hNa
   have hr:=hNa.heap hr id
   clear c0 c1 c2 c3 f0 f1 f2 f3 hNa
   obtain ⟨⟨c0,c1,c2,c3⟩,f0,f1,f2,f3⟩:=row_facts hr
   go_upto_region 12 with (go_at_call 217;refine (HU.out _).mono ?_;rintro e w' ⟨rfl,rfl⟩)
   go_wp2_with fail
   obtain ⟨hN2,hr2⟩:=set4 hN hBw hr (.int .u8 0) (.int .i64 0) (.string ⟨#[]⟩) (.bool false)
   obtain ⟨W2,hW2⟩:∃ W2,((((wa.setCell ⟨B,0,none⟩ (.int .u8 0)).setCell ⟨B,1,none⟩ (.int .i64 0)).setCell ⟨B,2,none⟩ (.string ⟨#[]⟩)).setCell ⟨B,3,none⟩ (.bool false))=W2:=⟨_,rfl⟩
   rw [hW2] at hN2 hr2 ⊢
   exact read_end (by kernel_rfl) rfl rfl rfl hr2 ⟨rfl,hN2⟩
  have d4:decide (12 < (n:Int))=false:=decide_eq_false (by omega)
  by_cases hk1:k < 1
  ·have d5:decide ((k:Int) < 1)=true:=decide_eq_true (by omega)
   rw [if_pos (.inr (.inl hk1))]
   unfold ReadP bv bcs noIt
   simp only
   clear hn12 hk1 h1 h15 hle hed het hpc hek hUs hlt hk hvl12
   go_enter Tryz.func209,Tryz.ntmps209
   go_upto_region 1 with fail
   obtain ⟨W,hW⟩:∃ W,w.alloc (.cells #[.int .u8 0,.int .i64 0,.string ⟨#[]⟩,.bool false] 66)=W:=⟨_,rfl⟩
   rw [hW] at hN hr ⊢
   obtain ⟨B,hB⟩:∃ B,w.heap.size=B:=⟨_,rfl⟩
   have hBw:w.heap.size ≤ B:=by omega
   rw [hB] at hr ⊢
   clear hW hB
   obtain ⟨⟨c0,c1,c2,c3⟩,f0,f1,f2,f3⟩:=row_facts hr
   go_upto_region 10 with (first | (go_at_call 217;refine (HR.out _).mono ?_;rintro e w' ⟨rfl,rfl⟩) | (go_at_call 218;refine (HA.out _).mono ?_;rintro e wa ⟨rfl,hNa⟩))
   have hN:=hN.trans hNa
   have hr:=hNa.heap hr id
   clear c0 c1 c2 c3 f0 f1 f2 f3 hNa
   obtain ⟨⟨c0,c1,c2,c3⟩,f0,f1,f2,f3⟩:=row_facts hr
   go_upto_region 12 with (go_at_call 217;refine (HU.out _).mono ?_;rintro e w' ⟨rfl,rfl⟩)
   go_wp2_with fail
   obtain ⟨hN2,hr2⟩:=set4 hN hBw hr (.int .u8 0) (.int .i64 0) (.string ⟨#[]⟩) (.bool false)
   obtain ⟨W2,hW2⟩:∃ W2,((((wa.setCell ⟨B,0,none⟩ (.int .u8 0)).setCell ⟨B,1,none⟩ (.int .i64 0)).setCell ⟨B,2,none⟩ (.string ⟨#[]⟩)).setCell ⟨B,3,none⟩ (.bool false))=W2:=⟨_,rfl⟩
   rw [hW2] at hN2 hr2 ⊢
   exact read_end (by kernel_rfl) rfl rfl rfl hr2 ⟨rfl,hN2⟩
  have d5:decide ((k:Int) < 1)=false:=decide_eq_false (by omega)
  by_cases hk3:3 < k
  ·have d6:decide (3 < (k:Int))=true:=decide_eq_true (by omega)
   rw [if_pos (.inr (.inr hk3))]
   unfold ReadP bv bcs noIt
   simp only
   clear hn12 hk1 hk3 h1 h15 hle hed het hpc hek hUs hlt hk hvl12
   go_enter Tryz.func209,Tryz.ntmps209
   go_upto_region 1 with fail
   obtain ⟨W,hW⟩:∃ W,w.alloc (.cells #[.int .u8 0,.int .i64 0,.string ⟨#[]⟩,.bool false] 66)=W:=⟨_,rfl⟩
   rw [hW] at hN hr ⊢
   obtain ⟨B,hB⟩:∃ B,w.heap.size=B:=⟨_,rfl⟩
   have hBw:w.heap.size ≤ B:=by omega
   rw [hB] at hr ⊢
   clear hW hB
   obtain ⟨⟨c0,c1,c2,c3⟩,f0,f1,f2,f3⟩:=row_facts hr
   go_upto_region 10 with (first | (go_at_call 217;refine (HR.out _).mono ?_;rintro e w' ⟨rfl,rfl⟩) | (go_at_call 218;refine (HA.out _).mono ?_;rintro e wa ⟨rfl,hNa⟩))
   have hN:=hN.trans hNa
   have hr:=hNa.heap hr id
   clear c0 c1 c2 c3 f0 f1 f2 f3 hNa
   obtain ⟨⟨c0,c1,c2,c3⟩,f0,f1,f2,f3⟩:=row_facts hr
   go_upto_region 12 with (go_at_call 217;refine (HU.out _).mono ?_;rintro e w' ⟨rfl,rfl⟩)
   go_wp2_with fail
   obtain ⟨hN2,hr2⟩:=set4 hN hBw hr (.int .u8 0) (.int .i64 0) (.string ⟨#[]⟩) (.bool false)
   obtain ⟨W2,hW2⟩:∃ W2,((((wa.setCell ⟨B,0,none⟩ (.int .u8 0)).setCell ⟨B,1,none⟩ (.int .i64 0)).setCell ⟨B,2,none⟩ (.string ⟨#[]⟩)).setCell ⟨B,3,none⟩ (.bool false))=W2:=⟨_,rfl⟩
   rw [hW2] at hN2 hr2 ⊢
   exact read_end (by kernel_rfl) rfl rfl rfl hr2 ⟨rfl,hN2⟩
  have d6:decide (3 < (k:Int))=false:=decide_eq_false (by omega)
  rw [if_neg (by omega)]
  have hv12:=hvl12 (by omega)
  simp at hv12
  have hsl2:∀ W,(Instr.slice 9 (.string s) (some (.int .i64 ((n:Int) + 1))) (some (.int .i64 ((n:Int) + 1 + (k:Int)))) none).run Tryz.prog W = .ok (.string (piec s (n + 1) (n + 1 + k))) W:=fun W=>run_sl s (n + 1) (n + 1 + k) (by omega) (by omega) W
  rw [hpc,het] at hsl2
  have hxx:(tx e ++ ⟨#[48,48]⟩).extract 0 3=tx ((e ++ [48,48]).take 3):=by
   rw [extract_piec,piec_head]
   rfl
  have hz1:1 ≤ (tx e).size:=by rw [tx_size,hk];omega
  have hz3:(tx e).size ≤ 3:=by rw [tx_size,hk];omega
  have hed2:((e ++ [48,48]).take 3).all Bare.digB=true:=by
   rw [List.all_eq_true] at hed ⊢
   intro x hx
   rcases List.mem_append.1 (List.mem_of_mem_take hx) with h | h
   ·exact hed x h
   ·simp at h;subst h;decide
  have hl3:((e ++ [48,48]).take 3).length=3:=by rw [List.length_take,List.length_append];show min 3 (e.length + 2)=3;omega
  have HA2:=Lib.hid (fun W=>atoi_any _ hed2 (fun h=>by rw [h] at hl3;cases hl3) (by omega) W)
  have hv2:=val_lt hed2 3 (by omega)
  obtain ⟨v2,hv2e⟩:∃ v2,Bare.valD ((e ++ [48,48]).take 3)=v2:=⟨_,rfl⟩
  rw [hv2e] at HA2 hv2 ⊢
  simp at hv2
  rw [← hxx] at HA2
  obtain ⟨x1,hx1⟩:∃ x1,tx e=x1:=⟨_,rfl⟩
  rw [hx1] at hsl2 HA2 hz1 hz3
  have hsl3:∀ W,(Instr.slice 9 (.string s) (some (.int .i64 ((n:Int) + 1 + (k:Int)))) none none).run Tryz.prog W = .ok (.string (tx ((bl s).drop (n + 1 + k)))) W:=fun W=>run_sl_l s (n + 1 + k) (by omega) W
  obtain ⟨x,hx⟩:∃ x,tx ((bl s).drop (n + 1 + k))=x:=⟨_,rfl⟩
  rw [hx] at hsl3
  clear hv2e hxx hx1 hl3 hed2 hed het hpc hk hk1 hk3 hn12 hek hUs hlt hsl hvl hvl12 h1 h15 hle
  unfold ReadP bv bcs
  simp only
  rw [hx,Int.one_mul]
  clear hx
  go_enter Tryz.func209,Tryz.ntmps209
  go_upto_region 1 with fail
  obtain ⟨W,hW⟩:∃ W,w.alloc (.cells #[.int .u8 0,.int .i64 0,.string ⟨#[]⟩,.bool false] 66)=W:=⟨_,rfl⟩
  rw [hW] at hN hr ⊢
  obtain ⟨B,hB⟩:∃ B,w.heap.size=B:=⟨_,rfl⟩
  have hBw:w.heap.size ≤ B:=by omega
  rw [hB] at hr ⊢
  clear hW hB
  obtain ⟨⟨c0,c1,c2,c3⟩,f0,f1,f2,f3⟩:=row_facts hr
  go_upto_region 10 with (first | (go_at_call 217;refine (HR.out _).mono ?_;rintro e w' ⟨rfl,rfl⟩) | (go_at_call 218;refine (HA.out _).mono ?_;rintro e wa ⟨rfl,hNa⟩))
  have hN:=hN.trans hNa
  have hr:=hNa.heap hr id
  clear c0 c1 c2 c3 f0 f1 f2 f3 hNa
  obtain ⟨⟨c0,c1,c2,c3⟩,f0,f1,f2,f3⟩:=row_facts hr
  go_upto_region 14 with (first | (go_at_call 217;refine (HU.out _).mono ?_;rintro e w' ⟨rfl,rfl⟩) | (go_at_call 218;refine (HA2.out _).mono ?_;rintro e wb ⟨rfl,hNb⟩))
  have hN:=hN.trans hNb
  have hr:=hNb.heap hr id
  clear c0 c1 c2 c3 f0 f1 f2 f3 hNb
  obtain ⟨⟨c0,c1,c2,c3⟩,f0,f1,f2,f3⟩:=row_facts hr
  go_region
  obtain ⟨hN2,hr2⟩:=set4 hN hBw hr (.int .u8 2) (.int .i64 (1000 * (v:Int) + (v2:Int))) (.string ⟨#[]⟩) (.bool false)
  have hN2:=hN2.drew
  have hr2:((((wb.setCell ⟨B,0,none⟩ (.int .u8 2)).setCell ⟨B,1,none⟩ (.int .i64 (1000 * (v:Int) + (v2:Int)))).setCell ⟨B,2,none⟩ (.string ⟨#[]⟩)).setCell ⟨B,3,none⟩ (.bool false)).drew.heap[B]? = some (.cells #[(.int .u8 2),(.int .i64 (1000 * (v:Int) + (v2:Int))),(.string ⟨#[]⟩),(.bool false)] 66 (0,0)):=hr2
  obtain ⟨W2,hW2⟩:∃ W2,((((wb.setCell ⟨B,0,none⟩ (.int .u8 2)).setCell ⟨B,1,none⟩ (.int .i64 (1000 * (v:Int) + (v2:Int)))).setCell ⟨B,2,none⟩ (.string ⟨#[]⟩)).setCell ⟨B,3,none⟩ (.bool false)).drew=W2:=⟨_,rfl⟩
  rw [hW2] at hN2 hr2 ⊢
  go_wp2_with fail
  exact read_end (by kernel_rfl) rfl rfl rfl hr2 ⟨rfl,hN2⟩
theorem number_neg (s:ByteArray) (w:World) (hs:s.size ≤ 1000000) (h0:0 < s.size) (hng:gb s 0=45) :
  Calls Tryz.prog 209 #[.string s] w (ReadP (Bare.number (bl s)) w):=by
 have hc45:decide (gb s 0=45)=true:=decide_eq_true hng
 rw [u8_eq] at hc45
 have hix0:∀ W,(Instr.index 9 (.string s) (.int .i64 0)).run Tryz.prog W = .ok (.int .u8 ((gb s 0).toNat:Nat)) W:=run_idx s 0 (by omega)
 have e0:Bare.number (bl s)=numR (-1) ((bl s).drop 1):=by
  have hh:(bl s).head? = some (gb s 0):=by have:=head_drop s 0 h0;rwa [List.drop_zero] at this
  rw [number_numR,hh]
  simp [hng]
 rw [e0]
 clear e0
 have hs1:∀ W,(Instr.slice 9 (.string s) (some (.int .i64 1)) none none).run Tryz.prog W = .ok (.string (tx ((bl s).drop 1))) W:=run_sl_l s 1 (by omega)
 obtain ⟨T,hT⟩:∃ T,tx ((bl s).drop 1)=T:=⟨_,rfl⟩
 have hTl:(bl s).drop 1=bl T:=by rw [← hT]
 have hTs:T.size ≤ 1000000:=by rw [← hT,tx_size,List.length_drop,bl_len];omega
 rw [hT] at hs1
 rw [hTl]
 clear hT hTl
 obtain ⟨c,hc⟩:∃ c,(gb s 0).toNat=c:=⟨_,rfl⟩
 rw [hc] at hc45 hix0
 have hceq:((c:Int) == 45)=true:=hc45
 clear hc hc45 hng
 have HR:=Lib.hid (fun W=>(run_any 176 #[] _ digit_p (enters_of Tryz.func176 (by kernel_rfl) rfl) T W (by omega)).mono fun e w' h=>show e = _∧W=w' from ⟨h.1,h.2.symm⟩)
 have hle:=Bare.takeWhile_len Bare.digB (bl T)
 have htk:=Bare.takeWhile_take Bare.digB (bl T)
 have hdg:=digs_take (bl T)
 unfold numR
 simp only
 obtain ⟨d,hd⟩:∃ d,(bl T).takeWhile Bare.digB=d:=⟨_,rfl⟩
 rw [hd] at HR hle htk hdg ⊢
 obtain ⟨n,hn⟩:∃ n,d.length=n:=⟨_,rfl⟩
 rw [hn] at HR hle htk ⊢
 rw [bl_len] at hle
 clear hd
 obtain ⟨hN,hr⟩:=no_row w
 by_cases h1:n < 1
 ·have d1:decide ((n:Int) < 1)=true:=decide_eq_true (by omega)
  rw [if_pos (.inl h1)]
  unfold ReadP bv bcs noIt
  simp only
  clear htk h1 hn hle
  go_enter Tryz.func209,Tryz.ntmps209
  go_upto_region 1 with fail
  obtain ⟨W,hW⟩:∃ W,w.alloc (.cells #[.int .u8 0,.int .i64 0,.string ⟨#[]⟩,.bool false] 66)=W:=⟨_,rfl⟩
  rw [hW] at hN hr ⊢
  obtain ⟨B,hB⟩:∃ B,w.heap.size=B:=⟨_,rfl⟩
  have hBw:w.heap.size ≤ B:=by omega
  rw [hB] at hr ⊢
  clear hW hB
  obtain ⟨⟨c0,c1,c2,c3⟩,f0,f1,f2,f3⟩:=row_facts hr
  go_upto_region 3 with fail
  go_region
  have hN:=hN.drew
  have hr:W.drew.heap[B]? = some (.cells #[.int .u8 0,.int .i64 0,.string ⟨#[]⟩,.bool false] 66 (0,0)):=hr
  obtain ⟨W,hW⟩:∃ V,W.drew=V:=⟨_,rfl⟩
  rw [hW] at hN hr ⊢
  clear hW c0 c1 c2 c3 f0 f1 f2 f3
  obtain ⟨⟨c0,c1,c2,c3⟩,f0,f1,f2,f3⟩:=row_facts hr
  go_upto_region 6 with (go_at_call 217;refine (HR.out _).mono ?_;rintro e w' ⟨rfl,rfl⟩)
  go_wp2_with fail
  obtain ⟨hN2,hr2⟩:=set4 hN hBw hr (.int .u8 0) (.int .i64 0) (.string ⟨#[]⟩) (.bool false)
  obtain ⟨W2,hW2⟩:∃ W2,((((W.setCell ⟨B,0,none⟩ (.int .u8 0)).setCell ⟨B,1,none⟩ (.int .i64 0)).setCell ⟨B,2,none⟩ (.string ⟨#[]⟩)).setCell ⟨B,3,none⟩ (.bool false))=W2:=⟨_,rfl⟩
  rw [hW2] at hN2 hr2 ⊢
  exact read_end (by kernel_rfl) rfl rfl rfl hr2 ⟨rfl,hN2⟩
 have d1:decide ((n:Int) < 1)=false:=decide_eq_false (by omega)
 by_cases h15:15 < n
 ·have d2:decide (15 < (n:Int))=true:=decide_eq_true (by omega)
  rw [if_pos (.inr h15)]
  unfold ReadP bv bcs noIt
  simp only
  clear htk h1 h15 hn hle
  go_enter Tryz.func209,Tryz.ntmps209
  go_upto_region 1 with fail
  obtain ⟨W,hW⟩:∃ W,w.alloc (.cells #[.int .u8 0,.int .i64 0,.string ⟨#[]⟩,.bool false] 66)=W:=⟨_,rfl⟩
  rw [hW] at hN hr ⊢
  obtain ⟨B,hB⟩:∃ B,w.heap.size=B:=⟨_,rfl⟩
  have hBw:w.heap.size ≤ B:=by omega
  rw [hB] at hr ⊢
  clear hW hB
  obtain ⟨⟨c0,c1,c2,c3⟩,f0,f1,f2,f3⟩:=row_facts hr
  go_upto_region 3 with fail
  go_region
  have hN:=hN.drew
  have hr:W.drew.heap[B]? = some (.cells #[.int .u8 0,.int .i64 0,.string ⟨#[]⟩,.bool false] 66 (0,0)):=hr
  obtain ⟨W,hW⟩:∃ V,W.drew=V:=⟨_,rfl⟩
  rw [hW] at hN hr ⊢
  clear hW c0 c1 c2 c3 f0 f1 f2 f3
  obtain ⟨⟨c0,c1,c2,c3⟩,f0,f1,f2,f3⟩:=row_facts hr
  go_upto_region 6 with (go_at_call 217;refine (HR.out _).mono ?_;rintro e w' ⟨rfl,rfl⟩)
  go_wp2_with fail
  obtain ⟨hN2,hr2⟩:=set4 hN hBw hr (.int .u8 0) (.int .i64 0) (.string ⟨#[]⟩) (.bool false)
  obtain ⟨W2,hW2⟩:∃ W2,((((W.setCell ⟨B,0,none⟩ (.int .u8 0)).setCell ⟨B,1,none⟩ (.int .i64 0)).setCell ⟨B,2,none⟩ (.string ⟨#[]⟩)).setCell ⟨B,3,none⟩ (.bool false))=W2:=⟨_,rfl⟩
  rw [hW2] at hN2 hr2 ⊢
  exact read_end (by kernel_rfl) rfl rfl rfl hr2 ⟨rfl,hN2⟩
 have d2:decide (15 < (n:Int))=false:=decide_eq_false (by omega)
 rw [if_neg (by omega)]
 have hne:d ≠ []:=by rintro rfl;simp at hn;omega
 have HA:=Lib.hid (fun W=>atoi_any d hdg hne (by omega) W)
 have hsh:=run_sl_h T n hle
 have hvl:=val_lt hdg 15 (by omega)
 have hvl12:=fun h=>val_lt hdg 12 h
 rw [htk] at hsh
 have hsl:=run_sl_l T n hle
 obtain ⟨v,hv⟩:∃ v,Bare.valD d=v:=⟨_,rfl⟩
 rw [hv] at HA hvl hvl12 ⊢
 obtain ⟨dx,hdx⟩:∃ dx,tx d=dx:=⟨_,rfl⟩
 rw [hdx] at HA hsh
 rw [hn] at hvl12
 clear hv hdx htk hne hdg hn
 simp at hvl
 by_cases hend:n=T.size
 ·have d3:decide ((n:Int)=(T.size:Int))=true:=decide_eq_true (by omega)
  have d3':((n:Int) == (T.size:Int))=true:=d3
  have hhd:((bl T).drop n).head? ≠ some 46:=by rw [hend,head_end];simp
  rw [if_pos hhd]
  obtain ⟨x,hx⟩:∃ x,tx ((bl T).drop n)=x:=⟨_,rfl⟩
  rw [hx] at hsl
  unfold ReadP bv bcs
  simp only
  rw [hx,Int.neg_one_mul]
  clear hhd hend h1 h15 hle hx hvl12
  go_enter Tryz.func209,Tryz.ntmps209
  go_upto_region 1 with fail
  obtain ⟨W,hW⟩:∃ W,w.alloc (.cells #[.int .u8 0,.int .i64 0,.string ⟨#[]⟩,.bool false] 66)=W:=⟨_,rfl⟩
  rw [hW] at hN hr ⊢
  obtain ⟨B,hB⟩:∃ B,w.heap.size=B:=⟨_,rfl⟩
  have hBw:w.heap.size ≤ B:=by omega
  rw [hB] at hr ⊢
  clear hW hB
  obtain ⟨⟨c0,c1,c2,c3⟩,f0,f1,f2,f3⟩:=row_facts hr
  go_upto_region 3 with fail
  go_region
  have hN:=hN.drew
  have hr:W.drew.heap[B]? = some (.cells #[.int .u8 0,.int .i64 0,.string ⟨#[]⟩,.bool false] 66 (0,0)):=hr
  obtain ⟨W,hW⟩:∃ V,W.drew=V:=⟨_,rfl⟩
  rw [hW] at hN hr ⊢
  clear hW c0 c1 c2 c3 f0 f1 f2 f3
  obtain ⟨⟨c0,c1,c2,c3⟩,f0,f1,f2,f3⟩:=row_facts hr
  go_upto_region 9 with (first | (go_at_call 217;refine (HR.out _).mono ?_;rintro e w' ⟨rfl,rfl⟩) | (go_at_call 218;refine (HA.out _).mono ?_;rintro e wa ⟨rfl,hNa⟩))
  have hN:=hN.trans hNa
  have hr:=hNa.heap hr id
  clear c0 c1 c2 c3 f0 f1 f2 f3 hNa
  obtain ⟨⟨c0,c1,c2,c3⟩,f0,f1,f2,f3⟩:=row_facts hr
  go_region
  obtain ⟨hN2,hr2⟩:=set4 hN hBw hr (.int .u8 1) (.int .i64 (-(v:Int))) (.string ⟨#[]⟩) (.bool false)
  have hN2:=hN2.drew
  have hr2:((((wa.setCell ⟨B,0,none⟩ (.int .u8 1)).setCell ⟨B,1,none⟩ (.int .i64 (-(v:Int)))).setCell ⟨B,2,none⟩ (.string ⟨#[]⟩)).setCell ⟨B,3,none⟩ (.bool false)).drew.heap[B]? = some (.cells #[(.int .u8 1),(.int .i64 (-(v:Int))),(.string ⟨#[]⟩),(.bool false)] 66 (0,0)):=hr2
  obtain ⟨W2,hW2⟩:∃ W2,((((wa.setCell ⟨B,0,none⟩ (.int .u8 1)).setCell ⟨B,1,none⟩ (.int .i64 (-(v:Int)))).setCell ⟨B,2,none⟩ (.string ⟨#[]⟩)).setCell ⟨B,3,none⟩ (.bool false)).drew=W2:=⟨_,rfl⟩
  rw [hW2] at hN2 hr2 ⊢
  go_wp2_with fail
  exact read_end (by kernel_rfl) rfl rfl rfl hr2 ⟨rfl,hN2⟩
 have hlt:n < T.size:=by omega
 have d3:decide ((n:Int)=(T.size:Int))=false:=decide_eq_false (by omega)
 have d3':((n:Int) == (T.size:Int))=false:=d3
 have hixn:=run_idx T n hlt
 have hhn:=head_drop T n hlt
 have hq46:=u8_eq (gb T n) 46
 by_cases hq:gb T n=46
 case neg =>
  rw [decide_eq_false hq] at hq46
  have hhd:((bl T).drop n).head? ≠ some 46:=by rw [hhn];simpa using hq
  rw [if_pos hhd]
  obtain ⟨x,hx⟩:∃ x,tx ((bl T).drop n)=x:=⟨_,rfl⟩
  rw [hx] at hsl
  obtain ⟨q,hqn⟩:∃ q,(gb T n).toNat=q:=⟨_,rfl⟩
  rw [hqn] at hixn hq46
  have hq1:((q:Int) == 46)=false:=hq46.symm
  have hq2:((q:Int) != 46)=true:=by simp [bne,hq1]
  clear hq hqn hq46 hhd hhn hend hlt
  unfold ReadP bv bcs
  simp only
  rw [hx,Int.neg_one_mul]
  clear h1 h15 hle hx hvl12
  go_enter Tryz.func209,Tryz.ntmps209
  go_upto_region 1 with fail
  obtain ⟨W,hW⟩:∃ W,w.alloc (.cells #[.int .u8 0,.int .i64 0,.string ⟨#[]⟩,.bool false] 66)=W:=⟨_,rfl⟩
  rw [hW] at hN hr ⊢
  obtain ⟨B,hB⟩:∃ B,w.heap.size=B:=⟨_,rfl⟩
  have hBw:w.heap.size ≤ B:=by omega
  rw [hB] at hr ⊢
  clear hW hB
  obtain ⟨⟨c0,c1,c2,c3⟩,f0,f1,f2,f3⟩:=row_facts hr
  go_upto_region 3 with fail
  go_region
  have hN:=hN.drew
  have hr:W.drew.heap[B]? = some (.cells #[.int .u8 0,.int .i64 0,.string ⟨#[]⟩,.bool false] 66 (0,0)):=hr
  obtain ⟨W,hW⟩:∃ V,W.drew=V:=⟨_,rfl⟩
  rw [hW] at hN hr ⊢
  clear hW c0 c1 c2 c3 f0 f1 f2 f3
  obtain ⟨⟨c0,c1,c2,c3⟩,f0,f1,f2,f3⟩:=row_facts hr
  go_upto_region 9 with (first | (go_at_call 217;refine (HR.out _).mono ?_;rintro e w' ⟨rfl,rfl⟩) | (go_at_call 218;refine (HA.out _).mono ?_;rintro e wa ⟨rfl,hNa⟩))
  have hN:=hN.trans hNa
  have hr:=hNa.heap hr id
  clear c0 c1 c2 c3 f0 f1 f2 f3 hNa
  obtain ⟨⟨c0,c1,c2,c3⟩,f0,f1,f2,f3⟩:=row_facts hr
  go_region
  obtain ⟨hN2,hr2⟩:=set4 hN hBw hr (.int .u8 1) (.int .i64 (-(v:Int))) (.string ⟨#[]⟩) (.bool false)
  have hN2:=hN2.drew
  have hr2:((((wa.setCell ⟨B,0,none⟩ (.int .u8 1)).setCell ⟨B,1,none⟩ (.int .i64 (-(v:Int)))).setCell ⟨B,2,none⟩ (.string ⟨#[]⟩)).setCell ⟨B,3,none⟩ (.bool false)).drew.heap[B]? = some (.cells #[(.int .u8 1),(.int .i64 (-(v:Int))),(.string ⟨#[]⟩),(.bool false)] 66 (0,0)):=hr2
  obtain ⟨W2,hW2⟩:∃ W2,((((wa.setCell ⟨B,0,none⟩ (.int .u8 1)).setCell ⟨B,1,none⟩ (.int .i64 (-(v:Int)))).setCell ⟨B,2,none⟩ (.string ⟨#[]⟩)).setCell ⟨B,3,none⟩ (.bool false)).drew=W2:=⟨_,rfl⟩
  rw [hW2] at hN2 hr2 ⊢
  go_wp2_with fail
  exact read_end (by kernel_rfl) rfl rfl rfl hr2 ⟨rfl,hN2⟩
 case pos =>
  rw [decide_eq_true hq] at hq46
  have hhd:¬ ((bl T).drop n).head? ≠ some 46:=by rw [hhn,hq];simp
  rw [if_neg hhd]
  obtain ⟨q,hqn⟩:∃ q,(gb T n).toNat=q:=⟨_,rfl⟩
  rw [hqn] at hixn hq46
  have hq1:((q:Int) == 46)=true:=hq46.symm
  have hq2:((q:Int) != 46)=false:=by simp [bne,hq1]
  have hnb:(n:Int) ≤ 1000000:=by omega
  clear hq hqn hq46 hhd hhn hend
  have hsl1:∀ W,(Instr.slice 9 (.string T) (some (.int .i64 ((n:Int) + 1))) none none).run Tryz.prog W = .ok (.string (tx ((bl T).drop (n + 1)))) W:=fun W=>run_sl_l T (n + 1) (by omega) W
  obtain ⟨U,hU⟩:∃ U,tx ((bl T).drop (n + 1))=U:=⟨_,rfl⟩
  have hUl:((bl T).drop n).drop 1=bl U:=by rw [← hU,List.drop_drop]
  have hUs:U.size=T.size - (n + 1):=by rw [← hU,tx_size,List.length_drop,bl_len]
  have hdd:∀ k,((bl T).drop n).drop (1 + k)=(bl T).drop (n + 1 + k):=fun k=>by rw [List.drop_drop];congr 1;omega
  have hpc:∀ k,piec T (n + 1) (n + 1 + k)=tx ((bl U).take k):=fun k=>by unfold piec;rw [← hU,Nat.add_sub_cancel_left]
  rw [hU] at hsl1
  rw [hUl]
  have HU:=Lib.hid (fun W=>(run_any 176 #[] _ digit_p (enters_of Tryz.func176 (by kernel_rfl) rfl) U W (by omega)).mono fun e w' h=>show e = _∧W=w' from ⟨h.1,h.2.symm⟩)
  have hek:=Bare.takeWhile_len Bare.digB (bl U)
  have het:=Bare.takeWhile_take Bare.digB (bl U)
  have hed:=digs_take (bl U)
  obtain ⟨e,he⟩:∃ e,(bl U).takeWhile Bare.digB=e:=⟨_,rfl⟩
  rw [he] at HU hek het hed ⊢
  obtain ⟨k,hk⟩:∃ k,e.length=k:=⟨_,rfl⟩
  rw [hk] at HU hek het ⊢
  rw [bl_len,hUs] at hek
  rw [hdd]
  have hkb:(k:Int) ≤ 1000000:=by omega
  clear he hU hUl hdd
  by_cases hn12:12 < n
  ·have d4:decide (12 < (n:Int))=true:=decide_eq_true (by omega)
   rw [if_pos (.inl hn12)]
   unfold ReadP bv bcs noIt
   simp only
   clear hn12 h1 h15 hle hed het hpc hek hUs hlt hk hvl12
   go_enter Tryz.func209,Tryz.ntmps209
   go_upto_region 1 with fail
   obtain ⟨W,hW⟩:∃ W,w.alloc (.cells #[.int .u8 0,.int .i64 0,.string ⟨#[]⟩,.bool false] 66)=W:=⟨_,rfl⟩
   rw [hW] at hN hr ⊢
   obtain ⟨B,hB⟩:∃ B,w.heap.size=B:=⟨_,rfl⟩
   have hBw:w.heap.size ≤ B:=by omega
   rw [hB] at hr ⊢
   clear hW hB
   obtain ⟨⟨c0,c1,c2,c3⟩,f0,f1,f2,f3⟩:=row_facts hr
   go_upto_region 3 with fail
   go_region
   have hN:=hN.drew
   have hr:W.drew.heap[B]? = some (.cells #[.int .u8 0,.int .i64 0,.string ⟨#[]⟩,.bool false] 66 (0,0)):=hr
   obtain ⟨W,hW⟩:∃ V,W.drew=V:=⟨_,rfl⟩
   rw [hW] at hN hr ⊢
   clear hW c0 c1 c2 c3 f0 f1 f2 f3
   obtain ⟨⟨c0,c1,c2,c3⟩,f0,f1,f2,f3⟩:=row_facts hr
   go_upto_region 10 with (first | (go_at_call 217;refine (HR.out _).mono ?_;rintro e w' ⟨rfl,rfl⟩) | (go_at_call 218;refine (HA.out _).mono ?_;rintro e wa ⟨rfl,hNa⟩))
   have hN:=hN.trans hNa
   have hr:=hNa.heap hr id
   clear c0 c1 c2 c3 f0 f1 f2 f3 hNa
   obtain ⟨⟨c0,c1,c2,c3⟩,f0,f1,f2,f3⟩:=row_facts hr
   go_upto_region 12 with (go_at_call 217;refine (HU.out _).mono ?_;rintro e w' ⟨rfl,rfl⟩)
   go_wp2_with fail
   obtain ⟨hN2,hr2⟩:=set4 hN hBw hr (.int .u8 0) (.int .i64 0) (.string ⟨#[]⟩) (.bool false)
   obtain ⟨W2,hW2⟩:∃ W2,((((wa.setCell ⟨B,0,none⟩ (.int .u8 0)).setCell ⟨B,1,none⟩ (.int .i64 0)).setCell ⟨B,2,none⟩ (.string ⟨#[]⟩)).setCell ⟨B,3,none⟩ (.bool false))=W2:=⟨_,rfl⟩
   rw [hW2] at hN2 hr2 ⊢
   exact read_end (by kernel_rfl) rfl rfl rfl hr2 ⟨rfl,hN2⟩
  have d4:decide (12 < (n:Int))=false:=decide_eq_false (by omega)
  by_cases hk1:k < 1
  ·have d5:decide ((k:Int) < 1)=true:=decide_eq_true (by omega)
   rw [if_pos (.inr (.inl hk1))]
   unfold ReadP bv bcs noIt
   simp only
   clear hn12 hk1 h1 h15 hle hed het hpc hek hUs hlt hk hvl12
   go_enter Tryz.func209,Tryz.ntmps209
   go_upto_region 1 with fail
   obtain ⟨W,hW⟩:∃ W,w.alloc (.cells #[.int .u8 0,.int .i64 0,.string ⟨#[]⟩,.bool false] 66)=W:=⟨_,rfl⟩
   rw [hW] at hN hr ⊢
   obtain ⟨B,hB⟩:∃ B,w.heap.size=B:=⟨_,rfl⟩
   have hBw:w.heap.size ≤ B:=by omega
   rw [hB] at hr ⊢
   clear hW hB
   obtain ⟨⟨c0,c1,c2,c3⟩,f0,f1,f2,f3⟩:=row_facts hr
   go_upto_region 3 with fail
   go_region
   have hN:=hN.drew
   have hr:W.drew.heap[B]? = some (.cells #[.int .u8 0,.int .i64 0,.string ⟨#[]⟩,.bool false] 66 (0,0)):=hr
   obtain ⟨W,hW⟩:∃ V,W.drew=V:=⟨_,rfl⟩
   rw [hW] at hN hr ⊢
   clear hW c0 c1 c2 c3 f0 f1 f2 f3
   obtain ⟨⟨c0,c1,c2,c3⟩,f0,f1,f2,f3⟩:=row_facts hr
   go_upto_region 10 with (first | (go_at_call 217;refine (HR.out _).mono ?_;rintro e w' ⟨rfl,rfl⟩) | (go_at_call 218;refine (HA.out _).mono ?_;rintro e wa ⟨rfl,hNa⟩))
   have hN:=hN.trans hNa
   have hr:=hNa.heap hr id
   clear c0 c1 c2 c3 f0 f1 f2 f3 hNa
   obtain ⟨⟨c0,c1,c2,c3⟩,f0,f1,f2,f3⟩:=row_facts hr
   go_upto_region 12 with (go_at_call 217;refine (HU.out _).mono ?_;rintro e w' ⟨rfl,rfl⟩)
   go_wp2_with fail
   obtain ⟨hN2,hr2⟩:=set4 hN hBw hr (.int .u8 0) (.int .i64 0) (.string ⟨#[]⟩) (.bool false)
   obtain ⟨W2,hW2⟩:∃ W2,((((wa.setCell ⟨B,0,none⟩ (.int .u8 0)).setCell ⟨B,1,none⟩ (.int .i64 0)).setCell ⟨B,2,none⟩ (.string ⟨#[]⟩)).setCell ⟨B,3,none⟩ (.bool false))=W2:=⟨_,rfl⟩
   rw [hW2] at hN2 hr2 ⊢
   exact read_end (by kernel_rfl) rfl rfl rfl hr2 ⟨rfl,hN2⟩
  have d5:decide ((k:Int) < 1)=false:=decide_eq_false (by omega)
  by_cases hk3:3 < k
  ·have d6:decide (3 < (k:Int))=true:=decide_eq_true (by omega)
   rw [if_pos (.inr (.inr hk3))]
   unfold ReadP bv bcs noIt
   simp only
   clear hn12 hk1 hk3 h1 h15 hle hed het hpc hek hUs hlt hk hvl12
   go_enter Tryz.func209,Tryz.ntmps209
   go_upto_region 1 with fail
   obtain ⟨W,hW⟩:∃ W,w.alloc (.cells #[.int .u8 0,.int .i64 0,.string ⟨#[]⟩,.bool false] 66)=W:=⟨_,rfl⟩
   rw [hW] at hN hr ⊢
   obtain ⟨B,hB⟩:∃ B,w.heap.size=B:=⟨_,rfl⟩
   have hBw:w.heap.size ≤ B:=by omega
   rw [hB] at hr ⊢
   clear hW hB
   obtain ⟨⟨c0,c1,c2,c3⟩,f0,f1,f2,f3⟩:=row_facts hr
   go_upto_region 3 with fail
   go_region
   have hN:=hN.drew
   have hr:W.drew.heap[B]? = some (.cells #[.int .u8 0,.int .i64 0,.string ⟨#[]⟩,.bool false] 66 (0,0)):=hr
   obtain ⟨W,hW⟩:∃ V,W.drew=V:=⟨_,rfl⟩
   rw [hW] at hN hr ⊢
   clear hW c0 c1 c2 c3 f0 f1 f2 f3
   obtain ⟨⟨c0,c1,c2,c3⟩,f0,f1,f2,f3⟩:=row_facts hr
   go_upto_region 10 with (first | (go_at_call 217;refine (HR.out _).mono ?_;rintro e w' ⟨rfl,rfl⟩) | (go_at_call 218;refine (HA.out _).mono ?_;rintro e wa ⟨rfl,hNa⟩))
   have hN:=hN.trans hNa
   have hr:=hNa.heap hr id
   clear c0 c1 c2 c3 f0 f1 f2 f3 hNa
   obtain ⟨⟨c0,c1,c2,c3⟩,f0,f1,f2,f3⟩:=row_facts hr
   go_upto_region 12 with (go_at_call 217;refine (HU.out _).mono ?_;rintro e w' ⟨rfl,rfl⟩)
   go_wp2_with fail
   obtain ⟨hN2,hr2⟩:=set4 hN hBw hr (.int .u8 0) (.int .i64 0) (.string ⟨#[]⟩) (.bool false)
   obtain ⟨W2,hW2⟩:∃ W2,((((wa.setCell ⟨B,0,none⟩ (.int .u8 0)).setCell ⟨B,1,none⟩ (.int .i64 0)).setCell ⟨B,2,none⟩ (.string ⟨#[]⟩)).setCell ⟨B,3,none⟩ (.bool false))=W2:=⟨_,rfl⟩
   rw [hW2] at hN2 hr2 ⊢
   exact read_end (by kernel_rfl) rfl rfl rfl hr2 ⟨rfl,hN2⟩
  have d6:decide (3 < (k:Int))=false:=decide_eq_false (by omega)
  rw [if_neg (by omega)]
  have hv12:=hvl12 (by omega)
  simp at hv12
  have hsl2:∀ W,(Instr.slice 9 (.string T) (some (.int .i64 ((n:Int) + 1))) (some (.int .i64 ((n:Int) + 1 + (k:Int)))) none).run Tryz.prog W = .ok (.string (piec T (n + 1) (n + 1 + k))) W:=fun W=>run_sl T (n + 1) (n + 1 + k) (by omega) (by omega) W
  rw [hpc,het] at hsl2
  have hxx:(tx e ++ ⟨#[48,48]⟩).extract 0 3=tx ((e ++ [48,48]).take 3):=by
   rw [extract_piec,piec_head]
   rfl
  have hz1:1 ≤ (tx e).size:=by rw [tx_size,hk];omega
  have hz3:(tx e).size ≤ 3:=by rw [tx_size,hk];omega
  have hed2:((e ++ [48,48]).take 3).all Bare.digB=true:=by
   rw [List.all_eq_true] at hed ⊢
   intro x hx
   rcases List.mem_append.1 (List.mem_of_mem_take hx) with h | h
   ·exact hed x h
   ·simp at h;subst h;decide
  have hl3:((e ++ [48,48]).take 3).length=3:=by rw [List.length_take,List.length_append];show min 3 (e.length + 2)=3;omega
  have HA2:=Lib.hid (fun W=>atoi_any _ hed2 (fun h=>by rw [h] at hl3;cases hl3) (by omega) W)
  have hv2:=val_lt hed2 3 (by omega)
  obtain ⟨v2,hv2e⟩:∃ v2,Bare.valD ((e ++ [48,48]).take 3)=v2:=⟨_,rfl⟩
  rw [hv2e] at HA2 hv2 ⊢
  simp at hv2
  rw [← hxx] at HA2
  obtain ⟨x1,hx1⟩:∃ x1,tx e=x1:=⟨_,rfl⟩
  rw [hx1] at hsl2 HA2 hz1 hz3
  have hsl3:∀ W,(Instr.slice 9 (.string T) (some (.int .i64 ((n:Int) + 1 + (k:Int)))) none none).run Tryz.prog W = .ok (.string (tx ((bl T).drop (n + 1 + k)))) W:=fun W=>run_sl_l T (n + 1 + k) (by omega) W
  obtain ⟨x,hx⟩:∃ x,tx ((bl T).drop (n + 1 + k))=x:=⟨_,rfl⟩
  rw [hx] at hsl3
  clear hv2e hxx hx1 hl3 hed2 hed het hpc hk hk1 hk3 hn12 hek hUs hlt hsl hvl hvl12 h1 h15 hle
  unfold ReadP bv bcs
  simp only
  rw [hx,Int.neg_one_mul]
  clear hx
  go_enter Tryz.func209,Tryz.ntmps209
  go_upto_region 1 with fail
  obtain ⟨W,hW⟩:∃ W,w.alloc (.cells #[.int .u8 0,.int .i64 0,.string ⟨#[]⟩,.bool false] 66)=W:=⟨_,rfl⟩
  rw [hW] at hN hr ⊢
  obtain ⟨B,hB⟩:∃ B,w.heap.size=B:=⟨_,rfl⟩
  have hBw:w.heap.size ≤ B:=by omega
  rw [hB] at hr ⊢
  clear hW hB
  obtain ⟨⟨c0,c1,c2,c3⟩,f0,f1,f2,f3⟩:=row_facts hr
  go_upto_region 3 with fail
  go_region
  have hN:=hN.drew
  have hr:W.drew.heap[B]? = some (.cells #[.int .u8 0,.int .i64 0,.string ⟨#[]⟩,.bool false] 66 (0,0)):=hr
  obtain ⟨W,hW⟩:∃ V,W.drew=V:=⟨_,rfl⟩
  rw [hW] at hN hr ⊢
  clear hW c0 c1 c2 c3 f0 f1 f2 f3
  obtain ⟨⟨c0,c1,c2,c3⟩,f0,f1,f2,f3⟩:=row_facts hr
  go_upto_region 10 with (first | (go_at_call 217;refine (HR.out _).mono ?_;rintro e w' ⟨rfl,rfl⟩) | (go_at_call 218;refine (HA.out _).mono ?_;rintro e wa ⟨rfl,hNa⟩))
  have hN:=hN.trans hNa
  have hr:=hNa.heap hr id
  clear c0 c1 c2 c3 f0 f1 f2 f3 hNa
  obtain ⟨⟨c0,c1,c2,c3⟩,f0,f1,f2,f3⟩:=row_facts hr
  go_upto_region 14 with (first | (go_at_call 217;refine (HU.out _).mono ?_;rintro e w' ⟨rfl,rfl⟩) | (go_at_call 218;refine (HA2.out _).mono ?_;rintro e wb ⟨rfl,hNb⟩))
  have hN:=hN.trans hNb
  have hr:=hNb.heap hr id
  clear c0 c1 c2 c3 f0 f1 f2 f3 hNb
  obtain ⟨⟨c0,c1,c2,c3⟩,f0,f1,f2,f3⟩:=row_facts hr
  go_region
  obtain ⟨hN2,hr2⟩:=set4 hN hBw hr (.int .u8 2) (.int .i64 (-(1000 * (v:Int) + (v2:Int)))) (.string ⟨#[]⟩) (.bool false)
  have hN2:=hN2.drew
  have hr2:((((wb.setCell ⟨B,0,none⟩ (.int .u8 2)).setCell ⟨B,1,none⟩ (.int .i64 (-(1000 * (v:Int) + (v2:Int))))).setCell ⟨B,2,none⟩ (.string ⟨#[]⟩)).setCell ⟨B,3,none⟩ (.bool false)).drew.heap[B]? = some (.cells #[(.int .u8 2),(.int .i64 (-(1000 * (v:Int) + (v2:Int)))),(.string ⟨#[]⟩),(.bool false)] 66 (0,0)):=hr2
  obtain ⟨W2,hW2⟩:∃ W2,((((wb.setCell ⟨B,0,none⟩ (.int .u8 2)).setCell ⟨B,1,none⟩ (.int .i64 (-(1000 * (v:Int) + (v2:Int))))).setCell ⟨B,2,none⟩ (.string ⟨#[]⟩)).setCell ⟨B,3,none⟩ (.bool false)).drew=W2:=⟨_,rfl⟩
  rw [hW2] at hN2 hr2 ⊢
  go_wp2_with fail
  exact read_end (by kernel_rfl) rfl rfl rfl hr2 ⟨rfl,hN2⟩
theorem number_read (s:ByteArray) (w:World) (hs:s.size ≤ 1000000) (h0:0 < s.size):Calls Tryz.prog 209 #[.string s] w (ReadP (Bare.number (bl s)) w):=by
 by_cases h:gb s 0=45
 ·exact number_neg s w hs h0 h
 ·exact number_pos s w hs h0 h
end Go.Proofs.YtkiiameibdhdfaaGreatDoor
