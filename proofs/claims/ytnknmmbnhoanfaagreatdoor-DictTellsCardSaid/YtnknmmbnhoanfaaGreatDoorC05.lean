/- Texts joined. -/
import Derived.Test.YtnknmmbnhoanfaaGreatDoorC04
import Derived.ChangeMaps5
import Derived.WalkKit
import Derived.Test.YtnknmmbnhoanfaaGreatDoorC02
import Derived.Lib.ConvBytes
import Derived.Test.YtnknmmbnhoanfaaGreatDoorC00
import Derived.OwnWalkIn
import Derived.TacticsInMore
import Derived.LoopNIn
import Derived.LoopIn
import Derived.WalkSpells
import Derived.WalkLawsBesides
import Derived.Sort.CutIn
set_option linter.unusedSimpArgs false
set_option linter.unusedVariables false
set_option maxHeartbeats 16000000
set_option maxRecDepth 100000
namespace Go.Proofs.YtnknmmbnhoanfaaGreatDoor
open Go.RowKit Go.Shelf Go.Cs Go.ChangeShapes Go.WideShapes Go.ChangeAt Go.WideMaps Go.WideElems Go.ChangeMaps

theorem weightsAll_mem {H:Type} {P:Program} {e:TypeId}:∀ {l:List (DataW H)} {d:DataW H},d ∈ l→∀ n ∈ d.weights P e,n ∈ DataW.weightsAll P e l
 | d'::r,d,hd,n,hn=>by
  simp only [DataW.weightsAll,List.mem_append]
  rcases List.mem_cons.1 hd with rfl | h
  ·exact Or.inl hn
  ·exact Or.inr (weightsAll_mem h n hn)
section
variable {H:Type} {enc:TypeId × Value→H} {w:World} {base:Nat} {spare:Nat→Bool} {held:Bool} {fuel:Nat}
theorem len_four {α:Type}:∀ {l:List α},l.length=4→∃ a b c d,l = [a,b,c,d]
 | [a,b,c,d],_=>⟨a,b,c,d,rfl⟩
theorem len_two {α:Type}:∀ {l:List α},l.length=2→∃ a b,l = [a,b]
 | [a,b],_=>⟨a,b,rfl⟩
theorem byte_of_wf {n:Int} (h:(Lit.int .u8 n).wf=true):0 ≤ n∧n ≤ 255:=by
 simp [Lit.wf] at h
 exact ⟨Int.le_trans (by decide) h.1,Int.le_trans h.2 (by decide)⟩
theorem i64_of_wf {n:Int} (h:(Lit.int .i64 n).wf=true):-9223372036854775808 ≤ n∧n ≤ 9223372036854775807:=by
 simp [Lit.wf] at h
 exact h
def BaIn (b:Bare.It):Prop:=(0 ≤ b.kind∧b.kind ≤ 255)∧ItI b∧b.text.length ≤ 9223372036854775807
theorem open_bare {cs:List Value} {x:DataW H × List MemPlace} (h:DataW.trod enc Tryz.prog w base spare held fuel 23 cs=some x) :
  ∃ b:Bare.It,cs=bcs b∧BaIn b∧((∀ n ∈ x.1.weights Tryz.prog 23,n ≤ reachBytes)→b.text.length ≤ reachBytes):=by
 obtain ⟨xs,n,rfl,rfl,hl,hn,hf⟩:=DataW.trod_struct Tryz.underlying23 h
 have cB:Tryz.prog.cellsOf 23=4:=by kernel_rfl
 have c3:Tryz.prog.cellsOf 3=1:=by kernel_rfl
 have c4:Tryz.prog.cellsOf 4=1:=by kernel_rfl
 have c5:Tryz.prog.cellsOf 5=1:=by kernel_rfl
 have c9:Tryz.prog.cellsOf 9=1:=by kernel_rfl
 rw [cB] at hl
 have hn:xs.length=4:=hn
 obtain ⟨a0,a1,a2,a3,rfl⟩:=len_four hl
 obtain ⟨x0,x1,x2,x3,rfl⟩:=len_four hn
 have g0:DataW.trod enc Tryz.prog w base spare held n 5 [a0]=some x0:=by
  have:(([a0,a1,a2,a3]:List Value).drop 0).take (Tryz.prog.cellsOf 5) = [a0]:=by rw [c5];rfl
  rw [← this];exact hf 0 _ rfl
 have g1:DataW.trod enc Tryz.prog w base spare held n 3 [a1]=some x1:=by
  have:(([a0,a1,a2,a3]:List Value).drop 1).take (Tryz.prog.cellsOf 3) = [a1]:=by rw [c3];rfl
  rw [← this];exact hf 1 _ rfl
 have g2:DataW.trod enc Tryz.prog w base spare held n 9 [a2]=some x2:=by
  have:(([a0,a1,a2,a3]:List Value).drop 2).take (Tryz.prog.cellsOf 9) = [a2]:=by rw [c9];rfl
  rw [← this];exact hf 2 _ rfl
 have g3:DataW.trod enc Tryz.prog w base spare held n 4 [a3]=some x3:=by
  have:(([a0,a1,a2,a3]:List Value).drop 3).take (Tryz.prog.cellsOf 4) = [a3]:=by rw [c4];rfl
  rw [← this];exact hf 3 _ rfl
 obtain ⟨n0,e0,y0,w0⟩:=DataW.trod_int Tryz.underlying5 g0
 obtain ⟨n1,e1,y1,w1⟩:=DataW.trod_int Tryz.underlying3 g1
 obtain ⟨s2,e2,y2,hs2⟩:=DataW.trod_string Tryz.underlying9 g2
 obtain ⟨y3,e3,y3'⟩:=DataW.trod_bool Tryz.underlying4 g3
 cases e0
 cases e1
 cases e2
 cases e3
 have hbl:(bl s2).length=s2.size:=bl_len s2
 refine ⟨⟨n0,n1,bl s2,y3⟩,by unfold bcs;rw [tx_bl],⟨byte_of_wf w0,i64_of_wf w1,?_⟩,fun hw=>?_⟩
 ·unfold maxLen at hs2
  show (bl s2).length ≤ _
  omega
 ·subst y2
  have:=hw s2.data.toList.length (by
   simp only [DataW.weights,Tryz.underlying23]
   simp [DataW.weightsEach,DataW.weights,y0,y1,y3'])
  show (bl s2).length ≤ _
  rw [hbl]
  simpa using this
theorem open_rowW {t e C B:Nat} {v:Value} {x:DataW H × List MemPlace} (ht:Tryz.prog.underlying t=some (.slice e)) (hC:Tryz.prog.cellsOf e=C) (hB:Tryz.prog.bytesOf e=B) (h0:0 < C) (h:DataW.trod enc Tryz.prog w base spare held fuel t [v]=some x)
  (hw:∀ n ∈ x.1.weights Tryz.prog t,n ≤ reachBytes) {α:Type} (R:List Value→α→Prop) (d0:α)
  (hel:∀ (cs:List Value) (y:DataW H × List MemPlace) (n:Nat),DataW.trod enc Tryz.prog w base spare held n e cs=some y→(∀ k ∈ y.1.weights Tryz.prog e,k ≤ reachBytes)→∃ a,R cs a) :
  ∃ (L:List α) (ao:Option Addr) (cap:Nat),v = .slice ao L.length cap∧L.length * B ≤ reachBytes∧∃ f:Nat→List Value,∀ i,i < L.length→R (f i) (L.getD i d0)∧∃ b o,ao=some ⟨b,o,none⟩∧w.rangeAt b (o + i * C) (f i):=by
 rcases DataW.trod_slice ht h with ⟨hc,rfl⟩ | ⟨a,len,cap,elems,rest,n,rfl,hc,rfl,hb,hl,hm,hle,hi,-,-⟩
 ·obtain rfl:v = .slice none 0 0:=by simpa using hc
  exact ⟨[],none,0,rfl,by simp,fun _=>[],fun i hi=>by simp at hi⟩
 ·obtain rfl:v = .slice (some a) len cap:=by simpa using hc
  have hwe:∀ (i:Nat) (y:DataW H × List MemPlace),elems[i]? = some y→∀ k ∈ y.1.weights Tryz.prog e,k ≤ reachBytes:=fun i y hy k hk=>hw k (by
   have hmem:y.1 ∈ elems.map (·.1):=List.mem_map.2 ⟨_,List.mem_of_getElem? hy,rfl⟩
   have:=weightsAll_mem (P:=Tryz.prog) (e:=e) hmem k hk
   simp only [DataW.weights,ht,List.mem_cons,List.mem_append]
   exact .inr (.inl this))
  have hlen:len * B ≤ reachBytes:=by
   have:=hw _ (by simp only [DataW.weights,ht];exact List.mem_cons_self ..)
   rw [hB,List.length_map,hle] at this
   refine Nat.le_trans (Nat.mul_le_mul_right _ (Nat.le_add_right _ _)) this
  have hone:∀ i,i < len→∃ a':α × List Value,R a'.2 a'.1∧∃ b o,some a=some ⟨b,o,none⟩∧w.rangeAt b (o + i * C) a'.2:=by
   intro i hil
   have hE:=hi i hil
   obtain ⟨y,hy⟩:=take_some hle hil
   rw [hy] at hE
   obtain ⟨cs',hcs,htr⟩:=Option.bind_eq_some_iff.1 hE
   obtain ⟨r,hr⟩:=hel cs' y _ htr (hwe i y hy)
   refine ⟨(r,cs'),hr,?_⟩
   obtain ⟨_,hcl,hat⟩:=World.cells?_some hcs
   rw [hC] at hcl hat
   obtain ⟨b,o,sp⟩:=a
   obtain rfl:sp=none:=by
    have hE0:=hi 0 (by omega)
    obtain ⟨y0,hy0⟩:=take_some hle (show 0 < len by omega)
    obtain ⟨cs0,hcs0,_⟩:=Option.bind_eq_some_iff.1 (hE0.trans hy0)
    obtain ⟨_,hcl0,hat0⟩:=World.cells?_some hcs0
    rw [hC] at hcl0 hat0
    have hs0:=hat0 0 (by omega)
    rw [List.getElem?_eq_getElem (by omega)] at hs0
    have hsp:=spot_none hs0
    simpa [Addr.add] using hsp
   refine ⟨b,o,rfl,fun j u hj=>?_⟩
   have hjl:j < C:=by
    rcases Nat.lt_or_ge j C with h | h
    ·exact h
    ·have hj':cs'[j]? = some u:=hj
     rw [List.getElem?_eq_none (by omega)] at hj';cases hj'
   have:=hat j hjl
   have hj':cs'[j]? = some u:=hj
   rw [hj',Addr.add_mid,Addr.add_mid] at this
   exact this
  obtain ⟨L,hL,hR⟩:=choose_list len _ (d0,[]) hone
  refine ⟨L.map (·.1),some a,cap,by rw [List.length_map,hL],by rw [List.length_map,hL];exact hlen,fun i=>(L.getD i (d0,[])).2,fun i hi=>?_⟩
  rw [List.length_map] at hi
  obtain ⟨h1,h2⟩:=hR i (by omega)
  have e:(L.map (·.1)).getD i d0=(L.getD i (d0,[])).1:=by
   simp [List.getD,hi]
  rw [e]
  exact ⟨h1,h2⟩
end
end Go.Proofs.YtnknmmbnhoanfaaGreatDoor
namespace Go.Proofs.YtnknmmbnhoanfaaGreatDoor
open Go.RowKit Go.Shelf Go.Cs Go.ChangeShapes Go.WideShapes Go.ChangeAt Go.WideMaps Go.WideElems Go.ChangeMaps

def InP (L:List Bare.Par):Prop:=L.length * 56 ≤ reachBytes∧∀ p ∈ L,BaIn p.bare∧p.key.length ≤ reachBytes∧p.bare.text.length ≤ reachBytes
def InX (x:Bare.Itm):Prop:=BaIn x.bare∧x.bare.text.length ≤ reachBytes∧InP x.params
def InM (m:Bare.Mem):Prop:=m.key.length ≤ reachBytes∧m.items.length * 64 ≤ reachBytes∧(∀ x ∈ m.items,InX x)∧InP m.params
def InD (d:List Bare.Mem):Prop:=d.length * 72 ≤ reachBytes∧∀ m ∈ d,InM m
theorem reach_num:reachBytes=140737488351232:=rfl
theorem mem_getD {α:Type} {l:List α} {a d:α} (h:a ∈ l):∃ i,i < l.length∧l.getD i d=a:=by
 obtain ⟨i,hi⟩:=List.getElem?_of_mem h
 exact ⟨i,(List.getElem?_eq_some_iff.1 hi).1,by rw [List.getD_eq_getElem?_getD,hi];rfl⟩
section
variable {H:Type} {enc:TypeId × Value→H} {w:World} {base:Nat} {spare:Nat→Bool} {held:Bool} {fuel:Nat}
theorem len_five {α:Type}:∀ {l:List α},l.length=5→∃ a b c d e,l = [a,b,c,d,e]
 | [a,b,c,d,e],_=>⟨a,b,c,d,e,rfl⟩
theorem cB4:Tryz.prog.cellsOf 23=4:=by kernel_rfl
theorem cP5:Tryz.prog.cellsOf 83=5:=by kernel_rfl
theorem cX5:Tryz.prog.cellsOf 85=5:=by kernel_rfl
theorem cM4:Tryz.prog.cellsOf 44=4:=by kernel_rfl
theorem c91:Tryz.prog.cellsOf 9=1:=by kernel_rfl
theorem c41:Tryz.prog.cellsOf 4=1:=by kernel_rfl
theorem csP:Tryz.prog.cellsOf 42=1:=by kernel_rfl
theorem csX:Tryz.prog.cellsOf 41=1:=by kernel_rfl
theorem bP56:Tryz.prog.bytesOf 83=56:=by kernel_rfl
theorem bX64:Tryz.prog.bytesOf 85=64:=by kernel_rfl
theorem bM72:Tryz.prog.bytesOf 44=72:=by kernel_rfl
theorem weight_str {d:DataW H} {s:ByteArray} (h:d = .lit (.string s.data.toList)) {t:TypeId} (hw:∀ n ∈ d.weights Tryz.prog t,n ≤ reachBytes):(bl s).length ≤ reachBytes:=by
 subst h
 have:=hw s.data.toList.length (by simp [DataW.weights])
 rw [bl_len]
 simpa using this
theorem open_par {cs:List Value} {x:DataW H × List MemPlace} (h:DataW.trod enc Tryz.prog w base spare held fuel 83 cs=some x) (hw:∀ n ∈ x.1.weights Tryz.prog 83,n ≤ reachBytes) :
  ∃ p:Bare.Par,cs=pcs p∧BaIn p.bare∧p.key.length ≤ reachBytes∧p.bare.text.length ≤ reachBytes:=by
 obtain ⟨xs,n,rfl,rfl,hl,hn,hf⟩:=DataW.trod_struct Tryz.underlying83 h
 rw [cP5] at hl
 have hn:xs.length=2:=hn
 obtain ⟨a0,a1,a2,a3,a4,rfl⟩:=len_five hl
 obtain ⟨x0,x1,rfl⟩:=len_two hn
 have g0:DataW.trod enc Tryz.prog w base spare held n 9 [a0]=some x0:=by
  have:(([a0,a1,a2,a3,a4]:List Value).drop 0).take (Tryz.prog.cellsOf 9) = [a0]:=by rw [c91];rfl
  rw [← this];exact hf 0 _ rfl
 have g1:DataW.trod enc Tryz.prog w base spare held n 23 [a1,a2,a3,a4]=some x1:=by
  have:(([a0,a1,a2,a3,a4]:List Value).drop 1).take (Tryz.prog.cellsOf 23) = [a1,a2,a3,a4]:=by rw [cB4];rfl
  rw [← this];exact hf 1 _ rfl
 obtain ⟨s0,e0,y0,-⟩:=DataW.trod_string Tryz.underlying9 g0
 obtain ⟨b,e1,hb,hr⟩:=open_bare g1
 cases e0
 have hq:∀ (t:TypeId) (y:DataW H × List MemPlace) (i:Nat),[(9,x0),(23,x1)][i]? = some (t,y)→∀ k ∈ y.1.weights Tryz.prog t,k ≤ reachBytes:=fun t y i hi k hk=>hw k (by
  simp only [DataW.weights,Tryz.underlying83]
  match i with
  | 0=>cases hi;simp [DataW.weightsEach];exact .inl hk
  | 1=>cases hi;simp [DataW.weightsEach];exact .inr hk
  | i + 2=>cases hi)
 refine ⟨⟨bl s0,b⟩,?_,hb,?_,hr (hq _ _ 1 rfl)⟩
 ·unfold pcs
  rw [tx_bl]
  unfold bcs at e1
  rw [e1]
 ·subst y0
  exact weight_str rfl (hq _ _ 0 rfl)
theorem open_P {v:Value} {x:DataW H × List MemPlace} (h:DataW.trod enc Tryz.prog w base spare held fuel 42 [v]=some x) (hw:∀ n ∈ x.1.weights Tryz.prog 42,n ≤ reachBytes) :
  ∃ L:List Bare.Par,RdP false w v L∧InP L:=by
 obtain ⟨L,ao,cap,rfl,hl,f,hf⟩:=open_rowW Tryz.underlying42 cP5 bP56 (by decide) h hw (fun cs p=>cs=pcs p∧BaIn p.bare∧p.key.length ≤ reachBytes∧p.bare.text.length ≤ reachBytes) noP (fun cs y n hy hk=>open_par hy hk)
 rw [reach_num] at hl
 refine ⟨L,⟨⟨by omega,ao,cap,rfl,fun i hi=>?_⟩,tag_none⟩,by rw [reach_num];exact hl,fun p hp=>?_⟩
 ·obtain ⟨⟨e,-⟩,b,o,ha,hr⟩:=hf i hi
  rw [e] at hr
  exact ⟨b,o,ha,hr⟩
 ·obtain ⟨i,hi,rfl⟩:=mem_getD (d:=noP) hp
  exact (hf i hi).1.2
theorem open_itm {cs:List Value} {x:DataW H × List MemPlace} (h:DataW.trod enc Tryz.prog w base spare held fuel 85 cs=some x) (hw:∀ n ∈ x.1.weights Tryz.prog 85,n ≤ reachBytes) :
  ∃ (y:Bare.Itm),(∃ pv,cs=ics y pv∧RdP false w pv y.params)∧InX y:=by
 obtain ⟨xs,n,rfl,rfl,hl,hn,hf⟩:=DataW.trod_struct Tryz.underlying85 h
 rw [cX5] at hl
 have hn:xs.length=2:=hn
 obtain ⟨a0,a1,a2,a3,a4,rfl⟩:=len_five hl
 obtain ⟨x0,x1,rfl⟩:=len_two hn
 have g0:DataW.trod enc Tryz.prog w base spare held n 23 [a0,a1,a2,a3]=some x0:=by
  have:(([a0,a1,a2,a3,a4]:List Value).drop 0).take (Tryz.prog.cellsOf 23) = [a0,a1,a2,a3]:=by rw [cB4];rfl
  rw [← this];exact hf 0 _ rfl
 have g1:DataW.trod enc Tryz.prog w base spare held n 42 [a4]=some x1:=by
  have:(([a0,a1,a2,a3,a4]:List Value).drop 4).take (Tryz.prog.cellsOf 42) = [a4]:=by rw [csP];rfl
  rw [← this];exact hf 1 _ rfl
 have hq:∀ (t:TypeId) (y:DataW H × List MemPlace) (i:Nat),[(23,x0),(42,x1)][i]? = some (t,y)→∀ k ∈ y.1.weights Tryz.prog t,k ≤ reachBytes:=fun t y i hi k hk=>hw k (by
  simp only [DataW.weights,Tryz.underlying85]
  match i with
  | 0=>cases hi;simp [DataW.weightsEach];exact .inl hk
  | 1=>cases hi;simp [DataW.weightsEach];exact .inr hk
  | i + 2=>cases hi)
 obtain ⟨b,e1,hb,hr⟩:=open_bare g0
 obtain ⟨L,hL,hLI⟩:=open_P g1 (hq _ _ 1 rfl)
 refine ⟨⟨b,L⟩,⟨a4,?_,hL⟩,hb,hr (hq _ _ 0 rfl),hLI⟩
 unfold ics
 unfold bcs at e1
 rw [List.cons.injEq,List.cons.injEq,List.cons.injEq,List.cons.injEq] at e1
 obtain ⟨rfl,rfl,rfl,rfl,-⟩:=e1
 rfl
theorem open_X {v:Value} {x:DataW H × List MemPlace} (h:DataW.trod enc Tryz.prog w base spare held fuel 41 [v]=some x) (hw:∀ n ∈ x.1.weights Tryz.prog 41,n ≤ reachBytes) :
  ∃ L:List Bare.Itm,RdI false w v L∧L.length * 64 ≤ reachBytes∧∀ y ∈ L,InX y:=by
 obtain ⟨L,ao,cap,rfl,hl,f,hf⟩:=open_rowW Tryz.underlying41 cX5 bX64 (by decide) h hw (fun cs y=>(∃ pv,cs=ics y pv∧RdP false w pv y.params)∧InX y) Bare.noI (fun cs y n hy hk=>open_itm hy hk)
 rw [reach_num] at hl
 refine ⟨L,⟨fun i=>(f i).getD 4 undef,⟨by omega,ao,cap,rfl,fun i hi=>?_⟩,tag_none,fun i hi=>?_⟩,by rw [reach_num];exact hl,fun p hp=>?_⟩
 ·obtain ⟨⟨⟨pv,e,-⟩,-⟩,b,o,ha,hr⟩:=hf i hi
  refine ⟨b,o,ha,?_⟩
  dsimp only
  rw [e] at hr ⊢
  exact hr
 ·obtain ⟨⟨⟨pv,e,hp⟩,-⟩,-⟩:=hf i hi
  dsimp only
  rw [e]
  exact hp
 ·obtain ⟨i,hi,rfl⟩:=mem_getD (d:=Bare.noI) hp
  exact (hf i hi).1.2
theorem open_mem {cs:List Value} {x:DataW H × List MemPlace} (h:DataW.trod enc Tryz.prog w base spare held fuel 44 cs=some x) (hw:∀ n ∈ x.1.weights Tryz.prog 44,n ≤ reachBytes) :
  ∃ (m:Bare.Mem),(∃ iv pv,cs=mcs m iv pv∧RdI false w iv m.items∧RdP false w pv m.params)∧InM m:=by
 obtain ⟨xs,n,rfl,rfl,hl,hn,hf⟩:=DataW.trod_struct Tryz.underlying44 h
 rw [cM4] at hl
 have hn:xs.length=4:=hn
 obtain ⟨a0,a1,a2,a3,rfl⟩:=len_four hl
 obtain ⟨x0,x1,x2,x3,rfl⟩:=len_four hn
 have g0:DataW.trod enc Tryz.prog w base spare held n 9 [a0]=some x0:=by
  have:(([a0,a1,a2,a3]:List Value).drop 0).take (Tryz.prog.cellsOf 9) = [a0]:=by rw [c91];rfl
  rw [← this];exact hf 0 _ rfl
 have g1:DataW.trod enc Tryz.prog w base spare held n 4 [a1]=some x1:=by
  have:(([a0,a1,a2,a3]:List Value).drop 1).take (Tryz.prog.cellsOf 4) = [a1]:=by rw [c41];rfl
  rw [← this];exact hf 1 _ rfl
 have g2:DataW.trod enc Tryz.prog w base spare held n 41 [a2]=some x2:=by
  have:(([a0,a1,a2,a3]:List Value).drop 2).take (Tryz.prog.cellsOf 41) = [a2]:=by rw [csX];rfl
  rw [← this];exact hf 2 _ rfl
 have g3:DataW.trod enc Tryz.prog w base spare held n 42 [a3]=some x3:=by
  have:(([a0,a1,a2,a3]:List Value).drop 3).take (Tryz.prog.cellsOf 42) = [a3]:=by rw [csP];rfl
  rw [← this];exact hf 3 _ rfl
 have hq:∀ (t:TypeId) (y:DataW H × List MemPlace) (i:Nat),[(9,x0),(4,x1),(41,x2),(42,x3)][i]? = some (t,y)→∀ k ∈ y.1.weights Tryz.prog t,k ≤ reachBytes:=fun t y i hi k hk=>hw k (by
  simp only [DataW.weights,Tryz.underlying44]
  match i with
  | 0=>cases hi;simp [DataW.weightsEach];exact .inl hk
  | 1=>cases hi;simp [DataW.weightsEach];exact .inr (.inl hk)
  | 2=>cases hi;simp [DataW.weightsEach];exact .inr (.inr (.inl hk))
  | 3=>cases hi;simp [DataW.weightsEach];exact .inr (.inr (.inr hk))
  | i + 4=>cases hi)
 obtain ⟨s0,e0,y0,-⟩:=DataW.trod_string Tryz.underlying9 g0
 obtain ⟨b1,e1,-⟩:=DataW.trod_bool Tryz.underlying4 g1
 obtain ⟨I,hI,hIl,hII⟩:=open_X g2 (hq _ _ 2 rfl)
 obtain ⟨L,hL,hLI⟩:=open_P g3 (hq _ _ 3 rfl)
 cases e0
 cases e1
 refine ⟨⟨bl s0,b1,I,L⟩,⟨a2,a3,by unfold mcs;rw [tx_bl],hI,hL⟩,?_,hIl,hII,hLI⟩
 subst y0
 exact weight_str rfl (hq _ _ 0 rfl)
theorem open_D {v:Value} {x:DataW H × List MemPlace} (h:DataW.trod enc Tryz.prog w base spare held fuel 36 [v]=some x) (hw:∀ n ∈ x.1.weights Tryz.prog 36,n ≤ reachBytes) :
  ∃ d:List Bare.Mem,RdD false w v d∧InD d:=by
 obtain ⟨L,ao,cap,rfl,hl,f,hf⟩:=open_rowW Tryz.underlying36 cM4 bM72 (by decide) h hw (fun cs m=>(∃ iv pv,cs=mcs m iv pv∧RdI false w iv m.items∧RdP false w pv m.params)∧InM m) noM (fun cs y n hy hk=>open_mem hy hk)
 rw [reach_num] at hl
 refine ⟨L,⟨fun i=>(f i).getD 2 undef,fun i=>(f i).getD 3 undef,⟨by omega,ao,cap,rfl,fun i hi=>?_⟩,tag_none,fun i hi=>?_⟩,by rw [reach_num];exact hl,fun p hp=>?_⟩
 ·obtain ⟨⟨⟨iv,pv,e,-⟩,-⟩,b,o,ha,hr⟩:=hf i hi
  refine ⟨b,o,ha,?_⟩
  dsimp only
  rw [e] at hr ⊢
  exact hr
 ·obtain ⟨⟨⟨iv,pv,e,h1,h2⟩,-⟩,-⟩:=hf i hi
  dsimp only
  rw [e]
  exact ⟨h1,h2⟩
 ·obtain ⟨i,hi,rfl⟩:=mem_getD (d:=noM) hp
  exact (hf i hi).1.2
end
end Go.Proofs.YtnknmmbnhoanfaaGreatDoor
namespace Go.Proofs.YtnknmmbnhoanfaaGreatDoor

def sumTo (f:Nat→Nat):Nat→Nat
 | 0=>0
 | k + 1=>sumTo f k + f k
theorem sumTo_mono {f : Nat → Nat} {i j : Nat} (h : i ≤ j) : sumTo f i ≤ sumTo f j := by
  induction j with
  | zero => obtain rfl : i = 0 := by omega
            exact Nat.le_refl _
  | succ j ih =>
    by_cases e : i = j + 1
    · subst e; exact Nat.le_refl _
    · have := ih (by omega)
      show _ ≤ sumTo f j + f j
      omega
theorem sumTo_at {f:Nat→Nat} {i n:Nat} (h:i < n):f i ≤ sumTo f n:=by
 have:=sumTo_mono (f:=f) (show i + 1 ≤ n from h)
 have e:sumTo f (i + 1)=sumTo f i + f i:=rfl
 omega
theorem sumTo_le {f g:Nat→Nat} {c:Nat}:∀ {n:Nat},(∀ i,i < n→f i ≤ c * g i)→sumTo f n ≤ c * sumTo g n
 | 0,_=>Nat.zero_le _
 | n + 1,h=>by
  have h1:=sumTo_le (f:=f) (g:=g) (c:=c) (n:=n) fun i hi=>h i (by omega)
  have h2:=h n (by omega)
  show sumTo f n + f n ≤ c * (sumTo g n + g n)
  rw [Nat.mul_add]
  omega
theorem sumTo_add (f g:Nat→Nat):∀ n,sumTo (fun i=>f i + g i) n=sumTo f n + sumTo g n
 | 0=>rfl
 | n + 1=>by
  show sumTo (fun i=>f i + g i) n + (f n + g n)=sumTo f n + f n + (sumTo g n + g n)
  rw [sumTo_add f g n]
  omega
theorem sumTo_const (c:Nat):∀ n,sumTo (fun _=>c) n=n * c
 | 0=>by simp [sumTo]
 | n + 1=>by
  show sumTo (fun _=>c) n + c = _
  rw [sumTo_const c n,Nat.succ_mul]
def pB (p:Bare.Par):Nat:=p.key.length + p.bare.text.length
def psB (L:List Bare.Par) (k:Nat):Nat:=sumTo (fun j=>pB (L.getD j noP)) k
def xB (x:Bare.Itm):Nat:=x.bare.text.length + psB x.params x.params.length
def xsB (L:List Bare.Itm) (k:Nat):Nat:=sumTo (fun j=>xB (L.getD j Bare.noI)) k
def xsN (L:List Bare.Itm) (k:Nat):Nat:=sumTo (fun j=>(L.getD j Bare.noI).params.length) k
def mN (m:Bare.Mem):Nat:=m.items.length + m.params.length + xsN m.items m.items.length
def mB (m:Bare.Mem):Nat:=m.key.length + psB m.params m.params.length + xsB m.items m.items.length
def dN (d:List Bare.Mem) (i:Nat):Nat:=d.length + sumTo (fun j=>mN (d.getD j noM)) i
def dB (d:List Bare.Mem) (i:Nat):Nat:=sumTo (fun j=>mB (d.getD j noM)) i
def S47:Nat:=140737488355328
def Str47P (L:List Bare.Par):Prop:=∀ j,j < L.length→(L.getD j noP).key.length ≤ S47∧(L.getD j noP).bare.text.length ≤ S47
def Str47X (L:List Bare.Itm):Prop:=∀ j,j < L.length→(L.getD j Bare.noI).bare.text.length ≤ S47∧Str47P (L.getD j Bare.noI).params
def Str47 (d:List Bare.Mem):Prop:=∀ j,j < d.length→(d.getD j noM).key.length ≤ S47∧Str47P (d.getD j noM).params∧Str47X (d.getD j noM).items
theorem psB_le {L:List Bare.Par} (h:Str47P L) {k:Nat} (hk:k ≤ L.length):psB L k ≤ 2 * S47 * k:=by
 have:=sumTo_le (f:=fun j=>pB (L.getD j noP)) (g:=fun _=>1) (c:=2 * S47) (n:=k) fun i hi=>by
  have:=h i (by omega)
  show pB _ ≤ _
  unfold pB
  omega
 rw [sumTo_const] at this
 unfold psB
 rw [Nat.mul_one] at this
 exact this
theorem xB_le {x:Bare.Itm} (h1:x.bare.text.length ≤ S47) (h:Str47P x.params):xB x ≤ 2 * S47 * (1 + x.params.length):=by
 have:=psB_le h (Nat.le_refl _)
 unfold xB
 rw [Nat.mul_add]
 omega
theorem xsB_le {L:List Bare.Itm} (h:Str47X L) {k:Nat} (hk:k ≤ L.length):xsB L k ≤ 2 * S47 * (k + xsN L k):=by
 have:=sumTo_le (f:=fun j=>xB (L.getD j Bare.noI)) (g:=fun j=>1 + (L.getD j Bare.noI).params.length) (c:=2 * S47) (n:=k) fun i hi=>by
  have:=h i (by omega)
  exact xB_le this.1 this.2
 rw [sumTo_add,sumTo_const,Nat.mul_one] at this
 exact this
theorem mB_le {m:Bare.Mem} (h0:m.key.length ≤ S47) (h1:Str47P m.params) (h2:Str47X m.items):mB m ≤ 2 * S47 * (1 + mN m):=by
 have a:=psB_le h1 (Nat.le_refl _)
 have b:=xsB_le h2 (Nat.le_refl _)
 unfold mB mN
 have e:2 * S47 * (1 + (m.items.length + m.params.length + xsN m.items m.items.length))=2 * S47 + 2 * S47 * m.params.length + 2 * S47 * (m.items.length + xsN m.items m.items.length):=by
  rw [show 1 + (m.items.length + m.params.length + xsN m.items m.items.length)=1 + m.params.length + (m.items.length + xsN m.items m.items.length) by omega,Nat.mul_add,Nat.mul_add,Nat.mul_one]
 omega
theorem dB_le {d:List Bare.Mem} (h:Str47 d) {i:Nat} (hi:i ≤ d.length):dB d i ≤ 2 * S47 * (i + sumTo (fun j=>mN (d.getD j noM)) i):=by
 have:=sumTo_le (f:=fun j=>mB (d.getD j noM)) (g:=fun j=>1 + mN (d.getD j noM)) (c:=2 * S47) (n:=i) fun k hk=>by
  obtain ⟨h1,h2,h3⟩:=h k (by omega)
  exact mB_le h1 h2 h3
 rw [sumTo_add,sumTo_const,Nat.mul_one] at this
 exact this
theorem small_parts {d:List Bare.Mem} (hn:dN d d.length ≤ 40) (hb:dB d d.length ≤ 2000):d.length ≤ 40∧∀ m ∈ d,m.key.length ≤ 2000∧m.items.length ≤ 40∧m.params.length ≤ 40∧(∀ p ∈ m.params,p.key.length ≤ 2000∧p.bare.text.length ≤ 2000)∧∀ x ∈ m.items,x.bare.text.length ≤ 2000∧x.params.length ≤ 40∧∀ p ∈ x.params,p.key.length ≤ 2000∧p.bare.text.length ≤ 2000:=by
 have hget:∀ {α:Type} {l:List α} {a d:α},a ∈ l→∃ i,i < l.length∧l.getD i d=a:=fun {α} {l} {a} {d} h=>by
  obtain ⟨i,hi⟩:=List.getElem?_of_mem h
  exact ⟨i,(List.getElem?_eq_some_iff.1 hi).1,by rw [List.getD_eq_getElem?_getD,hi];rfl⟩
 have hps:∀ (L:List Bare.Par) (p:Bare.Par),p ∈ L→pB p ≤ psB L L.length:=fun L p hp=>by
  obtain ⟨i,hi,e⟩:=hget (d:=noP) hp
  have:=sumTo_at (f:=fun j=>pB (L.getD j noP)) hi
  simp only [e] at this
  exact this
 unfold dN at hn
 refine ⟨by omega,fun m hm=>?_⟩
 obtain ⟨i,hi,e⟩:=hget (d:=noM) hm
 have h1:=sumTo_at (f:=fun j=>mN (d.getD j noM)) hi
 have h2:=sumTo_at (f:=fun j=>mB (d.getD j noM)) hi
 simp only [e] at h1 h2
 have h2:mB m ≤ dB d d.length:=h2
 have hmN:mN m=m.items.length + m.params.length + xsN m.items m.items.length:=rfl
 have hmB:mB m=m.key.length + psB m.params m.params.length + xsB m.items m.items.length:=rfl
 refine ⟨by omega,by omega,by omega,fun p hp=>?_,fun x hx=>?_⟩
 ·have:=hps _ p hp
  unfold pB at this
  omega
 ·obtain ⟨k,hk,e'⟩:=hget (d:=Bare.noI) hx
  have h3:=sumTo_at (f:=fun j=>(m.items.getD j Bare.noI).params.length) hk
  have h4:=sumTo_at (f:=fun j=>xB (m.items.getD j Bare.noI)) hk
  simp only [e'] at h3 h4
  have h3:x.params.length ≤ xsN m.items m.items.length:=h3
  have h4:xB x ≤ xsB m.items m.items.length:=h4
  have hx:xB x=x.bare.text.length + psB x.params x.params.length:=rfl
  refine ⟨by omega,by omega,fun p hp=>?_⟩
  have:=hps _ p hp
  unfold pB at this
  omega
end Go.Proofs.YtnknmmbnhoanfaaGreatDoor
namespace Go.Proofs.YtnknmmbnhoanfaaGreatDoor
open Go.RowKit Go.Shelf Go.Cs
attribute [local go_sem] Oper.semAt_some


def keyAt (k:Nat) (c:UInt8):Bool:=if k=0 then Bare.smlB c else Bare.inKey c
def keyM:Bare.Bs:=[95,45,46]
theorem keyB_at (l:Bare.Bs):Bare.keyB l=true ↔ l ≠ []∧∀ k c,l[k]? = some c→keyAt k c=true:=by
 cases l with
 | nil=>simp [Bare.keyB]
 | cons a r =>
  simp only [Bare.keyB,Bool.and_eq_true]
  constructor
  ·rintro ⟨h1,h2⟩
   refine ⟨by simp,fun k c hk=>?_⟩
   cases k with
   | zero=>simp at hk;subst hk;exact h1
   | succ k =>
    rw [List.getElem?_cons_succ] at hk
    exact List.all_eq_true.1 h2 c (List.mem_of_getElem? hk)
  ·rintro ⟨-,h⟩
   refine ⟨h 0 a rfl,List.all_eq_true.2 fun c hc=>?_⟩
   obtain ⟨k,hk⟩:=List.getElem?_of_mem hc
   exact h (k + 1) c hk
theorem key_bad (k:Nat) (c:UInt8):(!Bare.smlB c && ((k == 0) || (decide (c.toNat < 48) || decide (57 < c.toNat)) && !keyM.contains c)) = !keyAt k c:=by
 unfold keyAt Bare.inKey keyM
 by_cases hk:k=0
 ·subst hk;cases Bare.smlB c <;> simp
 ·rw [if_neg hk]
  have:(k == 0)=false:=by simpa using hk
  rw [this]
  have hd:Bare.digB c = !(decide (c.toNat < 48) || decide (57 < c.toNat)):=by
   unfold Bare.digB
   rw [Bool.eq_iff_iff]
   simp
  rw [hd]
  cases Bare.smlB c <;> cases (decide (c.toNat < 48) || decide (57 < c.toNat)) <;> cases [95,45,46].contains c <;> rfl
theorem keyM_o (c:UInt8):decide (Lib.indexByte keyM c < 0) = !keyM.contains c:=by
 have:=Lib.contains_iff_indexByte keyM c
 rw [this,← decide_not]
 exact decide_eq_decide.2 (by omega)
theorem small_any (c:UInt8) (w:World):Calls Tryz.prog 87 #[.int .u8 (c.toNat:Nat)] w fun e w'=>e = .returned (.bool (Bare.smlB c))∧w'=w:=by
  have h42:(c == 42)=decide ((c.toNat:Int)=42):=by
    rw [Bool.eq_iff_iff,beq_iff_eq,decide_eq_true_eq,← UInt8.toNat_inj]
    show c.toNat=42 ↔ _
    omega
  unfold Bare.smlB
  rw [h42]
  have ha:decide (97 ≤ c.toNat)=decide (97 ≤ (c.toNat:Int)):=decide_eq_decide.2 (by omega)
  have hb:decide (c.toNat ≤ 122)=decide ((c.toNat:Int) ≤ 122):=decide_eq_decide.2 (by omega)
  rw [ha,hb]
  have hlt:=UInt8.toNat_lt c
  obtain ⟨n,hn⟩:∃ n,c.toNat=n:=⟨_,rfl⟩
  rw [hn] at *
  clear h42 ha hb hn
  by_cases h1:97 ≤ (n:Int) <;> by_cases h2:(n:Int) ≤ 122 <;> by_cases h3:(n:Int)=42
  all_goals
    first
    | omega
    | (simp only [h1,h2,h3,decide_true,decide_false,Bool.and_true,Bool.or_true,Bool.true_and,Bool.false_and,Bool.and_false,Bool.or_false,Bool.true_or,Bool.false_or]
       go_enter Tryz.func87,Tryz.ntmps87
       go_wp2_with fail
       go_ret
       refine ⟨?_,rfl⟩
       first | rfl | simp [h3])
theorem key_any (s:ByteArray) (w:World) (hs:s.size ≤ 9223372036854775807) :
    Calls Tryz.prog 29 #[.string s] w fun e w'=>e = .returned (.bool (Bare.keyB (bl s)))∧New w w':=by
  have HB:=Lib.hid (keyB_at (bl s))
  obtain ⟨r,hr⟩:∃ r,Bare.keyB (bl s)=r:=⟨_,rfl⟩
  rw [hr] at HB ⊢
  clear hr
  have hcv:=Lib.run_convert_string_bytes (P:=Tryz.prog) w 9 62 5 s Tryz.underlying9 Tryz.underlying62 Tryz.underlying5
  have hN:New w (Lib.bytesWorld w 5 s):=by
    refine ⟨rfl,rfl,rfl,by rw [Lib.bytesWorld_size];omega,fun k o hk _=>?_⟩
    rw [Lib.bytesWorld_at_old w 5 s k (Array.getElem?_eq_some_iff.1 hk).1];exact hk
  have hcell:Hid (∀ k,k < s.size→(Lib.bytesWorld w 5 s).cell? ⟨w.heap.size,k,none⟩=some (.int .u8 ((gb s k).toNat:Nat))):=Lib.hid fun k hk=>Lib.bytesWorld_cell w 5 s k hk
  obtain ⟨W,hW⟩:∃ W,Lib.bytesWorld w 5 s=W:=⟨_,rfl⟩
  obtain ⟨B,hB⟩:∃ B,w.heap.size=B:=⟨_,rfl⟩
  obtain ⟨C,hC⟩:∃ C,grownCap w s.size 0 5=C:=⟨_,rfl⟩
  rw [hW,hB,hC] at hcv
  rw [hW] at hN
  rw [hW,hB] at hcell
  clear hW hB hC
  go_enter Tryz.func29,Tryz.ntmps29
  go_wp2_with fail
  go_loop [9] (fun c=>∃ k:Nat,k ≤ s.size∧c = .int .i64 k∧Hid (∀ j,j < k→keyAt j (gb s j)=true)) (fun c=>s.size - (intOf c).toNat)
  case atStart=>exact ⟨0,Nat.zero_le _,rfl,Lib.hid fun i hi=>by omega⟩
  case round =>
    obtain ⟨k,hk,rfl,hbef⟩:=hrel
    by_cases hlt:k < s.size
    · have hkd:decide ((k:Int) < (s.size:Int))=true:=decide_eq_true (by omega)
      have hix:=hcell.out k hlt
      have hnext:keyAt k (gb s k)=true→Hid (∀ j,j < k + 1→keyAt j (gb s j)=true):=fun hg=>Lib.hid fun i hi=>by
        by_cases hik:i < k
        · exact hbef.out i hik
        · obtain rfl:i=k:=by omega
          exact hg
      have hstop:keyAt k (gb s k)=false→r=false:=fun hg=>by
        rw [Bool.eq_false_iff]
        intro h
        have:=(HB.out.1 h).2 k _ (gb_get s k hlt)
        rw [hg] at this;cases this
      have Hbad:=Lib.hid (key_bad k (gb s k))
      have HL:=Lib.hid (small_any (gb s k))
      have eg:∀ args w,(callFunc 87 args).run Tryz.prog w = .ok (.enter 87 args) w:=enters_of Tryz.func87 (by kernel_rfl) rfl
      have Ho:=keyM_o (gb s k)
      have hback:((gb s k).toNat:Int).toNat.toUInt8=gb s k:=by simp
      have hk0:(k == 0)=decide ((k:Int)=0):=by
        rw [Bool.eq_iff_iff,beq_iff_eq,decide_eq_true_eq];omega
      have hA0:decide ((gb s k).toNat < 48)=decide (((gb s k).toNat:Int) < 48):=decide_eq_decide.2 (by omega)
      have hB0:decide (57 < (gb s k).toNat)=decide (57 < ((gb s k).toNat:Int)):=decide_eq_decide.2 (by omega)
      rw [hk0,hA0,hB0] at Hbad
      clear hbef hk0 hA0 hB0
      have HK:∀ W,Calls Tryz.prog 63 #[.string ⟨#[95,45,46]⟩,.int .u8 ((gb s k).toNat:Nat)] W fun e w'=>e = .returned (.int .i64 (Lib.indexByte keyM (gb s k)))∧w'=W:=fun W =>
        (Tryz.strings_IndexByte _ _ W).mono (by rintro e w' ⟨rfl,hw⟩;rw [hback];exact ⟨rfl,hw⟩)
      have HK:=Lib.hid HK
      obtain ⟨o,ho⟩:∃ o,Lib.indexByte keyM (gb s k)=o:=⟨_,rfl⟩
      rw [ho] at HK Ho
      obtain ⟨T,hT⟩:∃ x,keyAt k (gb s k)=x:=⟨_,rfl⟩
      obtain ⟨L,hL⟩:∃ x,Bare.smlB (gb s k)=x:=⟨_,rfl⟩
      obtain ⟨M,hM⟩:∃ x,keyM.contains (gb s k)=x:=⟨_,rfl⟩
      rw [hT] at Hbad hnext hstop
      rw [hL] at Hbad HL
      rw [hM] at Hbad Ho
      obtain ⟨n,hn⟩:∃ x,(gb s k).toNat=x:=⟨_,rfl⟩
      rw [hn] at HL HK Hbad hix
      clear ho hT hL hM hn hback
      obtain ⟨D,hD⟩:∃ x,decide ((n:Int) < 48)=x:=⟨_,rfl⟩
      obtain ⟨E,hE⟩:∃ x,decide (57 < (n:Int))=x:=⟨_,rfl⟩
      obtain ⟨Z,hZ⟩:∃ x,decide ((k:Int)=0)=x:=⟨_,rfl⟩
      have hZ2:((k:Int) == 0)=Z:=hZ
      rw [hE,hZ,hD] at Hbad
      have hcase:(L=true∧T=true) ∨ (L=false∧Z=true∧T=false) ∨ (L=false∧Z=false∧D=false∧E=false∧T=true) ∨ (L=false∧Z=false∧D=true∧M=true∧T=true) ∨ (L=false∧Z=false∧D=true∧M=false∧T=false) ∨ (L=false∧Z=false∧D=false∧E=true∧M=true∧T=true) ∨ (L=false∧Z=false∧D=false∧E=true∧M=false∧T=false):=by
        have:=Hbad.out
        revert this
        cases L <;> cases E <;> cases Z <;> cases D <;> cases M <;> cases T <;> simp
      clear Hbad
      rcases hcase with ⟨rfl,rfl⟩ | ⟨rfl,rfl,rfl⟩ | ⟨rfl,rfl,rfl,rfl,rfl⟩ | ⟨rfl,rfl,rfl,rfl,rfl⟩ | ⟨rfl,rfl,rfl,rfl,rfl⟩ | ⟨rfl,rfl,rfl,rfl,rfl,rfl⟩ | ⟨rfl,rfl,rfl,rfl,rfl,rfl⟩
      all_goals
        try simp only [Bool.not_true,Bool.not_false] at Ho
        first
        | (have hh:=hnext rfl
           clear hnext hstop
           go_wp2_with (first | (go_at_call 87;refine (HL.out _).mono ?_;rintro e w' ⟨rfl,rfl⟩) | (go_at_call 63;refine (HK.out _).mono ?_;rintro e w' ⟨rfl,rfl⟩))
           go_round
           case rel=>exact ⟨k + 1,by omega,by go_num,hh⟩
           case measure=>simp [intOf];omega)
        | (have hh:=hstop rfl
           clear hnext hstop
           subst hh
           go_wp2_with (first | (go_at_call 87;refine (HL.out _).mono ?_;rintro e w' ⟨rfl,rfl⟩) | (go_at_call 63;refine (HK.out _).mono ?_;rintro e w' ⟨rfl,rfl⟩))
           go_ret
           exact ⟨rfl,hN⟩)
    · obtain rfl:k=s.size:=by omega
      have hkd:decide ((s.size:Int) < (s.size:Int))=false:=decide_eq_false (by omega)
      have hr:r=decide (s.size ≠ 0):=by
        rw [Bool.eq_iff_iff,HB.out,decide_eq_true_eq]
        have hl:=bl_len s
        constructor
        · rintro ⟨h,-⟩ h0
          exact h (List.length_eq_zero_iff.1 (by omega))
        · intro h
          refine ⟨fun e=>h (by rw [← hl,e];rfl),fun k c hk=>?_⟩
          obtain ⟨h1,rfl⟩:=get_gb hk
          exact hbef.out k h1
      have hq':=empty_toList s
      have hr2:r = !decide (s.size=0):=by rw [hr,← decide_not]
      obtain ⟨z,hz⟩:∃ z,decide (s.size=0)=z:=⟨_,rfl⟩
      rw [hz] at hq' hr2
      clear hz hr HB hbef
      subst hr2
      go_wp2_with fail
      go_ret
      exact ⟨by simp [hq'],hN⟩


def PredF (g:Nat) (lb:Array Value) (n:Nat) (f:Nat→List Value) (ok:World→Prop) (p:Nat→Bool):Prop :=
 ∀ i W,i < n→ok W→Calls Tryz.prog g (#[.agg (f i).toArray] ++ lb) W fun e w'=>e = .returned (.bool (p i))∧New W w'
def firstFrom (p:Nat→Bool) (n:Nat):Int:=match (List.range n).find? p with
 | some i=>(i:Int)
 | none=>-1
theorem first_at (p:Nat→Bool) (n:Nat) (k:Nat) (hk:k < n) (h:∀ j,j < k→p j=false) (hp:p k=true):firstFrom p n=k:=by
 have:(List.range n).find? p=some k:=by
  rw [List.find?_eq_some_iff_getElem]
  refine ⟨hp,k,by simpa using hk,by simp,fun j hj=>?_⟩
  simp [h j hj]
 unfold firstFrom
 rw [this]
theorem first_none (p:Nat→Bool) (n:Nat) (h:∀ j,j < n→p j=false):firstFrom p n = -1:=by
 have:(List.range n).find? p=none:=by
  rw [List.find?_eq_none]
  intro x hx
  rw [h x (List.mem_range.1 hx)]
  decide
 unfold firstFrom
 rw [this]
theorem first_any (p:Nat→Bool) (n:Nat):decide (firstFrom p n ≥ 0)=(List.range n).any p:=by
 unfold firstFrom
 rw [Bool.eq_iff_iff,decide_eq_true_eq,List.any_eq_true]
 cases h:(List.range n).find? p with
 | none =>
  rw [List.find?_eq_none] at h
  constructor
  ·intro h';simp at h'
  ·rintro ⟨x,hx,hp⟩;exact absurd hp (h x hx)
 | some i =>
  have h1:=List.mem_of_find?_eq_some h
  have h2:=List.find?_some h
  simp only [ge_iff_le,Int.natCast_nonneg,true_iff]
  exact ⟨i,h1,h2⟩
theorem index_P (g:Nat) (lb:Array Value) (n:Nat) (c:Nat→Nat→Value) (ok:World→Prop) (hok:∀ W W',ok W→New W W'→ok W') (p:Nat→Bool) (hg:PredF g lb n (fun i=>[c i 0,c i 1,c i 2,c i 3,c i 4]) ok p) (eg:∀ args w,(callFunc g args).run Tryz.prog w = .ok (.enter g args) w) (v:Value) (w:World) (hv:RowR w v n 5 (fun i=>[c i 0,c i 1,c i 2,c i 3,c i 4])) (ho:ok w) :
  Calls Tryz.prog 174 #[v,.func (.func g) #[] lb] w fun e w'=>e = .returned (.int .i64 (firstFrom p n))∧New w w':=by
 have HG:=Lib.hid hg
 have HV:=Lib.hid hv
 have HO:=Lib.hid ho
 have HB:=Lib.hid (first_at p n)
 have HE:=Lib.hid (first_none p n)
 obtain ⟨ao,cap,rfl⟩:=hv.slice
 have hn:n ≤ 281474976710656:=hv.1
 clear hg hv ho
 obtain ⟨r,hr⟩:∃ r,firstFrom p n=r:=⟨_,rfl⟩
 rw [hr] at HB HE ⊢
 clear hr
 have hN0:New w w:=Mods.refl _ _
 go_enter Tryz.func174,Tryz.ntmps174
 go_wp2_with fail
 go_loopw [8] (fun t wr=>∃ k:Nat,k ≤ n∧t = .int .i64 k∧Hid (∀ j,j < k→p j=false)∧New w wr) (fun t _=>n - (intOf t).toNat)
 case atStart=>exact ⟨0,Nat.zero_le _,rfl,Lib.hid fun i hi=>by omega,hN0⟩
 case round =>
  obtain ⟨k,hk,rfl,hbef,hN⟩:=hrel
  by_cases hlt:k < n
  ·have hkd:decide ((k:Int) < (n:Int))=true:=decide_eq_true (by omega)
   obtain ⟨b,o,rfl,hrow⟩:=(HV.out.new hN).at.2.2 k hlt
   obtain ⟨k0,k1,k2,k3,k4⟩:=cells5 hrow
   have HP:=Lib.hid (HG.out k wr hlt (hok _ _ HO.out hN))
   clear hrow HV HG
   cases hp:p k with
   | false =>
    have hh:Hid (∀ j,j < k + 1→p j=false):=Lib.hid fun i hi=>by
     by_cases hik:i < k
     ·exact hbef.out i hik
     ·obtain rfl:i=k:=by omega
      exact hp
    rw [hp] at HP
    clear hp hbef HB HE
    go_wp2_with fail
    refine HP.out.mono ?_
    rintro e w' ⟨rfl,hN'⟩
    have hN2:=hN.trans hN'
    clear hN hN'
    go_wp2_with fail
    go_round
    case rel=>exact ⟨k + 1,by omega,by go_num,hh,hN2⟩
    case measure=>simp [intOf];omega
   | true =>
    obtain rfl:r=k:=HB.out k hlt hbef.out hp
    rw [hp] at HP
    clear hp hbef HB HE
    go_wp2_with fail
    refine HP.out.mono ?_
    rintro e w' ⟨rfl,hN'⟩
    have hN2:=hN.trans hN'
    clear hN hN'
    go_wp2_with fail
    go_ret
    exact ⟨rfl,hN2⟩
  ·obtain rfl:k=n:=by omega
   have hkd:decide ((k:Int) < (k:Int))=false:=decide_eq_false (by omega)
   obtain rfl:r = -1:=HE.out hbef.out
   clear HB HE hbef
   go_wp2_with fail
   go_ret
   exact ⟨rfl,hN⟩
theorem index_I (g:Nat) (lb:Array Value) (n:Nat) (c:Nat→Nat→Value) (ok:World→Prop) (hok:∀ W W',ok W→New W W'→ok W') (p:Nat→Bool) (hg:PredF g lb n (fun i=>[c i 0,c i 1,c i 2,c i 3,c i 4]) ok p) (eg:∀ args w,(callFunc g args).run Tryz.prog w = .ok (.enter g args) w) (v:Value) (w:World) (hv:RowR w v n 5 (fun i=>[c i 0,c i 1,c i 2,c i 3,c i 4])) (ho:ok w) :
  Calls Tryz.prog 149 #[v,.func (.func g) #[] lb] w fun e w'=>e = .returned (.int .i64 (firstFrom p n))∧New w w':=by
 have HG:=Lib.hid hg
 have HV:=Lib.hid hv
 have HO:=Lib.hid ho
 have HB:=Lib.hid (first_at p n)
 have HE:=Lib.hid (first_none p n)
 obtain ⟨ao,cap,rfl⟩:=hv.slice
 have hn:n ≤ 281474976710656:=hv.1
 clear hg hv ho
 obtain ⟨r,hr⟩:∃ r,firstFrom p n=r:=⟨_,rfl⟩
 rw [hr] at HB HE ⊢
 clear hr
 have hN0:New w w:=Mods.refl _ _
 go_enter Tryz.func149,Tryz.ntmps149
 go_wp2_with fail
 go_loopw [8] (fun t wr=>∃ k:Nat,k ≤ n∧t = .int .i64 k∧Hid (∀ j,j < k→p j=false)∧New w wr) (fun t _=>n - (intOf t).toNat)
 case atStart=>exact ⟨0,Nat.zero_le _,rfl,Lib.hid fun i hi=>by omega,hN0⟩
 case round =>
  obtain ⟨k,hk,rfl,hbef,hN⟩:=hrel
  by_cases hlt:k < n
  ·have hkd:decide ((k:Int) < (n:Int))=true:=decide_eq_true (by omega)
   obtain ⟨b,o,rfl,hrow⟩:=(HV.out.new hN).at.2.2 k hlt
   obtain ⟨k0,k1,k2,k3,k4⟩:=cells5 hrow
   have HP:=Lib.hid (HG.out k wr hlt (hok _ _ HO.out hN))
   clear hrow HV HG
   cases hp:p k with
   | false =>
    have hh:Hid (∀ j,j < k + 1→p j=false):=Lib.hid fun i hi=>by
     by_cases hik:i < k
     ·exact hbef.out i hik
     ·obtain rfl:i=k:=by omega
      exact hp
    rw [hp] at HP
    clear hp hbef HB HE
    go_wp2_with fail
    refine HP.out.mono ?_
    rintro e w' ⟨rfl,hN'⟩
    have hN2:=hN.trans hN'
    clear hN hN'
    go_wp2_with fail
    go_round
    case rel=>exact ⟨k + 1,by omega,by go_num,hh,hN2⟩
    case measure=>simp [intOf];omega
   | true =>
    obtain rfl:r=k:=HB.out k hlt hbef.out hp
    rw [hp] at HP
    clear hp hbef HB HE
    go_wp2_with fail
    refine HP.out.mono ?_
    rintro e w' ⟨rfl,hN'⟩
    have hN2:=hN.trans hN'
    clear hN hN'
    go_wp2_with fail
    go_ret
    exact ⟨rfl,hN2⟩
  ·obtain rfl:k=n:=by omega
   have hkd:decide ((k:Int) < (k:Int))=false:=decide_eq_false (by omega)
   obtain rfl:r = -1:=HE.out hbef.out
   clear HB HE hbef
   go_wp2_with fail
   go_ret
   exact ⟨rfl,hN⟩
theorem index_M (g:Nat) (lb:Array Value) (n:Nat) (c:Nat→Nat→Value) (ok:World→Prop) (hok:∀ W W',ok W→New W W'→ok W') (p:Nat→Bool) (hg:PredF g lb n (fun i=>[c i 0,c i 1,c i 2,c i 3]) ok p) (eg:∀ args w,(callFunc g args).run Tryz.prog w = .ok (.enter g args) w) (v:Value) (w:World) (hv:RowR w v n 4 (fun i=>[c i 0,c i 1,c i 2,c i 3])) (ho:ok w) :
  Calls Tryz.prog 74 #[v,.func (.func g) #[] lb] w fun e w'=>e = .returned (.int .i64 (firstFrom p n))∧New w w':=by
 have HG:=Lib.hid hg
 have HV:=Lib.hid hv
 have HO:=Lib.hid ho
 have HB:=Lib.hid (first_at p n)
 have HE:=Lib.hid (first_none p n)
 obtain ⟨ao,cap,rfl⟩:=hv.slice
 have hn:n ≤ 281474976710656:=hv.1
 clear hg hv ho
 obtain ⟨r,hr⟩:∃ r,firstFrom p n=r:=⟨_,rfl⟩
 rw [hr] at HB HE ⊢
 clear hr
 have hN0:New w w:=Mods.refl _ _
 go_enter Tryz.func74,Tryz.ntmps74
 go_wp2_with fail
 go_loopw [8] (fun t wr=>∃ k:Nat,k ≤ n∧t = .int .i64 k∧Hid (∀ j,j < k→p j=false)∧New w wr) (fun t _=>n - (intOf t).toNat)
 case atStart=>exact ⟨0,Nat.zero_le _,rfl,Lib.hid fun i hi=>by omega,hN0⟩
 case round =>
  obtain ⟨k,hk,rfl,hbef,hN⟩:=hrel
  by_cases hlt:k < n
  ·have hkd:decide ((k:Int) < (n:Int))=true:=decide_eq_true (by omega)
   obtain ⟨b,o,rfl,hrow⟩:=(HV.out.new hN).at.2.2 k hlt
   obtain ⟨k0,k1,k2,k3⟩:=cells4 hrow
   have HP:=Lib.hid (HG.out k wr hlt (hok _ _ HO.out hN))
   clear hrow HV HG
   cases hp:p k with
   | false =>
    have hh:Hid (∀ j,j < k + 1→p j=false):=Lib.hid fun i hi=>by
     by_cases hik:i < k
     ·exact hbef.out i hik
     ·obtain rfl:i=k:=by omega
      exact hp
    rw [hp] at HP
    clear hp hbef HB HE
    go_wp2_with fail
    refine HP.out.mono ?_
    rintro e w' ⟨rfl,hN'⟩
    have hN2:=hN.trans hN'
    clear hN hN'
    go_wp2_with fail
    go_round
    case rel=>exact ⟨k + 1,by omega,by go_num,hh,hN2⟩
    case measure=>simp [intOf];omega
   | true =>
    obtain rfl:r=k:=HB.out k hlt hbef.out hp
    rw [hp] at HP
    clear hp hbef HB HE
    go_wp2_with fail
    refine HP.out.mono ?_
    rintro e w' ⟨rfl,hN'⟩
    have hN2:=hN.trans hN'
    clear hN hN'
    go_wp2_with fail
    go_ret
    exact ⟨rfl,hN2⟩
  ·obtain rfl:k=n:=by omega
   have hkd:decide ((k:Int) < (k:Int))=false:=decide_eq_false (by omega)
   obtain rfl:r = -1:=HE.out hbef.out
   clear HB HE hbef
   go_wp2_with fail
   go_ret
   exact ⟨rfl,hN⟩
theorem contains_P (g:Nat) (lb:Array Value) (n:Nat) (c:Nat→Nat→Value) (ok:World→Prop) (hok:∀ W W',ok W→New W W'→ok W') (p:Nat→Bool) (hg:PredF g lb n (fun i=>[c i 0,c i 1,c i 2,c i 3,c i 4]) ok p) (eg:∀ args w,(callFunc g args).run Tryz.prog w = .ok (.enter g args) w) (v:Value) (w:World) (hv:RowR w v n 5 (fun i=>[c i 0,c i 1,c i 2,c i 3,c i 4])) (ho:ok w) :
  Calls Tryz.prog 147 #[v,.func (.func g) #[] lb] w fun e w'=>e = .returned (.bool ((List.range n).any p))∧New w w':=by
 have HI:=Lib.hid (index_P g lb n c ok hok p hg eg v w hv ho)
 have hx:=first_any p n
 obtain ⟨r,hr⟩:∃ r,firstFrom p n=r:=⟨_,rfl⟩
 obtain ⟨y,hy⟩:∃ y,(List.range n).any p=y:=⟨_,rfl⟩
 rw [hr] at HI hx
 rw [hy] at hx ⊢
 have hN0:New w w:=Mods.refl _ _
 clear hr hy hg hv ho hok
 subst hx
 go_enter Tryz.func147,Tryz.ntmps147
 go_wp2_with fail
 refine HI.out.mono ?_
 rintro e w' ⟨rfl,hN'⟩
 go_wp2_with fail
 go_ret
 exact ⟨rfl,hN'⟩
theorem contains_I (g:Nat) (lb:Array Value) (n:Nat) (c:Nat→Nat→Value) (ok:World→Prop) (hok:∀ W W',ok W→New W W'→ok W') (p:Nat→Bool) (hg:PredF g lb n (fun i=>[c i 0,c i 1,c i 2,c i 3,c i 4]) ok p) (eg:∀ args w,(callFunc g args).run Tryz.prog w = .ok (.enter g args) w) (v:Value) (w:World) (hv:RowR w v n 5 (fun i=>[c i 0,c i 1,c i 2,c i 3,c i 4])) (ho:ok w) :
  Calls Tryz.prog 92 #[v,.func (.func g) #[] lb] w fun e w'=>e = .returned (.bool ((List.range n).any p))∧New w w':=by
 have HI:=Lib.hid (index_I g lb n c ok hok p hg eg v w hv ho)
 have hx:=first_any p n
 obtain ⟨r,hr⟩:∃ r,firstFrom p n=r:=⟨_,rfl⟩
 obtain ⟨y,hy⟩:∃ y,(List.range n).any p=y:=⟨_,rfl⟩
 rw [hr] at HI hx
 rw [hy] at hx ⊢
 have hN0:New w w:=Mods.refl _ _
 clear hr hy hg hv ho hok
 subst hx
 go_enter Tryz.func92,Tryz.ntmps92
 go_wp2_with fail
 refine HI.out.mono ?_
 rintro e w' ⟨rfl,hN'⟩
 go_wp2_with fail
 go_ret
 exact ⟨rfl,hN'⟩
end Go.Proofs.YtnknmmbnhoanfaaGreatDoor
namespace Go.Cs
open Go.RowKit
structure ModsM (S:Nat→Prop) (M:Nat) (w w':World):Prop where
 os:w'.os=w.os
 tape:w'.tape=w.tape
 output:w'.output=w.output
 size:w.heap.size ≤ w'.heap.size
 block:∀ k o,w.heap[k]? = some o→k ≠ M→(¬ S k ∨ o.isCells=false)→w'.heap[k]? = some o
theorem ModsM.refl (S:Nat→Prop) (M:Nat) (w:World):ModsM S M w w:=⟨rfl,rfl,rfl,Nat.le_refl _,fun _ _ h _ _=>h⟩
theorem ModsM.trans {S:Nat→Prop} {M:Nat} {a b c:World} (h:ModsM S M a b) (k:ModsM S M b c):ModsM S M a c :=
 ⟨k.os.trans h.os,k.tape.trans h.tape,k.output.trans h.output,Nat.le_trans h.size k.size,fun i o hi hm ho=>k.block i o (h.block i o hi hm ho) hm ho⟩
theorem Mods.toM {S:Nat→Prop} {a b:World} (h:Mods S a b) (M:Nat):ModsM S M a b:=⟨h.os,h.tape,h.output,h.size,fun i o hi _ ho=>h.block i o hi ho⟩
theorem ModsM.putObj {S:Nat→Prop} {M:Nat} {a w:World} (h:ModsM S M a w) (o:Obj):ModsM S M a (w.putObj M o) :=
 ⟨h.os,h.tape,h.output,by simpa using h.size,fun k o' hk hm ho=>(World.putObj_heap_other hm).trans (h.block k o' hk hm ho)⟩
theorem ModsM.heap {S:Nat→Prop} {M:Nat} {w w':World} (h:ModsM S M w w') {k:Nat} {o:Obj} (hk:w.heap[k]? = some o) (hM:k ≠ M) (hS:¬ S k):w'.heap[k]? = some o:=h.block k o hk hM (.inl hS)
theorem ModsM.new {M:Nat} {a b:World} (h:ModsM (fun _=>False) M a b) (hM:a.heap.size ≤ M):New a b :=
 ⟨h.os,h.tape,h.output,h.size,fun i o hi _=>h.block i o hi (by have:=(Array.getElem?_eq_some_iff.1 hi).1;omega) (.inl id)⟩
theorem ModsM.cell {S:Nat→Prop} {M:Nat} {w w':World} (h:ModsM S M w w') {p:Addr} {v:Value} (hc:w.cell? p=some v) (hM:p.block ≠ M) (hS:¬ S p.block):w'.cell? p=some v:=by
 obtain ⟨o,ho,_⟩:=cells_of_cell hc
 exact (World.cell?_of_block (w:=w) ((h.heap ho hM hS).trans ho.symm)).trans hc
def IterM (P:Program) (g:Nat) (lb:Array Value) (L:List (Array Value)) (S:Nat→Prop) (M:Nat) (W:World):Prop :=
 ∀ (l:Nat) (J Jx:Nat→World→Prop),(∀ k,∀ A A',J k A→New A A'→J k A')→(∀ k,∀ A A',Jx k A→New A A'→Jx k A') →
  (∀ k x W1,L[k]? = some x→J k W1→ModsM S M W W1→YieldAt Fence.wide 0 P l x W1 fun e W' =>
   (e = .returned (.bool true)∧J (k + 1) W'∧ModsM S M W1 W') ∨ (e = .returned (.bool false)∧Jx (k + 1) W')) →
  J 0 W →
  Calls P g (#[.func (.yield l) #[] #[]] ++ lb) W fun e W'=>(∃ v,e = .returned v)∧(J L.length W' ∨ ∃ k,k ≤ L.length∧Jx k W')
def roundM (S:Nat→Prop) (M:Nat) (I:Nat→World→Prop) (Ix:Code→Nat→World→Prop) (k:Nat) (W:World):Exit→Act→World→Prop
 | .normal,_,W'=>ModsM S M W W'∧I k W'
 | .ret,_,W'=>ModsM S M W W'∧Ix .ret k W'
 | .exit id,_,W'=>ModsM S M W W'∧Ix (.exit id) k W'
 | .goto t,_,W'=>ModsM S M W W'∧Ix (.goto t) k W'
 | .panic _,_,_=>False
 | .outgrown,_,_=>False
variable {P:Program}
def OthersM (M:Nat) (A W:World):Prop:=∀ (k:Nat) (o:Obj),A.heap[k]? = some o→k ≠ M→o.isCells=false→W.heap[k]? = some o
theorem rangeM_core (r:Option Nat)
  {g:Operand} {ps:Array Tmp} {assign body:Code} {Q:Exit→Act→World→Prop} {a:Act} {w:World}
  {gf:Nat} {lb:Array Value} (hg:a.eval g = .func (.func gf) #[] lb) (eg:∀ args w,(callFunc gf args).run P w = .ok (.enter gf args) w)
  (L:List (Array Value)) (S:Nat→Prop) (M:Nat) (hM:M < w.heap.size) (hit:∀ W,New w W→IterM P gf lb L S M W) (hps:∀ x ∈ L,x.size=ps.size)
  (W0:World) (hW0:New w W0) (mark:List Deferred) (d:Nat)
  (henter:∀ fn,(Instr.enterLoop fn a.tmps ps assign body r).run P w = .ok (W0.heap.size,mark) (W0.alloc (.loop { state:=.ready,pending:=none,fn,tmps:=a.tmps,params:=ps,assign,body,defers:=d })))
  (I:Nat→World→Prop) (Ix:Code→Nat→World→Prop) (hI:∀ k,Stab w.heap.size (I k)) (hIx:∀ c k,Stab w.heap.size (Ix c k)) (h0:I 0 w)
  (hround:∀ (l k:Nat) (x:Array Value) (W:World),L[k]? = some x→w.heap.size ≤ l→(∃ r,W.heap[l]? = some (.loop r))→I k W →
   assign.wpIn (Fr (some l)) 0 P (Exit.then (fun a1 W1=>ModsM S M W W1∧∀ W2,Quiet w.heap.size W1 W2→(∃ r,W2.heap[l]? = some (.loop r))→body.wpIn (Fr (some l)) 0 P (roundM S M I Ix (k + 1) W2) a1 W2) (fun _ _ _=>False))
    { tmps:=(ps.zip x).foldl (fun t (p,v)=>t.setIfInBounds p v) a.tmps,defers:=[] } W)
  (hdone:∀ W,I L.length W→OthersM M W0 W→Q .normal { a with defers:=mark ++ a.defers } W)
  (hstop:∀ c k W,k ≤ L.length→Ix c k W→OthersM M W0 W→c.wpIn (Fr r) 0 P Q { a with defers:=mark ++ a.defers } W) :
  (Code.rangeFunc g ps assign body).wpIn (Fr r) 0 P Q a w:=by
 refine wpIn_rangeFunc ?_
 intro fn _
 obtain ⟨rec,hrec⟩:∃ rec:LoopState→Option Code→Loop,rec=fun st pe=>{ state:=st,pending:=pe,fn,tmps:=a.tmps,params:=ps,assign,body,defers:=d }:=⟨_,rfl⟩
 obtain ⟨W1,hW1⟩:∃ W1,W0.alloc (.loop (rec .ready none))=W1:=⟨_,rfl⟩
 obtain ⟨l,hl0⟩:∃ l,W0.heap.size=l:=⟨_,rfl⟩
 have hL1:W1.heap[l]? = some (.loop (rec .ready none)):=by rw [← hW1,← hl0];exact World.alloc_heap_new W0 _
 have hN1:New w W1:=by rw [← hW1];exact hW0.alloc _
 have hwl:w.heap.size ≤ l:=by rw [← hl0];exact hW0.size
 have hlM:l ≠ M:=by omega
 have hC1:OthersM M W0 W1:=fun k o hk _ _=>by
  rw [← hW1];exact (Below.heap_alloc W0 _ k (Array.getElem?_eq_some_iff.1 hk).1).trans hk
 refine ⟨l,mark,W1,{ target:=.fn (.func gf) lb,args:=#[.func (.yield l) #[] #[]] },W1,gf,
  #[.func (.yield l) #[] #[]] ++ lb,W1,?_,?_,fun _ _=>trivial,?_,fun h=>by simp [Fence.wide] at h,?_⟩
 ·rw [← hW1,hrec,← hl0];exact henter fn
 ·simp only [resolve,hg]
  simp [go_sem]
 ·simp [invoke,go_sem,eg]
 ·have hlW0:∀ {k:Nat} {o:Obj},W0.heap[k]? = some o→k ≠ l:=fun hk=>by have:=(Array.getElem?_eq_some_iff.1 hk).1;omega
  have hput:∀ (W:World) (o:Obj),OthersM M W0 W→OthersM M W0 (W.putObj l o):=fun W o h k o' hk hkM ho =>
   (World.putObj_heap_other (hlW0 hk)).trans (h k o' hk hkM ho)
  refine Calls.mono (R:=fun e W'=>(∃ v,e = .returned v) ∧
    ((I L.length W'∧W'.heap[l]? = some (.loop (rec .ready none))∧OthersM M W0 W') ∨
     ∃ k,k ≤ L.length∧∃ c,Ix c k W'∧W'.heap[l]? = some (.loop (rec .done (some c)))∧OthersM M W0 W')) ?_ ?_ |> callsIn_wide.2
  ·refine hit W1 hN1 l
    (fun k W=>I k W∧W.heap[l]? = some (.loop (rec .ready none))∧OthersM M W0 W)
    (fun k W=>∃ c,Ix c k W∧W.heap[l]? = some (.loop (rec .done (some c)))∧OthersM M W0 W)
    (fun k A A' h hn=>⟨hI k A A' h.1 (hn.quiet _),hn.heap h.2.1 id,fun j o hj hjM ho=>hn.heap (h.2.2 j o hj hjM ho) id⟩)
    (fun k A A' h hn=>by
     obtain ⟨c,h1,h2,h3⟩:=h
     exact ⟨c,hIx c k A A' h1 (hn.quiet _),hn.heap h2 id,fun j o hj hjM ho=>hn.heap (h3 j o hj hjM ho) id⟩)
    ?_ ⟨hI 0 w W1 h0 (hN1.quiet _),hL1,hC1⟩
   rintro k x W hx ⟨hi,hl,hk⟩ _
   have hy:=run_yield (P:=P) (args:=x) hl (by rw [hrec];exact hps x (List.mem_of_getElem? hx))
   rw [hrec] at hy
   refine ⟨fn,_,assign,body,hy,roundIn_of_wpIn trivial (wpIn_mono (hround l k x W hx hwl ⟨_,hl⟩ hi) ?_)⟩
   clear hy
   rintro e a1 Wa he
   cases e with
   | normal =>
    obtain ⟨hma,hb⟩:=he
    have hla:=hma.block _ _ hl hlM (.inr rfl)
    have hka:OthersM M W0 Wa:=fun j o hj hjM ho=>hma.block _ _ (hk j o hj hjM ho) hjM (.inr ho)
    have hlt:l < Wa.heap.size:=(Array.getElem?_eq_some_iff.1 hla).1
    refine ⟨_,run_beginRound hla (by rw [hrec]),?_⟩
    obtain ⟨Wb,hWb⟩:∃ Wb,Wa.putObj l (.loop { rec .ready none with state:=.busy })=Wb:=⟨_,rfl⟩
    have hl2:Wb.heap[l]? = some (.loop { rec .ready none with state:=.busy }):=by rw [← hWb];exact World.putObj_heap_same hlt
    have hk2:OthersM M W0 Wb:=by rw [← hWb];exact hput _ _ hka
    have hqb:Quiet w.heap.size Wa Wb:=by rw [← hWb];exact Quiet.putObj _ hla rfl hwl
    rw [hWb]
    refine wpIn_mono (hb Wb hqb ⟨_,hl2⟩) ?_
    have fin:∀ (jump:Option Code) (W3:World),ModsM S M Wb W3 →
      (Instr.endRound l jump).run P W3 = .ok (.bool jump.isNone) (W3.putObj l (.loop (rec (if jump.isNone then .ready else .done) jump))) ∧
      W3.heap[l]? = some (.loop { rec .ready none with state:=.busy }) ∧
      (W3.putObj l (.loop (rec (if jump.isNone then .ready else .done) jump))).heap[l]? = some (.loop (rec (if jump.isNone then .ready else .done) jump)) ∧
      OthersM M W0 (W3.putObj l (.loop (rec (if jump.isNone then .ready else .done) jump))):=fun jump W3 hm3=>by
     have hl3:=hm3.block _ _ hl2 hlM (.inr rfl)
     have:=run_endRound (P:=P) jump hl3
     rw [hrec] at this ⊢
     exact ⟨this,by rw [hrec] at hl3;exact hl3,World.putObj_heap_same (Array.getElem?_eq_some_iff.1 hl3).1,hput _ _ fun j o hj hjM ho=>hm3.block _ _ (hk2 j o hj hjM ho) hjM (.inr ho)⟩
    rintro e a3 W3 hp
    cases e with
    | normal =>
     obtain ⟨hm3,hi3⟩:=hp
     obtain ⟨hr,hl3,hl4,hk4⟩:=fin none W3 hm3
     refine ⟨_,_,hr,.inl ⟨rfl,⟨hI _ _ _ hi3 (Quiet.putObj _ hl3 rfl hwl),hl4,hk4⟩,?_⟩⟩
     refine ⟨(hm3.os.trans hqb.os).trans hma.os,(hm3.tape.trans hqb.tape).trans hma.tape,(hm3.output.trans hqb.output).trans hma.output,?_,?_⟩
     ·simp only [World.putObj_size];exact Nat.le_trans hma.size (Nat.le_trans hqb.size hm3.size)
     ·intro j o hj hjM ho
      by_cases e:j=l
      ·subst e;rw [hl] at hj;cases hj;exact hl4
      ·refine (World.putObj_heap_other e).trans (hm3.block _ _ ?_ hjM ho)
       rw [← hWb];exact (World.putObj_heap_other e).trans (hma.block _ _ hj hjM ho)
    | ret =>
     obtain ⟨hm3,hi3⟩:=hp
     obtain ⟨hr,hl3,hl4,hk4⟩:=fin (some .ret) W3 hm3
     exact ⟨_,_,hr,.inr ⟨rfl,.ret,hIx _ _ _ _ hi3 (Quiet.putObj _ hl3 rfl hwl),hl4,hk4⟩⟩
    | exit id =>
     obtain ⟨hm3,hi3⟩:=hp
     obtain ⟨hr,hl3,hl4,hk4⟩:=fin (some (.exit id)) W3 hm3
     exact ⟨_,_,hr,.inr ⟨rfl,.exit id,hIx _ _ _ _ hi3 (Quiet.putObj _ hl3 rfl hwl),hl4,hk4⟩⟩
    | goto t =>
     obtain ⟨hm3,hi3⟩:=hp
     obtain ⟨hr,hl3,hl4,hk4⟩:=fin (some (.goto t)) W3 hm3
     exact ⟨_,_,hr,.inr ⟨rfl,.goto t,hIx _ _ _ _ hi3 (Quiet.putObj _ hl3 rfl hwl),hl4,hk4⟩⟩
    | panic ch=>exact hp.elim
    | outgrown=>exact hp.elim
   | exit id=>exact he.elim
   | goto t=>exact he.elim
   | ret=>exact he.elim
   | panic ch=>exact he.elim
   | outgrown=>exact he.elim
  ·rintro e W2 ⟨⟨v,rfl⟩,(⟨hi,hl,hk⟩ | ⟨k,hkl,c,hi,hl,hk⟩)⟩
   ·exact ⟨none,_,by have:=run_endLoop (P:=P) hl (by rw [hrec];simp);rw [hrec] at this;exact this,hdone _ (hI _ _ _ hi (Quiet.putObj _ hl rfl hwl)) (hput _ _ hk)⟩
   ·exact ⟨some c,_,by have:=run_endLoop (P:=P) hl (by rw [hrec];simp);rw [hrec] at this;exact this,hstop c k _ hkl (hIx _ _ _ _ hi (Quiet.putObj _ hl rfl hwl)) (hput _ _ hk)⟩
end Go.Cs
namespace Go.Cs
open Go.RowKit
variable {P:Program}
theorem wp_rangeM {α:Type} {g:Operand} {ps:Array Tmp} {assign body:Code} {Q:Exit→Act→World→Prop} {a:Act} {w:World}
  {gf:Nat} {lb:Array Value} (hg:a.eval g = .func (.func gf) #[] lb) (eg:∀ args w,(callFunc gf args).run P w = .ok (.enter gf args) w)
  (xs:List α) (enc:α→Array Value) (S:Nat→Prop) (M:Nat) (hM:M < w.heap.size) (hit:∀ W,New w W→IterM P gf lb (xs.map enc) S M W) (hps:∀ x,(enc x).size=ps.size)
  (I:Nat→World→Prop) (Ix:Code→Nat→World→Prop) (hI:∀ k,Stab w.heap.size (I k)) (hIx:∀ c k,Stab w.heap.size (Ix c k)) (h0:I 0 w) (upd:α→Array Value→Array Value)
  (hassign:∀ (l:Nat) (x:α) (W:World) (K:Act→World→Prop),K { tmps:=upd x a.tmps,defers:=[] } W →
   assign.wpIn (Fr (some l)) 0 P (Exit.then K (fun _ _ _=>False)) { tmps:=(ps.zip (enc x)).foldl (fun t (p,v)=>t.setIfInBounds p v) a.tmps,defers:=[] } W)
  (hbody:∀ (l k:Nat) (x:α) (W:World),xs[k]? = some x→w.heap.size ≤ l→(∃ r,W.heap[l]? = some (.loop r))→I k W→body.wpIn (Fr (some l)) 0 P (roundM S M I Ix (k + 1) W) { tmps:=upd x a.tmps,defers:=[] } W)
  (hdone:∀ W,I xs.length W→W.heap[w.heap.size]? = some (.deferred (some []))→Q .normal { a with defers:={ target:=.collected w.heap.size,args:=#[] }::a.defers } W)
  (hstop:∀ c k W,k ≤ xs.length→Ix c k W→W.heap[w.heap.size]? = some (.deferred (some []))→c.wp P Q { a with defers:={ target:=.collected w.heap.size,args:=#[] }::a.defers } W) :
  (Code.rangeFunc g ps assign body).wp P Q a w:=by
 refine (wpIn_wide (n:=0)).1 ?_
 refine rangeM_core (P:=P) none hg eg (xs.map enc) S M hM hit ?_ (w.alloc (.deferred (some []))) ((Mods.refl _ _).alloc _) [{ target:=.collected w.heap.size,args:=#[] }] w.heap.size ?_ I Ix hI hIx h0 ?_ ?_ ?_
 ·intro x hx
  obtain ⟨y,_,rfl⟩:=List.mem_map.1 hx
  exact hps y
 ·intro fn
  rw [World.size_alloc]
  exact run_enterLoop_outer _ _ _ _ _
 ·intro l k x W hx hl hr hi
  rw [List.getElem?_map] at hx
  obtain ⟨y,hy,rfl⟩:=Option.map_eq_some_iff.1 hx
  exact hassign l y W _ ⟨ModsM.refl _ _ _,fun W2 hq hr2=>hbody l k y W2 hy hl hr2 (hI k W W2 hi hq)⟩
 ·intro W hi ho
  rw [List.length_map] at hi
  exact hdone W hi (ho _ _ (World.alloc_heap_new w _) (by omega) rfl)
 ·intro c k W hk hi ho
  rw [List.length_map] at hk
  exact (wpIn_wide (n:=0)).2 (hstop c k W hk hi (ho _ _ (World.alloc_heap_new w _) (by omega) rfl))
end Go.Cs
namespace Go.Proofs.YtnknmmbnhoanfaaGreatDoor
open Go.RowKit Go.Shelf Go.Cs
attribute [local go_sem] Oper.semAt_some


theorem _root_.Go.Cs.ModsM.mono {S T:Nat→Prop} {M:Nat} {a b:World} (h:ModsM S M a b) (hST:∀ k,S k→T k):ModsM T M a b :=
 ⟨h.os,h.tape,h.output,h.size,fun i o hi hm ho=>h.block i o hi hm (ho.imp (fun n m=>n (hST _ m)) id)⟩
theorem RowR.keptM {W W':World} {v:Value} {n sz:Nat} {f:Nat→List Value} (h:RowR W v n sz f) {S:Nat→Prop} {M:Nat} (hN:ModsM S M W W') (hM:0 < n→∀ g,v.ownBlock=some g→g ≠ M) (hS:0 < n→∀ g,v.ownBlock=some g→¬ S g):RowR W' v n sz f:=by
 obtain ⟨hl,ao,cap,rfl,hc⟩:=h
 refine ⟨hl,ao,cap,rfl,fun i hi=>?_⟩
 obtain ⟨b,o,rfl,h⟩:=hc i hi
 exact ⟨b,o,rfl,fun j v hv=>hN.cell (h j v hv) (hM (by omega) b rfl) (hS (by omega) b rfl)⟩
theorem RowR.lt {W:World} {v:Value} {n sz:Nat} {c:Nat→Value} {f:Nat→List Value} (h:RowR W v n sz (fun i=>c i::f i)) (h0:0 < n) {g:Nat} (hg:v.ownBlock=some g):g < W.heap.size:=by
 obtain ⟨hl,ao,cap,rfl,hc⟩:=h
 obtain ⟨b,o,rfl,hr⟩:=hc 0 h0
 cases hg
 obtain ⟨ob,ho,_⟩:=cells_of_cell (hr 0 (c 0) rfl)
 exact (Array.getElem?_eq_some_iff.1 ho).1
def KeysAt (g:Nat) (lb:Array Value) (L:List Bare.Bs) (w:World):Prop :=
 ∀ (S:Nat→Prop) (M:Nat) (W:World),(∀ b,S b→w.heap.size ≤ b)→w.heap.size ≤ M→New w W→IterM Tryz.prog g lb (L.map fun k=>#[.string (tx k)]) S M W
theorem keys_P {B:Nat} {v:Value} (n:Nat) (L:Nat→Bare.Par) (w:World) (hB:Boxed w B 42 v) (hr:RowR w v n 5 (fun i=>pcs (L i))) :
  KeysAt 146 #[.pointer (some ⟨B,0,none⟩)] ((List.range n).map fun i=>(L i).key) w:=by
 intro S M W hS hM hN l J Jx hJ hJx hY h0
 refine (callsIn_wide (n:=0)).1 (callsIn_of_wp Tryz.func146 rfl trivial ?_ rfl)
 simp only [Tryz.ntmps146,List.size_toArray,List.length_cons,List.length_nil,Nat.reduceAdd,Nat.reduceSub,Array.replicate_succ,Array.replicate_zero,List.push_toArray,List.append_toArray,List.nil_append,List.cons_append]
 have hB':=hN.boxed hB id
 obtain ⟨c1,f1⟩:=hB'.both
 have HR:=Lib.hid hr
 obtain ⟨ao,cap,rfl⟩:=hr.slice
 have hn:n ≤ 281474976710656:=hr.1
 clear hr hB hB'
 have hN:=Lib.hid hN
 gi_wp2
 gi_loopw [7] (fun t wr=>∃ k:Nat,k ≤ n∧t = .int .i64 k∧J k wr∧ModsM S M W wr) (fun t _=>n - (intOf t).toNat)
 case atStart=>exact ⟨0,Nat.zero_le _,rfl,h0,.refl _ _ _⟩
 case round =>
  obtain ⟨k,hk,rfl,hJk,hm⟩:=hrel
  by_cases hlt:k < n
  ·have hkd:decide ((k:Int) < (n:Int))=true:=decide_eq_true (by omega)
   have hrow:=((HR.out.new hN.out).keptM hm (fun h0 g hg=>by have:=HR.out.lt h0 hg;omega) (fun h0 g hg hs=>by have:=HR.out.lt h0 hg;have:=hS g hs;omega)).at.2.2 k hlt
   obtain ⟨b,o,rfl,hrow⟩:=hrow
   obtain ⟨k0,k1,k2,k3,k4⟩:=cells5 hrow
   have HJ:=Lib.hid (fun A' (h:New wr A')=>hJ k wr A' hJk h)
   have hget:((List.range n).map (fun i=>(L i).key) |>.map fun k=>(#[.string (tx k)]:Array Value))[k]? = some #[.string (tx (L k).key)]:=by simp [hlt]
   have HY:=Lib.hid (fun W1=>hY k _ W1 hget)
   obtain ⟨s,hs⟩:∃ s,tx (L k).key=s:=⟨_,rfl⟩
   rw [hs] at HY k0
   clear hrow hget hY hJk hs
   gi_upto_region 3 with fail
   obtain ⟨W2,hW2⟩:∃ W2,wr.alloc (.cells #[.string s,.int .u8 (L k).bare.kind,.int .i64 (L k).bare.int,.string (tx (L k).bare.text),.bool (L k).bare.yes] 83)=W2:=⟨_,rfl⟩
   have hA:New wr W2:=by rw [← hW2];exact (Mods.refl _ _).alloc _
   have r9:W2.heap[wr.heap.size]? = some (.cells #[.string s,.int .u8 (L k).bare.kind,.int .i64 (L k).bare.int,.string (tx (L k).bare.text),.bool (L k).bare.yes] 83 (0,0)):=by rw [← hW2];exact World.alloc_heap_new wr _
   have k9:W2.cell? ⟨wr.heap.size,0,none⟩=some (.string s):=cell_of_row _ _ 0 _ _ _ r9
   rw [hW2]
   have hm2:=hm.trans (hA.toM M |>.mono fun _ h=>h.elim)
   obtain ⟨fn,tmps,assign,body,hy,hR⟩:=HY.out W2 (HJ.out W2 hA) hm2
   clear k0 k1 k2 k3 k4 r9 hW2 HY HJ hA
   gi_wp2
   refine ⟨rfl,hR.mono ?_⟩
   rintro e W3 (⟨rfl,hJ3,hm3⟩ | ⟨rfl,hJx3⟩)
   ·gi_wp2
    go_roundw
    case rel=>exact ⟨k + 1,by omega,by go_num,hJ3,hm2.trans hm3⟩
    case measure=>simp [intOf];omega
   ·gi_wp2
    refine bodyPost_ret (results_none rfl _ _ _) rfl ?_
    exact ⟨⟨_,rfl⟩,.inr ⟨k + 1,by simp;omega,hJx3⟩⟩
  ·obtain rfl:k=n:=by omega
   have hkd:decide ((k:Int) < (k:Int))=false:=decide_eq_false (by omega)
   gi_wp2_with fail
   go_end0
   exact ⟨⟨_,rfl⟩,.inl (by simpa using hJk)⟩
theorem keys_M {B:Nat} {v:Value} (n:Nat) (L:Nat→Bare.Mem) (iv pv:Nat→Value) (w:World) (hB:Boxed w B 36 v) (hr:RowR w v n 4 (fun i=>mcs (L i) (iv i) (pv i))) (hsl:∀ i,i < n→(∃ a m c,iv i = .slice a m c)∧∃ a m c,pv i = .slice a m c) :
  KeysAt 88 #[.pointer (some ⟨B,0,none⟩)] ((List.range n).map fun i=>(L i).key) w:=by
 intro S M W hS hM hN l J Jx hJ hJx hY h0
 refine (callsIn_wide (n:=0)).1 (callsIn_of_wp Tryz.func88 rfl trivial ?_ rfl)
 simp only [Tryz.ntmps88,List.size_toArray,List.length_cons,List.length_nil,Nat.reduceAdd,Nat.reduceSub,Array.replicate_succ,Array.replicate_zero,List.push_toArray,List.append_toArray,List.nil_append,List.cons_append]
 have hB':=hN.boxed hB id
 obtain ⟨c1,f1⟩:=hB'.both
 have HR:=Lib.hid hr
 obtain ⟨ao,cap,rfl⟩:=hr.slice
 have hn:n ≤ 281474976710656:=hr.1
 clear hr hB hB'
 have hN:=Lib.hid hN
 gi_wp2
 gi_loopw [7] (fun t wr=>∃ k:Nat,k ≤ n∧t = .int .i64 k∧J k wr∧ModsM S M W wr) (fun t _=>n - (intOf t).toNat)
 case atStart=>exact ⟨0,Nat.zero_le _,rfl,h0,.refl _ _ _⟩
 case round =>
  obtain ⟨k,hk,rfl,hJk,hm⟩:=hrel
  by_cases hlt:k < n
  ·have hkd:decide ((k:Int) < (n:Int))=true:=decide_eq_true (by omega)
   have hrow:=((HR.out.new hN.out).keptM hm (fun h0 g hg=>by have:=HR.out.lt h0 hg;omega) (fun h0 g hg hs=>by have:=HR.out.lt h0 hg;have:=hS g hs;omega)).at.2.2 k hlt
   obtain ⟨b,o,rfl,hrow⟩:=hrow
   obtain ⟨k0,k1,k2,k3⟩:=cells4 hrow
   obtain ⟨⟨ia,im,ic,hi⟩,pa,pm,pc,hp⟩:=hsl k hlt
   rw [hi] at k2
   rw [hp] at k3
   clear hi hp
   have HJ:=Lib.hid (fun A' (h:New wr A')=>hJ k wr A' hJk h)
   have hget:((List.range n).map (fun i=>(L i).key) |>.map fun k=>(#[.string (tx k)]:Array Value))[k]? = some #[.string (tx (L k).key)]:=by simp [hlt]
   have HY:=Lib.hid (fun W1=>hY k _ W1 hget)
   obtain ⟨s,hs⟩:∃ s,tx (L k).key=s:=⟨_,rfl⟩
   rw [hs] at HY k0
   clear hrow hget hY hJk hs
   gi_upto_region 3 with fail
   obtain ⟨W2,hW2⟩:∃ W2,wr.alloc (.cells #[.string s,.bool (L k).inner,.slice ia im ic,.slice pa pm pc] 44)=W2:=⟨_,rfl⟩
   have hA:New wr W2:=by rw [← hW2];exact (Mods.refl _ _).alloc _
   have r9:W2.heap[wr.heap.size]? = some (.cells #[.string s,.bool (L k).inner,.slice ia im ic,.slice pa pm pc] 44 (0,0)):=by rw [← hW2];exact World.alloc_heap_new wr _
   have k9:W2.cell? ⟨wr.heap.size,0,none⟩=some (.string s):=cell_of_row _ _ 0 _ _ _ r9
   rw [hW2]
   have hm2:=hm.trans (hA.toM M |>.mono fun _ h=>h.elim)
   obtain ⟨fn,tmps,assign,body,hy,hR⟩:=HY.out W2 (HJ.out W2 hA) hm2
   clear k0 k1 k2 k3 r9 hW2 HY HJ hA
   gi_wp2
   refine ⟨rfl,hR.mono ?_⟩
   rintro e W3 (⟨rfl,hJ3,hm3⟩ | ⟨rfl,hJx3⟩)
   ·gi_wp2
    go_roundw
    case rel=>exact ⟨k + 1,by omega,by go_num,hJ3,hm2.trans hm3⟩
    case measure=>simp [intOf];omega
   ·gi_wp2
    refine bodyPost_ret (results_none rfl _ _ _) rfl ?_
    exact ⟨⟨_,rfl⟩,.inr ⟨k + 1,by simp;omega,hJx3⟩⟩
  ·obtain rfl:k=n:=by omega
   have hkd:decide ((k:Int) < (k:Int))=false:=decide_eq_false (by omega)
   gi_wp2_with fail
   go_end0
   exact ⟨⟨_,rfl⟩,.inl (by simpa using hJk)⟩


theorem aloneB_iff:∀ L:List Bare.Bs,Bare.aloneB L=true ↔ L.Nodup∧∀ k ∈ L,Bare.keyB k=true
 | []=>by simp [Bare.aloneB]
 | k::r=>by
  have ih:=aloneB_iff r
  simp only [Bare.aloneB,Bool.and_eq_true,Bool.not_eq_true',ih,List.nodup_cons,List.mem_cons,forall_eq_or_imp]
  constructor
  ·rintro ⟨h1,h2,h3,h4⟩
   exact ⟨⟨by simpa using h2,h3⟩,h1,h4⟩
  ·rintro ⟨⟨h2,h3⟩,h1,h4⟩
   exact ⟨h1,by simpa using h2,h3,h4⟩
def AlTo (L:List Bare.Bs) (k:Nat):Prop:=(L.take k).Nodup∧∀ x ∈ L.take k,Bare.keyB x=true
theorem AlTo.step {L:List Bare.Bs} {k:Nat} {x:Bare.Bs} (h:AlTo L k) (hx:L[k]? = some x) (h1:x ∉ L.take k) (h2:Bare.keyB x=true):AlTo L (k + 1):=by
 have e:L.take (k + 1)=L.take k ++ [x]:=by rw [List.take_add_one,hx];rfl
 unfold AlTo
 rw [e]
 refine ⟨?_,fun y hy=>?_⟩
 ·rw [List.nodup_append]
  exact ⟨h.1,by simp,fun a ha b hb=>by simp at hb;subst hb;rintro rfl;exact h1 ha⟩
 ·rcases List.mem_append.1 hy with hy | hy
  ·exact h.2 y hy
  ·simp at hy;subst hy;exact h2
theorem AlTo.all {L:List Bare.Bs} (h:AlTo L L.length):Bare.aloneB L=true:=by
 unfold AlTo at h
 rw [List.take_length] at h
 exact (aloneB_iff L).2 h
theorem alone_dup {L:List Bare.Bs} {k:Nat} {x:Bare.Bs} (hx:L[k]? = some x) (h1:x ∈ L.take k):Bare.aloneB L=false:=by
 rw [Bool.eq_false_iff]
 intro h
 have hn:=((aloneB_iff L).1 h).1
 obtain ⟨i,hi⟩:=List.getElem?_of_mem h1
 rw [List.getElem?_take] at hi
 split at hi
 ·rename_i hik
  obtain ⟨h1,e1⟩:=List.getElem?_eq_some_iff.1 hi
  obtain ⟨h2,e2⟩:=List.getElem?_eq_some_iff.1 hx
  exact (List.pairwise_iff_getElem.1 hn) i k h1 h2 hik (by rw [e1,e2])
 ·cases hi
theorem alone_no {L:List Bare.Bs} {k:Nat} {x:Bare.Bs} (hx:L[k]? = some x) (h1:Bare.keyB x=false):Bare.aloneB L=false:=by
 rw [Bool.eq_false_iff]
 intro h
 have:=((aloneB_iff L).1 h).2 x (List.mem_of_getElem? hx)
 rw [h1] at this;cases this
theorem keyS:KeyLike Tryz.prog 9 (fun k:Bare.Bs=>Value.string (tx k)) :=
 KeyLike.now (d:=.string) Tryz.underlying9 (fun a=>trivial) (fun a b h=>by injection h with h;exact tx_inj.1 h)
def seenF (L:List Bare.Bs) (k:Nat) (x:Bare.Bs):Option Value:=if x ∈ L.take k then some (.int .i64 1) else none
theorem ModsM.stab {B:Nat} {S:Nat→Prop} {M:Nat} {w:World} (hB:w.heap.size ≤ B):Stab B (fun W=>ModsM S M w W):=fun W W' h k =>
 ⟨k.os.trans h.os,k.tape.trans h.tape,k.output.trans h.output,Nat.le_trans h.size k.size,fun i o hi hm ho =>
  k.block i o (h.block i o hi hm ho) (.inl (by have:=(Array.getElem?_eq_some_iff.1 hi).1;omega))⟩
theorem _root_.Go.Cs.ModsM.setB {M B o:Nat} {v:Value} {a w:World} (h:ModsM (fun b=>b=B) M a w):ModsM (fun b=>b=B) M a (w.setCell ⟨B,o,none⟩ v):=h.trans ((setMods w B o v).toM M)
theorem MapFn.stab {α:Type} {enc:α→Value} {B M n:Nat} {f:α→Option Value} (hM:M < B):Stab B (fun W=>MapFn enc W M n f):=fun W W' h k=>h.keep fun o ho=>k.block M o ho (.inl hM)
theorem results_box {fn:Func} {p:Tmp} (h:fn.results = #[.cell p 4]) (tmps:Array Value) (w:World) (B:Nat) (b:Bool) (hp:tmps.getD p undef = .pointer (some ⟨B,0,none⟩)) (hb:Boxed w B 4 (.bool b)) :
  (results fn tmps).run Tryz.prog w = .ok (.bool b) w:=by
 have hp':tmps[p]?.getD undef = .pointer (some ⟨B,0,none⟩):=by simpa using hp
 have c:=hb.cell
 have hu:=Tryz.underlying4
 simp [results,h,hp',asAddr,loadVar,c,go_sem,hu]
theorem alone_any (g:Nat) (lb:Array Value) (L:List Bare.Bs) (w:World) (hit:KeysAt g lb L w) (eg:∀ args w,(callFunc g args).run Tryz.prog w = .ok (.enter g args) w) (hL:∀ k ∈ L,k.length ≤ 9223372036854775807) :
  Calls Tryz.prog 91 #[.func (.func g) #[] lb] w fun e w'=>e = .returned (.bool (Bare.aloneB L))∧New w w':=by
 have HL:=Lib.hid hL
 have HI:=Lib.hid hit
 clear hL hit
 have hmm:=@run_makeMap Tryz.prog
 refine calls_of_marks Tryz.func91 rfl ?_
 simp only [Tryz.ntmps91,List.size_toArray,List.length_cons,List.length_nil,Nat.reduceAdd,Nat.reduceSub,Array.replicate_succ,Array.replicate_zero,List.push_toArray,List.append_toArray,List.nil_append,List.cons_append]
 go_wp2_with fail
 clear hmm
 obtain ⟨W0,hW0⟩:∃ W0,((w.alloc (.cells #[.bool false] 4)).alloc (.map #[] 0)).alloc (.cells #[.map (some (w.heap.size + 1))] 160)=W0:=⟨_,rfl⟩
 have hN0:New w W0:=by rw [← hW0];exact (((Mods.refl _ _).alloc _).alloc _).alloc _
 have hsz:W0.heap.size=w.heap.size + 3:=by rw [← hW0];simp
 have hb0:Boxed W0 w.heap.size 4 (.bool false):=by
  rw [← hW0]
  exact (((Mods.refl (fun _=>False) (w.alloc (.cells #[.bool false] 4))).alloc (.map #[] 0)).alloc (.cells #[.map (some (w.heap.size + 1))] 160)).heap (World.alloc_heap_new w _) id
 have hb2:Boxed W0 (w.heap.size + 2) 160 (.map (some (w.heap.size + 1))):=by rw [← hW0];exact boxed2 w _ _ _ _
 have hm:W0.heap[w.heap.size + 1]? = some (.map #[] 0):=by
  rw [← hW0]
  have:=((Mods.refl (fun _=>False) ((w.alloc (.cells #[.bool false] 4)).alloc (.map #[] 0))).alloc (.cells #[.map (some (w.heap.size + 1))] 160)).heap (World.alloc_heap_new (w.alloc (.cells #[.bool false] 4)) (.map #[] 0)) id
  simpa using this
 rw [hW0]
 clear hW0
 obtain ⟨B,hB⟩:∃ B,w.heap.size=B:=⟨_,rfl⟩
 have hw2:w.heap.size + 1 + 1=B + 2:=by omega
 rw [hw2]
 rw [hB] at hsz hb0 hb2 hm ⊢
 have hBw:w.heap.size ≤ B:=by omega
 clear hw2
 have hM:B + 1 < W0.heap.size:=by omega
 refine wp_rangeM (gf:=g) (lb:=lb) rfl eg L (fun k=>#[.string (tx k)]) (fun b=>b=B) (B + 1) hM
  (fun W hW=>HI.out _ _ W (fun b hb=>by omega) (by omega) (hN0.trans hW)) (fun _=>rfl)
  (fun k W=>AlTo L k∧MapFn (fun k:Bare.Bs=>Value.string (tx k)) W (B + 1) k (seenF L k)∧Boxed W B 4 (.bool false)∧Boxed W (B + 2) 160 (.map (some (B + 1)))∧ModsM (fun b=>b=B) (B + 1) W0 W)
  (fun c k W=>c = .ret∧Bare.aloneB L=false∧Boxed W B 4 (.bool false)∧ModsM (fun b=>b=B) (B + 1) W0 W)
  (fun k=>.and (.pure _) (.and (MapFn.stab hM) (.and (.boxed _ _ _) (.and (.boxed _ _ _) (ModsM.stab (Nat.le_refl _))))))
  (fun c k=>.and (.pure _) (.and (.pure _) (.and (.boxed _ _ _) (ModsM.stab (Nat.le_refl _)))))
  ⟨by unfold AlTo;simp,(MapFn.made hm).congr (fun a=>by unfold seenF;simp),hb0,hb2,.refl _ _ _⟩
  (fun x t=>(t.setIfInBounds 7 (.string (tx x))).setIfInBounds 4 (.string (tx x))) ?assign ?body ?done ?stop
 case assign =>
  intro l x W K hK
  simp only at hK ⊢
  gi_wp2
  exact hK
 case body =>
  rintro l k x W hx hl _ ⟨hal,hmf,hbx,hbm,hmm⟩
  have hkL:k < L.length:=(List.getElem?_eq_some_iff.1 hx).1
  have hxl:=HL.out x (List.mem_of_getElem? hx)
  have HA:=Lib.hid hal
  have hlook:=hmf.look keyS Tryz.underlying160 (z:=.int .i64 0) (by go_simp) x false
  have hsee:seenF L k x=if x ∈ L.take k then some (.int .i64 1) else none:=rfl
  obtain ⟨c0,f0⟩:=hbx.both
  obtain ⟨c2,f2⟩:=hbm.both
  by_cases hin:x ∈ L.take k
  ·have hno:=Lib.hid (alone_dup hx hin)
   rw [hsee,if_pos hin] at hlook
   have hlook:(Instr.lookup 160 (.map (some (B + 1))) (.string (tx x)) false).run Tryz.prog W = .ok (.int .i64 1) W:=hlook
   obtain ⟨s,hs⟩:∃ s,tx x=s:=⟨_,rfl⟩
   rw [hs] at hlook ⊢
   have HM:=Lib.hid hmm
   have HB:=Lib.hid hbx
   clear hs hin hsee hmf hal hmm hbx hx
   gi_wp2
   refine ⟨trivial,?_⟩
   gi_wp2
   exact ⟨(ModsM.refl _ _ _).setB,rfl,hno.out,HB.out.set _,HM.out.trans ((ModsM.refl _ _ _).setB)⟩
  ·rw [hsee,if_neg hin] at hlook
   have hlook:(Instr.lookup 160 (.map (some (B + 1))) (.string (tx x)) false).run Tryz.prog W = .ok (.int .i64 0) W:=hlook
   have HK:=Lib.hid (fun W=>key_any (tx x) W (by rw [tx_size];exact hxl))
   rw [bl_tx] at HK
   have HMF:=Lib.hid hmf
   have HM:=Lib.hid hmm
   have HB:=Lib.hid hbx
   have HB2:=Lib.hid hbm
   cases hk:Bare.keyB x with
   | false =>
    have hno:=Lib.hid (alone_no hx hk)
    rw [hk] at HK
    obtain ⟨s,hs⟩:∃ s,tx x=s:=⟨_,rfl⟩
    rw [hs] at hlook HK ⊢
    clear hs hin hsee hmf hal hmm hbx hbm hx hk HMF
    gi_wp2_with (refine at_round (HK.out _) ?_;rintro e w' ⟨rfl,hNk⟩;have hbw:=hNk.boxed HB.out id;obtain ⟨c0',f0'⟩:=hbw.both)
    have hm1:ModsM (fun b=>b=B) (B + 1) W w':=(hNk.toM _).mono fun _ h=>h.elim
    exact ⟨hm1.setB,rfl,hno.out,hbw.set _,HM.out.trans hm1.setB⟩
   | true =>
    have hst:=Lib.hid (hal.step hx hin hk)
    rw [hk] at HK
    have Hse:Hid (∀ a,(if a=x then some (Value.int .i64 1) else seenF L k a)=seenF L (k + 1) a):=Lib.hid fun a=>by
     unfold seenF
     rw [List.take_add_one,hx]
     by_cases ha:a=x
     ·subst ha;simp
     ·rw [if_neg ha];simp [ha]
    have Hfn:Hid (seenF L k x=none):=Lib.hid (by rw [hsee,if_neg hin])
    obtain ⟨s,hs⟩:∃ s,tx x=s:=⟨_,rfl⟩
    have HS:=Lib.hid hs
    rw [hs] at hlook HK ⊢
    clear hs hin hsee hmf hal hmm hbx hbm hx hk
    gi_wp2_with (refine at_round (HK.out _) ?_;rintro e w' ⟨rfl,hNk⟩;have hb1:=hNk.boxed HB.out id;have hb2':=hNk.boxed HB2.out id;obtain ⟨c2',f2'⟩:=hb2'.both;obtain ⟨o,ho,hoc,hmf2⟩:=(HMF.out.new hNk).put keyS Tryz.underlying160 x (.int .i64 1) Hfn.out;rw [HS.out] at ho;have HF:=Lib.hid (hmf2.congr Hse.out);clear hmf2)
    have hm1:ModsM (fun b=>b=B) (B + 1) W w':=(hNk.toM _).mono fun _ h=>h.elim
    refine ⟨hm1.putObj _,hst.out,HF.out,?_,?_,HM.out.trans (hm1.putObj _)⟩
    ·exact (World.putObj_heap_other (by omega)).trans hb1
    ·exact (World.putObj_heap_other (by omega)).trans hb2'
 case done =>
  rintro W ⟨hal,hmf,hbx,hbm,hmm⟩ hD
  have hres:=Lib.hid hal.all
  obtain ⟨c0,f0⟩:=hbx.both
  have HB:=Lib.hid hbx
  have HM:=Lib.hid hmm
  have HD:=Lib.hid hD
  clear hal hmf hbm hmm hbx hD
  go_wp2
  have hne:W0.heap.size ≠ B:=by omega
  have hb':=HB.out.set (.bool true)
  have hbp:Boxed ((W.setCell ⟨B,0,none⟩ (.bool true)).putObj W0.heap.size (.deferred none)) B 4 (.bool true):=(World.putObj_heap_other (by omega)).trans hb'
  refine marks_one rfl ((setMods W B 0 _).block _ _ HD.out (.inr rfl)) (v:=.bool true) (results_box rfl _ _ B true rfl hbp) ⟨by rw [hres.out],?_⟩
  have h1:ModsM (fun b=>b=B) (B + 1) w ((W.setCell ⟨B,0,none⟩ (.bool true)).putObj W0.heap.size (.deferred none)):=by
   have h2:=(((hN0.toM (B + 1)).mono (T:=fun b=>b=B) fun _ h=>h.elim).trans HM.out).trans ((ModsM.refl (fun b=>b=B) (B + 1) W).setB (v:=.bool true) (o:=0))
   exact ⟨h2.os,h2.tape,h2.output,by simpa using h2.size,fun k o hk hm ho=>(World.putObj_heap_other (by have:=(Array.getElem?_eq_some_iff.1 hk).1;omega)).trans (h2.block k o hk hm ho)⟩
  exact ⟨h1.os,h1.tape,h1.output,h1.size,fun k o hk _=>by
   have:=(Array.getElem?_eq_some_iff.1 hk).1
   exact h1.block k o hk (by omega) (.inl (by omega))⟩
 case stop =>
  rintro c k W hk ⟨rfl,hno,hbx,hmm⟩ hD
  go_wp2
  have hbp:Boxed (W.putObj W0.heap.size (.deferred none)) B 4 (.bool false):=(World.putObj_heap_other (by omega)).trans hbx
  refine marks_one rfl hD (v:=.bool false) (results_box rfl _ _ B false rfl hbp) ⟨by rw [hno],?_⟩
  have h1:ModsM (fun b=>b=B) (B + 1) w (W.putObj W0.heap.size (.deferred none)):=by
   have h2:=((hN0.toM (B + 1)).mono (T:=fun b=>b=B) fun _ h=>h.elim).trans hmm
   exact ⟨h2.os,h2.tape,h2.output,by simpa using h2.size,fun k o hk hm ho=>(World.putObj_heap_other (by have:=(Array.getElem?_eq_some_iff.1 hk).1;omega)).trans (h2.block k o hk hm ho)⟩
  exact ⟨h1.os,h1.tape,h1.output,h1.size,fun k o hk _=>by
   have:=(Array.getElem?_eq_some_iff.1 hk).1
   exact h1.block k o hk (by omega) (.inl (by omega))⟩


theorem map_getD {α β:Type} (l:List α) (d:α) (f:α→β):(List.range l.length).map (fun i=>f (l.getD i d))=l.map f:=by
 apply List.ext_getElem?
 intro i
 rw [List.getElem?_map,List.getElem?_map]
 by_cases hi:i < l.length
 ·simp [hi,List.getD]
 ·simp [hi]
theorem any_getD {α:Type} (l:List α) (d:α) (p:α→Bool):(List.range l.length).any (fun i=>p (l.getD i d))=l.any p:=by
 have:=congrArg (fun m:List Bool=>m.any id) (map_getD l d p)
 simpa [List.any_map] using this
theorem par_wrong (p:Bare.Par) (hs:SmP p) (w:World) :
  Calls Tryz.prog 148 #[.agg (pcs p).toArray] w fun e w'=>e = .returned (.bool (!Bare.rightI p.bare))∧New w w':=by
 have HR:=Lib.hid (fun W=>right_any p.bare hs.2.1 (by have:=hs.2.2;omega) W)
 obtain ⟨b,hb⟩:∃ b,Bare.rightI p.bare=b:=⟨_,rfl⟩
 rw [hb] at HR ⊢
 clear hb hs
 unfold bv bcs at HR
 unfold pcs
 obtain ⟨key,k,n,t,y⟩:=p
 simp only at HR ⊢
 obtain ⟨s,hs⟩:∃ s,tx t=s:=⟨_,rfl⟩
 obtain ⟨q,hq⟩:∃ s,tx key=s:=⟨_,rfl⟩
 rw [hs] at HR ⊢
 rw [hq]
 clear hs hq
 go_enter Tryz.func148,Tryz.ntmps148
 go_upto_region 1 with fail
 have hr:=World.alloc_heap_new w (.cells #[.string q,.int .u8 k,.int .i64 n,.string s,.bool y] 83)
 have hN:New w (w.alloc (.cells #[.string q,.int .u8 k,.int .i64 n,.string s,.bool y] 83)):=(Mods.refl _ _).alloc _
 obtain ⟨W,hW⟩:∃ W,w.alloc (.cells #[.string q,.int .u8 k,.int .i64 n,.string s,.bool y] 83)=W:=⟨_,rfl⟩
 rw [hW] at hr hN ⊢
 obtain ⟨B,hB⟩:∃ B,w.heap.size=B:=⟨_,rfl⟩
 rw [hB] at hr ⊢
 have k1:=cell_of_row _ _ 1 _ _ _ hr
 have k2:=cell_of_row _ _ 2 _ _ _ hr
 have k3:=cell_of_row _ _ 3 _ _ _ hr
 have k4:=cell_of_row _ _ 4 _ _ _ hr
 simp only [gS] at k1 k2 k3 k4
 clear hW hr
 go_wp2_with (refine (HR.out _).mono ?_;rintro e w' ⟨rfl,hN'⟩)
 go_ret
 exact ⟨rfl,hN.trans hN'⟩
theorem params_any {τ:Bool} (v:Value) (L:List Bare.Par) (w:World) (h:RdP τ w v L) (hs:∀ p ∈ L,SmP p) :
  Calls Tryz.prog 90 #[v] w fun e w'=>e = .returned (.bool (Bare.paramsB L))∧New w w':=by
 have hB:=Boxed.new w 42 v
 have hN:New w (w.alloc (.cells #[v] 42)):=(Mods.refl _ _).alloc _
 obtain ⟨ao,cap,rfl⟩:=h.slice
 obtain ⟨W,hW⟩:∃ W,w.alloc (.cells #[.slice ao L.length cap] 42)=W:=⟨_,rfl⟩
 rw [hW] at hB hN
 have hK:=keys_P L.length (fun i=>L.getD i noP) W hB ((h.new hN).1)
 rw [map_getD L noP (·.key)] at hK
 have HA:=Lib.hid (alone_any _ _ _ W hK (enters_of Tryz.func146 (by kernel_rfl) rfl) (fun k hk=>by
  obtain ⟨p,hp,rfl⟩:=List.mem_map.1 hk
  have:=(hs p hp).1;omega))
 have HC:Hid (∀ W',New W W'→Calls Tryz.prog 147 #[.slice ao L.length cap,.func (.func 148) #[] #[]] W' fun e w'=>e = .returned (.bool (!(L.all fun p=>Bare.rightI p.bare)))∧New W' w'):=Lib.hid fun W' hW'=>by
  have:=contains_P 148 #[] L.length (fun i j=>(pcs (L.getD i noP)).getD j undef) (fun _=>True) (fun _ _ _ _=>trivial) (fun i=>!Bare.rightI (L.getD i noP).bare) (fun i W1 hi _=>par_wrong (L.getD i noP) (hs _ (getD_mem hi)) W1) (enters_of Tryz.func148 (by kernel_rfl) rfl) _ W' ((h.new hN).new hW').1 trivial
  rw [any_getD L noP (fun p=>!Bare.rightI p.bare)] at this
  refine this.mono fun e w' ⟨he,hn⟩=>⟨?_,hn⟩
  rw [he,List.all_eq_not_any_not,Bool.not_not]
 obtain ⟨A,hA⟩:∃ A,Bare.aloneB (L.map (·.key))=A:=⟨_,rfl⟩
 obtain ⟨C,hC⟩:∃ C,(L.all fun p=>Bare.rightI p.bare)=C:=⟨_,rfl⟩
 have e:Bare.paramsB L=(A && C):=by unfold Bare.paramsB;rw [hA,hC]
 rw [e]
 rw [hA] at HA
 rw [hC] at HC
 obtain ⟨k0,f0⟩:=hB.both
 obtain ⟨B,hBB⟩:∃ B,w.heap.size=B:=⟨_,rfl⟩
 rw [hBB] at HA hB k0 f0
 clear e hA hC hK hs h f0
 go_enter Tryz.func90,Tryz.ntmps90
 go_upto_region 1 with fail
 cases A with
 | false =>
  go_wp2_with fail
  refine HA.out.mono ?_
  rintro e w1 ⟨rfl,hN1⟩
  go_wp2_with fail
  go_ret
  exact ⟨rfl,hN.trans hN1⟩
 | true =>
  go_wp2_with fail
  refine HA.out.mono ?_
  rintro e w1 ⟨rfl,hN1⟩
  have k1:=hN1.cell k0 id
  go_wp2_with fail
  refine (HC.out _ hN1).mono ?_
  rintro e w2 ⟨rfl,hN2⟩
  go_wp2_with fail
  go_ret
  exact ⟨by cases C <;> rfl,(hN.trans hN1).trans hN2⟩
end Go.Proofs.YtnknmmbnhoanfaaGreatDoor
