/- Texts joined. -/
import Derived.Test.YtnknmmbnhoanfaaGreatDoorH12
import Derived.Test.YtnknmmbnhoanfaaGreatDoorH11
import Derived.Test.YtnknmmbnhoanfaaGreatDoorH08
import Derived.Test.YtnknmmbnhoanfaaGreatDoorH02
import Derived.Test.YtnknmmbnhoanfaaGreatDoorH04
import Derived.Lib.SlBytesRow
import Derived.Test.YtnknmmbnhoanfaaGreatDoorH03
import Derived.Test.YtnknmmbnhoanfaaGreatDoorH07
import Derived.Test.YtnknmmbnhoanfaaGreatDoorH06
import Derived.Test.YtnknmmbnhoanfaaGreatDoorH05
set_option linter.unusedSimpArgs false
set_option linter.unusedVariables false
set_option maxHeartbeats 16000000
set_option maxRecDepth 100000
namespace Go.Proofs.YtnknmmbnhoanfaaGreatDoor
open Go.RowKit Go.Shelf Go.Cs
attribute [local go_sem] Oper.semAt_some


def noS:Value:=.slice none 0 0
def AddW (w0 W:World) (Bx:Nat) (L:List Bare.Mem):Prop:=New w0 W∧w0.heap.size ≤ Bx∧∃ v f,Boxed W Bx 36 v∧OwM w0.heap.size W v L.length f ∧
 ∀ j,j < L.length→∃ k b g,L.getD j noM=⟨k,false,[⟨b,[]⟩],[]⟩∧f j=mcs ⟨k,false,[⟨b,[]⟩],[]⟩ (.slice (some ⟨g,0,none⟩) 1 1) noS∧W.heap[g]? = some (.cells (ics ⟨b,[]⟩ noS).toArray 85 (0,0))
theorem AddW.reads {w0 W:World} {Bx:Nat} {L:List Bare.Mem} (h:AddW w0 W Bx L) (hl:L.length ≤ 100):∃ v,Boxed W Bx 36 v∧RdD false W v L:=by
 obtain ⟨-,-,v,f,hb,ho,hf⟩:=h
 refine ⟨v,hb,fun j=>(f j).getD 2 undef,fun _=>noS,(ho.row (by omega)).congr fun j hj=>?_,tag_none,fun j hj=>?_⟩
 ·obtain ⟨k,b,g,h1,h2,-⟩:=hf j hj
  dsimp only
  rw [h1,h2];rfl
 ·obtain ⟨k,b,g,h1,h2,h3⟩:=hf j hj
  dsimp only
  rw [h1,h2]
  refine ⟨⟨fun _=>noS,⟨by simp,some ⟨g,0,none⟩,1,rfl,fun i hi=>?_⟩,tag_none,fun i hi=>?_⟩,RdP.nil _ _ _⟩
  ·obtain rfl:i=0:=by simp at hi;omega
   refine ⟨g,0,rfl,fun j' u hu=>?_⟩
   have:=cell_of_row (W) g (0 + 0 * 5 + j') _ _ _ h3
   rw [this]
   simpa using hu
  ·obtain rfl:i=0:=by simp at hi;omega
   exact RdP.nil _ _ _
theorem add_u (w0 W:World) (Bx:Nat) (L:List Bare.Mem) (h:AddW w0 W Bx L) (hl:L.length ≤ 100) (key:Bare.Bs) (b:Bare.It) :
  Calls Tryz.prog 101 #[.string (tx key),bv b,.pointer (some ⟨Bx,0,none⟩)] W fun e (W':World)=>(∃ v,e = .returned v)∧AddW w0 W' Bx (L ++ [⟨key,false,[⟨b,[]⟩],[]⟩])∧∀ (g:Nat) cs fr,W.heap[g]? = some (Obj.cells cs 51 fr)→W'.heap[g]? = some (Obj.cells cs 51 fr):=by
 obtain ⟨hN,hBx,v,f,hb,ho,hf⟩:=h
 have HF:=Lib.hid hf
 clear hf
 obtain ⟨q,n,t,y⟩:=b
 unfold bv bcs
 simp only
 obtain ⟨s,hs⟩:∃ s,tx t=s:=⟨_,rfl⟩
 have Hs:=Lib.hid hs
 obtain ⟨K,hK⟩:∃ s,tx key=s:=⟨_,rfl⟩
 have HK:=Lib.hid hK
 rw [hs,hK]
 clear hs hK
 have hA:New W (W.alloc (.cells #[.int .u8 q,.int .i64 n,.string s,.bool y] 23)):=(Mods.refl _ _).alloc _
 have r4:=World.alloc_heap_new W (.cells #[.int .u8 q,.int .i64 n,.string s,.bool y] 23)
 obtain ⟨ao,cap,rfl⟩:=ho.slice
 go_enter Tryz.func101,Tryz.ntmps101
 go_upto_region 1 with fail
 obtain ⟨W1,hW1⟩:∃ V,W.alloc (.cells #[.int .u8 q,.int .i64 n,.string s,.bool y] 23)=V:=⟨_,rfl⟩
 obtain ⟨D,hD⟩:∃ b,W.heap.size=b:=⟨_,rfl⟩
 rw [hW1] at hA r4 ⊢
 rw [hD] at r4 ⊢
 have hb1:=hA.boxed hb id
 obtain ⟨c2,f2⟩:=hb1.both
 have k0:=cell_of_row _ _ 0 _ _ _ r4
 have k1:=cell_of_row _ _ 1 _ _ _ r4
 have k2:=cell_of_row _ _ 2 _ _ _ r4
 have k3:=cell_of_row _ _ 3 _ _ _ r4
 simp only [gS] at k0 k1 k2 k3
 have hA2:New W1 (W1.alloc (.cells #[.int .u8 q,.int .i64 n,.string s,.bool y,.slice none 0 0] 85)):=(Mods.refl _ _).alloc _
 have r5:=World.alloc_heap_new W1 (.cells #[.int .u8 q,.int .i64 n,.string s,.bool y,.slice none 0 0] 85)
 have ho1:=ho.new hA
 have ho2:=ho1.new hA2
 have hN2:=(hN.trans hA).trans hA2
 have hln:L.length ≤ 2000000:=by omega
 have hone:=mcs_one K false (some ⟨W1.heap.size,0,none⟩) none 1 1 0 0
 have hxx:∀ o,Value.slice (some ⟨W1.heap.size + 1,0,none⟩) 1 1 = .slice (some ⟨(W1.alloc o).heap.size,0,none⟩) 1 1:=fun o=>by rw [World.size_alloc]
 have HX:=Lib.hid hxx
 have HO:=Lib.hid ho2
 have HN2:=Lib.hid hN2
 have hb2:=hA2.boxed hb1 id
 have hne:∀ g,(Value.slice ao L.length cap).ownBlock=some g→¬ g=Bx:=fun g hg e=>by
  obtain ⟨cs,fr,hc⟩:=ho2.tag g hg
  subst e
  rw [show (W1.alloc _).heap[g]? = _ from hb2] at hc
  cases hc
 have HB2:=Lib.hid hb2
 have HNE:=Lib.hid hne
 have HN1:=Lib.hid (hN.trans hA)
 have HO0:=Lib.hid ho
 have HA:=Lib.hid (hA.trans hA2)
 have R5:=Lib.hid r5
 clear hxx ho ho1 ho2 hN hA hA2 hW1 hD hN2 hb hb1 hb2 hne r4 r5
 go_wp2_with (at_builtin;refine wpList_append_M (w:=W1.alloc (.cells #[.int .u8 q,.int .i64 n,.string s,.bool y,.slice none 0 0] 85)) (c:=[.string K,.bool false,.slice (some ⟨W1.heap.size,0,none⟩) 1 1,.slice none 0 0]) _ _ rfl rfl rfl (HX.out _) rfl rfl hone HO.out hln HN2.out.size ?_;intro v2 W4 ho4 hm4;obtain ⟨a2,cp2,rfl⟩:=ho4.slice;have hmm:=hm4 (W1.alloc (.cells #[.int .u8 q,.int .i64 n,.string s,.bool y,.slice none 0 0] 85)) (fun b=>(Value.slice ao L.length cap).ownBlock=some b) (Mods.refl _ _) (fun g hg=>.inr hg);have hb4:=hmm.boxed HB2.out (fun h=>HNE.out _ h rfl);obtain ⟨c4,f4⟩:=hb4.both)
 go_end0
 have hbx:∀ g,(Value.slice a2 (L.length + 1) cp2).ownBlock=some g→¬ g=Bx:=fun g hg e=>by
  obtain ⟨cs,fr,hc⟩:=ho4.tag g hg
  subst e
  rw [show W4.heap[g]? = _ from hb4] at hc
  cases hc
 have hms:=setMods W4 Bx 0 (.slice a2 (L.length + 1) cp2)
 have hit:∀ g c,W4.heap[g]? = some (Obj.cells c 85 (0,0))→(W4.setCell ⟨Bx,0,none⟩ (.slice a2 (L.length + 1) cp2)).heap[g]? = some (Obj.cells c 85 (0,0)):=fun g c hg=>hms.heap hg (fun e=>by
  subst e
  rw [show W4.heap[g]? = _ from hb4] at hg
  cases hg)
 have hpr:∀ g cs fr,W.heap[g]? = some (Obj.cells cs 51 fr)→(W4.setCell ⟨Bx,0,none⟩ (.slice a2 (L.length + 1) cp2)).heap[g]? = some (Obj.cells cs 51 fr):=fun g cs fr hg=>by
  have h2:=HA.out.heap hg id
  have h4:=hmm.heap h2 (fun h=>by
   obtain ⟨cs',fr',hc⟩:=HO.out.tag _ h
   rw [h2] at hc
   cases hc)
  exact hms.heap h4 (fun e=>by
   subst e
   rw [show W4.heap[g]? = _ from hb4] at h4
   cases h4)
 refine ⟨⟨_,rfl⟩,⟨(hm4 w0 (fun _=>False) HN2.out (fun g hg=>.inl (HO0.out.lt hg).1)).setCell (p:=⟨Bx,0,none⟩) (.inl hBx) _,hBx,_,_,setCell_heap hb4 _,by rw [List.length_append];exact ho4.mods hms hbx,fun j hj=>?_⟩,hpr⟩
 rw [List.length_append] at hj
 rw [getD_snoc]
 by_cases e:j=L.length
 ·rw [if_neg (by omega),if_pos e,if_pos e]
  refine ⟨key,⟨q,n,t,y⟩,W1.heap.size,rfl,?_,hit _ _ ?_⟩
  ·rw [← HK.out];rfl
  ·refine hmm.heap ?_ (fun h=>?_)
   ·rw [R5.out,← Hs.out];rfl
   ·obtain ⟨cs,fr,hc⟩:=HO.out.tag _ h
    rw [R5.out] at hc
    cases hc
 ·have hjl:j < L.length:=by simp at hj;omega
  rw [if_pos hjl,if_neg e]
  obtain ⟨k,b,g,h1,h2,h3⟩:=HF.out j hjl
  refine ⟨k,b,g,h1,h2,hit _ _ ?_⟩
  have h4:=HA.out.heap h3 id
  refine hmm.heap h4 (fun h=>?_)
  obtain ⟨cs,fr,hc⟩:=HO.out.tag _ h
  rw [h4] at hc
  cases hc
theorem AddW.start {w0 W:World} {Bx:Nat} (hN:New w0 W) (hB:w0.heap.size ≤ Bx) (hb:Boxed W Bx 36 (.slice none 0 0)):AddW w0 W Bx [] :=
 ⟨hN,hB,_,fun _=>[undef,undef,undef,undef],hb,OwM.nil _ _ _ (fun _=>rfl),fun j hj=>by simp at hj⟩
theorem AddW.keep {w0 W W':World} {Bx:Nat} {L:List Bare.Mem} (h:AddW w0 W Bx L) (hN:New W W'):AddW w0 W' Bx L:=by
 obtain ⟨h1,h2,v,f,h3,h4,h5⟩:=h
 refine ⟨h1.trans hN,h2,v,f,hN.boxed h3 id,h4.new hN,fun j hj=>?_⟩
 obtain ⟨k,b,g,a1,a2,a3⟩:=h5 j hj
 exact ⟨k,b,g,a1,a2,hN.heap a3 id⟩


theorem lit30 (t:Array Value) (h:t.size=30):∃ u:Nat→Value,t=(u 0::u 1::u 2::u 3::u 4::u 5::u 6::u 7::u 8::u 9::u 10::u 11::u 12::u 13::u 14::u 15::u 16::u 17::u 18::u 19::u 20::u 21::u 22::u 23::u 24::u 25::u 26::u 27::u 28::u 29::([]:List Value)).toArray:=⟨fun i=>t.getD i undef,range_lit t 30 h⟩
noncomputable def reg_urgent_Print_5:Code:=((Tryz.f38.body.bind (regionOf 5)).getD .skip)
theorem print5 (t:Array Value) (hs:t.size=30) (w:World) {P:Nat} {n:Int} {z:Bool} {x2 x3 x4 x5:Value}
  (hq1:t.getD 1 undef = .pointer (some ⟨P,0,none⟩))
  (hq2:t.getD 2 undef=x2)
  (hq3:t.getD 3 undef=x3)
  (hq4:t.getD 4 undef=x4)
  (hq5:t.getD 5 undef=x5)
  (c0:w.cell? ⟨P,0,none⟩=some (.int .u8 n)) (hz:(n != 3)=z) :
  reg_urgent_Print_5.wp Tryz.prog (Only fun a' W'=>(a'.tmps.size=30∧a'.defers = []∧a'.tmps.getD 1 undef = .pointer (some ⟨P,0,none⟩)∧a'.tmps.getD 2 undef=x2∧a'.tmps.getD 3 undef=x3∧a'.tmps.getD 4 undef=x4∧a'.tmps.getD 5 undef=x5∧a'.tmps.getD 14 undef = .bool z)∧New w W') ⟨t,[]⟩ w:=by
 conv=>arg 2;whnf
 obtain ⟨u,rfl⟩:=lit30 t hs
 have hq1:u 1 = _:=hq1
 have hq2:u 2 = _:=hq2
 have hq3:u 3 = _:=hq3
 have hq4:u 4 = _:=hq4
 have hq5:u 5 = _:=hq5
 rw [hq1,hq2,hq3,hq4,hq5]
 clear hq1 hq2 hq3 hq4 hq5 hs
 refine wp_region_held (S:=fun W=>New w W) (by kernel_rfl) ?_
 show wpAnyH _ _ _ _ _ 5 _ _ w.drew
 have hN:New w w.drew:=(Mods.refl _ _).drew
 have hS:New w w.drew:=(Mods.refl _ _).drew
 refine tkI 0 (some 10) (.pointer (some ⟨P,0,none⟩)) hS ?_
 simp only [pS]
 refine tkA 1 rfl (some 11) (.int .u8 n) (.inl ⟨by rfl,fun W hW=>by have q:=hW.cell c0 id;go_simp⟩) hS ?_
 simp only [pS]
 refine tkO 2 ?_
 refine opH_call (some 12) rfl (by rfl) rfl 99 #[] (by go_simp) ((first_u _).mono ?_)
 rintro e w2 ⟨rfl,hk⟩
 have hS:=hS.trans hk
 have hN:=hN.trans hk
 clear hk
 refine ⟨_,rfl,hS,?_⟩
 simp only [pS]
 refine tkA 3 rfl (some 13) (.int .u8 3) (.inl ⟨by rfl,fun W hW=>by unfold prV;have hp:=fun w=>partAt 5 _ Tryz.underlying5 rfl #[.int .u8 3,.bool false] 0 (.int .u8 3) w rfl;go_simp;simp [Instr.field,asAgg,Sem.run_bind,run_underlying Tryz.underlying51,hp]⟩) hS ?_
 simp only [pS]
 refine tkI 4 (some 14) (.bool z) hS ?_
 simp only [pS]
 refine wpAnyH_done (by kernel_rfl) ?_ _
 exact ⟨⟨rfl,rfl,rfl,rfl,rfl,rfl,rfl,rfl⟩,hN⟩
def prioT (u:Nat) (i:Bool):Option Bare.Bs:=if u ≤ 7 then Bare.printD (Bare.prioD u i) else none
theorem print_u (n:Nat) (i:Bool) (hu:n < 256) (w:World) (hT:Tab w) :
  Calls Tryz.prog 38 #[prV n i] w fun e w'=>e = .returned (printV (prioT n i))∧New w w':=by
 unfold prV
 obtain ⟨T,hTT⟩:∃ T,printV (prioT n i)=T:=⟨_,rfl⟩
 have HT:=Lib.hid hTT
 rw [hTT]
 clear hTT
 have HR:=Lib.hid (fun W=>right_pr n i hu W)
 unfold prV at HR
 have hA:New w (w.alloc (.cells #[.int .u8 n,.bool i] 51)):=(Mods.refl _ _).alloc _
 have rP:=World.alloc_heap_new w (.cells #[.int .u8 n,.bool i] 51)
 go_enter Tryz.func38,Tryz.ntmps38
 go_upto_region 1 with fail
 obtain ⟨w1,hw1⟩:∃ V,w.alloc (.cells #[.int .u8 n,.bool i] 51)=V:=⟨_,rfl⟩
 obtain ⟨P,hP⟩:∃ b,w.heap.size=b:=⟨_,rfl⟩
 rw [hw1] at hA rP ⊢
 rw [hP] at rP ⊢
 have hA2:New w1 (w1.alloc (.cells #[.slice none 0 0] 36)):=(Mods.refl _ _).alloc _
 have rX:Boxed (w1.alloc (.cells #[.slice none 0 0] 36)) w1.heap.size 36 (.slice none 0 0):=Boxed.new w1 _ _
 have hwX:w.heap.size ≤ w1.heap.size:=hA.size
 go_upto_region 3 with fail
 obtain ⟨w2,hw2⟩:∃ V,w1.alloc (.cells #[.slice none 0 0] 36)=V:=⟨_,rfl⟩
 obtain ⟨X,hX⟩:∃ b,w1.heap.size=b:=⟨_,rfl⟩
 rw [hw2] at hA2 rX ⊢
 rw [hX] at rX hwX ⊢
 replace rP:=hA2.heap rP id
 have hAd:=AddW.start (hA.trans hA2) hwX rX
 clear hw1 hP hw2 hX hA hA2 rX hwX
 obtain ⟨⟨c0,c1⟩,-⟩:=pr_facts rP
 by_cases h7:n ≤ 7
 ·have HT':Hid (printV (Bare.printD (Bare.prioD n i))=T):=Lib.hid (by have:=HT.out;unfold prioT at this;rw [if_pos h7] at this;exact this)
  rw [decide_eq_true h7] at HR
  obtain ⟨z,hz⟩:∃ z,((n:Int) != 3)=z:=⟨_,rfl⟩
  have HPD:=Lib.hid (prioD_print (i:=i) h7)
  clear HT h7
  go_upto_region 5 with (go_at_call 42;refine (HR.out _).mono ?_;rintro e w3 ⟨rfl,hN3⟩)
  replace rP:=hN3.heap rP id
  replace hAd:=hAd.keep hN3
  have hT3:=hT.new hAd.1
  obtain ⟨⟨c0,c1⟩,-⟩:=pr_facts rP
  refine piece (fun _=>_) (print5 _ rfl w3 rfl rfl rfl rfl rfl c0 hz) ?_
  rintro ⟨z,dfs⟩ w5 ⟨⟨hs,hd,hq1,hq2,hq3,hq4,hq5,hq14⟩,hN5⟩
  simp only at hs hd hq1 hq2 hq3 hq4 hq5 hq14
  subst hd
  obtain ⟨u,rfl⟩:=lit30 z hs
  have hp1:u 1 = .pointer (some ⟨P,0,none⟩):=hq1
  have hp2:u 2 = .string ⟨#[]⟩:=hq2
  have hp3:u 3 = .int .i64 0:=hq3
  have hp4:u 4 = .pointer (some ⟨X,0,none⟩):=hq4
  have hp5:u 5 = .func (.func 101) #[] #[.pointer (some ⟨X,0,none⟩)]:=hq5
  have hp14:u 14 = .bool z:=hq14
  rw [hp1,hp2,hp3,hp4,hp5,hp14]
  clear hp1 hq1 hp2 hq2 hp3 hq3 hp4 hq4 hp5 hq5 hp14 hq14 hs
  replace hAd:=hAd.keep hN5
  replace rP:=hN5.heap rP id
  have hent:=enters_of (P:=Tryz.prog) Tryz.func101 (by kernel_rfl) rfl
  clear hN3 hN5 c0 c1
  obtain ⟨⟨c0,c1⟩,-⟩:=pr_facts rP
  have HP:=Lib.hid (fun (W:World) (d:List Bare.Mem) (hd:d=Bare.prioD n i) (v:Value) (hv:RdD false W v d) (hT:Tab W)=>by have:=print_d v d W hv (by rw [hd];exact HPD.out) hT;rw [hd,HT'.out] at this;exact this)
  have hlast:∀ (W:World) (d:List Bare.Mem),d=Bare.prioD n i→AddW w W X d→d.length ≤ 100→∃ v,W.cell? ⟨X,0,none⟩=some v∧Calls Tryz.prog 23 #[v] W fun e w'=>e = .returned T∧New W w':=fun W d hd had hl=>by
   obtain ⟨v,hb,hr⟩:=had.reads hl
   exact ⟨v,hb.cell,HP.out W d hd v hr (hT.new had.1)⟩
  have HLast:=Lib.hid hlast
  clear hlast HP HPD
  obtain ⟨t,k,rfl⟩:∃ t k,T = .tuple #[.string t,.int .i64 k]:=by
   have h:=HT'.out
   cases hh:Bare.printD (Bare.prioD n i) with
   | none=>rw [hh] at h;exact ⟨_,_,h.symm⟩
   | some l=>rw [hh] at h;exact ⟨_,_,h.symm⟩
  clear HT'
  have hw8:IntKind.i64.wrap (n:Int)=n:=by rw [IntKind.wrap_i64];omega
  cases z with
  | true =>
   have h3:¬ n=3:=by intro e;subst e;simp at hz
   go_wp2_with fail
   refine (add_u w w5 X _ hAd (by simp) [117] ⟨1,n,[],false⟩).mono ?_
   rintro e w6 ⟨⟨vv,rfl⟩,hAd,hPP⟩
   have rP6:=hPP _ _ _ rP
   obtain ⟨⟨c0,c1⟩,-⟩:=pr_facts rP6
   cases i with
   | true =>
    go_wp2_with fail
    refine (add_u w w6 X _ hAd (by simp) [105] Bare.yesI).mono ?_
    rintro e w7 ⟨⟨vv,rfl⟩,hAd,hPP⟩
    obtain ⟨v,hv,hcl⟩:=HLast.out w7 _ (by unfold Bare.prioD;rw [if_neg (by omega),if_pos rfl];rfl) hAd (by simp)
    have hNw:=hAd.1
    have HCL:=Lib.hid hcl
    clear hcl
    go_wp2_with fail
    refine (HCL.out).mono ?_
    rintro e w9 ⟨rfl,hN9⟩
    go_wp2_with fail
    go_ret2
    exact ⟨rfl,hNw.trans hN9⟩
   | false =>
    obtain ⟨v,hv,hcl⟩:=HLast.out w6 _ (by unfold Bare.prioD;rw [if_neg (by omega),if_neg (by decide)];rfl) hAd (by simp)
    have hNw:=hAd.1
    have HCL:=Lib.hid hcl
    clear hcl
    go_wp2_with fail
    refine (HCL.out).mono ?_
    rintro e w9 ⟨rfl,hN9⟩
    go_wp2_with fail
    go_ret2
    exact ⟨rfl,hNw.trans hN9⟩
  | false =>
   have h3:n=3:=by simp at hz;omega
   cases i with
   | true =>
    go_wp2_with fail
    refine (add_u w w5 X _ hAd (by simp) [105] Bare.yesI).mono ?_
    rintro e w7 ⟨⟨vv,rfl⟩,hAd,hPP⟩
    obtain ⟨v,hv,hcl⟩:=HLast.out w7 _ (by unfold Bare.prioD;rw [if_pos (by omega),if_pos rfl];first | done | rfl) hAd (by simp)
    have hNw:=hAd.1
    have HCL:=Lib.hid hcl
    clear hcl
    go_wp2_with fail
    refine (HCL.out).mono ?_
    rintro e w9 ⟨rfl,hN9⟩
    go_wp2_with fail
    go_ret2
    exact ⟨rfl,hNw.trans hN9⟩
   | false =>
    obtain ⟨v,hv,hcl⟩:=HLast.out w5 _ (by unfold Bare.prioD;rw [if_pos (by omega),if_neg (by decide)];rfl) hAd (by simp)
    have hNw:=hAd.1
    have HCL:=Lib.hid hcl
    clear hcl
    go_wp2_with fail
    refine (HCL.out).mono ?_
    rintro e w9 ⟨rfl,hN9⟩
    go_wp2_with fail
    go_ret2
    exact ⟨rfl,hNw.trans hN9⟩
 ·have hT':T = .tuple #[.string ⟨#[]⟩,.int .i64 2]:=by have:=HT.out;unfold prioT at this;rw [if_neg h7] at this;exact this.symm
  subst hT'
  rw [decide_eq_false h7] at HR
  clear HT h7
  go_wp2_with (go_at_call 42;refine (HR.out _).mono ?_;rintro e w3 ⟨rfl,hN3⟩)
  go_ret2
  exact ⟨rfl,hAd.1.trans hN3⟩


theorem digit_r:PredB 58 #[] Bare.digB:=by
 intro c w
 unfold Bare.digB
 obtain ⟨n,hn⟩:∃ n,c.toNat=n:=⟨_,rfl⟩
 rw [hn]
 clear hn
 by_cases h1:48 ≤ n
 ·by_cases h2:n ≤ 57
  ·go_enter Tryz.func58,Tryz.ntmps58
   go_wp2_with fail
   go_ret
   refine ⟨congrArg (fun b=>Ending.returned (.bool b)) ?_,rfl⟩
   rw [Bool.eq_iff_iff]
   first | done | (simp;done) | (simp;omega) | (constructor <;> intro h <;> simp_all <;> omega)
  ·go_enter Tryz.func58,Tryz.ntmps58
   go_wp2_with fail
   go_ret
   refine ⟨congrArg (fun b=>Ending.returned (.bool b)) ?_,rfl⟩
   rw [Bool.eq_iff_iff]
   first | done | (simp;done) | (simp;omega) | (constructor <;> intro h <;> simp_all <;> omega)
 ·go_enter Tryz.func58,Tryz.ntmps58
  go_wp2_with fail
  go_ret
  refine ⟨congrArg (fun b=>Ending.returned (.bool b)) ?_,rfl⟩
  rw [Bool.eq_iff_iff]
  first | done | (simp;done) | (simp;omega) | (constructor <;> intro h <;> simp_all <;> omega)
theorem letter_r:PredB 61 #[] Bare.letB:=by
 intro c w
 unfold Bare.letB
 obtain ⟨n,hn⟩:∃ n,c.toNat=n:=⟨_,rfl⟩
 rw [hn]
 clear hn
 have hcase:(97 ≤ n∧n ≤ 122) ∨ (97 ≤ n∧122 < n) ∨ (n < 97∧90 < n) ∨ (65 ≤ n∧n ≤ 90) ∨ n < 65:=by omega
 rcases hcase with ⟨h1,h2⟩ | ⟨h1,h2⟩ | ⟨h1,h2⟩ | ⟨h1,h2⟩ | h1
 all_goals
  go_enter Tryz.func61,Tryz.ntmps61
  go_wp2_with fail
  go_ret
  refine ⟨congrArg (fun b=>Ending.returned (.bool b)) ?_,rfl⟩
  rw [Bool.eq_iff_iff]
  first | done | (simp;done) | (simp;omega) | (constructor <;> intro h <;> simp_all <;> omega)
theorem mark_r:PredB 66 #[] (fun c=>Bare.marks.contains c):=by
 intro c w
 obtain ⟨r,hr⟩:∃ r,Bare.marks.contains c=r:=⟨_,rfl⟩
 have hy:∀ k,k < 17→gb (tx Bare.marks) k=c→r=true:=fun k hk hg=>by
  rw [← hr,← hg,List.contains_iff_mem]
  have:=gb_get (tx Bare.marks) k hk
  rw [bl_tx] at this
  exact List.mem_of_getElem? this
 have hn:(∀ k,k < 17→gb (tx Bare.marks) k ≠ c)→r=false:=fun h=>by
  rw [← hr,Bool.eq_false_iff]
  intro hc
  rw [List.contains_iff_mem] at hc
  obtain ⟨k,hk⟩:=List.mem_iff_getElem?.1 hc
  have hk1:k < 17:=(List.getElem?_eq_some_iff.1 hk).1
  have:=gb_get (tx Bare.marks) k hk1
  rw [bl_tx,hk] at this
  exact h k hk1 (Option.some.inj this).symm
 show Calls _ _ (#[Value.int .u8 (c.toNat:Nat)] ++ #[]) w fun e w'=>e = .returned (.bool (Bare.marks.contains c))∧w'=w
 rw [hr]
 clear hr
 have hi:∀ k,k < 17→∀ W,(Instr.index 9 (.string ⟨#[33,35,36,37,38,39,42,43,45,46,94,95,96,124,126,58,47]⟩) (.int .i64 (k:Nat))).run Tryz.prog W = .ok (.int .u8 ((gb (tx Bare.marks) k).toNat:Nat)) W:=fun k hk=>run_idx (tx Bare.marks) k hk
 go_enter Tryz.func66,Tryz.ntmps66
 go_wp2_with fail
 go_loop [4] (fun c'=>∃ k:Nat,k ≤ 17∧c' = .int .i64 k∧Hid (∀ j,j < k→gb (tx Bare.marks) j ≠ c)) (fun c=>17 - (intOf c).toNat)
 case atStart=>exact ⟨0,Nat.zero_le _,rfl,Lib.hid fun i hi=>by omega⟩
 case round =>
  obtain ⟨k,hk,rfl,hbef⟩:=hrel
  by_cases hlt:k < 17
  ·have hix:=hi k hlt
   have hnext:gb (tx Bare.marks) k ≠ c→Hid (∀ j,j < k + 1→gb (tx Bare.marks) j ≠ c):=fun hg=>Lib.hid fun i hi=>by
    by_cases hik:i < k
    ·exact hbef.out i hik
    ·obtain rfl:i=k:=by omega
     exact hg
   have hstop:=hy k hlt
   by_cases hg:gb (tx Bare.marks) k=c
   ·have hh:=hstop hg
    rw [hg] at hix
    clear hnext hstop hg hbef hi hy hn
    subst hh
    obtain ⟨n,hn⟩:∃ n,c.toNat=n:=⟨_,rfl⟩
    rw [hn] at hix ⊢
    go_wp2_with fail
    go_ret
    exact ⟨rfl,rfl⟩
   ·have hh:=hnext hg
    have hne:((gb (tx Bare.marks) k).toNat:Int) ≠ (c.toNat:Int):=fun e=>hg (UInt8.toNat_inj.1 (Int.ofNat_inj.1 e))
    obtain ⟨m,hm⟩:∃ m,(gb (tx Bare.marks) k).toNat=m:=⟨_,rfl⟩
    rw [hm] at hix hne
    obtain ⟨n,hn⟩:∃ n,c.toNat=n:=⟨_,rfl⟩
    rw [hn] at hne ⊢
    have heq:((m:Int) == (n:Int))=false:=by simpa using hne
    clear hnext hstop hg hbef hi hy hm hne
    go_wp2_with fail
    go_round
    case rel=>exact ⟨k + 1,by omega,by go_num,hh⟩
    case measure=>simp [intOf];omega
  ·obtain rfl:k=17:=by omega
   have hh:=hn hbef.out
   clear hi hy hn hbef
   subst hh
   go_wp2_with fail
   go_ret
   exact ⟨rfl,rfl⟩


theorem run_r (s:ByteArray) (w:World) (hs:s.size ≤ 9223372036854775807) :
  Calls Tryz.prog 112 #[.string s] w fun e w'=>e = .returned (.int .i64 (((bl s).takeWhile Bare.digB).length:Nat))∧w'=w:=by
 have HB:=Lib.hid (Bare.while_at Bare.digB (bl s))
 obtain ⟨r,hr⟩:∃ r,((bl s).takeWhile Bare.digB).length=r:=⟨_,rfl⟩
 rw [hr] at HB ⊢
 clear hr
 go_enter Tryz.func112,Tryz.ntmps112
 go_wp2_with fail
 go_loop [3] (fun c=>∃ k:Nat,k ≤ s.size∧c = .int .i64 k∧Hid (∀ j,j < k→Bare.digB (gb s j)=true)) (fun c=>s.size - (intOf c).toNat)
 case atStart=>exact ⟨0,Nat.zero_le _,rfl,Lib.hid fun i hi=>by omega⟩
 case round =>
  obtain ⟨k,hk,rfl,hbef⟩:=hrel
  by_cases hlt:k < s.size
  ·have hix:=run_idx s k hlt
   have HP:=Lib.hid (digit_r (gb s k))
   obtain ⟨T,hT⟩:∃ x,Bare.digB (gb s k)=x:=⟨_,rfl⟩
   have hnext:T=true→Hid (∀ j,j < k + 1→Bare.digB (gb s j)=true):=fun hg=>Lib.hid fun i hi=>by
    by_cases hik:i < k
    ·exact hbef.out i hik
    ·obtain rfl:i=k:=by omega
     rw [hT];exact hg
   have hstop:T=false→r=k:=fun hg=>by
    refine HB.out k (by rw [bl_len];exact hk) (fun j hj c hc=>?_) (fun c hc=>?_)
    ·obtain ⟨_,rfl⟩:=get_gb hc
     exact hbef.out j hj
    ·obtain ⟨_,rfl⟩:=get_gb hc
     rw [hT];exact hg
   rw [hT] at HP
   obtain ⟨n,hn⟩:∃ x,(gb s k).toNat=x:=⟨_,rfl⟩
   rw [hn] at HP hix
   clear hT hn hbef
   cases T with
   | true =>
    have hh:=hnext rfl
    clear hnext hstop
    go_wp2_with (go_at_call 58;refine (HP.out _).mono ?_;rintro e w' ⟨rfl,rfl⟩)
    go_round
    case rel=>exact ⟨k + 1,by omega,by go_num,hh⟩
    case measure=>simp [intOf];omega
   | false =>
    have hh:=hstop rfl
    clear hnext hstop
    subst hh
    go_wp2_with (go_at_call 58;refine (HP.out _).mono ?_;rintro e w' ⟨rfl,rfl⟩)
    go_ret
    exact ⟨rfl,rfl⟩
  ·obtain rfl:k=s.size:=by omega
   have hh:=HB.out s.size (by rw [bl_len];exact Nat.le_refl _) (fun j hj c hc=>by obtain ⟨_,rfl⟩:=get_gb hc;exact hbef.out j hj) (fun c hc=>by obtain ⟨h1,_⟩:=get_gb hc;omega)
   clear HB hbef
   subst hh
   go_wp2_with fail
   go_ret
   exact ⟨rfl,rfl⟩
theorem val_take (s:ByteArray) (k:Nat) (h:k < s.size):Bare.valD ((bl s).take (k + 1))=Bare.valD ((bl s).take k) * 10 + ((gb s k).toNat - 48):=by
 have:=gb_get s k h
 rw [List.take_add_one,this]
 unfold Bare.valD
 rw [List.foldl_append]
 rfl
theorem value_r (s:ByteArray) (w:World) (hs:s.size ≤ 18) (hd:(bl s).all Bare.digB=true) :
  Calls Tryz.prog 113 #[.string s] w fun e w'=>e = .returned (.int .i64 (Bare.valD (bl s):Nat))∧w'=w:=by
 have HV:∀ k,k ≤ s.size→Bare.valD ((bl s).take k) < 1000000000000000000:=fun k hk=>by
  have h1:=Bare.valD_lt (l:=(bl s).take k) (List.all_eq_true.2 fun c hc=>List.all_eq_true.1 hd c (List.mem_of_mem_take hc))
  have h2:((bl s).take k).length ≤ 18:=by rw [List.length_take];omega
  have h3:=Nat.pow_le_pow_right (show 1 ≤ 10 by decide) h2
  exact Nat.lt_of_lt_of_le h1 h3
 have HG:∀ k,k < s.size→48 ≤ (gb s k).toNat∧(gb s k).toNat ≤ 57:=fun k hk=>by
  have:=List.all_eq_true.1 hd (gb s k) (List.mem_of_getElem? (gb_get s k hk))
  unfold Bare.digB at this
  simpa using this
 have HS:=Lib.hid (fun k h=>val_take s k h)
 have hend:(bl s).take s.size=bl s:=by rw [← bl_len];exact List.take_length
 obtain ⟨V,hV⟩:∃ v,Bare.valD (bl s)=v:=⟨_,rfl⟩
 replace hend:Bare.valD ((bl s).take s.size)=V:=by rw [hend,hV]
 rw [hV]
 clear hV
 replace hend:=Lib.hid hend
 replace HV:=Lib.hid HV
 replace HG:=Lib.hid HG
 clear hd
 go_enter Tryz.func113,Tryz.ntmps113
 go_wp2_with fail
 go_loop [3,4] (fun v c=>∃ k N:Nat,k ≤ s.size∧c = .int .i64 k∧v = .int .i64 N∧Hid (N=Bare.valD ((bl s).take k))) (fun _ c=>s.size - (intOf c).toNat)
 case atStart=>exact ⟨0,0,Nat.zero_le _,rfl,rfl,Lib.hid rfl⟩
 case round =>
  obtain ⟨k,N,hk,rfl,rfl,hN⟩:=hrel
  by_cases hlt:k < s.size
  ·have hix:=run_idx s k hlt
   have hN1:=HV.out k hk
   rw [← hN.out] at hN1
   have hN2:=HV.out (k + 1) hlt
   have hS:=HS.out k hlt
   rw [← hN.out] at hS
   obtain ⟨hg1,hg2⟩:=HG.out k hlt
   obtain ⟨c,hc⟩:∃ c,(gb s k).toNat=c:=⟨_,rfl⟩
   rw [hc] at hix hS hg1 hg2
   rw [hS] at hN2
   have hS:Hid (N * 10 + (c - 48)=Bare.valD ((bl s).take (k + 1))):=Lib.hid hS.symm
   clear hN hc
   go_wp2_with fail
   go_round
   case rel=>exact ⟨k + 1,N * 10 + (c - 48),by omega,by go_num,by first | (go_num;done) | (go_num;omega),hS⟩
   case measure=>simp [intOf];omega
  ·obtain rfl:k=s.size:=by omega
   have hN:=hN.out
   rw [hend.out] at hN
   clear HS HV HG hend
   subst hN
   go_wp2_with fail
   go_ret
   exact ⟨rfl,rfl⟩


theorem padD_len:∀ (m n l:Nat),n + l ≤ m→(Bare.padD n l).length ≤ n + l
 | 0,n,l,h=>by
  obtain rfl:n=0:=by omega
  obtain rfl:l=0:=by omega
  rw [Bare.padD_done];simp
 | m + 1,n,l,h=>by
  by_cases h0:n=0∧l=0
  ·rw [h0.1,h0.2,Bare.padD_done];simp
  ·rw [Bare.padD_step h0,List.length_append]
   have:=padD_len m (n / 10) (l - 1) (by omega)
   simp
   omega
theorem run_one (W:World) (d:UInt8) (z:Int) (hz:z=(d.toNat:Nat)) :
  (convert 62 9 (.slice (some ⟨W.heap.size,0,none⟩) 1 1)).run Tryz.prog (W.alloc (.cells #[.int .u8 z] 5)) = .ok (.string (tx [d])) (W.alloc (.cells #[.int .u8 z] 5)):=by
 subst hz
 have h:=Lib.run_convert_whole (P:=Tryz.prog) (W.alloc (.cells #[.int .u8 (d.toNat:Nat)] 5)) 62 5 9 (by kernel_rfl) (by kernel_rfl) (by kernel_rfl) W.heap.size 0 (tx [d]) (fun i hi=>by
  rw [tx_size] at hi
  have hi:i < 1:=hi
  obtain rfl:i=0:=by omega
  have hr:=World.alloc_heap_new W (.cells #[.int .u8 (d.toNat:Nat)] 5)
  have hc:(W.alloc (.cells #[.int .u8 (d.toNat:Nat)] 5)).cell? ⟨W.heap.size,0,none⟩=some (.int .u8 (d.toNat:Nat)):=by
   simp only [World.cell?,hr]
   rfl
  exact hc) 1
 exact h
theorem digits_r (n l:Nat) (hn:n ≤ 999999999999999) (hl:l ≤ 3) (w:World) :
  Calls Tryz.prog 49 #[.int .i64 n,.int .i64 l] w fun e w'=>e = .returned (.string (tx (Bare.padD n l)))∧New w w':=by
 have hlen:=padD_len _ n l (Nat.le_refl _)
 have hN0:New w w:=Mods.refl _ _
 obtain ⟨F,hF⟩:∃ F,Bare.padD n l=F:=⟨_,rfl⟩
 rw [hF] at hlen ⊢
 have hFl:F.length ≤ 1000000000000010:=by omega
 go_enter Tryz.func49,Tryz.ntmps49
 go_wp2_with fail
 go_loopw [0,1,5] (fun a b o wr=>∃ (n':Nat) (li:Int) (out:Bare.Bs),n' ≤ 999999999999999∧a = .int .i64 n'∧b = .int .i64 li∧o = .string (tx out)∧li ≤ 3∧Hid (F=Bare.padD n' li.toNat ++ out)∧-1000000000000010 ≤ li + 0∧(li + out.length=l)∧New w wr) (fun a b _ _=>(intOf a).toNat + (intOf b).toNat)
 case atStart=>exact ⟨n,l,[],hn,rfl,rfl,rfl,by omega,Lib.hid (by rw [← hF];simp),by omega,by simp,hN0⟩
 case round =>
  obtain ⟨n',li,out,hn',rfl,rfl,rfl,hl3,hp,hlo,hlen',hN⟩:=hrel
  by_cases hstop:n'=0∧li ≤ 0
  ·obtain ⟨rfl,hl0⟩:=hstop
   have hp:=hp.out
   rw [show li.toNat=0 by omega,Bare.padD_done,List.nil_append] at hp
   subst hp
   go_wp2_with fail
   go_ret
   exact ⟨rfl,hN⟩
  ·have hlo1:out.length + 1 ≤ F.length:=by
    rw [hp.out,Bare.padD_step (by omega),List.length_append,List.length_append];show _ ≤ _ + 1 + _;omega
   have hos:(tx out).size=out.length:=tx_size out
   have hm:(n':Int) % 10=((n' % 10:Nat):Int):=by omega
   have hcv:=run_one wr (UInt8.ofNat (48 + n' % 10)) (48 + (n':Int) % 10) (by simp;omega)
   have hds:(tx [UInt8.ofNat (48 + n' % 10)]).size=1:=tx_size _
   have hA:=hN.alloc (.cells #[.int .u8 (48 + (n':Int) % 10)] 5)
   have hp2:Hid (F=Bare.padD (n' / 10) (li - 1).toNat ++ ([UInt8.ofNat (48 + n' % 10)] ++ out)):=Lib.hid (by
    rw [hp.out,Bare.padD_step (by omega),show (li - 1).toNat=li.toNat - 1 by omega,List.append_assoc])
   have hjo:tx [UInt8.ofNat (48 + n' % 10)] ++ tx out=tx ([UInt8.ofNat (48 + n' % 10)] ++ out):=by rw [cat_bl,bl_tx,bl_tx]
   obtain ⟨d,hd⟩:∃ d,UInt8.ofNat (48 + n' % 10)=d:=⟨_,rfl⟩
   rw [hd] at hcv hds hp2 hjo
   clear hm hp hd
   by_cases hz:0 < n'
   ·clear hstop
    go_wp2_with fail
    go_round
    case rel=>exact ⟨n' / 10,li - 1,[d] ++ out,by omega,by go_num,rfl,rfl,by omega,hp2,by omega,by simp;omega,hA⟩
    case measure=>simp [intOf];omega
   ·have hl1:0 < li:=by omega
    clear hstop
    go_wp2_with fail
    go_round
    case rel=>exact ⟨n' / 10,li - 1,[d] ++ out,by omega,by go_num,rfl,rfl,by omega,hp2,by omega,by simp;omega,hA⟩
    case measure=>simp [intOf];omega


theorem tok_bad2 (k:Nat) (c:UInt8):((k == 0 && (!Bare.letB c && !(c == 42))) || (!Bare.letB c && (!Bare.digB c && !Bare.marks.contains c))) = !tokAt k c:=by
 have h42:c=42→Bare.marks.contains c=true:=by rintro rfl;decide
 unfold tokAt Bare.headTok Bare.inTok
 by_cases hk:k=0
 ·subst hk
  by_cases h:c=42
  ·have hm:=h42 h
   have hb:(c == 42)=true:=by simpa using h
   rw [hm,hb,if_pos rfl]
   cases Bare.letB c <;> cases Bare.digB c <;> rfl
  ·have hb:(c == 42)=false:=by simpa using h
   rw [hb,if_pos rfl]
   cases Bare.letB c <;> cases Bare.digB c <;> cases Bare.marks.contains c <;> rfl
 ·have:(k == 0)=false:=by simpa using hk
  rw [if_neg hk,this]
  cases Bare.letB c <;> cases Bare.digB c <;> cases Bare.marks.contains c <;> rfl
theorem token_r (s:ByteArray) (w:World) (hs:s.size ≤ 9223372036854775807) :
    Calls Tryz.prog 16 #[.string s] w fun e w'=>e = .returned (.bool (Bare.tokB (bl s)))∧w'=w:=by
  have HB:=Lib.hid (tokB_at (bl s))
  obtain ⟨r,hr⟩:∃ r,Bare.tokB (bl s)=r:=⟨_,rfl⟩
  rw [hr] at HB ⊢
  clear hr
  go_enter Tryz.func16,Tryz.ntmps16
  go_wp2_with fail
  go_loop [3,4] (fun c _=>∃ k:Nat,k ≤ s.size∧c = .int .i64 k∧Hid (∀ j,j < k→tokAt j (gb s j)=true)) (fun c _=>s.size - (intOf c).toNat)
  case atStart=>exact ⟨0,Nat.zero_le _,rfl,Lib.hid fun i hi=>by omega⟩
  case round =>
    obtain ⟨k,hk,rfl,hbef⟩:=hrel
    by_cases hlt:k < s.size
    · have hix:=run_idx s k hlt
      have hnext:tokAt k (gb s k)=true→Hid (∀ j,j < k + 1→tokAt j (gb s j)=true):=fun hg=>Lib.hid fun i hi=>by
        by_cases hik:i < k
        · exact hbef.out i hik
        · obtain rfl:i=k:=by omega
          exact hg
      have hstop:tokAt k (gb s k)=false→r=false:=fun hg=>by
        rw [Bool.eq_false_iff]
        intro h
        have:=(HB.out.1 h).2 k _ (gb_get s k hlt)
        rw [hg] at this;cases this
      have Hbad:=Lib.hid (tok_bad2 k (gb s k))
      have HL:=Lib.hid (letter_r (gb s k))
      have HD:=Lib.hid (digit_r (gb s k))
      have HM:∀ W,Calls Tryz.prog 66 (#[Value.int .u8 ((gb s k).toNat:Nat)] ++ #[]) W fun e w'=>e = .returned (.bool (Bare.marks.contains (gb s k)))∧w'=W:=mark_r (gb s k)
      replace HM:=Lib.hid HM
      have hEM:(gb s k == 42)=true→Bare.marks.contains (gb s k)=true:=fun h=>by rw [eq_of_beq h];decide
      have h42:((gb s k) == 42)=decide (((gb s k).toNat:Int)=42):=by
        rw [Bool.eq_iff_iff,beq_iff_eq,decide_eq_true_eq,← UInt8.toNat_inj]
        show (gb s k).toNat=42 ↔ _
        omega
      have hk0:(k == 0)=decide ((k:Int)=0):=by
        rw [Bool.eq_iff_iff,beq_iff_eq,decide_eq_true_eq];omega
      rw [h42,hk0] at Hbad
      rw [h42] at hEM
      clear hbef h42 hk0
      obtain ⟨T,hT⟩:∃ x,tokAt k (gb s k)=x:=⟨_,rfl⟩
      obtain ⟨L,hL⟩:∃ x,Bare.letB (gb s k)=x:=⟨_,rfl⟩
      obtain ⟨D,hD⟩:∃ x,Bare.digB (gb s k)=x:=⟨_,rfl⟩
      obtain ⟨M,hM⟩:∃ x,Bare.marks.contains (gb s k)=x:=⟨_,rfl⟩
      rw [hT] at Hbad hnext hstop
      rw [hL] at Hbad HL
      rw [hD] at Hbad HD
      rw [hM] at Hbad HM hEM
      obtain ⟨n,hn⟩:∃ x,(gb s k).toNat=x:=⟨_,rfl⟩
      rw [hn] at HL HD HM Hbad hix hEM
      clear hT hL hD hM hn
      obtain ⟨E,hE⟩:∃ x,decide ((n:Int)=42)=x:=⟨_,rfl⟩
      have hE2:((n:Int) == 42)=E:=hE
      have hE3:((n:Int) != 42) = !E:=by rw [← hE2];rfl
      obtain ⟨Z,hZ⟩:∃ x,decide ((k:Int)=0)=x:=⟨_,rfl⟩
      have hZ2:((k:Int) == 0)=Z:=hZ
      rw [hE,hZ] at Hbad
      rw [hE] at hEM
      have hcase:(Z=true∧L=true∧T=true) ∨ (Z=false∧L=true∧T=true) ∨ (Z=true∧L=false∧E=true∧D=true∧T=true) ∨ (Z=true∧L=false∧E=true∧D=false∧M=true∧T=true) ∨ (Z=true∧L=false∧E=false∧T=false) ∨ (Z=false∧L=false∧D=true∧T=true) ∨ (Z=false∧L=false∧D=false∧M=true∧T=true) ∨ (Z=false∧L=false∧D=false∧M=false∧T=false):=by
        have:=Hbad.out
        revert this hEM
        cases L <;> cases E <;> cases Z <;> cases D <;> cases M <;> cases T <;> simp
      clear Hbad hEM
      rcases hcase with ⟨rfl,rfl,rfl⟩ | ⟨rfl,rfl,rfl⟩ | ⟨rfl,rfl,rfl,rfl,rfl⟩ | ⟨rfl,rfl,rfl,rfl,rfl,rfl⟩ | ⟨rfl,rfl,rfl,rfl⟩ | ⟨rfl,rfl,rfl,rfl⟩ | ⟨rfl,rfl,rfl,rfl,rfl⟩ | ⟨rfl,rfl,rfl,rfl,rfl⟩
      all_goals
        try simp only [Bool.not_true,Bool.not_false] at hE3
        first
        | (have hh:=hnext rfl
           clear hnext hstop
           go_wp2_with (first | (go_at_call 61;refine (HL.out _).mono ?_;rintro e w' ⟨rfl,rfl⟩) | (go_at_call 58;refine (HD.out _).mono ?_;rintro e w' ⟨rfl,rfl⟩) | (go_at_call 66;refine (HM.out _).mono ?_;rintro e w' ⟨rfl,rfl⟩))
           go_round
           case rel=>exact ⟨k + 1,by omega,by go_num,hh⟩
           case measure=>simp [intOf];omega)
        | (have hh:=hstop rfl
           clear hnext hstop
           subst hh
           go_wp2_with (first | (go_at_call 61;refine (HL.out _).mono ?_;rintro e w' ⟨rfl,rfl⟩) | (go_at_call 58;refine (HD.out _).mono ?_;rintro e w' ⟨rfl,rfl⟩) | (go_at_call 66;refine (HM.out _).mono ?_;rintro e w' ⟨rfl,rfl⟩))
           go_ret
           exact ⟨rfl,rfl⟩)
    · obtain rfl:k=s.size:=by omega
      have hr:r=decide (0 < s.size):=by
        rw [Bool.eq_iff_iff,HB.out,decide_eq_true_eq]
        have hl:=bl_len s
        constructor
        · rintro ⟨h,-⟩
          have:=List.length_pos_iff.2 h
          omega
        · intro h
          refine ⟨fun e=>by rw [e] at hl;simp at hl;omega,fun k c hk=>?_⟩
          obtain ⟨h1,rfl⟩:=get_gb hk
          exact hbef.out k h1
      subst hr
      clear HB hbef
      by_cases h0:0 < s.size
      · go_wp2_with fail
        go_ret
        exact ⟨by simp [h0],rfl⟩
      · go_wp2_with fail
        go_ret
        exact ⟨by simp [h0],rfl⟩


theorem right_r (b:Bare.It) (hl:b.text.length ≤ 100000000) (w:World) :
  Calls Tryz.prog 14 #[bv b] w fun e w'=>e = .returned (.bool (Bare.rightI b))∧New w w':=by
 obtain ⟨k,n,t,y⟩:=b
 obtain ⟨hN,hr⟩:=box_row w ⟨k,n,t,y⟩
 unfold bv bcs at *
 simp only at hN hr hl ⊢
 have ht:=tx_empty t
 have HT:=Lib.hid (fun W=>token_r (tx t) W (by rw [tx_size];omega))
 have HA:=Lib.hid (all_gb (tx t) Bare.plnB)
 have hts:(tx t).size ≤ 100000000:=by rw [tx_size];exact hl
 rw [bl_tx] at HT HA
 unfold Bare.rightI
 simp only
 obtain ⟨z,hz⟩:∃ z,t.isEmpty=z:=⟨_,rfl⟩
 rw [hz] at ht ⊢
 obtain ⟨T,hT⟩:∃ T,Bare.tokB t=T:=⟨_,rfl⟩
 rw [hT] at HT ⊢
 obtain ⟨P,hP⟩:∃ P,t.all Bare.plnB=P:=⟨_,rfl⟩
 rw [hP] at HA ⊢
 obtain ⟨s,hs⟩:∃ s,tx t=s:=⟨_,rfl⟩
 rw [hs] at hr hN ht HT HA hts ⊢
 clear hs hz hT hP hl
 obtain ⟨W,hW⟩:∃ W,w.alloc (.cells #[.int .u8 k,.int .i64 n,.string s,.bool y] 23)=W:=⟨_,rfl⟩
 have hW2:=Lib.hid hW
 have hN2:=hN
 rw [hW] at hN2
 obtain ⟨B,hB⟩:∃ B,w.heap.size=B:=⟨_,rfl⟩
 have hr2:=hr
 rw [hW,hB] at hr2
 have hB2:=Lib.hid hB
 obtain ⟨⟨c0,c1,c2,c3⟩,-⟩:=row_facts hr2
 clear hr hN hr2 hW hB
 by_cases h1:k=1
 ·subst h1
  rw [if_pos (.inl rfl)]
  clear HA HT
  have hc:(decide (-999999999999999 ≤ n)=false) ∨ (decide (-999999999999999 ≤ n)=true∧decide (n ≤ 999999999999999)=false) ∨ (decide (-999999999999999 ≤ n)=true∧decide (n ≤ 999999999999999)=true∧z=false) ∨ (decide (-999999999999999 ≤ n)=true∧decide (n ≤ 999999999999999)=true∧z=true):=by
   cases decide (-999999999999999 ≤ n) <;> cases decide (n ≤ 999999999999999) <;> cases z <;> simp
  unfold Bare.most
  rcases hc with d1 | ⟨d1,d2⟩ | ⟨d1,d2,rfl⟩ | ⟨d1,d2,rfl⟩
  all_goals
   (first | rw [d1,d2] | rw [d1])
   go_enter Tryz.func14,Tryz.ntmps14
   go_upto_region 1 with fail
   rw [hW2.out,hB2.out]
   clear hW2 hB2
   go_wp2_with fail
   go_ret
   exact ⟨rfl,hN2⟩
 by_cases h2:k=2
 ·subst h2
  rw [if_pos (.inr rfl)]
  clear HA HT
  have hc:(decide (-999999999999999 ≤ n)=false) ∨ (decide (-999999999999999 ≤ n)=true∧decide (n ≤ 999999999999999)=false) ∨ (decide (-999999999999999 ≤ n)=true∧decide (n ≤ 999999999999999)=true∧z=false) ∨ (decide (-999999999999999 ≤ n)=true∧decide (n ≤ 999999999999999)=true∧z=true):=by
   cases decide (-999999999999999 ≤ n) <;> cases decide (n ≤ 999999999999999) <;> cases z <;> simp
  unfold Bare.most
  rcases hc with d1 | ⟨d1,d2⟩ | ⟨d1,d2,rfl⟩ | ⟨d1,d2,rfl⟩
  all_goals
   (first | rw [d1,d2] | rw [d1])
   go_enter Tryz.func14,Tryz.ntmps14
   go_upto_region 1 with fail
   rw [hW2.out,hB2.out]
   clear hW2 hB2
   go_wp2_with fail
   go_ret
   exact ⟨rfl,hN2⟩
 rw [if_neg (by omega)]
 by_cases h3:k=3
 ·subst h3
  rw [if_pos rfl]
  clear HT ht
  obtain ⟨R,hR⟩:∃ R,(decide (n=0) && (!y && P))=R:=⟨_,rfl⟩
  rw [hR]
  replace hR:=Lib.hid hR
  go_enter Tryz.func14,Tryz.ntmps14
  go_upto_region 1 with fail
  rw [hW2.out,hB2.out]
  clear hW2 hB2
  go_upto_region 7 with fail
  go_loop [3] (fun c=>∃ k:Nat,k ≤ s.size∧c = .int .i64 k∧Hid (∀ j,j < k→Bare.plnB (gb s j)=true)) (fun c=>s.size - (intOf c).toNat)
  case atStart=>exact ⟨0,Nat.zero_le _,rfl,Lib.hid fun i hi=>by omega⟩
  case round =>
   obtain ⟨k,hk,rfl,hbef⟩:=hrel
   by_cases hlt:k < s.size
   ·have hix:=run_idx s k hlt
    have hnext:Bare.plnB (gb s k)=true→Hid (∀ j,j < k + 1→Bare.plnB (gb s j)=true):=fun hg=>Lib.hid fun i hi=>by
     by_cases hik:i < k
     ·exact hbef.out i hik
     ·obtain rfl:i=k:=by omega
      exact hg
    have hstop:Bare.plnB (gb s k)=false→R=false:=fun hg=>by
     have:P=false:=by
      rw [Bool.eq_false_iff]
      intro h
      have:=HA.out.1 h k hlt
      rw [hg] at this;cases this
     rw [← hR.out,this,Bool.and_false,Bool.and_false]
    have hpl:Bare.plnB (gb s k)=(decide (32 ≤ (gb s k).toNat) && decide ((gb s k).toNat ≤ 126)):=rfl
    rw [hpl] at hnext hstop
    obtain ⟨m,hm⟩:∃ m,(gb s k).toNat=m:=⟨_,rfl⟩
    rw [hm] at hix hnext hstop
    clear hpl hm hbef
    by_cases h1:m < 32
    ·have hh:=hstop (by simp;omega)
     clear hstop hnext
     subst hh
     go_wp2_with fail
     go_ret
     exact ⟨rfl,hN2⟩
    by_cases h2:126 < m
    ·have hh:=hstop (by simp;omega)
     clear hstop hnext
     subst hh
     go_wp2_with fail
     go_ret
     exact ⟨rfl,hN2⟩
    have hh:=hnext (by simp;omega)
    clear hstop hnext
    go_wp2_with fail
    go_round
    case rel=>exact ⟨k + 1,by omega,by go_num,hh⟩
    case measure=>simp [intOf];omega
   ·obtain rfl:k=s.size:=by omega
    have hP:=HA.out.2 hbef.out
    have hR:=hR.out
    subst hP
    clear HA hbef
    have hc:decide (n=0)=false ∨ (decide (n=0)=true∧y=true) ∨ (decide (n=0)=true∧y=false):=by
     cases decide (n=0) <;> cases y <;> simp
    have d2:(n == 0)=decide (n=0):=rfl
    rcases hc with d1 | ⟨d1,rfl⟩ | ⟨d1,rfl⟩
    all_goals
     rw [d1] at d2 hR
     subst hR
     go_wp2_with fail
     go_ret
     exact ⟨by simp,hN2⟩
 rw [if_neg h3]
 by_cases h4:k=4
 ·subst h4
  rw [if_pos rfl]
  clear HA ht
  have hc:T=false ∨ (T=true∧decide (n=0)=false) ∨ (T=true∧decide (n=0)=true∧y=true) ∨ (T=true∧decide (n=0)=true∧y=false):=by
   cases T <;> cases decide (n=0) <;> cases y <;> simp
  have d2:(n == 0)=decide (n=0):=rfl
  rcases hc with rfl | ⟨rfl,d1⟩ | ⟨rfl,d1,rfl⟩ | ⟨rfl,d1,rfl⟩
  ·rw [Bool.and_false,Bool.and_false]
   clear d2
   go_enter Tryz.func14,Tryz.ntmps14
   go_upto_region 1 with fail
   rw [hW2.out,hB2.out]
   clear hW2 hB2
   go_wp2_with (go_at_call 16;refine (HT.out _).mono ?_;rintro e w' ⟨rfl,rfl⟩)
   go_ret
   exact ⟨rfl,hN2⟩
  all_goals
   rw [d1] at d2 ⊢
   go_enter Tryz.func14,Tryz.ntmps14
   go_upto_region 1 with fail
   rw [hW2.out,hB2.out]
   clear hW2 hB2
   go_wp2_with (go_at_call 16;refine (HT.out _).mono ?_;rintro e w' ⟨rfl,rfl⟩)
   go_ret
   exact ⟨by simp,hN2⟩
 rw [if_neg h4]
 by_cases h5:k=5
 ·subst h5
  rw [if_pos rfl]
  clear HA ht HT
  have hc:decide (n=0)=false ∨ (decide (n=0)=true∧y=true) ∨ (decide (n=0)=true∧y=false):=by
   cases decide (n=0) <;> cases y <;> simp
  have d2:(n == 0)=decide (n=0):=rfl
  rcases hc with d1 | ⟨d1,rfl⟩ | ⟨d1,rfl⟩
  all_goals
   rw [d1] at d2 ⊢
   go_enter Tryz.func14,Tryz.ntmps14
   go_upto_region 1 with fail
   rw [hW2.out,hB2.out]
   clear hW2 hB2
   go_wp2_with fail
   go_ret
   exact ⟨by simp,hN2⟩
 rw [if_neg h5]
 by_cases h6:k=6
 ·subst h6
  rw [if_pos rfl]
  clear HA HT
  have hc:decide (n=0)=false ∨ (decide (n=0)=true∧z=true) ∨ (decide (n=0)=true∧z=false):=by
   cases decide (n=0) <;> cases z <;> simp
  have d2:(n == 0)=decide (n=0):=rfl
  rcases hc with d1 | ⟨d1,rfl⟩ | ⟨d1,rfl⟩
  all_goals
   rw [d1] at d2 ⊢
   go_enter Tryz.func14,Tryz.ntmps14
   go_upto_region 1 with fail
   rw [hW2.out,hB2.out]
   clear hW2 hB2
   go_wp2_with fail
   go_ret
   exact ⟨by simp,hN2⟩
 rw [if_neg h6]
 clear HA HT ht
 have g1:(k == 1)=false:=by simpa using h1
 have g2:(k == 2)=false:=by simpa using h2
 have g3:(k == 3)=false:=by simpa using h3
 have g4:(k == 4)=false:=by simpa using h4
 have g5:(k == 5)=false:=by simpa using h5
 have g6:(k == 6)=false:=by simpa using h6
 clear h1 h2 h3 h4 h5 h6
 go_enter Tryz.func14,Tryz.ntmps14
 go_upto_region 1 with fail
 rw [hW2.out,hB2.out]
 clear hW2 hB2
 go_wp2_with fail
 go_ret
 exact ⟨rfl,hN2⟩


theorem read_end0 {fn:Func} {R:Ending→World→Prop} {tmps:Array Value} {W:World} {B:Nat} {a b c d v v2:Value} (hf:fn.results = #[.cell 0 23,.tmp 1,.tmp 2]) (hp:tmps.getD 0 undef = .pointer (some ⟨B,0,none⟩)) (hq:tmps.getD 1 undef=v) (hr:tmps.getD 2 undef=v2)
  (hg:W.heap[B]? = some (.cells #[a,b,c,d] 23 (0,0))) (hR:R (.returned (.tuple #[.agg #[a,b,c,d],v,v2])) W):bodyPost Tryz.prog fn R .ret ⟨tmps,[]⟩ W :=
 bodyPost_ret (results_row3 (p:=0) (q:=1) (r:=2) hf tmps W B 23 #[a,b,c,d] (0,0) _ hp hg Tryz.underlying23 rfl info_bare hq hr) rfl hR
theorem none_r (w:World):Calls Tryz.prog 57 #[] w (ReadP none w):=by
 unfold ReadP bv bcs noIt
 simp only
 obtain ⟨hN,hr⟩:=no_row w
 go_enter Tryz.func57,Tryz.ntmps57
 go_upto_region 1 with fail
 obtain ⟨W,hW⟩:∃ W,w.alloc (.cells #[.int .u8 0,.int .i64 0,.string ⟨#[]⟩,.bool false] 23)=W:=⟨_,rfl⟩
 rw [hW] at hN hr ⊢
 obtain ⟨B,hB⟩:∃ B,w.heap.size=B:=⟨_,rfl⟩
 have hBw:w.heap.size ≤ B:=by omega
 rw [hB] at hr ⊢
 clear hW hB
 obtain ⟨⟨c0,c1,c2,c3⟩,f0,f1,f2,f3⟩:=row_facts hr
 go_wp2_with fail
 obtain ⟨hN2,hr2⟩:=set4 hN hBw hr (.int .u8 0) (.int .i64 0) (.string ⟨#[]⟩) (.bool false)
 obtain ⟨W2,hW2⟩:∃ W2,((((W.setCell ⟨B,0,none⟩ (.int .u8 0)).setCell ⟨B,1,none⟩ (.int .i64 0)).setCell ⟨B,2,none⟩ (.string ⟨#[]⟩)).setCell ⟨B,3,none⟩ (.bool false))=W2:=⟨_,rfl⟩
 rw [hW2] at hN2 hr2 ⊢
 exact read_end0 (by kernel_rfl) rfl rfl rfl hr2 ⟨rfl,hN2⟩


theorem quoted_r (s:ByteArray) (w:World) (hs:s.size ≤ 1000000) (h0:0 < s.size) :
  Calls Tryz.prog 60 #[.string s] w (ReadP (Bare.quoted [] ((bl s).drop 1)) w):=by
 obtain ⟨i0,hi,hz0,hz1,hz2⟩:=info_parts infoB'
 have HNo:=Lib.hid (fun W=>none_r W)
 unfold ReadP bv bcs noIt at HNo
 simp only at HNo
 obtain ⟨r,hr'⟩:∃ r,Bare.quoted [] ((bl s).drop 1)=r:=⟨_,rfl⟩
 have HR:=Lib.hid hr'
 rw [hr']
 clear hr'
 obtain ⟨hN,hr⟩:=no_row w
 go_enter Tryz.func60,Tryz.ntmps60
 go_upto_region 1 with fail
 obtain ⟨W0,hW⟩:∃ W,w.alloc (.cells #[.int .u8 0,.int .i64 0,.string ⟨#[]⟩,.bool false] 23)=W:=⟨_,rfl⟩
 rw [hW] at hN hr ⊢
 obtain ⟨B,hB⟩:∃ B,w.heap.size=B:=⟨_,rfl⟩
 have hBw:w.heap.size ≤ B:=by omega
 rw [hB] at hr ⊢
 clear hW hB
 go_upto_region 3 with fail
 go_loopw [5,6,7] (fun v i _ W=>∃ (k:Nat) (acc:Bare.Bs),k ≤ s.size∧i = .int .i64 k∧acc.length ≤ k∧W.ownsRow (B + 1) 5 1 v acc.length (u8s acc)∧W.heap[B]? = some (.cells #[.int .u8 0,.int .i64 0,.string ⟨#[]⟩,.bool false] 23 (0,0))∧New w W∧Hid (Bare.quoted acc ((bl s).drop k)=r)) (fun _ i _ _=>s.size - (intOf i).toNat)
 case atStart=>exact ⟨1,[],by omega,rfl,by simp,World.ownsRow_nil _ _ _ _,hr,hN,HR⟩
 case round =>
  clear hr hN HR
  obtain ⟨W,hWW⟩:∃ W,W=wr:=⟨_,rfl⟩
  subst hWW
  obtain ⟨k,acc,hk,rfl,hacc,hown,hr,hN,HR⟩:=hrel
  obtain ⟨⟨c0,c1,c2,c3⟩,f0,f1,f2,f3⟩:=row_facts hr
  have hBl:B < W.heap.size:=(Array.getElem?_eq_some_iff.1 hr).1
  by_cases hlt:k < s.size
  ·have hix:=run_idx s k hlt
   have hqa:=quoted_at acc s k hlt
   rw [HR.out] at hqa
   obtain ⟨n,hn⟩:∃ n,(gb s k).toNat=n:=⟨_,rfl⟩
   obtain ⟨t34,t34n⟩:=byte_test (gb s k) 34 (by decide) n hn
   obtain ⟨t92,t92n⟩:=byte_test (gb s k) 92 (by decide) n hn
   rw [show UInt8.ofNat 34=34 from rfl] at t34
   rw [show UInt8.ofNat 92=92 from rfl] at t92
   have t34:((n:Int) == 34)=decide (gb s k=34):=t34
   have t92:((n:Int) == 92)=decide (gb s k=92):=t92
   have hnc:(gb s k).toNat=n:=hn
   have hp:Bare.plnB (gb s k)=(decide (32 ≤ n) && decide (n ≤ 126)):=by unfold Bare.plnB;rw [hn]
   rw [hn] at hix
   clear t34n t92n HR hn
   have hkb:(k:Int) ≤ 1000000:=by omega
   by_cases h34:gb s k=34
   ·have hp34:Bare.plnB (gb s k)=true:=by rw [h34];decide
    rw [hp34,if_neg (by decide),if_pos h34] at hqa
    rw [decide_eq_true h34] at t34
    clear hp34
    have hcv:=conv_own (w:=W.drew) hown
    have hsl:∀ W,(Instr.slice 9 (.string s) (some (.int .i64 ((k:Int) + 1))) none none).run Tryz.prog W = .ok (.string (tx ((bl s).drop (k + 1)))) W:=fun W=>run_sl_l s (k + 1) (by omega) W
    subst hqa
    unfold ReadP bv bcs
    simp only
    obtain ⟨x,hx⟩:∃ x,tx acc=x:=⟨_,rfl⟩
    obtain ⟨y,hy⟩:∃ y,tx ((bl s).drop (k + 1))=y:=⟨_,rfl⟩
    rw [hx] at hcv ⊢
    rw [hy] at hsl ⊢
    clear hx hy hp h34 t92 hacc hk
    go_upto_region 7 with fail
    go_region
    obtain ⟨hN2,hr2⟩:=set4 hN hBw hr (.int .u8 3) (.int .i64 0) (.string x) (.bool false)
    have hN2:=hN2.drew
    have hr2:((((W.setCell ⟨B,0,none⟩ (.int .u8 3)).setCell ⟨B,1,none⟩ (.int .i64 0)).setCell ⟨B,2,none⟩ (.string x)).setCell ⟨B,3,none⟩ (.bool false)).drew.heap[B]? = some (.cells #[(.int .u8 3),(.int .i64 0),(.string x),(.bool false)] 23 (0,0)):=hr2
    obtain ⟨W2,hW2⟩:∃ W2,((((W.setCell ⟨B,0,none⟩ (.int .u8 3)).setCell ⟨B,1,none⟩ (.int .i64 0)).setCell ⟨B,2,none⟩ (.string x)).setCell ⟨B,3,none⟩ (.bool false)).drew=W2:=⟨_,rfl⟩
    rw [hW2] at hN2 hr2 ⊢
    go_wp2_with fail
    exact read_end (by kernel_rfl) rfl rfl rfl hr2 ⟨rfl,hN2⟩
   rw [decide_eq_false h34] at t34
   by_cases h92:gb s k=92
   ·have hp92:Bare.plnB (gb s k)=true:=by rw [h92];decide
    rw [hp92,if_neg (by decide),if_neg h34,if_pos h92] at hqa
    rw [decide_eq_true h92] at t92
    clear hp92
    by_cases hk1:k + 1 < s.size
    ·have hge1:¬ (s.size:Int) ≤ (k:Int) + 1:=by omega
     have hix2:∀ W,(Instr.index 9 (.string s) (.int .i64 ((k:Int) + 1))).run Tryz.prog W = .ok (.int .u8 ((gb s (k + 1)).toNat:Nat)) W:=fun W=>run_idx s (k + 1) hk1 W
     obtain ⟨m,hm⟩:∃ m,(gb s (k + 1)).toNat=m:=⟨_,rfl⟩
     obtain ⟨-,m34⟩:=byte_test (gb s (k + 1)) 34 (by decide) m hm
     obtain ⟨-,m92⟩:=byte_test (gb s (k + 1)) 92 (by decide) m hm
     rw [show UInt8.ofNat 34=34 from rfl] at m34
     rw [show UInt8.ofNat 92=92 from rfl] at m92
     have m34:((m:Int) != 34) = !decide (gb s (k + 1)=34):=m34
     have m92:((m:Int) != 92) = !decide (gb s (k + 1)=92):=m92
     have hmc:(gb s (k + 1)).toNat=m:=hm
     rw [hm] at hix2
     by_cases hok:gb s (k + 1)=34 ∨ gb s (k + 1)=92
     ·rw [if_pos ⟨hk1,hok⟩] at hqa
      have hm32:32 ≤ m∧m ≤ 126:=by rw [← hmc];rcases hok with h | h <;> rw [h] <;> decide
      obtain ⟨hm32,hm126⟩:=hm32
      obtain ⟨a,ha⟩:∃ a,decide (gb s (k + 1)=34)=a:=⟨_,rfl⟩
      obtain ⟨b,hb⟩:∃ b,decide (gb s (k + 1)=92)=b:=⟨_,rfl⟩
      have hab:a=true ∨ (a=false∧b=true):=by
       rw [← ha,← hb]
       by_cases h:gb s (k + 1)=34
       ·exact .inl (decide_eq_true h)
       ·exact .inr ⟨decide_eq_false h,decide_eq_true (hok.resolve_left h)⟩
      rw [ha] at m34
      rw [hb] at m92
      clear ha hb hok hm hp h34 h92
      rcases hab with rfl | ⟨rfl,rfl⟩
      ·have m34:((m:Int) != 34)=false:=m34
       clear m92
       go_upto_region 15 with fail
       go_wp2_with (at_builtin;refine wpList_append_own _ rfl _ _ 62 rfl (B + 1) 5 i0 _ 1 1 Tryz.underlying62 hi hz0 hz1 hz2 rfl (by decide) _ _ _ rfl (hown.alloc _) ⟨W.heap.size,0,none⟩ 1 1 [.int .u8 (m:Nat)] rfl rfl (cell_one_new _ _ _) (by simp [Value.oneCell']) (by unfold maxLen;omega) (by have:=hown.1;simp;omega) (by simp;omega) ?_)
       intro v' W2 hown' hgrow _
       have hk2:New W (W.alloc (.cells #[.int .u8 (m:Nat)] 5)):=(Mods.refl _ _).alloc _
       have hN3:New w W2:=(hN.alloc _).grown hgrow (fun g hg=>.inl (by have:=(hown.lt g hg).1;omega))
       have hr3:W2.heap[B]? = some (.cells #[.int .u8 0,.int .i64 0,.string ⟨#[]⟩,.bool false] 23 (0,0)):=by
        have h2:=hk2.heap hr id
        have h3:Mods (fun b=>B + 1 ≤ b) (W.alloc (.cells #[.int .u8 (m:Nat)] 5)) W2:=(Mods.refl _ _).grown hgrow (fun g hg=>.inr ⟨(hown.lt g hg).1,own_cells (hown.alloc _) hg⟩)
        exact h3.heap h2 (by omega)
       have hown3:W2.ownsRow (B + 1) 5 1 v' (acc ++ [gb s (k + 1)]).length (u8s (acc ++ [gb s (k + 1)])):=by
        have:u8s (acc ++ [gb s (k + 1)])=u8s acc ++ [.int .u8 (m:Nat)]:=by rw [u8s_snoc,hmc]
        rw [this,List.length_append]
        exact hown'
       clear hown hown' hgrow c0 c1 c2 c3 f0 f1 f2 f3 hk2
       go_wp2_with fail
       go_round
       case rel=>exact ⟨k + 2,acc ++ [gb s (k + 1)],by omega,by go_num,by rw [List.length_append];show acc.length + 1 ≤ _;omega,hown3,hr3,hN3,Lib.hid hqa.symm⟩
       case measure=>simp [intOf];omega
      ·have m34:((m:Int) != 34)=true:=m34
       have m92:((m:Int) != 92)=false:=m92
       go_upto_region 15 with fail
       go_wp2_with (at_builtin;refine wpList_append_own _ rfl _ _ 62 rfl (B + 1) 5 i0 _ 1 1 Tryz.underlying62 hi hz0 hz1 hz2 rfl (by decide) _ _ _ rfl (hown.alloc _) ⟨W.heap.size,0,none⟩ 1 1 [.int .u8 (m:Nat)] rfl rfl (cell_one_new _ _ _) (by simp [Value.oneCell']) (by unfold maxLen;omega) (by have:=hown.1;simp;omega) (by simp;omega) ?_)
       intro v' W2 hown' hgrow _
       have hk2:New W (W.alloc (.cells #[.int .u8 (m:Nat)] 5)):=(Mods.refl _ _).alloc _
       have hN3:New w W2:=(hN.alloc _).grown hgrow (fun g hg=>.inl (by have:=(hown.lt g hg).1;omega))
       have hr3:W2.heap[B]? = some (.cells #[.int .u8 0,.int .i64 0,.string ⟨#[]⟩,.bool false] 23 (0,0)):=by
        have h2:=hk2.heap hr id
        have h3:Mods (fun b=>B + 1 ≤ b) (W.alloc (.cells #[.int .u8 (m:Nat)] 5)) W2:=(Mods.refl _ _).grown hgrow (fun g hg=>.inr ⟨(hown.lt g hg).1,own_cells (hown.alloc _) hg⟩)
        exact h3.heap h2 (by omega)
       have hown3:W2.ownsRow (B + 1) 5 1 v' (acc ++ [gb s (k + 1)]).length (u8s (acc ++ [gb s (k + 1)])):=by
        have:u8s (acc ++ [gb s (k + 1)])=u8s acc ++ [.int .u8 (m:Nat)]:=by rw [u8s_snoc,hmc]
        rw [this,List.length_append]
        exact hown'
       clear hown hown' hgrow c0 c1 c2 c3 f0 f1 f2 f3 hk2
       go_wp2_with fail
       go_round
       case rel=>exact ⟨k + 2,acc ++ [gb s (k + 1)],by omega,by go_num,by rw [List.length_append];show acc.length + 1 ≤ _;omega,hown3,hr3,hN3,Lib.hid hqa.symm⟩
       case measure=>simp [intOf];omega
     ·rw [if_neg (fun h=>hok h.2)] at hqa
      have n34:((m:Int) != 34)=true:=by rw [m34,decide_eq_false (fun h=>hok (.inl h))];rfl
      have n92:((m:Int) != 92)=true:=by rw [m92,decide_eq_false (fun h=>hok (.inr h))];rfl
      clear m34 m92
      subst hqa
      unfold ReadP bv bcs noIt
      simp only
      clear hok hm hmc hp h34 h92
      go_wp2_with fail
      refine (HNo.out _).mono ?_
      rintro e wn ⟨rfl,hNn⟩
      have hN:=hN.trans hNn
      have hr:=hNn.heap hr id
      clear c0 c1 c2 c3 f0 f1 f2 f3 hNn
      obtain ⟨⟨c0,c1,c2,c3⟩,f0,f1,f2,f3⟩:=row_facts hr
      go_wp2_with fail
      obtain ⟨hN2,hr2⟩:=set4 hN hBw hr (.int .u8 0) (.int .i64 0) (.string ⟨#[]⟩) (.bool false)
      obtain ⟨W2,hW2⟩:∃ W2,((((wn.setCell ⟨B,0,none⟩ (.int .u8 0)).setCell ⟨B,1,none⟩ (.int .i64 0)).setCell ⟨B,2,none⟩ (.string ⟨#[]⟩)).setCell ⟨B,3,none⟩ (.bool false))=W2:=⟨_,rfl⟩
      rw [hW2] at hN2 hr2 ⊢
      exact read_end (by kernel_rfl) rfl rfl rfl hr2 ⟨rfl,hN2⟩
    ·have hge1':(s.size:Int) ≤ (k:Int) + 1:=by omega
     rw [if_neg (fun h=>hk1 h.1)] at hqa
     subst hqa
     unfold ReadP bv bcs noIt
     simp only
     clear hp h34 h92 hk1
     go_wp2_with fail
     refine (HNo.out _).mono ?_
     rintro e wn ⟨rfl,hNn⟩
     have hN:=hN.trans hNn
     have hr:=hNn.heap hr id
     clear c0 c1 c2 c3 f0 f1 f2 f3 hNn
     obtain ⟨⟨c0,c1,c2,c3⟩,f0,f1,f2,f3⟩:=row_facts hr
     go_wp2_with fail
     obtain ⟨hN2,hr2⟩:=set4 hN hBw hr (.int .u8 0) (.int .i64 0) (.string ⟨#[]⟩) (.bool false)
     obtain ⟨W2,hW2⟩:∃ W2,((((wn.setCell ⟨B,0,none⟩ (.int .u8 0)).setCell ⟨B,1,none⟩ (.int .i64 0)).setCell ⟨B,2,none⟩ (.string ⟨#[]⟩)).setCell ⟨B,3,none⟩ (.bool false))=W2:=⟨_,rfl⟩
     rw [hW2] at hN2 hr2 ⊢
     exact read_end (by kernel_rfl) rfl rfl rfl hr2 ⟨rfl,hN2⟩
   rw [decide_eq_false h92] at t92
   by_cases h32:n < 32
   ·have hpf:Bare.plnB (gb s k)=false:=by rw [hp];simp;omega
    rw [hpf,if_pos rfl] at hqa
    subst hqa
    unfold ReadP bv bcs noIt
    simp only
    clear hp h34 h92 hpf
    go_wp2_with fail
    refine (HNo.out _).mono ?_
    rintro e wn ⟨rfl,hNn⟩
    have hN:=hN.trans hNn
    have hr:=hNn.heap hr id
    clear c0 c1 c2 c3 f0 f1 f2 f3 hNn
    obtain ⟨⟨c0,c1,c2,c3⟩,f0,f1,f2,f3⟩:=row_facts hr
    go_wp2_with fail
    obtain ⟨hN2,hr2⟩:=set4 hN hBw hr (.int .u8 0) (.int .i64 0) (.string ⟨#[]⟩) (.bool false)
    obtain ⟨W2,hW2⟩:∃ W2,((((wn.setCell ⟨B,0,none⟩ (.int .u8 0)).setCell ⟨B,1,none⟩ (.int .i64 0)).setCell ⟨B,2,none⟩ (.string ⟨#[]⟩)).setCell ⟨B,3,none⟩ (.bool false))=W2:=⟨_,rfl⟩
    rw [hW2] at hN2 hr2 ⊢
    exact read_end (by kernel_rfl) rfl rfl rfl hr2 ⟨rfl,hN2⟩
   by_cases h126:126 < n
   ·have hpf:Bare.plnB (gb s k)=false:=by rw [hp];simp;omega
    rw [hpf,if_pos rfl] at hqa
    subst hqa
    unfold ReadP bv bcs noIt
    simp only
    clear hp h34 h92 hpf
    go_wp2_with fail
    refine (HNo.out _).mono ?_
    rintro e wn ⟨rfl,hNn⟩
    have hN:=hN.trans hNn
    have hr:=hNn.heap hr id
    clear c0 c1 c2 c3 f0 f1 f2 f3 hNn
    obtain ⟨⟨c0,c1,c2,c3⟩,f0,f1,f2,f3⟩:=row_facts hr
    go_wp2_with fail
    obtain ⟨hN2,hr2⟩:=set4 hN hBw hr (.int .u8 0) (.int .i64 0) (.string ⟨#[]⟩) (.bool false)
    obtain ⟨W2,hW2⟩:∃ W2,((((wn.setCell ⟨B,0,none⟩ (.int .u8 0)).setCell ⟨B,1,none⟩ (.int .i64 0)).setCell ⟨B,2,none⟩ (.string ⟨#[]⟩)).setCell ⟨B,3,none⟩ (.bool false))=W2:=⟨_,rfl⟩
    rw [hW2] at hN2 hr2 ⊢
    exact read_end (by kernel_rfl) rfl rfl rfl hr2 ⟨rfl,hN2⟩
   have hpt:Bare.plnB (gb s k)=true:=by rw [hp];simp;omega
   rw [hpt,if_neg (by decide),if_neg h34,if_neg h92] at hqa
   clear hp h34 h92 hpt
   go_upto_region 15 with fail
   go_wp2_with (at_builtin;refine wpList_append_own _ rfl _ _ 62 rfl (B + 1) 5 i0 _ 1 1 Tryz.underlying62 hi hz0 hz1 hz2 rfl (by decide) _ _ _ rfl (hown.alloc _) ⟨W.heap.size,0,none⟩ 1 1 [.int .u8 (n:Nat)] rfl rfl (cell_one_new _ _ _) (by simp [Value.oneCell']) (by unfold maxLen;omega) (by have:=hown.1;simp;omega) (by simp;omega) ?_)
   intro v' W2 hown' hgrow _
   have hk2:New W (W.alloc (.cells #[.int .u8 (n:Nat)] 5)):=(Mods.refl _ _).alloc _
   have hN3:New w W2:=(hN.alloc _).grown hgrow (fun g hg=>.inl (by have:=(hown.lt g hg).1;omega))
   have hr3:W2.heap[B]? = some (.cells #[.int .u8 0,.int .i64 0,.string ⟨#[]⟩,.bool false] 23 (0,0)):=by
    have h2:=hk2.heap hr id
    have h3:Mods (fun b=>B + 1 ≤ b) (W.alloc (.cells #[.int .u8 (n:Nat)] 5)) W2:=(Mods.refl _ _).grown hgrow (fun g hg=>.inr ⟨(hown.lt g hg).1,own_cells (hown.alloc _) hg⟩)
    exact h3.heap h2 (by omega)
   have hown3:W2.ownsRow (B + 1) 5 1 v' (acc ++ [gb s k]).length (u8s (acc ++ [gb s k])):=by
    have:u8s (acc ++ [gb s k])=u8s acc ++ [.int .u8 (n:Nat)]:=by rw [u8s_snoc,hnc]
    rw [this,List.length_append]
    exact hown'
   clear hown hown' hgrow c0 c1 c2 c3 f0 f1 f2 f3 hk2
   go_wp2_with fail
   go_round
   case rel=>exact ⟨k + 1,acc ++ [gb s k],by omega,by go_num,by rw [List.length_append];show acc.length + 1 ≤ _;omega,hown3,hr3,hN3,Lib.hid hqa.symm⟩
   case measure=>simp [intOf];omega
  ·have hqa:=quoted_end acc s k (by omega)
   rw [HR.out] at hqa
   clear HR
   subst hqa
   unfold ReadP bv bcs noIt
   simp only
   go_wp2_with fail
   refine (HNo.out _).mono ?_
   rintro e wn ⟨rfl,hNn⟩
   have hN:=hN.trans hNn
   have hr:=hNn.heap hr id
   clear c0 c1 c2 c3 f0 f1 f2 f3 hNn
   obtain ⟨⟨c0,c1,c2,c3⟩,f0,f1,f2,f3⟩:=row_facts hr
   go_wp2_with fail
   obtain ⟨hN2,hr2⟩:=set4 hN hBw hr (.int .u8 0) (.int .i64 0) (.string ⟨#[]⟩) (.bool false)
   obtain ⟨W2,hW2⟩:∃ W2,((((wn.setCell ⟨B,0,none⟩ (.int .u8 0)).setCell ⟨B,1,none⟩ (.int .i64 0)).setCell ⟨B,2,none⟩ (.string ⟨#[]⟩)).setCell ⟨B,3,none⟩ (.bool false))=W2:=⟨_,rfl⟩
   rw [hW2] at hN2 hr2 ⊢
   exact read_end (by kernel_rfl) rfl rfl rfl hr2 ⟨rfl,hN2⟩


theorem v6_s6:∀ k:Fin 64,Bare.v6 (Bare.s6 k.1)=some k.1:=by decide +kernel
theorem gb_six (k:Nat) (h:k < 64):gb (tx Bare.sx) k=Bare.s6 k:=by
 have:=gb_get (tx Bare.sx) k h
 rw [bl_tx] at this
 unfold Bare.s6
 rw [List.getD_eq_getElem?_getD,this]
 rfl
def sixV (c:UInt8):Int:=match Bare.v6 c with | some v=>(v:Int) | none=>-1
theorem six_r (c:UInt8) (w:World):Calls Tryz.prog 64 #[.int .u8 (c.toNat:Nat)] w fun e w'=>e = .returned (.int .i64 (sixV c))∧w'=w:=by
 obtain ⟨r,hr⟩:∃ r,sixV c=r:=⟨_,rfl⟩
 have hy:∀ k,k < 64→gb (tx Bare.sx) k=c→r=(k:Int):=fun k hk hg=>by
  rw [← hr,← hg,gb_six k hk]
  unfold sixV
  rw [v6_s6 ⟨k,hk⟩]
 have hn:(∀ k,k < 64→gb (tx Bare.sx) k ≠ c)→r = -1:=fun h=>by
  rw [← hr]
  unfold sixV
  cases hv:Bare.v6 c with
  | none=>rfl
  | some v =>
   obtain ⟨h1,h2⟩:=Bare.v6_facts hv
   exact absurd (by rw [gb_six v h1];exact h2) (h v h1)
 rw [hr]
 clear hr
 have hi:∀ k,k < 64→∀ W,(Instr.index 9 (.string ⟨#[65,66,67,68,69,70,71,72,73,74,75,76,77,78,79,80,81,82,83,84,85,86,87,88,89,90,97,98,99,100,101,102,103,104,105,106,107,108,109,110,111,112,113,114,115,116,117,118,119,120,121,122,48,49,50,51,52,53,54,55,56,57,43,47]⟩) (.int .i64 (k:Nat))).run Tryz.prog W = .ok (.int .u8 ((gb (tx Bare.sx) k).toNat:Nat)) W:=fun k hk=>run_idx (tx Bare.sx) k hk
 go_enter Tryz.func64,Tryz.ntmps64
 go_wp2_with fail
 go_loop [3] (fun c'=>∃ k:Nat,k ≤ 64∧c' = .int .i64 k∧Hid (∀ j,j < k→gb (tx Bare.sx) j ≠ c)) (fun c=>64 - (intOf c).toNat)
 case atStart=>exact ⟨0,Nat.zero_le _,rfl,Lib.hid fun i hi=>by omega⟩
 case round =>
  obtain ⟨k,hk,rfl,hbef⟩:=hrel
  by_cases hlt:k < 64
  ·have hix:=hi k hlt
   have hnext:gb (tx Bare.sx) k ≠ c→Hid (∀ j,j < k + 1→gb (tx Bare.sx) j ≠ c):=fun hg=>Lib.hid fun i hi=>by
    by_cases hik:i < k
    ·exact hbef.out i hik
    ·obtain rfl:i=k:=by omega
     exact hg
   have hstop:=hy k hlt
   by_cases hg:gb (tx Bare.sx) k=c
   ·have hh:=hstop hg
    rw [hg] at hix
    clear hnext hstop hg hbef hi hy hn
    subst hh
    obtain ⟨n,hn⟩:∃ n,c.toNat=n:=⟨_,rfl⟩
    rw [hn] at hix ⊢
    go_wp2_with fail
    go_ret
    exact ⟨rfl,rfl⟩
   ·have hh:=hnext hg
    have hne:((gb (tx Bare.sx) k).toNat:Int) ≠ (c.toNat:Int):=fun e=>hg (UInt8.toNat_inj.1 (Int.ofNat_inj.1 e))
    obtain ⟨m,hm⟩:∃ m,(gb (tx Bare.sx) k).toNat=m:=⟨_,rfl⟩
    rw [hm] at hix hne
    obtain ⟨n,hn⟩:∃ n,c.toNat=n:=⟨_,rfl⟩
    rw [hn] at hne ⊢
    have heq:((m:Int) == (n:Int))=false:=by simpa using hne
    clear hnext hstop hg hbef hi hy hm hne
    go_wp2_with fail
    go_round
    case rel=>exact ⟨k + 1,by omega,by go_num,hh⟩
    case measure=>simp [intOf];omega
  ·obtain rfl:k=64:=by omega
   have hh:=hn hbef.out
   clear hi hy hn hbef
   subst hh
   go_wp2_with fail
   go_ret
   exact ⟨rfl,rfl⟩


theorem run_sx (k:Nat) (h:k < 64) (W:World):(Instr.index 9 (.string ⟨#[65,66,67,68,69,70,71,72,73,74,75,76,77,78,79,80,81,82,83,84,85,86,87,88,89,90,97,98,99,100,101,102,103,104,105,106,107,108,109,110,111,112,113,114,115,116,117,118,119,120,121,122,48,49,50,51,52,53,54,55,56,57,43,47]⟩) (.int .i64 (k:Nat))).run Tryz.prog W = .ok (.int .u8 ((Bare.s6 k).toNat:Nat)) W:=by
 have:=run_idx (tx Bare.sx) k h W
 rw [gb_six k h] at this
 exact this
theorem lit67 (t:Array Value) (h:t.size=67):∃ u:Nat→Value,t=(u 0::u 1::u 2::u 3::u 4::u 5::u 6::u 7::u 8::u 9::u 10::u 11::u 12::u 13::u 14::u 15::u 16::u 17::u 18::u 19::u 20::u 21::u 22::u 23::u 24::u 25::u 26::u 27::u 28::u 29::u 30::u 31::u 32::u 33::u 34::u 35::u 36::u 37::u 38::u 39::u 40::u 41::u 42::u 43::u 44::u 45::u 46::u 47::u 48::u 49::u 50::u 51::u 52::u 53::u 54::u 55::u 56::u 57::u 58::u 59::u 60::u 61::u 62::u 63::u 64::u 65::u 66::([]:List Value)).toArray:=⟨fun i=>t.getD i undef,range_lit t 67 h⟩
noncomputable def reg_causeyref12_Sixes_13:Code:=((Tryz.f18.body.bind (regionOf 13)).getD .skip)
theorem sixes13 (t:Array Value) (hs:t.size=67) (w:World) {N a0 a1 a2 a3:Nat}
  (hq5:t.getD 5 undef = .int .i64 N)
  (e0:(N:Int) / 262144=(a0:Int)) (e1:(N:Int) / 4096 % 64=(a1:Int)) (e2:(N:Int) / 64 % 64=(a2:Int)) (e3:(N:Int) % 64=(a3:Int)) (h0:a0 < 64) (h1:a1 < 64) (h2:a2 < 64) (h3:a3 < 64) (w0:IntKind.i64.wrap (a0:Int)=(a0:Int)) (w1:IntKind.i64.wrap ((N:Int) / 4096)=(N:Int) / 4096) (w2:IntKind.i64.wrap ((N:Int) / 64)=(N:Int) / 64) :
  reg_causeyref12_Sixes_13.wp Tryz.prog (Only fun a' W'=>∃ z:Nat→Value,∃ X,a'=⟨((pz t z [38,39,40,41,42,43,44,45,46,47,48,49,50,51,52]).setIfInBounds 8 (.slice (some ⟨X,0,none⟩) 4 4)),[]⟩∧W'.heap[X]? = some (.cells #[.int .u8 ((Bare.s6 a0).toNat:Nat),.int .u8 ((Bare.s6 a1).toNat:Nat),.int .u8 ((Bare.s6 a2).toNat:Nat),.int .u8 ((Bare.s6 a3).toNat:Nat)] 5 (0,0))∧w.heap.size ≤ X∧New w W') ⟨t,[]⟩ w:=by
 conv=>arg 2;whnf
 obtain ⟨u,rfl⟩:=lit67 t hs
 have hq5:u 5 = _:=hq5
 rw [hq5]
 clear hq5 hs
 refine wp_region_held (S:=fun W=>New w W) (by kernel_rfl) ?_
 show wpAnyH _ _ _ _ _ 16 _ _ w.drew
 have hN:New w w.drew:=(Mods.refl _ _).drew
 have hS:New w w.drew:=(Mods.refl _ _).drew
 refine tkI 0 (some 38) (.int .i64 N) hS ?_
 simp only [pS]
 refine tkA 1 rfl (some 39) (.int .i64 a0) (.inl ⟨by rfl,fun W hW=>by go_simp;first | done | exact w0 | exact e0⟩) hS ?_
 simp only [pS]
 refine tkA 2 rfl (some 40) (.int .u8 ((Bare.s6 a0).toNat:Nat)) (.inl ⟨by rfl,fun W hW=>by have hz:=run_sx a0 h0 W;go_simp⟩) hS ?_
 simp only [pS]
 refine tkI 3 (some 41) (.int .i64 N) hS ?_
 simp only [pS]
 refine tkA 4 rfl (some 42) (.int .i64 ((N:Int) / 4096)) (.inl ⟨by rfl,fun W hW=>by go_simp;first | done | exact w1⟩) hS ?_
 simp only [pS]
 refine tkA 5 rfl (some 43) (.int .i64 a1) (.inl ⟨by rfl,fun W hW=>by go_simp;first | done | exact e1⟩) hS ?_
 simp only [pS]
 refine tkA 6 rfl (some 44) (.int .u8 ((Bare.s6 a1).toNat:Nat)) (.inl ⟨by rfl,fun W hW=>by have hz:=run_sx a1 h1 W;go_simp⟩) hS ?_
 simp only [pS]
 refine tkI 7 (some 45) (.int .i64 N) hS ?_
 simp only [pS]
 refine tkA 8 rfl (some 46) (.int .i64 ((N:Int) / 64)) (.inl ⟨by rfl,fun W hW=>by go_simp;first | done | exact w2⟩) hS ?_
 simp only [pS]
 refine tkA 9 rfl (some 47) (.int .i64 a2) (.inl ⟨by rfl,fun W hW=>by go_simp;first | done | exact e2⟩) hS ?_
 simp only [pS]
 refine tkA 10 rfl (some 48) (.int .u8 ((Bare.s6 a2).toNat:Nat)) (.inl ⟨by rfl,fun W hW=>by have hz:=run_sx a2 h2 W;go_simp⟩) hS ?_
 simp only [pS]
 refine tkI 11 (some 49) (.int .i64 N) hS ?_
 simp only [pS]
 refine tkA 12 rfl (some 50) (.int .i64 a3) (.inl ⟨by rfl,fun W hW=>by go_simp;first | done | exact e3⟩) hS ?_
 simp only [pS]
 refine tkA 13 rfl (some 51) (.int .u8 ((Bare.s6 a3).toNat:Nat)) (.inl ⟨by rfl,fun W hW=>by have hz:=run_sx a3 h3 W;go_simp⟩) hS ?_
 simp only [pS]
 refine tkO 14 ?_
 refine opH_value (some 52) rfl (by rfl) rfl (v:=.slice (some ⟨w.drew.heap.size,0,none⟩) 4 4) (w':=w.drew.alloc (.cells #[.int .u8 ((Bare.s6 a0).toNat:Nat),.int .u8 ((Bare.s6 a1).toNat:Nat),.int .u8 ((Bare.s6 a2).toNat:Nat),.int .u8 ((Bare.s6 a3).toNat:Nat)] 5)) (by go_simp) ?_
 have hA:New w.drew (w.drew.alloc (.cells #[.int .u8 ((Bare.s6 a0).toNat:Nat),.int .u8 ((Bare.s6 a1).toNat:Nat),.int .u8 ((Bare.s6 a2).toNat:Nat),.int .u8 ((Bare.s6 a3).toNat:Nat)] 5)):=(Mods.refl _ _).alloc _
 have rX:=World.alloc_heap_new w.drew (.cells #[.int .u8 ((Bare.s6 a0).toNat:Nat),.int .u8 ((Bare.s6 a1).toNat:Nat),.int .u8 ((Bare.s6 a2).toNat:Nat),.int .u8 ((Bare.s6 a3).toNat:Nat)] 5)
 have hS:=hS.trans hA
 refine ⟨hS,?_⟩
 simp only [pS]
 refine tkI 15 (some 8) (.slice (some ⟨w.drew.heap.size,0,none⟩) 4 4) hS ?_
 simp only [pS]
 refine wpAnyH_done (by kernel_rfl) ?_ _
 exact zc1 _ rfl ⟨rX,hN.size,hS⟩
def nv (l:Bare.Bs):Nat→Nat
 | 0=>0
 | m + 1=>nv l m * 256 + (l.getD m 0).toNat
theorem nv_chunk (l:Bare.Bs):(Bare.chunk l).1=nv l 3:=by
 unfold Bare.chunk nv nv nv nv
 simp only
 omega
theorem nv_lt (l:Bare.Bs):nv l 2 ≤ 65535∧nv l 1 ≤ 255∧nv l 0=0:=by
 unfold nv nv nv
 have h0:=UInt8.toNat_lt (l.getD 0 0)
 have h1:=UInt8.toNat_lt (l.getD 1 0)
 omega
theorem nv_small (l:Bare.Bs) {m:Nat} (h:m < 3):nv l m ≤ 65535:=by
 have:=nv_lt l
 rcases (by omega:m=0 ∨ m=1 ∨ m=2) with rfl | rfl | rfl <;> omega
theorem sixes_step {l:Bare.Bs} (h:l ≠ []):Bare.sixes l=Bare.four (Bare.chunk l) ++ Bare.sixes (l.drop 3):=by
 rw [Bare.sixes_four,Bare.chunks_cons h,List.flatMap_cons,← Bare.sixes_four]
theorem four_cells {N h a0 a1 a2 a3:Nat} (e0:(N:Int) / 262144=(a0:Int)) (e1:(N:Int) / 4096 % 64=(a1:Int)) (e2:(N:Int) / 64 % 64=(a2:Int)) (e3:(N:Int) % 64=(a3:Int)) (h0:a0 < 64) (hh:1 ≤ h) :
  u8s (Bare.four (N,h)) = [.int .u8 ((Bare.s6 a0).toNat:Nat),.int .u8 ((Bare.s6 a1).toNat:Nat),.int .u8 ((if h < 2 then 61 else Bare.s6 a2).toNat:Nat),.int .u8 ((if h < 3 then 61 else Bare.s6 a3).toNat:Nat)]:=by
 have f0:N / 2 ^ (18 - 6 * 0) % 64=a0:=by simp;omega
 have f1:N / 2 ^ (18 - 6 * 1) % 64=a1:=by simp;omega
 have f2:N / 2 ^ (18 - 6 * 2) % 64=a2:=by simp;omega
 have f3:N / 2 ^ (18 - 6 * 3) % 64=a3:=by simp;omega
 unfold Bare.four Bare.letterOf
 simp only [f0,f1,f2,f3]
 rw [if_neg (by omega:¬ h < 0),if_neg (by omega:¬ h < 1)]
 rfl
theorem sixes_r (s:ByteArray) (w:World) (hs:s.size ≤ 1000000) :
  Calls Tryz.prog 18 #[.string s] w fun e w'=>e = .returned (.string (tx (Bare.sixes (bl s))))∧New w w':=by
 obtain ⟨i0,hi,hz0,hz1,hz2⟩:=info_parts infoB'
 obtain ⟨R,hR⟩:∃ R,Bare.sixes (bl s)=R:=⟨_,rfl⟩
 have HR:Hid (([]:Bare.Bs) ++ Bare.sixes ((bl s).drop 0)=R):=Lib.hid (by simpa using hR)
 rw [hR]
 clear hR
 have hN0:New w w:=Mods.refl _ _
 obtain ⟨B,hB⟩:∃ B,w.heap.size=B:=⟨_,rfl⟩
 have hown0:=World.ownsRow_nil w B 5 1
 have hNs:∀ W,New w W→B ≤ W.heap.size:=fun W h=>by have:=h.size;omega
 go_enter Tryz.func18,Tryz.ntmps18
 go_upto_region 3 with fail
 go_loopw [3,4] (fun v i W=>∃ (j:Nat) (acc:Bare.Bs),j ≤ s.size + 2∧i = .int .i64 j∧acc.length ≤ 2 * j∧W.ownsRow B 5 1 v acc.length (u8s acc)∧New w W∧Hid (acc ++ Bare.sixes ((bl s).drop j)=R)) (fun _ i _=>s.size + 3 - (intOf i).toNat)
 case atStart=>exact ⟨0,[],by omega,rfl,by simp,hown0,hN0,HR⟩
 case round =>
  clear HR hN0 hown0
  obtain ⟨wo,hwo⟩:∃ x,x=wr:=⟨_,rfl⟩
  subst hwo
  obtain ⟨j,acc,hj,rfl,hal,hown,hN,HR⟩:=hrel
  by_cases hlt:j < s.size
  ·obtain ⟨l,hl⟩:∃ l,(bl s).drop j=l:=⟨_,rfl⟩
   have hll:l.length=s.size - j:=by rw [← hl,List.length_drop,bl_len]
   have hlg:∀ m,j + m < s.size→l.getD m 0=gb s (j + m):=fun m hm=>by
    rw [← hl,List.getD_eq_getElem?_getD,List.getElem?_drop,gb_get s (j + m) hm];rfl
   have hl0:∀ m,¬ j + m < s.size→l.getD m 0=0:=fun m hm=>by
    rw [List.getD_eq_getElem?_getD,List.getElem?_eq_none (by omega)];rfl
   have hst:=sixes_step (l:=l) (by intro e;rw [e] at hll;simp at hll;omega)
   have hR2:acc ++ (Bare.four (Bare.chunk l) ++ Bare.sixes ((bl s).drop (j + 3)))=R:=by
    rw [← HR.out,hl,hst,← hl,List.drop_drop]
   have HR2:=Lib.hid hR2
   obtain ⟨hv,hhv⟩:∃ h,s.size - j=h:=⟨_,rfl⟩
   have hv1:1 ≤ hv:=by omega
   have hjv:s.size=j + hv:=by omega
   have HL:=Lib.hid (And.intro hlg hl0)
   have HOW:=Lib.hid hown
   have hch:Bare.chunk l=(nv l 3,min 3 hv):=by
    rw [← nv_chunk]
    unfold Bare.chunk
    rw [hll,hhv]
   have HCH:=Lib.hid hch
   have HJV:=Lib.hid hjv
   have hsj:(s.size:Int)=(j:Int) + (hv:Int):=by omega
   have hjb:(j:Int) + (hv:Int) ≤ 1000000:=by omega
   clear hst hR2 hlg hl0 hown HR hl hll hhv hch hjv
   go_upto_region 7 with fail
   go_loop [5,6,7] (fun a b c=>∃ m:Nat,m ≤ 3∧a = .int .i64 (nv l m:Nat)∧b = .int .i64 (min m hv:Nat)∧c = .int .i64 m) (fun _ _ c=>3 - (intOf c).toNat)
   case atStart=>exact ⟨0,by omega,rfl,by simp,rfl⟩
   case round =>
    obtain ⟨m,hm,rfl,rfl,rfl⟩:=hrel
    by_cases hm3:m < 3
    ·have hb:=nv_small l hm3
     obtain ⟨x,hx⟩:∃ x,nv l m=x:=⟨_,rfl⟩
     have hx1:nv l (m + 1)=x * 256 + (l.getD m 0).toNat:=by rw [← hx];rfl
     rw [hx] at hb ⊢
     by_cases hin:m < hv
     ·have hmi:min m hv=m:=by omega
      have hmi2:min (m + 1) hv=m + 1:=by omega
      have hsz:=HJV.out
      have hix:=run_idx s (j + m) (by omega)
      have hg:=HL.out.1 m (by omega)
      have hix2:∀ W,(Instr.index 9 (.string s) (.int .i64 ((j:Int) + (m:Int)))).run Tryz.prog W = .ok (.int .u8 ((l.getD m 0).toNat:Nat)) W:=fun W=>by rw [hg];exact hix W
      obtain ⟨b,hbb⟩:∃ b,(l.getD m 0).toNat=b:=⟨_,rfl⟩
      have hb256:b < 256:=by rw [← hbb];exact UInt8.toNat_lt _
      rw [hbb] at hix2 hx1
      rw [hmi]
      have hlj:(j:Int) + (m:Int) < (j:Int) + (hv:Int):=by omega
      clear hmi hix hg hbb hx hsz
      go_wp2_with fail
      go_round
      case rel=>exact ⟨m + 1,by omega,by rw [hx1];go_num,by rw [hmi2];go_num,by go_num⟩
      case measure=>simp [intOf];omega
     ·have hmi:min m hv=hv:=by omega
      have hmi2:min (m + 1) hv=hv:=by omega
      have hg:=HL.out.2 m (by have:=HJV.out;omega)
      rw [hg] at hx1
      rw [hmi]
      have hlj:¬ (j:Int) + (m:Int) < (j:Int) + (hv:Int):=by omega
      clear hmi hg hx
      go_wp2_with fail
      go_round
      case rel=>exact ⟨m + 1,by omega,by rw [hx1];simp,by rw [hmi2],by go_num⟩
      case measure=>simp [intOf];omega
    ·obtain rfl:m=3:=by omega
     have hNlt:nv l 3 < 16777216:=by rw [← nv_chunk];exact Bare.chunk_lt l
     have HCH2:=HCH.out
     obtain ⟨N,hNN⟩:∃ N,nv l 3=N:=⟨_,rfl⟩
     obtain ⟨h,hh⟩:∃ h,min 3 hv=h:=⟨_,rfl⟩
     have hh13:1 ≤ h∧h ≤ 3:=by omega
     obtain ⟨hh1,hh3⟩:=hh13
     rw [hNN] at hNlt HCH2 ⊢
     rw [hh] at HCH2 ⊢
     replace HCH2:=Lib.hid HCH2
     clear hNN hh hm hm3
     obtain ⟨a0,e0,h0⟩:∃ a:Nat,(N:Int) / 262144=(a:Int)∧a < 64:=⟨N / 262144,by omega,by omega⟩
     obtain ⟨a1,e1,h1⟩:∃ a:Nat,(N:Int) / 4096 % 64=(a:Int)∧a < 64:=⟨N / 4096 % 64,by omega,by omega⟩
     obtain ⟨a2,e2,h2⟩:∃ a:Nat,(N:Int) / 64 % 64=(a:Int)∧a < 64:=⟨N / 64 % 64,by omega,by omega⟩
     obtain ⟨a3,e3,h3⟩:∃ a:Nat,(N:Int) % 64=(a:Int)∧a < 64:=⟨N % 64,by omega,by omega⟩
     have HF:=Lib.hid (four_cells e0 e1 e2 e3 h0 hh1)
     go_upto_region 13 with fail
     refine piece (fun _=>_) (sixes13 _ rfl wo rfl e0 e1 e2 e3 h0 h1 h2 h3 (IntWalk.i64_in _ ⟨by omega,by omega⟩) (IntWalk.i64_in _ ⟨by omega,by omega⟩) (IntWalk.i64_in _ ⟨by omega,by omega⟩)) ?_
     rintro a' W1 ⟨z,X,rfl,rX,hXw,hN1⟩
     simp only [pS]
     have ho1:=Mods.ownsRow hN1 HOW.out (fun _ _ h=>h)
     have HOlt:=Lib.hid HOW.out.lt
     have HO1:=Lib.hid ho1
     clear e0 e1 e2 e3 h0 h1 h2 h3 hNlt ho1
     go_upto_region 15 with fail
     go_loopw [9] (fun t W=>∃ m:Nat,h + 1 ≤ m∧m ≤ 4∧t = .int .i64 m∧W.heap[X]? = some (.cells #[.int .u8 ((Bare.s6 a0).toNat:Nat),.int .u8 ((Bare.s6 a1).toNat:Nat),.int .u8 ((if h < 2∧2 < m then 61 else Bare.s6 a2).toNat:Nat),.int .u8 ((if h < 3∧3 < m then 61 else Bare.s6 a3).toNat:Nat)] 5 (0,0))∧Mods (fun b=>b=X) W1 W) (fun t _=>4 - (intOf t).toNat)
     case atStart=>exact ⟨h + 1,by omega,by omega,by go_num,by rw [if_neg (by omega),if_neg (by omega)];exact rX,Mods.refl _ _⟩
     case round =>
      obtain ⟨m,hm1,hm4,rfl,rX2,hM⟩:=hrel
      clear rX
      have hXl:=(Array.getElem?_eq_some_iff.1 rX2).1
      by_cases hlt4:m < 4
      ·have hmd:decide ((m:Int) < 4)=true:=decide_eq_true (by omega)
       rcases (by omega:m=2 ∨ m=3) with rfl | rfl
       ·have c2:=cell_of_row _ _ 2 _ _ _ rX2
        have f2:=frozen_row (i:=2) rX2
        have s2:=setCell_heap (i:=2) rX2 (.int .u8 61)
        simp only [List.getElem?_toArray,List.getElem?_cons_zero,List.getElem?_cons_succ] at c2
        simp only [pS] at s2
        have hM2:=hM.trans (setMods wr X 2 (.int .u8 61))
        clear rX2
        go_wp2_with fail
        go_roundw
        case rel=>exact ⟨3,by omega,by omega,by go_num,by rw [s2,if_pos (show h < 2∧2 < 3 by omega),if_neg (show ¬ (h < 3∧3 < 3) by omega),if_neg (show ¬ (h < 3∧3 < 2) by omega)];rfl,hM2⟩
        case measure=>simp [intOf]
       ·have c2:=cell_of_row _ _ 3 _ _ _ rX2
        have f2:=frozen_row (i:=3) rX2
        have s2:=setCell_heap (i:=3) rX2 (.int .u8 61)
        simp only [List.getElem?_toArray,List.getElem?_cons_zero,List.getElem?_cons_succ] at c2
        simp only [pS] at s2
        have hM2:=hM.trans (setMods wr X 3 (.int .u8 61))
        clear rX2
        go_wp2_with fail
        go_roundw
        case rel=>exact ⟨4,by omega,by omega,by go_num,by rw [s2,if_pos (show h < 3∧3 < 4 by omega)];congr 6;simp,hM2⟩
        case measure=>simp [intOf]
      ·obtain rfl:m=4:=by omega
       have ho2:=Mods.ownsRow hM HO1.out (fun g hg e=>by have:=(HOlt.out g hg).2;omega)
       have hN2:New w wr:=((Mods.ofNew (hN.trans hN1)).trans hM).new (fun g hg=>by have:=hNs _ hN;omega)
       have hf:=HF.out
       have e2:(if h < 2∧2 < 4 then (61:UInt8) else Bare.s6 a2)=if h < 2 then 61 else Bare.s6 a2:=by congr 1;simp
       have e3:(if h < 3∧3 < 4 then (61:UInt8) else Bare.s6 a3)=if h < 3 then 61 else Bare.s6 a3:=by congr 1;simp
       rw [e2,e3] at rX2
       have rX3:wr.heap[X]? = some (.cells (u8s (Bare.four (N,h))).toArray 5 (0,0)):=by rw [hf];exact rX2
       obtain ⟨F,hF⟩:∃ F,Bare.four (N,h)=F:=⟨_,rfl⟩
       have hFl:F.length=4:=by rw [← hF];rfl
       rw [hF] at rX3
       have HFF:=Lib.hid hF
       have hlu:(u8s F).length=4:=by rw [u8s_len];exact hFl
       have hou:∀ u ∈ u8s F,u.oneCell'=true:=fun u hu=>by
        obtain ⟨c,-,rfl⟩:=List.mem_map.1 hu
        rfl
       have HRX:=Lib.hid rX3
       have HO2:=Lib.hid ho2
       have hBW:=hNs _ hN2
       clear rX2 e2 e3 hf hF HF hm1 hm4 hlt4 rX3 ho2
       go_wp2_with (at_builtin;refine wpList_append_own _ rfl _ _ 62 rfl B 5 i0 _ 1 1 Tryz.underlying62 hi hz0 hz1 hz2 rfl (by decide) _ _ _ rfl HO2.out ⟨X,0,none⟩ 4 4 (u8s F) rfl (by rw [hlu]) (fun k u hk=>by rw [add_at,cell_of_row _ _ _ _ _ _ HRX.out];simpa using hk) hou (by unfold maxLen;omega) (by have:=HO2.out.1;omega) (by omega) ?_)
       intro v' W3 hown' hgrow _
       have hN3:New w W3:=hN2.grown hgrow (fun g hg=>.inl (by have:=(HO2.out.lt g hg).1;omega))
       have hown3:W3.ownsRow B 5 1 v' (acc ++ F).length (u8s (acc ++ F)):=by
        have:u8s (acc ++ F)=u8s acc ++ u8s F:=by simp [u8s]
        rw [this,List.length_append,hFl]
        exact hown'
       clear hown' hgrow
       go_wp2_with fail
       go_roundw
       case rel=>exact ⟨j + 3,acc ++ F,by omega,by go_num,by rw [List.length_append,hFl];omega,hown3,hN3,Lib.hid (by
        have:=HR2.out
        rw [HCH2.out,HFF.out] at this
        rw [List.append_assoc]
        exact this)⟩
       case measure=>simp [intOf];omega
  ·have hlj:¬ (j:Int) < (s.size:Int):=by omega
   have hnil:(bl s).drop j = []:=List.drop_eq_nil_of_le (by rw [bl_len];omega)
   have hac:acc=R:=by rw [← HR.out,hnil];simp [Bare.sixes]
   subst hac
   have hcv:=conv_own (w:=wo) hown
   clear HR hnil
   go_wp2_with fail
   go_ret
   exact ⟨rfl,hN⟩
end Go.Proofs.YtnknmmbnhoanfaaGreatDoor
