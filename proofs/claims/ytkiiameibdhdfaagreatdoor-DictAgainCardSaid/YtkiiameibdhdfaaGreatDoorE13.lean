/- Texts joined. -/
import Derived.Test.YtkiiameibdhdfaaGreatDoorE12
import Derived.Test.YtkiiameibdhdfaaGreatDoorE04
import Derived.Test.YtkiiameibdhdfaaGreatDoorE11
import Derived.Test.YtkiiameibdhdfaaGreatDoorE10
import Derived.Test.YtkiiameibdhdfaaGreatDoorE06
import Derived.Test.YtkiiameibdhdfaaGreatDoorE07
set_option linter.unusedSimpArgs false
set_option linter.unusedVariables false
set_option maxHeartbeats 16000000
set_option maxRecDepth 100000
namespace Go.Proofs.YtkiiameibdhdfaaGreatDoor
open Go.RowKit Go.Shelf Go.Cs
attribute [local go_sem] Oper.semAt_some


def PrX (x:Bare.Itm):Prop:=SmX x∧x.params.length ≤ 500
def PrM (m:Bare.Mem):Prop:=SmM m∧m.items.length ≤ 500∧m.params.length ≤ 500∧∀ x ∈ m.items,PrX x
def PrD (d:List Bare.Mem):Prop:=d.length ≤ 500∧∀ m ∈ d,PrM m
theorem toldP_len {L:List Bare.Par} (h:L.length ≤ 500) (hs:∀ p ∈ L,SmP p):(Bare.told L).length ≤ 100000000:=by
 have:=told_len L hs
 have:=Nat.mul_le_mul_right 200000 h
 omega
theorem toldI_len {x:Bare.Itm} (h:PrX x):(Bare.toldI x).length ≤ 100050000:=by
 have h1:=toldP_len h.2 h.1.2.2.2
 have h2:=text_len x.bare
 have h3:=h.1.2.1
 unfold Bare.toldI
 rw [List.length_append]
 omega
theorem joinI_len {L:List Bare.Itm} (h:L.length ≤ 500) (hs:∀ x ∈ L,PrX x):(Bare.joinW [32] (L.map Bare.toldI)).length ≤ 50030000000:=by
 have:=joinW_len [32] 100050001 (L.map Bare.toldI) (fun l hl=>by
  obtain ⟨x,hx,rfl⟩:=List.mem_map.1 hl
  have:=toldI_len (hs x hx)
  simp;omega)
 rw [List.length_map] at this
 have:=Nat.mul_le_mul_right 100050001 h
 omega
theorem toldM_len {m:Bare.Mem} (h:PrM m) (hm:m.inner=true ∨ m.items.length=1):(Bare.toldM m).length ≤ 50200000000:=by
 obtain ⟨h1,h2,h3,h4⟩:=h
 have hk:=h1.1
 unfold Bare.toldM
 split
 ·have:=joinI_len h2 h4
  have:=toldP_len h3 h1.2.2.2.2
  simp;omega
 ·rename_i hi
  have hl:m.items.length=1:=hm.resolve_left hi
  obtain ⟨x,hx⟩:∃ x,m.items = [x]:=List.length_eq_one_iff.1 hl
  have hx':=h4 x (by rw [hx];simp)
  have e:m.items.headD Bare.noI=x:=by rw [hx];rfl
  rw [e]
  have:=toldP_len hx'.2 hx'.1.2.2.2
  have:=valued_len x.bare
  have:=hx'.1.2.1
  simp;omega
theorem joinD_len {d:List Bare.Mem} (h:d.length ≤ 500) (hs:∀ m ∈ d,(Bare.toldM m).length ≤ 50200000000):(Bare.joinW [44,32] (d.map Bare.toldM)).length ≤ 140737488355328:=by
 have:=joinW_len [44,32] 50200000002 (d.map Bare.toldM) (fun l hl=>by
  obtain ⟨x,hx,rfl⟩:=List.mem_map.1 hl
  have:=hs x hx
  simp;omega)
 rw [List.length_map] at this
 have:=Nat.mul_le_mul_right 50200000002 h
 omega
theorem take_map_snoc {α:Type} (d:List α) (z:α) (f:α→Bare.Bs) (k:Nat) (hk:k < d.length):(d.map f).take (k + 1)=(d.map f).take k ++ [f (d.getD k z)]:=by
 have e:d.getD k z=d[k]:=by simp [List.getD,hk]
 rw [List.take_add_one,List.getElem?_map,List.getElem?_eq_getElem hk,e]
 rfl
theorem print_d {τ:Bool} (v:Value) (d:List Bare.Mem) (w:World) (h:RdD τ w v d) (hs:PrD d) (hT:Tab w) :
  Calls Tryz.prog 26 #[v] w fun e w'=>e = .returned (printV (Bare.printD d))∧New w w':=by
 have HR:=Lib.hid (right_d v d w h (fun m hm=>(hs.2 m hm).1))
 have HV:=Lib.hid h
 have HS:=Lib.hid hs.2
 have HT:=Lib.hid hT
 have hl:=hs.1
 obtain ⟨ao,cap,rfl⟩:=h.slice
 obtain ⟨n,hn⟩:∃ n,d.length=n:=⟨_,rfl⟩
 have Hn:=Lib.hid hn
 rw [hn] at hl HV HR ⊢
 have hN0:New w w:=Mods.refl _ _
 cases hr:Bare.rightD d with
 | false =>
  rw [hr] at HR
  have e:Bare.printD d=none:=by unfold Bare.printD;rw [hr];rfl
  rw [e]
  unfold printV
  clear h hs hT hn hr e
  go_enter Tryz.func26,Tryz.ntmps26
  go_wp2_with fail
  refine HR.out.mono ?_
  rintro e w1 ⟨rfl,hN1⟩
  go_wp2_with fail
  go_ret2
  exact ⟨rfl,hN1⟩
 | true =>
  rw [hr] at HR
  have e:Bare.printD d=some (Bare.joinW [44,32] (d.map Bare.toldM)):=by unfold Bare.printD;rw [hr];rfl
  have HM:Hid (∀ i,i < n→Bare.memB (d.getD i noM)=true):=Lib.hid (by
   have:d.all Bare.memB=true:=by unfold Bare.rightD at hr;rw [Bool.and_eq_true] at hr;exact hr.2
   rw [← hn];exact (all_upto d noM _).1 this)
  have hlen:∀ m ∈ d,(Bare.toldM m).length ≤ 50200000000:=fun m hm=>toldM_len (hs.2 m hm) (by
   have:d.all Bare.memB=true:=by unfold Bare.rightD at hr;rw [Bool.and_eq_true] at hr;exact hr.2
   have:=List.all_eq_true.1 this m hm
   rcases (Bare.mem_parts this).1 with h | h
   ·exact .inl h
   ·exact .inr h.1)
  have HJ:Hid ((Bare.joinW [44,32] (d.map Bare.toldM)).length ≤ 140737488355328):=Lib.hid (joinD_len hs.1 hlen)
  rw [e]
  unfold printV
  simp only
  clear h hs hT hn hr e hlen
  go_enter Tryz.func26,Tryz.ntmps26
  go_wp2_with fail
  refine HR.out.mono ?_
  rintro e w1 ⟨rfl,hN1⟩
  clear HR
  go_wp2_with fail
  go_loopw [4,17] (fun a t wr=>∃ k:Nat,k ≤ n∧t = .int .i64 k∧OwS w.heap.size wr a ((d.map Bare.toldM).take k)∧New w wr) (fun _ t _=>n - (intOf t).toNat)
  case atStart=>exact ⟨0,Nat.zero_le _,rfl,.nil _ _,hN1⟩
  case round =>
   clear hN1 hN0
   obtain ⟨k,hk,rfl,hown,hN⟩:=hrel
   by_cases hlt:k < n
   ·have hkd:decide ((k:Int) < (n:Int))=true:=decide_eq_true (by omega)
    have hlt':k < d.length:=by rw [Hn.out];exact hlt
    obtain ⟨iv,pv,h1,-,h3⟩:=HV.out
    obtain ⟨b,o,rfl,hrow⟩:=(h1.new hN).at.2.2 k hlt
    obtain ⟨hi,hp⟩:=h3 k hlt'
    have hsm:=HS.out _ (getD_mem (d:=noM) hlt')
    have hmB:=HM.out k hlt
    have Hnx:=Lib.hid (take_map_snoc d noM Bare.toldM k hlt')
    have hln:((d.map Bare.toldM).take k).length ≤ 2000000:=by rw [List.length_take];omega
    obtain ⟨⟨key,y,its,ps⟩,hme⟩:∃ m,d.getD k noM=m:=⟨_,rfl⟩
    rw [hme] at hrow hi hp hsm hmB Hnx
    obtain ⟨c0,c1,c2,c3⟩:=cells4 hrow
    have HTd:=Lib.hid (fun W (hW:New wr W)=>told_any (pv k) ps W (hp.new (hN.trans hW)) hsm.1.2.2.2.2 (by have:=hsm.2.2.1;simp only at this;omega) (HT.out.new (hN.trans hW)))
    have htl:(Bare.told ps).length ≤ 100000000:=toldP_len hsm.2.2.1 hsm.1.2.2.2.2
    obtain ⟨ia,ic,hie⟩:=hi.slice
    obtain ⟨pa,pc,hpe⟩:=hp.slice
    simp only at c0 c1 c2 c3 hie hpe hsm
    rw [hie] at c2
    rw [hpe] at c3 HTd
    have HI:=Lib.hid hi
    rw [hie] at HI
    obtain ⟨pl,hpl⟩:∃ x,ps.length=x:=⟨_,rfl⟩
    obtain ⟨td,htd⟩:∃ x,tx (Bare.told ps)=x:=⟨_,rfl⟩
    have Htd:=Lib.hid htd
    have hts:td.size ≤ 400000000000:=by rw [← htd,tx_size];omega
    obtain ⟨q,hq⟩:∃ x,tx key=x:=⟨_,rfl⟩
    have Hq:=Lib.hid hq
    have hqs:q.size ≤ 100000:=by rw [← hq,tx_size];exact hsm.1.1
    rw [hpl] at HTd c3
    rw [htd] at HTd
    rw [hq] at c0
    have HSM:=Lib.hid hsm
    have HMB:=Lib.hid hmB
    clear hrow hi hp h1 h3 hie hpe iv pv hme hpl htd hq htl hsm hmB HM HS HV HJ
    obtain ⟨il,hil⟩:∃ x,its.length=x:=⟨_,rfl⟩
    have Hil:=Lib.hid hil
    rw [hil] at c2 HI
    clear hil
    go_upto_region 7 with fail
    obtain ⟨W1,hW1⟩:∃ W1,wr.alloc (.cells #[.string q,.bool y,.slice ia il ic,.slice pa pl pc] 64)=W1:=⟨_,rfl⟩
    have hr1:W1.heap[wr.heap.size]? = some (.cells #[.string q,.bool y,.slice ia il ic,.slice pa pl pc] 64 (0,0)):=by rw [← hW1];exact World.alloc_heap_new _ _
    have hA:New wr W1:=by rw [← hW1];exact (Mods.refl _ _).alloc _
    have hsz:W1.heap.size=wr.heap.size + 1:=by rw [← hW1];simp
    rw [hW1]
    obtain ⟨avl,hav⟩:∃ z,(u4:Value)=z:=⟨_,rfl⟩
    rw [hav] at hown ⊢
    have hBv:avl.ownBlock ≠ some wr.heap.size:=fun e=>by have:=(World.ownsRow.lt hown _ e).2;omega
    have hbase:w.heap.size ≤ wr.heap.size:=hN.size
    have hown1:=OwS.new hown hA
    obtain ⟨B,hB⟩:∃ B,wr.heap.size=B:=⟨_,rfl⟩
    rw [hB] at hr1 hBv hsz hbase ⊢
    have k0:=cell_of_row _ _ 0 _ _ _ hr1
    have k1:=cell_of_row _ _ 1 _ _ _ hr1
    have k2:=cell_of_row _ _ 2 _ _ _ hr1
    have k3:=cell_of_row _ _ 3 _ _ _ hr1
    simp only [gS] at k0 k1 k2 k3
    clear hW1 c0 c1 c2 c3 hav hown
    cases y with
    | false =>
     have hl1:its.length=1:=by
      rcases (Bare.mem_parts HMB.out).1 with h | h
      ·cases h
      ·exact h.1
     obtain ⟨x,rfl⟩:∃ x,its = [x]:=List.length_eq_one_iff.1 hl1
     obtain rfl:il=1:=by rw [← Hil.out];rfl
     obtain ⟨xv,r1,-,r3⟩:=HI.out
     obtain ⟨ib,io,rfl,hxr0⟩:=r1.at.2.2 0 (by decide)
     have hibl:ib < w.heap.size:=by
      obtain ⟨ob,ho,_⟩:=cells_of_cell (hxr0 0 _ rfl)
      exact (Array.getElem?_eq_some_iff.1 ho).1
     have hxr:W1.rangeAt ib (io + 0 * 5) (ics ([x].getD 0 Bare.noI) (xv 0)):=fun j u hj=>(hN.trans hA).cell (hxr0 j u hj) id
     have hxp:=(r3 0 (Nat.zero_lt_one)).new (hN.trans hA)
     have hxs:=HSM.out.2.2.2 x (by simp)
     simp only [List.getD_cons_zero,Nat.zero_mul,Nat.add_zero] at hxr hxp
     have HVal:=Lib.hid (fun W (hW:New W1 W)=>valued_any x.bare ⟨hxs.1.1,hxs.1.2.1⟩ W (HT.out.new ((hN.trans hA).trans hW)))
     have HTx:=Lib.hid (fun W (hW:New W1 W)=>told_any (xv 0) x.params W (hxp.new hW) hxs.1.2.2.2 (by have:=hxs.2;omega) (HT.out.new ((hN.trans hA).trans hW)))
     have htl:(Bare.told x.params).length ≤ 100000000:=toldP_len hxs.2 hxs.1.2.2.2
     have hvl:=valued_len x.bare
     have hxt:=hxs.1.2.1
     obtain ⟨xa,xc,hxe⟩:=hxp.slice
     rw [hxe] at hxr HTx
     have hmt:Bare.toldM ⟨key,false,[x],ps⟩=key ++ (Bare.valued x.bare ++ Bare.told x.params):=rfl
     rw [hmt] at Hnx
     obtain ⟨⟨kk,nn,tt,yy⟩,xps⟩:=x
     obtain ⟨i0,i1,i2,i3,i4⟩:=cells5 hxr
     unfold bv bcs at HVal
     simp only at i0 i1 i2 i3 i4 HVal HTx htl hvl hxt Hnx
     obtain ⟨s,hse⟩:∃ x,tx tt=x:=⟨_,rfl⟩
     obtain ⟨vl,hve⟩:∃ x,tx (Bare.valued ⟨kk,nn,tt,yy⟩)=x:=⟨_,rfl⟩
     obtain ⟨tx',hte⟩:∃ x,tx (Bare.told xps)=x:=⟨_,rfl⟩
     have hvs:vl.size ≤ 50000:=by rw [← hve,tx_size];omega
     have hxs':tx'.size ≤ 400000000000:=by rw [← hte,tx_size];omega
     have Hx:Hid (q ++ vl ++ tx'=tx (key ++ (Bare.valued ⟨kk,nn,tt,yy⟩ ++ Bare.told xps))):=Lib.hid (by rw [← Hq.out,← hve,← hte,cat_bl,cat_bl,bl_tx,bl_tx,bl_tx,bl_tx,List.append_assoc])
     rw [hse] at i2 HVal
     rw [hve] at HVal
     rw [hte] at HTx
     have hIv:avl.ownBlock ≠ some ib:=fun e=>by
      have h1:=(World.ownsRow.lt hown1 _ e).1
      omega
     clear hse hve hte htl hvl hxt hxr hxr0 hxp hxs r1 r3 hxe hmt hl1
     go_upto_region 8 with fail
     refine piece (fun _=>_) (print8 _ rfl W1 rfl rfl rfl rfl rfl rfl rfl rfl rfl rfl rfl rfl rfl rfl rfl rfl k0 k2 i0 i1 i2 i3 i4 hBv hIv HVal HTx Hx hown1 hln (by rw [hsz];omega) hqs hvs hxs') ?_
     rintro ⟨z,dfs⟩ W2 ⟨v2,⟨hs,hd,hq4,hq6,hq0,hq1,hq2,hq3,hq5,hq8,hq12,hq13,hq14,hq15,hq16,hq17,hq80,hq81⟩,hown2,hnew⟩
     simp only at hs hd hq4 hq6 hq0 hq1 hq2 hq3 hq5 hq8 hq12 hq13 hq14 hq15 hq16 hq17 hq80 hq81
     subst hd
     obtain ⟨u,rfl⟩:=lit82 z hs
     have hp4:u 4=v2:=hq4
     have hp6:u 6 = .pointer (some ⟨B,0,none⟩):=hq6
     have hp0:u 0 = .slice (some ⟨b,o,none⟩) n cap:=hq0
     have hp1:u 1=undef:=hq1
     have hp2:u 2 = .string ⟨#[]⟩:=hq2
     have hp3:u 3 = .int .i64 0:=hq3
     have hp5:u 5=undef:=hq5
     have hp8:u 8=undef:=hq8
     have hp12:u 12 = .slice (some ⟨b,o,none⟩) n cap:=hq12
     have hp13:u 13 = .bool true:=hq13
     have hp14:u 14 = .bool false:=hq14
     have hp15:u 15 = .slice (some ⟨b,o,none⟩) n cap:=hq15
     have hp16:u 16 = .int .i64 n:=hq16
     have hp17:u 17 = .int .i64 k:=hq17
     have hp80:u 80=undef:=hq80
     have hp81:u 81=undef:=hq81
     rw [hp4,hp6,hp0,hp1,hp2,hp3,hp5,hp8,hp12,hp13,hp14,hp15,hp16,hp17,hp80,hp81]
     clear hp4 hq4 hp6 hq6 hp0 hq0 hp1 hq1 hp2 hq2 hp3 hq3 hp5 hq5 hp8 hq8 hp12 hq12 hp13 hq13 hp14 hq14 hp15 hq15 hp16 hq16 hp17 hq17 hp80 hq80 hp81 hq81 hs
     have hown3:OwS w.heap.size W2 v2 ((d.map Bare.toldM).take (k + 1)):=by rw [Hnx.out];exact hown2
     have hN3:=hnew w (hN.trans hA) (Nat.le_refl _)
     go_wp2_with fail
     go_roundw
     case rel=>exact ⟨k + 1,by omega,by go_num,hown3,hN3⟩
     case measure=>simp [intOf];omega
    | true =>
     have hNA:New w W1:=hN.trans hA
     have HTd':Hid (∀ W,New W1 W→Calls Tryz.prog 60 #[.slice pa pl pc] W fun e w'=>e = .returned (.string td)∧New W w'):=Lib.hid fun W hW=>HTd.out W (hA.trans hW)
     have HIx:Hid (∀ x ∈ its,PrX x):=Lib.hid HSM.out.2.2.2
     have hil:il ≤ 500:=by have:=HSM.out.2.1;simp only at this;rw [← Hil.out];exact this
     have HTW:=Lib.hid (HT.out.new hNA)
     have hmt:Bare.toldM ⟨key,true,its,ps⟩=key ++ (61::40::(Bare.joinW [32] (its.map Bare.toldI) ++ (41::Bare.told ps))):=rfl
     rw [hmt] at Hnx
     have hbW:w.heap.size ≤ W1.heap.size:=hNA.size
     clear HTd HSM HMB hmt hN hA hbase HT hB hsz
     go_wp2_with fail
     go_loopw [7,46] (fun a t wi=>∃ j:Nat,j ≤ il∧t = .int .i64 j∧OwS W1.heap.size wi a ((its.map Bare.toldI).take j)∧New W1 wi) (fun _ t _=>il - (intOf t).toNat)
     case atStart=>exact ⟨0,Nat.zero_le _,rfl,.nil _ _,Mods.refl _ _⟩
     case round =>
      obtain ⟨j,hj,rfl,hui,hNi⟩:=hrel
      by_cases hjl:j < il
      ·have hjd:decide ((j:Int) < (il:Int))=true:=decide_eq_true (by omega)
       have hjl':j < its.length:=by rw [Hil.out];exact hjl
       obtain ⟨xv,r1,-,r3⟩:=HI.out
       obtain ⟨ib,io,rfl,hxr0⟩:=r1.at.2.2 j hjl
       have hxr:wr.rangeAt ib (io + j * 5) (ics (its.getD j Bare.noI) (xv j)):=fun i u hj=>(hNA.trans hNi).cell (hxr0 i u hj) id
       have hxp:=(r3 j hjl').new (hNA.trans hNi)
       have hxs:=HIx.out _ (getD_mem (d:=Bare.noI) hjl')
       have Hnj:=Lib.hid (take_map_snoc its Bare.noI Bare.toldI j hjl')
       have hlj:((its.map Bare.toldI).take j).length ≤ 2000000:=by rw [List.length_take];omega
       obtain ⟨x,hxx⟩:∃ x,its.getD j Bare.noI=x:=⟨_,rfl⟩
       rw [hxx] at hxr hxp hxs Hnj
       have HPr:=Lib.hid (fun W (hW:New wr W)=>print_any x.bare hxs.1.1 hxs.1.2.1 W (HTW.out.new (hNi.trans hW)))
       have HTx:=Lib.hid (fun W (hW:New wr W)=>told_any (xv j) x.params W (hxp.new hW) hxs.1.2.2.2 (by have:=hxs.2;omega) (HTW.out.new (hNi.trans hW)))
       obtain ⟨zc,hpv⟩:=printV_text x.bare
       rw [hpv] at HPr
       have htl:(Bare.told x.params).length ≤ 100000000:=toldP_len hxs.2 hxs.1.2.2.2
       have hvl:=text_len x.bare
       have hxt:=hxs.1.2.1
       obtain ⟨xa,xc,hxe⟩:=hxp.slice
       rw [hxe] at hxr HTx
       obtain ⟨⟨kk,nn,tt,yy⟩,xps⟩:=x
       obtain ⟨i0,i1,i2,i3,i4⟩:=cells5 hxr
       unfold bv bcs at HPr
       simp only at i0 i1 i2 i3 i4 HPr HTx htl hvl hxt Hnj
       obtain ⟨s,hse⟩:∃ x,tx tt=x:=⟨_,rfl⟩
       obtain ⟨vl,hve⟩:∃ x,tx (Bare.textI ⟨kk,nn,tt,yy⟩)=x:=⟨_,rfl⟩
       obtain ⟨tx',hte⟩:∃ x,tx (Bare.told xps)=x:=⟨_,rfl⟩
       have hvs:vl.size ≤ 50000:=by rw [← hve,tx_size];omega
       have hxs':tx'.size ≤ 400000000000:=by rw [← hte,tx_size];omega
       have Hx:Hid (vl ++ tx'=tx (Bare.toldI ⟨⟨kk,nn,tt,yy⟩,xps⟩)):=Lib.hid (by rw [← hve,← hte,cat_bl,bl_tx,bl_tx];rfl)
       obtain ⟨xpl,hxpl⟩:∃ x,xps.length=x:=⟨_,rfl⟩
       rw [hse] at i2 HPr
       rw [hve] at HPr
       rw [hte] at HTx
       rw [hxpl] at i4 HTx
       clear hse hve hte htl hvl hxt hxr hxr0 hxp hxs r1 r3 hxe hpv hxpl hxx
       go_upto_region 13 with fail
       obtain ⟨W3,hW3⟩:∃ W3,wr.alloc (.cells #[.int .u8 kk,.int .i64 nn,.string s,.bool yy,.slice xa xpl xc] 71)=W3:=⟨_,rfl⟩
       have hr3:W3.heap[wr.heap.size]? = some (.cells #[.int .u8 kk,.int .i64 nn,.string s,.bool yy,.slice xa xpl xc] 71 (0,0)):=by rw [← hW3];exact World.alloc_heap_new _ _
       have hA3:New wr W3:=by rw [← hW3];exact (Mods.refl _ _).alloc _
       rw [hW3]
       obtain ⟨B3,hB3⟩:∃ B3,wr.heap.size=B3:=⟨_,rfl⟩
       rw [hB3] at hr3 ⊢
       have m0:=cell_of_row _ _ 0 _ _ _ hr3
       have m1:=cell_of_row _ _ 1 _ _ _ hr3
       have m2:=cell_of_row _ _ 2 _ _ _ hr3
       have m3:=cell_of_row _ _ 3 _ _ _ hr3
       have m4:=cell_of_row _ _ 4 _ _ _ hr3
       simp only [gS] at m0 m1 m2 m3 m4
       clear hW3 hr3 hB3 i0 i1 i2 i3 i4
       go_wp2_with fail
       refine (HPr.out _ hA3).mono ?_
       rintro e W4 ⟨rfl,hN4⟩
       have m5:=hN4.cell m4 id
       clear m0 m1 m2 m3 m4
       go_wp2_with fail
       refine (HTx.out _ (hA3.trans hN4)).mono ?_
       rintro e W5 ⟨rfl,hN5⟩
       have hN5':=(hA3.trans hN4).trans hN5
       have hu5:=hui.new hN5'
       have hb5:W1.heap.size ≤ W5.heap.size:=(hNi.trans hN5').size
       have z1:¬ 9223372036854775807 < vl.size + tx'.size:=by omega
       go_wp2_with (at_builtin;refine wpList_append_S (w:=W5) (l:=Bare.toldI ⟨⟨kk,nn,tt,yy⟩,xps⟩) _ _ rfl rfl rfl rfl (by rw [← Hx.out]) hu5 hlj hb5 ?_)
       intro v' W6 hu6 hnew
       have hN6:=hnew W1 _ (hNi.trans hN5') (fun g hg=>.inl (World.ownsRow.lt hu5 g hg).1)
       have hu7:OwS W1.heap.size W6 v' ((its.map Bare.toldI).take (j + 1)):=by rw [Hnj.out];exact hu6
       clear hu5 hu6 hui hnew m5
       go_wp2_with fail
       go_roundw
       case rel=>exact ⟨j + 1,by omega,by go_num,hu7,hN6⟩
       case measure=>simp [intOf];omega
      ·obtain rfl:j=il:=by omega
       have hjd:decide ((j:Int) < (j:Int))=false:=decide_eq_false (by omega)
       have hall:(its.map Bare.toldI).take j=its.map Bare.toldI:=by rw [List.take_of_length_le (by rw [List.length_map,Hil.out];exact Nat.le_refl _)]
       rw [hall] at hui
       have hji:=joinI_len (L:=its) (by rw [Hil.out];exact hil) HIx.out
       have HJn:=Lib.hid (fun W (hW:New wr W)=>join_any _ _ [32] W (hui.new hW) (by rw [List.length_map,Hil.out];omega) (by omega))
       obtain ⟨jn,hjn⟩:∃ x,tx (Bare.joinW [32] (its.map Bare.toldI))=x:=⟨_,rfl⟩
       have hjs:jn.size ≤ 140737488355328:=by rw [← hjn,tx_size];omega
       have Hx:Hid (q ++ ⟨#[61,40]⟩ ++ jn ++ ⟨#[41]⟩ ++ td=tx (key ++ (61::40::(Bare.joinW [32] (its.map Bare.toldI) ++ (41::Bare.told ps))))):=Lib.hid (by
        rw [← Hq.out,← hjn,← Htd.out,cat_bl,cat_bl,cat_bl,cat_bl]
        show tx (((key ++ [61,40]) ++ Bare.joinW [32] (its.map Bare.toldI) ++ [41]) ++ Bare.told ps) = _
        simp)
       rw [hjn] at HJn
       have HTd2:Hid (∀ W,New wr W→Calls Tryz.prog 60 #[.slice pa pl pc] W fun e w'=>e = .returned (.string td)∧New W w'):=Lib.hid fun W hW=>HTd'.out W (hNi.trans hW)
       have q0:=hNi.cell k0 id
       have q3:=hNi.cell k3 id
       have hown2:=hown1.new hNi
       clear hall hui hji hjn k0 k1 k2 k3
       go_upto_region 16 with fail
       refine piece (fun _=>_) (print16 _ rfl wr rfl rfl rfl rfl rfl rfl rfl rfl rfl rfl rfl rfl rfl rfl rfl rfl rfl q0 q3 hBv HJn HTd2 Hx hown2 hln (Nat.le_trans hbW hNi.size) hqs hjs hts) ?_
       rintro ⟨z,dfs⟩ W2 ⟨v2,⟨hs,hd,hq4,hq6,hq0,hq1,hq2,hq3,hq5,hq8,hq12,hq13,hq14,hq15,hq16,hq17,hq80,hq81⟩,hown3,hnew⟩
       simp only at hs hd hq4 hq6 hq0 hq1 hq2 hq3 hq5 hq8 hq12 hq13 hq14 hq15 hq16 hq17 hq80 hq81
       subst hd
       obtain ⟨u,rfl⟩:=lit82 z hs
       have hp4:u 4=v2:=hq4
       have hp6:u 6 = .pointer (some ⟨B,0,none⟩):=hq6
       have hp0:u 0 = .slice (some ⟨b,o,none⟩) n cap:=hq0
       have hp1:u 1=undef:=hq1
       have hp2:u 2 = .string ⟨#[]⟩:=hq2
       have hp3:u 3 = .int .i64 0:=hq3
       have hp5:u 5=undef:=hq5
       have hp8:u 8=undef:=hq8
       have hp12:u 12 = .slice (some ⟨b,o,none⟩) n cap:=hq12
       have hp13:u 13 = .bool true:=hq13
       have hp14:u 14 = .bool false:=hq14
       have hp15:u 15 = .slice (some ⟨b,o,none⟩) n cap:=hq15
       have hp16:u 16 = .int .i64 n:=hq16
       have hp17:u 17 = .int .i64 k:=hq17
       have hp80:u 80=undef:=hq80
       have hp81:u 81=undef:=hq81
       rw [hp4,hp6,hp0,hp1,hp2,hp3,hp5,hp8,hp12,hp13,hp14,hp15,hp16,hp17,hp80,hp81]
       clear hp4 hq4 hp6 hq6 hp0 hq0 hp1 hq1 hp2 hq2 hp3 hq3 hp5 hq5 hp8 hq8 hp12 hq12 hp13 hq13 hp14 hq14 hp15 hq15 hp16 hq16 hp17 hq17 hp80 hq80 hp81 hq81 hs
       have hown4:OwS w.heap.size W2 v2 ((d.map Bare.toldM).take (k + 1)):=by rw [Hnx.out];exact hown3
       have hN3:=hnew w (hNA.trans hNi) (Nat.le_refl _)
       go_wp2_with fail
       go_roundw
       case rel=>exact ⟨k + 1,by omega,by go_num,hown4,hN3⟩
       case measure=>simp [intOf];omega
   ·obtain rfl:k=n:=by omega
    have hkd:decide ((k:Int) < (k:Int))=false:=decide_eq_false (by omega)
    have hall:(d.map Bare.toldM).take k=d.map Bare.toldM:=by rw [List.take_of_length_le (by rw [List.length_map,Hn.out];exact Nat.le_refl _)]
    rw [hall] at hown
    have HJn:=Lib.hid (join_any _ _ [44,32] wr hown (by rw [List.length_map,Hn.out];omega) HJ.out)
    clear HM HS HV HT Hn hown hall
    go_wp2_with fail
    refine HJn.out.mono ?_
    rintro e w2 ⟨rfl,hN2⟩
    go_wp2_with fail
    go_ret2
    exact ⟨rfl,hN.trans hN2⟩
end Go.Proofs.YtkiiameibdhdfaaGreatDoor
namespace Go.Proofs.YtkiiameibdhdfaaGreatDoor


theorem quoted_txt:∀ (n:Nat) (s acc rest:Bare.Bs) (b:Bare.It),s.length ≤ n→Bare.quoted acc s=some (b,rest)→b.text.length ≤ acc.length + s.length
 | _,[],_,_,_,_,h=>by cases h
 | 0,c::r,_,_,_,hn,_=>by simp at hn
 | n + 1,c::r,acc,rest,b,hn,h=>by
  rw [Bare.quoted_cons] at h
  split at h
  ·cases h
  ·split at h
   ·cases h
    simp
   ·split at h
    ·cases r with
     | nil=>cases h
     | cons d r' =>
      simp only at h
      split at h
      ·have:=quoted_txt n r' (acc ++ [d]) rest b (by simp at hn;omega) h
       simp at this ⊢
       omega
      ·cases h
    ·have:=quoted_txt n r (acc ++ [c]) rest b (by simp at hn;omega) h
     simp at this ⊢
     omega
theorem number_txt {s rest:Bare.Bs} {b:Bare.It} (h:Bare.number s=some (b,rest)):b.text = []:=by
 unfold Bare.number at h
 simp only at h
 split at h
 ·split at h
  ·cases h
  ·split at h
   ·cases h;rfl
   ·split at h
    ·cases h
    ·cases h;rfl
 ·split at h
  ·cases h
  ·split at h
   ·cases h;rfl
   ·split at h
    ·cases h
    ·cases h;rfl
theorem unsix_ln {l t:Bare.Bs} (h:Bare.unsix l=some t):t.length ≤ l.length:=by
 have:=Bare.sixes_len t
 rw [Bare.sixes_unsix h] at this
 omega
theorem parse_txt {s rest:Bare.Bs} {b:Bare.It} (h:Bare.parseI s=some (b,rest)):b.text.length ≤ s.length:=by
 cases s with
 | nil=>cases h
 | cons c r =>
  rw [Bare.parseI_cons] at h
  split at h
  ·rw [number_txt h];simp
  split at h
  ·simp only [Option.some.injEq,Prod.mk.injEq] at h
   obtain ⟨rfl,rfl⟩:=h
   exact Bare.takeWhile_len _ _
  split at h
  ·have:=quoted_txt r.length r [] rest b (Nat.le_refl _) h
   simp at this ⊢
   omega
  split at h
  ·unfold Bare.packed at h
   have hl:=Bare.takeWhile_len (· != 58) r
   obtain ⟨i,hi⟩:∃ x,r.takeWhile (· != 58)=x:=⟨_,rfl⟩
   rw [hi] at hl
   simp only [hi] at h
   split at h
   ·cases h
   ·cases hu:Bare.unsix i with
    | none=>rw [hu] at h;cases h
    | some t =>
     rw [hu] at h
     simp only [Option.map_some,Option.some.injEq,Prod.mk.injEq] at h
     obtain ⟨rfl,rfl⟩:=h
     have:=unsix_ln hu
     simp
     omega
  split at h
  ·cases r with
   | nil=>cases h
   | cons d r' =>
    simp only at h
    split at h
    ·simp only [Option.some.injEq,Prod.mk.injEq] at h
     obtain ⟨rfl,rfl⟩:=h
     simp
    ·cases h
  ·cases h
def SzP (n:Nat) (ps:List Bare.Par):Prop:=ps.length ≤ n∧∀ p ∈ ps,p.key.length ≤ n∧p.bare.text.length ≤ n
def SzX (n:Nat) (x:Bare.Itm):Prop:=x.bare.text.length ≤ n∧SzP n x.params
def SzM (n:Nat) (m:Bare.Mem):Prop:=m.key.length ≤ n∧m.items.length ≤ n∧SzP n m.params∧∀ x ∈ m.items,SzX n x
def SzD (n:Nat) (d:List Bare.Mem):Prop:=d.length ≤ n∧∀ m ∈ d,SzM n m
theorem readKey_txt {s k r:Bare.Bs} (h:Bare.readKey s=some (k,r)):k.length ≤ s.length:=by
 unfold Bare.readKey at h
 simp only at h
 split at h
 ·cases h
 ·cases h
  cases s with
  | nil=>simp [Bare.keyOf]
  | cons c l =>
   show (if Bare.smlB c then c::l.takeWhile Bare.inKey else []).length ≤ _
   split
   ·have:=Bare.takeWhile_len Bare.inKey l
    simp
    omega
   ·simp
theorem readVal_txt {s r:Bare.Bs} {b:Bare.It} (h:Bare.readVal s=some (b,r)):b.text.length ≤ s.length:=by
 unfold Bare.readVal at h
 split at h
 ·have:=parse_txt h
  simp
  omega
 ·cases h;simp [Bare.yesI]
theorem setP_sz (l:List Bare.Par) (p:Bare.Par):(Bare.setP l p).length ≤ l.length + 1∧∀ q ∈ Bare.setP l p,q ∈ l ∨ q=p:=by
 unfold Bare.setP
 split
 ·refine ⟨by simp,fun q hq=>?_⟩
  obtain ⟨x,hx,e⟩:=List.mem_map.1 hq
  split at e
  ·exact .inr e.symm
  ·exact .inl (e ▸ hx)
 ·exact ⟨by simp,fun q hq=>by simpa [or_comm] using hq⟩
theorem setM_sz (l:List Bare.Mem) (p:Bare.Mem):(Bare.setM l p).length ≤ l.length + 1∧∀ q ∈ Bare.setM l p,q ∈ l ∨ q=p:=by
 unfold Bare.setM
 split
 ·refine ⟨by simp,fun q hq=>?_⟩
  obtain ⟨x,hx,e⟩:=List.mem_map.1 hq
  split at e
  ·exact .inr e.symm
  ·exact .inl (e ▸ hx)
 ·exact ⟨by simp,fun q hq=>by simpa [or_comm] using hq⟩
theorem readParams_sz (N:Nat):∀ (n:Nat) (s:Bare.Bs) (l ps:List Bare.Par) (r:Bare.Bs),s.length ≤ n→s.length ≤ N→(∀ p ∈ l,p.key.length ≤ N∧p.bare.text.length ≤ N)→Bare.readParams l s=some (ps,r) →
  ps.length + r.length ≤ l.length + s.length∧∀ p ∈ ps,p.key.length ≤ N∧p.bare.text.length ≤ N:=by
 intro n
 induction n with
 | zero =>
  intro s l ps r hn hN hl h
  have:s = []:=List.length_eq_zero_iff.1 (by omega)
  subst this
  rw [Bare.readParams_end l [] (by simp)] at h
  cases h;exact ⟨Nat.le_refl _,hl⟩
 | succ n ih =>
  intro s l ps r hn hN hl h
  rw [Bare.readParams.eq_def] at h
  split at h
  ·rename_i r0
   split at h
   ·cases h
   ·rename_i k r1 h1
    split at h
    ·cases h
    ·rename_i b r2 h2
     have a1:=Bare.readKey_len h1
     have a2:=Bare.readVal_len h2
     have a3:=Bare.skip_len [32] r0
     have t1:=readKey_txt h1
     have t2:=readVal_txt h2
     simp only [List.length_cons] at hn hN
     obtain ⟨s1,s2⟩:=setP_sz l ⟨k,b⟩
     obtain ⟨i1,i2⟩:=ih r2 _ ps r (by omega) (by omega) (fun p hp=>by
      rcases s2 p hp with hp | rfl
      ·exact hl p hp
      ·exact ⟨by show k.length ≤ N;omega,by show b.text.length ≤ N;omega⟩) h
     exact ⟨by simp only [List.length_cons];omega,i2⟩
  ·cases h;exact ⟨Nat.le_refl _,hl⟩
theorem readParams_nil (N:Nat) {s r:Bare.Bs} {ps:List Bare.Par} (hN:s.length ≤ N) (h:Bare.readParams [] s=some (ps,r)):SzP N ps:=by
 obtain ⟨h1,h2⟩:=readParams_sz N _ s [] ps r (Nat.le_refl _) hN (fun p hp=>by cases hp) h
 simp at h1
 exact ⟨by omega,h2⟩
theorem readItem_sz (N:Nat) {s r:Bare.Bs} {x:Bare.Itm} (hN:s.length ≤ N) (h:Bare.readItem s=some (x,r)):SzX N x:=by
 unfold Bare.readItem at h
 split at h
 ·cases h
 ·rename_i b r1 h1
  split at h
  ·cases h
  ·rename_i ps r2 h2
   cases h
   have t1:=parse_txt h1
   have a1:=Bare.parseI_len h1
   exact ⟨by show b.text.length ≤ N;omega,readParams_nil N (by omega) h2⟩
theorem readInner_sz (N:Nat):∀ (n:Nat) (s:Bare.Bs) (l ps:List Bare.Itm) (r:Bare.Bs),s.length ≤ n→s.length ≤ N→(∀ x ∈ l,SzX N x)→Bare.readInner l s=some (ps,r) →
  ps.length + r.length ≤ l.length + s.length∧∀ x ∈ ps,SzX N x:=by
 intro n
 induction n with
 | zero =>
  intro s l ps r hn hN hl h
  have:s = []:=List.length_eq_zero_iff.1 (by omega)
  subst this
  rw [Bare.readInner.eq_def] at h
  simp [Bare.skipB,Bare.readItem,Bare.parseI] at h
 | succ n ih =>
  intro s l ps r hn hN hl h
  have a2:=Bare.skip_len [32] s
  rw [Bare.readInner.eq_def] at h
  split at h
  ·rename_i r0 h0
   cases h
   rw [h0] at a2
   simp only [List.length_cons] at a2
   exact ⟨by omega,hl⟩
  ·split at h
   ·cases h
   ·rename_i x r1 h1
    have a1:=Bare.readItem_len h1
    have b1:=readItem_sz N (by omega) h1
    split at h
    ·obtain ⟨i1,i2⟩:=ih r1 _ ps r (by omega) (by omega) (fun y hy=>by
      rcases List.mem_append.1 hy with hy | hy
      ·exact hl y hy
      ·rw [List.mem_singleton] at hy;exact hy ▸ b1) h
     rw [List.length_append] at i1
     simp only [List.length_singleton] at i1
     exact ⟨by omega,i2⟩
    ·cases h
theorem readMem_sz (N:Nat) {s r:Bare.Bs} {m:Bare.Mem} (h1:1 ≤ N) (hN:s.length ≤ N) (h:Bare.readMem s=some (m,r)):SzM N m:=by
 unfold Bare.readMem at h
 split at h
 ·cases h
 ·rename_i k r0 h0
  have a0:=Bare.readKey_len h0
  have t0:=readKey_txt h0
  unfold Bare.readRest at h
  split at h
  ·rename_i r1
   split at h
   ·cases h
   ·rename_i items r2 h2
    split at h
    ·cases h
    ·rename_i ps r3 h3
     cases h
     simp only [List.length_cons] at a0
     obtain ⟨i1,i2⟩:=readInner_sz N _ r1 [] items r2 (Nat.le_refl _) (by omega) (fun x hx=>by cases hx) h2
     simp at i1
     exact ⟨by show k.length ≤ N;omega,by show items.length ≤ N;omega,readParams_nil N (by omega) h3,i2⟩
  ·rename_i r1 _
   split at h
   ·cases h
   ·rename_i x r2 h2
    cases h
    simp only [List.length_cons] at a0
    refine ⟨by show k.length ≤ N;omega,by show 1 ≤ N;omega,⟨Nat.zero_le _,fun p hp=>by cases hp⟩,fun y hy=>?_⟩
    rw [List.mem_singleton] at hy
    exact hy ▸ readItem_sz N (by omega) h2
  ·split at h
   ·cases h
   ·rename_i ps r2 h2
    cases h
    refine ⟨by show k.length ≤ N;omega,by show 1 ≤ N;omega,⟨Nat.zero_le _,fun p hp=>by cases hp⟩,fun y hy=>?_⟩
    rw [List.mem_singleton] at hy
    exact hy ▸ ⟨by simp [Bare.yesI],readParams_nil N (by omega) h2⟩
theorem readD_sz (N:Nat) (h1:1 ≤ N):∀ (n:Nat) (s:Bare.Bs) (d e:List Bare.Mem),s.length ≤ n→s.length ≤ N→(∀ m ∈ d,SzM N m)→Bare.readD d s=some e→e.length ≤ d.length + s.length∧∀ m ∈ e,SzM N m:=by
 intro n
 induction n with
 | zero =>
  intro s d e hn hN hd h
  have:s = []:=List.length_eq_zero_iff.1 (by omega)
  subst this
  rw [Bare.readD.eq_def] at h
  cases h;exact ⟨Nat.le_refl _,hd⟩
 | succ n ih =>
  intro s d e hn hN hd h
  rw [Bare.readD.eq_def] at h
  split at h
  ·cases h;exact ⟨Nat.le_refl _,hd⟩
  ·rename_i c l
   split at h
   ·cases h
   ·rename_i m r h2
    have hm:=readMem_sz N h1 hN h2
    have a1:=Bare.readMem_len h2
    obtain ⟨s1,s2⟩:=setM_sz d m
    have hset:∀ q ∈ Bare.setM d m,SzM N q:=fun q hq=>by
     rcases s2 q hq with hq | rfl
     ·exact hd q hq
     ·exact hm
    split at h
    ·cases h
     simp only [List.length_cons] at a1 ⊢
     exact ⟨by omega,hset⟩
    ·split at h
     ·rename_i r2 h3
      simp only at h
      split at h
      ·cases h
      ·have a2:=Bare.skip_len [32,9] r
       rw [h3] at a2
       have a3:=Bare.skip_len [32,9] r2
       simp only [List.length_cons] at a1 a2 hn hN
       obtain ⟨i1,i2⟩:=ih _ _ e (by omega) (by omega) hset h
       exact ⟨by simp only [List.length_cons];omega,i2⟩
     ·cases h
theorem parse_sz {N:Nat} {s:Bare.Bs} {d:List Bare.Mem} (h1:1 ≤ N) (hN:s.length ≤ N) (h:Bare.parseD s=some d):SzD N d:=by
 unfold Bare.parseD at h
 have a1:=Bare.skip_len [32] s
 have a2:(Bare.trimR 32 (Bare.skipB [32] s)).length ≤ (Bare.skipB [32] s).length:=by
  have:∀ l:Bare.Bs,(Bare.trimR 32 l).length ≤ l.length:=fun l=>by
   unfold Bare.trimR
   simp only [List.length_reverse]
   have:=Bare.drop_len (fun x=>x == 32) l.reverse
   simp at this
   exact this
  exact this _
 obtain ⟨i1,i2⟩:=readD_sz N h1 _ _ [] d (Nat.le_refl _) (by omega) (fun m hm=>by cases hm) h
 simp at i1
 exact ⟨by omega,i2⟩
end Go.Proofs.YtkiiameibdhdfaaGreatDoor
namespace Go.Proofs.YtkiiameibdhdfaaGreatDoor
open Go.RowKit Go.Shelf Go.Cs
attribute [local go_sem] Oper.semAt_some


theorem one_d (W1:World) (key:Bare.Bs) (inner:Bool) (b:Bare.It):RdD false ((W1.alloc (.cells #[.int .u8 b.kind,.int .i64 b.int,.string (tx b.text),.bool b.yes,.slice none 0 0] 71)).alloc (.cells #[.string (tx key),.bool inner,.slice (some ⟨W1.heap.size,0,none⟩) 1 1,.slice none 0 0] 64)) (.slice (some ⟨W1.heap.size + 1,0,none⟩) 1 1) [⟨key,inner,[⟨b,[]⟩],[]⟩]:=by
 have r1:=World.alloc_heap_new W1 (.cells #[.int .u8 b.kind,.int .i64 b.int,.string (tx b.text),.bool b.yes,.slice none 0 0] 71)
 obtain ⟨W2,hW2⟩:∃ V,W1.alloc (.cells #[.int .u8 b.kind,.int .i64 b.int,.string (tx b.text),.bool b.yes,.slice none 0 0] 71)=V:=⟨_,rfl⟩
 have hs:W2.heap.size=W1.heap.size + 1:=by rw [← hW2];simp
 rw [hW2] at r1 ⊢
 have r2:=World.alloc_heap_new W2 (.cells #[.string (tx key),.bool inner,.slice (some ⟨W1.heap.size,0,none⟩) 1 1,.slice none 0 0] 64)
 have hA:New W2 (W2.alloc (.cells #[.string (tx key),.bool inner,.slice (some ⟨W1.heap.size,0,none⟩) 1 1,.slice none 0 0] 64)):=(Mods.refl _ _).alloc _
 obtain ⟨W3,hW3⟩:∃ V,W2.alloc (.cells #[.string (tx key),.bool inner,.slice (some ⟨W1.heap.size,0,none⟩) 1 1,.slice none 0 0] 64)=V:=⟨_,rfl⟩
 rw [hW3] at r2 hA ⊢
 replace r1:=hA.heap r1 id
 rw [hs] at r2
 refine ⟨fun _=>.slice (some ⟨W1.heap.size,0,none⟩) 1 1,fun _=>.slice none 0 0,⟨by simp,_,_,rfl,fun i hi=>?_⟩,tag_none,fun i hi=>?_⟩
 ·obtain rfl:i=0:=by simp at hi;omega
  refine ⟨_,0,rfl,fun j u hu=>?_⟩
  rw [cell_of_row W3 _ (0 + 0 * 4 + j) _ _ _ r2]
  simpa [mcs] using hu
 ·obtain rfl:i=0:=by simp at hi;omega
  refine ⟨⟨fun _=>.slice none 0 0,⟨by simp,_,_,rfl,fun j hj=>?_⟩,tag_none,fun j hj=>?_⟩,RdP.nil _ _ _⟩
  ·obtain rfl:j=0:=by simp at hj;omega
   refine ⟨_,0,rfl,fun j u hu=>?_⟩
   rw [cell_of_row W3 _ (0 + 0 * 5 + j) _ _ _ r1]
   simpa [ics] using hu
  ·obtain rfl:j=0:=by simp at hj;omega
   exact RdP.nil _ _ _
theorem fits_of_sz {n:Nat} {d:List Bare.Mem} (hn:n ≤ 1000000) (h:SzD n d):∀ m ∈ d,Fits m:=fun m hm=>by
 obtain ⟨-,h2,h3,h4⟩:=h.2 m hm
 refine ⟨by omega,by have:=h3.1;omega,fun i hi=>?_⟩
 have:=(h4 _ (getD_mem (d:=Bare.noI) hi)).2.1
 omega
theorem prioD_print {u:Nat} {i:Bool} (hu:u ≤ 7):PrD (Bare.prioD u i):=by
 have hx:∀ (k:Bare.Bs) (b:Bare.It),k.length=1→0 ≤ b.kind→b.text = []→PrM ⟨k,false,[⟨b,[]⟩],[]⟩:=fun k b hk hb ht=>by
  refine ⟨⟨by show k.length ≤ _;omega,by simp,by simp,fun x hx=>?_,fun p hp=>by cases hp⟩,by simp,by simp,fun x hx=>?_⟩
  ·rw [List.mem_singleton] at hx
   subst hx
   exact ⟨hb,by simp [ht],by simp,fun p hp=>by cases hp⟩
  ·rw [List.mem_singleton] at hx
   subst hx
   exact ⟨⟨hb,by simp [ht],by simp,fun p hp=>by cases hp⟩,by simp⟩
 unfold Bare.prioD
 refine ⟨by split <;> split <;> simp,fun m hm=>?_⟩
 rw [List.mem_append] at hm
 rcases hm with hm | hm
 ·split at hm
  ·cases hm
  ·rw [List.mem_singleton] at hm
   subst hm
   exact hx _ _ rfl (by show (0:Int) ≤ 1;decide) rfl
 ·split at hm
  ·rw [List.mem_singleton] at hm
   subst hm
   exact hx _ _ rfl (by show (0:Int) ≤ 6;decide) rfl
  ·cases hm


def dwA:List Bare.Mem:=Bare.prioD 1 true
def dwO:List Bare.Mem:=[⟨[97],false,[⟨Bare.yesI,[]⟩],[]⟩]
def dwI:List Bare.Mem:=[⟨[97],true,[⟨⟨1,1,[],false⟩,[]⟩,⟨⟨1,2,[],false⟩,[⟨[120],Bare.yesI⟩]⟩],[⟨[121],Bare.yesI⟩]⟩]
theorem dw1:Bare.parseD [117,61,49,44,32,105]=some dwA:=by decide +kernel
theorem dw3:Bare.parseD [32,97,61,40,49,32,50,59,120,41,59,121,9,44,32,9,97,32]=some dwO:=by decide +kernel
theorem dw6:Bare.parseD [97,44]=none:=by decide +kernel
theorem dw7:Bare.parseD [97,9]=none:=by decide +kernel
theorem dw8:Bare.parseD [97,61,40,49,9,50,41]=none:=by decide +kernel
theorem dw9:Bare.parseD [32,32]=some []:=by decide +kernel
theorem dw10:Bare.parseD [97,61,40,49,32,50,59,120,41,59,121]=some dwI:=by decide +kernel
theorem dw2:Bare.printD dwA=some [117,61,49,44,32,105]:=by decide +kernel
theorem dw11:Bare.printD [⟨[65],false,[],[]⟩]=none:=by decide +kernel
theorem dw12:Bare.printD dwI=some [97,61,40,49,32,50,59,120,41,59,121]:=by decide +kernel
theorem dw4:findM dwA [117]=some ⟨[117],false,[⟨⟨1,1,[],false⟩,[]⟩],[]⟩:=by decide +kernel
theorem dw5:findM dwA [120]=none:=by decide +kernel
theorem dwk1:Bare.keyB [42,97,45,49]=true:=by decide +kernel
theorem dwk2:Bare.keyB [49,97]=false:=by decide +kernel
theorem dwr1:Bare.rightD dwI=true:=by decide +kernel
theorem dwr2:Bare.rightD [⟨[97],false,[],[]⟩]=false:=by decide +kernel
theorem yes_w (w:World):Calls Tryz.prog 56 #[] w fun e w'=>e = .returned (.agg #[.int .u8 6,.int .i64 0,.string ⟨#[]⟩,.bool true])∧New w w':=by
 go_enter Tryz.func56,Tryz.ntmps56
 go_wp2_with fail
 have hr:=World.alloc_heap_new w (.cells #[.int .u8 6,.int .i64 0,.string ⟨#[]⟩,.bool true] 66)
 refine bodyPost_ret (v:=.agg #[.int .u8 6,.int .i64 0,.string ⟨#[]⟩,.bool true]) (results_cell_row rfl _ _ w.heap.size 66 _ (0,0) _ rfl hr Tryz.underlying66 rfl info_bare) rfl ?_
 exact ⟨rfl,(Mods.refl _ _).alloc _⟩
theorem number_w (n:Int) (w:World):Calls Tryz.prog 57 #[.int .i64 n] w fun e w'=>e = .returned (.agg #[.int .u8 1,.int .i64 n,.string ⟨#[]⟩,.bool false])∧New w w':=by
 go_enter Tryz.func57,Tryz.ntmps57
 go_wp2_with fail
 have hr:=World.alloc_heap_new w (.cells #[.int .u8 1,.int .i64 n,.string ⟨#[]⟩,.bool false] 66)
 refine bodyPost_ret (v:=.agg #[.int .u8 1,.int .i64 n,.string ⟨#[]⟩,.bool false]) (results_cell_row rfl _ _ w.heap.size 66 _ (0,0) _ rfl hr Tryz.underlying66 rfl info_bare) rfl ?_
 exact ⟨rfl,(Mods.refl _ _).alloc _⟩
theorem bare_d (W1:World) (key:Bare.Bs):RdD false (W1.alloc (.cells #[.string (tx key),.bool false,.slice none 0 0,.slice none 0 0] 64)) (.slice (some ⟨W1.heap.size,0,none⟩) 1 1) [⟨key,false,[],[]⟩]:=by
 have r2:=World.alloc_heap_new W1 (.cells #[.string (tx key),.bool false,.slice none 0 0,.slice none 0 0] 64)
 refine ⟨fun _=>.slice none 0 0,fun _=>.slice none 0 0,⟨by simp,_,_,rfl,fun i hi=>?_⟩,tag_none,fun i hi=>?_⟩
 ·obtain rfl:i=0:=by simp at hi;omega
  refine ⟨_,0,rfl,fun j u hu=>?_⟩
  rw [cell_of_row _ _ (0 + 0 * 4 + j) _ _ _ r2]
  simpa [mcs] using hu
 ·obtain rfl:i=0:=by simp at hi;omega
  exact ⟨RdI.nil _ _ _,RdP.nil _ _ _⟩
def opsOf:Code→Array Oper
 | .region _ ops _=>ops
 | _=>#[]


theorem smI:∀ m ∈ dwI,SmM m:=by
 intro m hm
 unfold dwI at hm
 rw [List.mem_singleton] at hm
 subst hm
 refine ⟨by decide,by decide,by decide,fun x hx=>?_,fun p hp=>?_⟩
 ·simp only [List.mem_cons,List.not_mem_nil,or_false] at hx
  rcases hx with rfl | rfl
  ·exact ⟨by decide,by decide,by decide,fun p hp=>by cases hp⟩
  ·refine ⟨by decide,by decide,by decide,fun p hp=>?_⟩
   rw [List.mem_singleton] at hp
   subst hp
   exact ⟨by decide,by decide,by decide⟩
 ·rw [List.mem_singleton] at hp
  subst hp
  exact ⟨by decide,by decide,by decide⟩
theorem smB:∀ m ∈ ([⟨[97],false,[],[]⟩]:List Bare.Mem),SmM m:=by
 intro m hm
 rw [List.mem_singleton] at hm
 subst hm
 refine ⟨by decide,by decide,by decide,fun x hx=>?_,fun p hp=>?_⟩
 ·cases hx
 ·cases hp
theorem lit224 (t:Array Value) (h:t.size=224):∃ u:Nat→Value,t=(u 0::u 1::u 2::u 3::u 4::u 5::u 6::u 7::u 8::u 9::u 10::u 11::u 12::u 13::u 14::u 15::u 16::u 17::u 18::u 19::u 20::u 21::u 22::u 23::u 24::u 25::u 26::u 27::u 28::u 29::u 30::u 31::u 32::u 33::u 34::u 35::u 36::u 37::u 38::u 39::u 40::u 41::u 42::u 43::u 44::u 45::u 46::u 47::u 48::u 49::u 50::u 51::u 52::u 53::u 54::u 55::u 56::u 57::u 58::u 59::u 60::u 61::u 62::u 63::u 64::u 65::u 66::u 67::u 68::u 69::u 70::u 71::u 72::u 73::u 74::u 75::u 76::u 77::u 78::u 79::u 80::u 81::u 82::u 83::u 84::u 85::u 86::u 87::u 88::u 89::u 90::u 91::u 92::u 93::u 94::u 95::u 96::u 97::u 98::u 99::u 100::u 101::u 102::u 103::u 104::u 105::u 106::u 107::u 108::u 109::u 110::u 111::u 112::u 113::u 114::u 115::u 116::u 117::u 118::u 119::u 120::u 121::u 122::u 123::u 124::u 125::u 126::u 127::u 128::u 129::u 130::u 131::u 132::u 133::u 134::u 135::u 136::u 137::u 138::u 139::u 140::u 141::u 142::u 143::u 144::u 145::u 146::u 147::u 148::u 149::u 150::u 151::u 152::u 153::u 154::u 155::u 156::u 157::u 158::u 159::u 160::u 161::u 162::u 163::u 164::u 165::u 166::u 167::u 168::u 169::u 170::u 171::u 172::u 173::u 174::u 175::u 176::u 177::u 178::u 179::u 180::u 181::u 182::u 183::u 184::u 185::u 186::u 187::u 188::u 189::u 190::u 191::u 192::u 193::u 194::u 195::u 196::u 197::u 198::u 199::u 200::u 201::u 202::u 203::u 204::u 205::u 206::u 207::u 208::u 209::u 210::u 211::u 212::u 213::u 214::u 215::u 216::u 217::u 218::u 219::u 220::u 221::u 222::u 223::([]:List Value)).toArray:=⟨fun i=>t.getD i undef,range_lit t 224 h⟩
noncomputable def reg_causeylaw13_wakes_15:Code:=((Tryz.f25.body.bind (regionOf 15)).getD .skip)
theorem wk13c (t:Array Value) (hs:t.size=224) (w0 w:World) {la oa na pa':Option Addr} {lc oc nc ic B7 ib io ub uo uc pm pcc:Nat} {Q:Exit→Act→World→Prop} (listed:Array Bool) (hl:listed = #[true,true,true,true,true,true,true,true,true,true,true,true,true,true,true,true,true,true,true,true,true,true,true,true,true,true,true,true,true,true,true,true,true,true,true,true,true,true,true,true,true,true,true,true,true,true,true,true,true,true,true,true,true,true,true,true,true,true,true,true,true,true,true,true,true,true,true,true,true,true,true,true,true,true,true,true,true,true,true,true,true,true,true,true,true,true,true,true,true,true,true,true,true,true,true,true,false,false,false,false,false,false,false,false,false,false,false,false,false,false,false,false,false,false,false,false,false,false,false,false,false,false,false,false])
  (hq1:t.getD 1 undef = .slice la 2 lc)
  (hq2:t.getD 2 undef = .int .i64 0)
  (hq3:t.getD 3 undef = .string ⟨#[117,61,49,44,32,105]⟩)
  (hq4:t.getD 4 undef = .int .i64 0)
  (hq5:t.getD 5 undef = .slice oa 1 oc)
  (hq6:t.getD 6 undef = .int .i64 0)
  (hq7:t.getD 7 undef = .pointer (some ⟨B7,0,none⟩))
  (hq8:t.getD 8 undef = .bool true)
  (hq10:t.getD 10 undef = .bool false)
  (hq12:t.getD 12 undef = .int .i64 130)
  (hq14:t.getD 14 undef = .int .i64 130)
  (hq16:t.getD 16 undef = .int .i64 130)
  (hq17:t.getD 17 undef = .slice na 0 nc)
  (hq18:t.getD 18 undef = .int .i64 0)
  (hq19:t.getD 19 undef = .slice (some ⟨ib,io,none⟩) 1 ic)
  (hq20:t.getD 20 undef = .int .i64 0)
  (hq22:t.getD 22 undef = .int .i64 2)
  (hq23:t.getD 23 undef = .string ⟨#[97,61,40,49,32,50,59,120,41,59,121]⟩)
  (hq24:t.getD 24 undef = .int .i64 0)
  (hq196:t.getD 196 undef = .bool true)
  (hS:New w0 w) (k2:w0.cell? ⟨B7,2,none⟩=some (.slice (some ⟨ub,uo,none⟩) 1 uc)) (u0:w0.cell? ⟨ub,uo,none⟩=some (.int .u8 1)) (u1:w0.cell? ⟨ub,uo + 1,none⟩=some (.int .i64 1)) (u2:w0.cell? ⟨ub,uo + 2,none⟩=some (.string ⟨#[]⟩)) (u3:w0.cell? ⟨ub,uo + 3,none⟩=some (.bool false))
  (i1:w0.cell? ⟨ib,io + 1,none⟩=some (.bool true)) (i3:w0.cell? ⟨ib,io + 3,none⟩=some (.slice pa' 1 pcc))
  (HO:Hid (RdD true w0 (.slice oa 1 oc) dwO)) (HI:Hid (RdD true w0 (.slice (some ⟨ib,io,none⟩) 1 ic) dwI))
  (HNP:∀ c a w,¬ Q (.panic c) a w) (HQ:∀ a' W',a'.tmps.size=224→a'.defers = []→a'.tmps.getD 0 undef = .bool true→New w0 W'→Q .normal a' W') :
  wpAnyH Tryz.prog .any (opsOf reg_causeylaw13_wakes_15) Q (fun W=>New w0 W) 28 listed ⟨t,[]⟩ w:=by
 subst hl
 conv=>arg 3;whnf
 obtain ⟨u,rfl⟩:=lit224 t hs
 have hq1:u 1 = _:=hq1
 have hq2:u 2 = _:=hq2
 have hq3:u 3 = _:=hq3
 have hq4:u 4 = _:=hq4
 have hq5:u 5 = _:=hq5
 have hq6:u 6 = _:=hq6
 have hq7:u 7 = _:=hq7
 have hq8:u 8 = _:=hq8
 have hq10:u 10 = _:=hq10
 have hq12:u 12 = _:=hq12
 have hq14:u 14 = _:=hq14
 have hq16:u 16 = _:=hq16
 have hq17:u 17 = _:=hq17
 have hq18:u 18 = _:=hq18
 have hq19:u 19 = _:=hq19
 have hq20:u 20 = _:=hq20
 have hq22:u 22 = _:=hq22
 have hq23:u 23 = _:=hq23
 have hq24:u 24 = _:=hq24
 have hq196:u 196 = _:=hq196
 rw [hq1,hq2,hq3,hq4,hq5,hq6,hq7,hq8,hq10,hq12,hq14,hq16,hq17,hq18,hq19,hq20,hq22,hq23,hq24,hq196]
 clear hq1 hq2 hq3 hq4 hq5 hq6 hq7 hq8 hq10 hq12 hq14 hq16 hq17 hq18 hq19 hq20 hq22 hq23 hq24 hq196 hs
 refine tkO 96 ?_
 refine opH_call (some 197) rfl (by rfl) rfl 32 #[.string ⟨#[42,97,45,49]⟩] (by go_simp) (((key_any ⟨#[42,97,45,49]⟩ w (by decide)).mono (R':=fun e w'=>e = .returned (.bool true)∧New w w') (by rintro e w' ⟨rfl,h⟩;exact ⟨by rw [show bl ⟨#[42,97,45,49]⟩ = [42,97,45,49] from rfl,dwk1],h⟩)).mono ?_)
 rintro e w96 ⟨rfl,hk⟩
 have hS:=hS.trans hk
 clear hk
 refine ⟨_,rfl,hS,?_⟩
 simp only [pS]
 refine anyH_take 97 (some 198) (.bool true) rfl rfl (by kernel_rfl) (by kernel_rfl) (by kernel_rfl) (fun _ _ _ h=>(HNP _ _ _ h).elim) (.inl ⟨by rfl,fun W hW=>by go_simp⟩) hS ?_
 simp only [pS]
 refine anyH_take 98 (some 199) (.bool true) rfl rfl (by kernel_rfl) (by kernel_rfl) (by kernel_rfl) (fun _ _ _ h=>(HNP _ _ _ h).elim) (.inl ⟨by rfl,fun W hW=>by go_simp⟩) hS ?_
 simp only [pS]
 refine tkO 99 ?_
 refine opH_call (some 200) rfl (by rfl) rfl 32 #[.string ⟨#[49,97]⟩] (by go_simp) (((key_any ⟨#[49,97]⟩ w96 (by decide)).mono (R':=fun e w'=>e = .returned (.bool false)∧New w96 w') (by rintro e w' ⟨rfl,h⟩;exact ⟨by rw [show bl ⟨#[49,97]⟩ = [49,97] from rfl,dwk2],h⟩)).mono ?_)
 rintro e w99 ⟨rfl,hk⟩
 have hS:=hS.trans hk
 clear hk
 refine ⟨_,rfl,hS,?_⟩
 simp only [pS]
 refine anyH_take 100 (some 201) (.bool true) rfl rfl (by kernel_rfl) (by kernel_rfl) (by kernel_rfl) (fun _ _ _ h=>(HNP _ _ _ h).elim) (.inl ⟨by rfl,fun W hW=>by go_simp⟩) hS ?_
 simp only [pS]
 refine anyH_take 101 (some 202) (.bool true) rfl rfl (by kernel_rfl) (by kernel_rfl) (by kernel_rfl) (fun _ _ _ h=>(HNP _ _ _ h).elim) (.inl ⟨by rfl,fun W hW=>by go_simp⟩) hS ?_
 simp only [pS]
 refine anyH_take 102 (some 203) (.bool true) rfl rfl (by kernel_rfl) (by kernel_rfl) (by kernel_rfl) (fun _ _ _ h=>(HNP _ _ _ h).elim) (.inl ⟨by rfl,fun W hW=>by go_simp⟩) hS ?_
 simp only [pS]
 refine anyH_take 103 (some 204) (.slice (some ⟨ib,io,none⟩) 1 ic) rfl rfl (by kernel_rfl) (by kernel_rfl) (by kernel_rfl) (fun _ _ _ h=>(HNP _ _ _ h).elim) (.inl ⟨by rfl,fun W hW=>by go_simp⟩) hS ?_
 simp only [pS]
 refine tkO 104 ?_
 refine opH_call (some 205) rfl (by rfl) rfl 27 #[.slice (some ⟨ib,io,none⟩) 1 ic] (by go_simp) (((right_d _ dwI _ (HI.out.new hS) smI).mono (R':=fun e w'=>e = .returned (.bool true)∧New _ w') (by rintro e w' ⟨rfl,h⟩;exact ⟨by rw [dwr1],h⟩)).mono ?_)
 rintro e w104 ⟨rfl,hk⟩
 have hS:=hS.trans hk
 clear hk
 refine ⟨_,rfl,hS,?_⟩
 simp only [pS]
 refine anyH_take 105 (some 206) (.bool true) rfl rfl (by kernel_rfl) (by kernel_rfl) (by kernel_rfl) (fun _ _ _ h=>(HNP _ _ _ h).elim) (.inl ⟨by rfl,fun W hW=>by go_simp⟩) hS ?_
 simp only [pS]
 refine anyH_take 106 (some 207) (.bool true) rfl rfl (by kernel_rfl) (by kernel_rfl) (by kernel_rfl) (fun _ _ _ h=>(HNP _ _ _ h).elim) (.inl ⟨by rfl,fun W hW=>by go_simp⟩) hS ?_
 simp only [pS]
 refine anyH_take 107 (some 208) (.agg #[.string ⟨#[97]⟩,.bool false,.slice none 0 0,.slice none 0 0]) rfl rfl (by kernel_rfl) (by kernel_rfl) (by kernel_rfl) (fun _ _ _ h=>(HNP _ _ _ h).elim) (.inl ⟨by rfl,fun W hW=>by go_simp⟩) hS ?_
 simp only [pS]
 refine tkO 108 ?_
 refine opH_value (some 209) (v:=.slice (some ⟨w104.heap.size,0,none⟩) 1 1) (w':=w104.alloc (.cells #[.string ⟨#[97]⟩,.bool false,.slice none 0 0,.slice none 0 0] 64)) rfl (by rfl) rfl (by go_simp) ?_
 have hS:=hS.trans ((Mods.refl (fun _=>False) w104).alloc (.cells #[.string ⟨#[97]⟩,.bool false,.slice none 0 0,.slice none 0 0] 64))
 refine ⟨hS,?_⟩
 simp only [pS]
 refine tkO 109 ?_
 refine opH_call (some 210) rfl (by rfl) rfl 27 #[.slice (some ⟨w104.heap.size,0,none⟩) 1 1] (by go_simp) (((right_d _ [⟨[97],false,[],[]⟩] _ (bare_d w104 [97]) smB).mono (R':=fun e w'=>e = .returned (.bool false)∧New _ w') (by rintro e w' ⟨rfl,h⟩;exact ⟨by rw [dwr2],h⟩)).mono ?_)
 rintro e w109 ⟨rfl,hk⟩
 have hS:=hS.trans hk
 clear hk
 refine ⟨_,rfl,hS,?_⟩
 simp only [pS]
 refine anyH_take 110 (some 211) (.bool true) rfl rfl (by kernel_rfl) (by kernel_rfl) (by kernel_rfl) (fun _ _ _ h=>(HNP _ _ _ h).elim) (.inl ⟨by rfl,fun W hW=>by go_simp⟩) hS ?_
 simp only [pS]
 refine anyH_take 111 (some 212) (.bool true) rfl rfl (by kernel_rfl) (by kernel_rfl) (by kernel_rfl) (fun _ _ _ h=>(HNP _ _ _ h).elim) (.inl ⟨by rfl,fun W hW=>by go_simp⟩) hS ?_
 simp only [pS]
 refine anyH_take 112 (some 213) (.bool true) rfl rfl (by kernel_rfl) (by kernel_rfl) (by kernel_rfl) (fun _ _ _ h=>(HNP _ _ _ h).elim) (.inl ⟨by rfl,fun W hW=>by go_simp⟩) hS ?_
 simp only [pS]
 refine anyH_take 113 (some 214) (.slice (some ⟨ib,io,none⟩) 1 ic) rfl rfl (by kernel_rfl) (by kernel_rfl) (by kernel_rfl) (fun _ _ _ h=>(HNP _ _ _ h).elim) (.inl ⟨by rfl,fun W hW=>by go_simp⟩) hS ?_
 simp only [pS]
 refine anyH_take 114 (some 215) (.slice (some ⟨ib,io,none⟩) 1 ic) rfl rfl (by kernel_rfl) (by kernel_rfl) (by kernel_rfl) (fun _ _ _ h=>(HNP _ _ _ h).elim) (.inl ⟨by rfl,fun W hW=>by go_simp⟩) hS ?_
 simp only [pS]
 refine tkO 115 ?_
 refine opH_call (some 216) rfl (by rfl) rfl 58 #[.slice (some ⟨ib,io,none⟩) 1 ic,.slice (some ⟨ib,io,none⟩) 1 ic] (by go_simp) (((same_d _ _ dwI dwI _ (HI.out.new hS) (HI.out.new hS)).mono (R':=fun e w'=>e = .returned (.bool true)∧New _ w') (by rintro e w' ⟨rfl,h⟩;exact ⟨by rw [decide_eq_true rfl],h⟩)).mono ?_)
 rintro e w115 ⟨rfl,hk⟩
 have hS:=hS.trans hk
 clear hk
 refine ⟨_,rfl,hS,?_⟩
 simp only [pS]
 refine anyH_take 116 (some 217) (.bool true) rfl rfl (by kernel_rfl) (by kernel_rfl) (by kernel_rfl) (fun _ _ _ h=>(HNP _ _ _ h).elim) (.inl ⟨by rfl,fun W hW=>by go_simp⟩) hS ?_
 simp only [pS]
 refine anyH_take 117 (some 218) (.bool true) rfl rfl (by kernel_rfl) (by kernel_rfl) (by kernel_rfl) (fun _ _ _ h=>(HNP _ _ _ h).elim) (.inl ⟨by rfl,fun W hW=>by go_simp⟩) hS ?_
 simp only [pS]
 refine anyH_take 118 (some 219) (.slice (some ⟨ib,io,none⟩) 1 ic) rfl rfl (by kernel_rfl) (by kernel_rfl) (by kernel_rfl) (fun _ _ _ h=>(HNP _ _ _ h).elim) (.inl ⟨by rfl,fun W hW=>by go_simp⟩) hS ?_
 simp only [pS]
 refine anyH_take 119 (some 220) (.slice oa 1 oc) rfl rfl (by kernel_rfl) (by kernel_rfl) (by kernel_rfl) (fun _ _ _ h=>(HNP _ _ _ h).elim) (.inl ⟨by rfl,fun W hW=>by go_simp⟩) hS ?_
 simp only [pS]
 refine tkO 120 ?_
 refine opH_call (some 221) rfl (by rfl) rfl 58 #[.slice (some ⟨ib,io,none⟩) 1 ic,.slice oa 1 oc] (by go_simp) (((same_d _ _ dwI dwO _ (HI.out.new hS) (HO.out.new hS)).mono (R':=fun e w'=>e = .returned (.bool false)∧New _ w') (by rintro e w' ⟨rfl,h⟩;exact ⟨by rw [decide_eq_false (by decide)],h⟩)).mono ?_)
 rintro e w120 ⟨rfl,hk⟩
 have hS:=hS.trans hk
 clear hk
 refine ⟨_,rfl,hS,?_⟩
 simp only [pS]
 refine anyH_take 121 (some 222) (.bool true) rfl rfl (by kernel_rfl) (by kernel_rfl) (by kernel_rfl) (fun _ _ _ h=>(HNP _ _ _ h).elim) (.inl ⟨by rfl,fun W hW=>by go_simp⟩) hS ?_
 simp only [pS]
 refine anyH_take 122 (some 223) (.bool true) rfl rfl (by kernel_rfl) (by kernel_rfl) (by kernel_rfl) (fun _ _ _ h=>(HNP _ _ _ h).elim) (.inl ⟨by rfl,fun W hW=>by go_simp⟩) hS ?_
 simp only [pS]
 refine anyH_take 123 (some 0) (.bool true) rfl rfl (by kernel_rfl) (by kernel_rfl) (by kernel_rfl) (fun _ _ _ h=>(HNP _ _ _ h).elim) (.inl ⟨by rfl,fun W hW=>by go_simp⟩) hS ?_
 simp only [pS]
 refine wpAnyH_done (by kernel_rfl) ?_ _
 exact HQ _ _ rfl rfl rfl hS


theorem wk13b2 (t:Array Value) (hs:t.size=224) (w0 w:World) {la oa na pa':Option Addr} {lc oc nc ic B7 ib io ub uo uc pm pcc:Nat} {Q:Exit→Act→World→Prop} (listed:Array Bool) (hl:listed = #[true,true,true,true,true,true,true,true,true,true,true,true,true,true,true,true,true,true,true,true,true,true,true,true,true,true,true,true,true,true,true,true,true,true,true,true,true,true,true,true,true,true,true,true,true,true,true,true,true,true,true,true,true,true,true,true,true,true,true,true,true,true,true,true,true,true,true,true,true,false,false,false,false,false,false,false,false,false,false,false,false,false,false,false,false,false,false,false,false,false,false,false,false,false,false,false,false,false,false,false,false,false,false,false,false,false,false,false,false,false,false,false,false,false,false,false,false,false,false,false,false,false,false,false])
  (hq1:t.getD 1 undef = .slice la 2 lc)
  (hq2:t.getD 2 undef = .int .i64 0)
  (hq3:t.getD 3 undef = .string ⟨#[117,61,49,44,32,105]⟩)
  (hq4:t.getD 4 undef = .int .i64 0)
  (hq5:t.getD 5 undef = .slice oa 1 oc)
  (hq6:t.getD 6 undef = .int .i64 0)
  (hq7:t.getD 7 undef = .pointer (some ⟨B7,0,none⟩))
  (hq8:t.getD 8 undef = .bool true)
  (hq10:t.getD 10 undef = .bool false)
  (hq12:t.getD 12 undef = .int .i64 130)
  (hq14:t.getD 14 undef = .int .i64 130)
  (hq16:t.getD 16 undef = .int .i64 130)
  (hq17:t.getD 17 undef = .slice na 0 nc)
  (hq18:t.getD 18 undef = .int .i64 0)
  (hq19:t.getD 19 undef = .slice (some ⟨ib,io,none⟩) 1 ic)
  (hq20:t.getD 20 undef = .int .i64 0)
  (hq22:t.getD 22 undef = .int .i64 2)
  (hq23:t.getD 23 undef = .string ⟨#[97,61,40,49,32,50,59,120,41,59,121]⟩)
  (hq24:t.getD 24 undef = .int .i64 0)
  (hq169:t.getD 169 undef = .bool true)
  (hS:New w0 w) (k2:w0.cell? ⟨B7,2,none⟩=some (.slice (some ⟨ub,uo,none⟩) 1 uc)) (u0:w0.cell? ⟨ub,uo,none⟩=some (.int .u8 1)) (u1:w0.cell? ⟨ub,uo + 1,none⟩=some (.int .i64 1)) (u2:w0.cell? ⟨ub,uo + 2,none⟩=some (.string ⟨#[]⟩)) (u3:w0.cell? ⟨ub,uo + 3,none⟩=some (.bool false))
  (i1:w0.cell? ⟨ib,io + 1,none⟩=some (.bool true)) (i3:w0.cell? ⟨ib,io + 3,none⟩=some (.slice pa' 1 pcc))
  (HO:Hid (RdD true w0 (.slice oa 1 oc) dwO)) (HI:Hid (RdD true w0 (.slice (some ⟨ib,io,none⟩) 1 ic) dwI))
  (HNP:∀ c a w,¬ Q (.panic c) a w) (HQ:∀ a' W',a'.tmps.size=224→a'.defers = []→a'.tmps.getD 0 undef = .bool true→New w0 W'→Q .normal a' W') :
  wpAnyH Tryz.prog .any (opsOf reg_causeylaw13_wakes_15) Q (fun W=>New w0 W) 55 listed ⟨t,[]⟩ w:=by
 subst hl
 conv=>arg 3;whnf
 obtain ⟨u,rfl⟩:=lit224 t hs
 have hq1:u 1 = _:=hq1
 have hq2:u 2 = _:=hq2
 have hq3:u 3 = _:=hq3
 have hq4:u 4 = _:=hq4
 have hq5:u 5 = _:=hq5
 have hq6:u 6 = _:=hq6
 have hq7:u 7 = _:=hq7
 have hq8:u 8 = _:=hq8
 have hq10:u 10 = _:=hq10
 have hq12:u 12 = _:=hq12
 have hq14:u 14 = _:=hq14
 have hq16:u 16 = _:=hq16
 have hq17:u 17 = _:=hq17
 have hq18:u 18 = _:=hq18
 have hq19:u 19 = _:=hq19
 have hq20:u 20 = _:=hq20
 have hq22:u 22 = _:=hq22
 have hq23:u 23 = _:=hq23
 have hq24:u 24 = _:=hq24
 have hq169:u 169 = _:=hq169
 rw [hq1,hq2,hq3,hq4,hq5,hq6,hq7,hq8,hq10,hq12,hq14,hq16,hq17,hq18,hq19,hq20,hq22,hq23,hq24,hq169]
 clear hq1 hq2 hq3 hq4 hq5 hq6 hq7 hq8 hq10 hq12 hq14 hq16 hq17 hq18 hq19 hq20 hq22 hq23 hq24 hq169 hs
 refine anyH_take 69 (some 170) (.bool true) rfl rfl (by kernel_rfl) (by kernel_rfl) (by kernel_rfl) (fun _ _ _ h=>(HNP _ _ _ h).elim) (.inl ⟨by rfl,fun W hW=>by go_simp⟩) hS ?_
 simp only [pS]
 refine anyH_take 70 (some 171) (.slice (some ⟨ib,io,none⟩) 1 ic) rfl rfl (by kernel_rfl) (by kernel_rfl) (by kernel_rfl) (fun _ _ _ h=>(HNP _ _ _ h).elim) (.inl ⟨by rfl,fun W hW=>by go_simp⟩) hS ?_
 simp only [pS]
 refine anyH_take 71 (some 172) (.pointer (some ⟨ib,io,none⟩)) rfl rfl (by kernel_rfl) (by kernel_rfl) (by kernel_rfl) (fun _ _ _ h=>(HNP _ _ _ h).elim) (.inl ⟨by rfl,fun W hW=>by go_simp⟩) hS ?_
 simp only [pS]
 refine anyH_take 72 (some 173) (.pointer (some ⟨ib,io + 1,none⟩)) rfl rfl (by kernel_rfl) (by kernel_rfl) (by kernel_rfl) (fun _ _ _ h=>(HNP _ _ _ h).elim) (.inl ⟨by rfl,fun W hW=>by go_simp⟩) hS ?_
 simp only [pS]
 refine anyH_take 73 (some 174) (.bool true) rfl rfl (by kernel_rfl) (by kernel_rfl) (by kernel_rfl) (fun _ _ _ h=>(HNP _ _ _ h).elim) (.inl ⟨by rfl,fun W hW=>by have hh:New w0 W:=hW;have q:=hh.cell i1 id;go_simp⟩) hS ?_
 simp only [pS]
 refine anyH_take 74 (some 175) (.bool true) rfl rfl (by kernel_rfl) (by kernel_rfl) (by kernel_rfl) (fun _ _ _ h=>(HNP _ _ _ h).elim) (.inl ⟨by rfl,fun W hW=>by go_simp⟩) hS ?_
 simp only [pS]
 refine anyH_take 75 (some 176) (.bool true) rfl rfl (by kernel_rfl) (by kernel_rfl) (by kernel_rfl) (fun _ _ _ h=>(HNP _ _ _ h).elim) (.inl ⟨by rfl,fun W hW=>by go_simp⟩) hS ?_
 simp only [pS]
 refine anyH_take 76 (some 177) (.slice (some ⟨ib,io,none⟩) 1 ic) rfl rfl (by kernel_rfl) (by kernel_rfl) (by kernel_rfl) (fun _ _ _ h=>(HNP _ _ _ h).elim) (.inl ⟨by rfl,fun W hW=>by go_simp⟩) hS ?_
 simp only [pS]
 refine anyH_take 77 (some 178) (.pointer (some ⟨ib,io,none⟩)) rfl rfl (by kernel_rfl) (by kernel_rfl) (by kernel_rfl) (fun _ _ _ h=>(HNP _ _ _ h).elim) (.inl ⟨by rfl,fun W hW=>by go_simp⟩) hS ?_
 simp only [pS]
 refine anyH_take 78 (some 179) (.pointer (some ⟨ib,io + 3,none⟩)) rfl rfl (by kernel_rfl) (by kernel_rfl) (by kernel_rfl) (fun _ _ _ h=>(HNP _ _ _ h).elim) (.inl ⟨by rfl,fun W hW=>by go_simp⟩) hS ?_
 simp only [pS]
 refine anyH_take 79 (some 180) (.slice pa' 1 pcc) rfl rfl (by kernel_rfl) (by kernel_rfl) (by kernel_rfl) (fun _ _ _ h=>(HNP _ _ _ h).elim) (.inl ⟨by rfl,fun W hW=>by have hh:New w0 W:=hW;have q:=hh.cell i3 id;go_simp⟩) hS ?_
 simp only [pS]
 refine anyH_take 80 (some 181) (.int .i64 1) rfl rfl (by kernel_rfl) (by kernel_rfl) (by kernel_rfl) (fun _ _ _ h=>(HNP _ _ _ h).elim) (.inl ⟨by rfl,fun W hW=>by go_simp⟩) hS ?_
 simp only [pS]
 refine anyH_take 81 (some 182) (.bool true) rfl rfl (by kernel_rfl) (by kernel_rfl) (by kernel_rfl) (fun _ _ _ h=>(HNP _ _ _ h).elim) (.inl ⟨by rfl,fun W hW=>by go_simp⟩) hS ?_
 simp only [pS]
 refine anyH_take 82 (some 183) (.bool true) rfl rfl (by kernel_rfl) (by kernel_rfl) (by kernel_rfl) (fun _ _ _ h=>(HNP _ _ _ h).elim) (.inl ⟨by rfl,fun W hW=>by go_simp⟩) hS ?_
 simp only [pS]
 refine anyH_take 83 (some 184) (.bool true) rfl rfl (by kernel_rfl) (by kernel_rfl) (by kernel_rfl) (fun _ _ _ h=>(HNP _ _ _ h).elim) (.inl ⟨by rfl,fun W hW=>by go_simp⟩) hS ?_
 simp only [pS]
 refine anyH_take 84 (some 185) (.int .i64 2) rfl rfl (by kernel_rfl) (by kernel_rfl) (by kernel_rfl) (fun _ _ _ h=>(HNP _ _ _ h).elim) (.inl ⟨by rfl,fun W hW=>by go_simp⟩) hS ?_
 simp only [pS]
 refine anyH_take 85 (some 186) (.bool true) rfl rfl (by kernel_rfl) (by kernel_rfl) (by kernel_rfl) (fun _ _ _ h=>(HNP _ _ _ h).elim) (.inl ⟨by rfl,fun W hW=>by go_simp⟩) hS ?_
 simp only [pS]
 refine anyH_take 86 (some 187) (.bool true) rfl rfl (by kernel_rfl) (by kernel_rfl) (by kernel_rfl) (fun _ _ _ h=>(HNP _ _ _ h).elim) (.inl ⟨by rfl,fun W hW=>by go_simp⟩) hS ?_
 simp only [pS]
 refine anyH_take 87 (some 188) (.bool true) rfl rfl (by kernel_rfl) (by kernel_rfl) (by kernel_rfl) (fun _ _ _ h=>(HNP _ _ _ h).elim) (.inl ⟨by rfl,fun W hW=>by go_simp⟩) hS ?_
 simp only [pS]
 refine anyH_take 88 (some 189) (.string ⟨#[97,61,40,49,32,50,59,120,41,59,121]⟩) rfl rfl (by kernel_rfl) (by kernel_rfl) (by kernel_rfl) (fun _ _ _ h=>(HNP _ _ _ h).elim) (.inl ⟨by rfl,fun W hW=>by go_simp⟩) hS ?_
 simp only [pS]
 refine anyH_take 89 (some 190) (.bool true) rfl rfl (by kernel_rfl) (by kernel_rfl) (by kernel_rfl) (fun _ _ _ h=>(HNP _ _ _ h).elim) (.inl ⟨by rfl,fun W hW=>by go_simp⟩) hS ?_
 simp only [pS]
 refine anyH_take 90 (some 191) (.bool true) rfl rfl (by kernel_rfl) (by kernel_rfl) (by kernel_rfl) (fun _ _ _ h=>(HNP _ _ _ h).elim) (.inl ⟨by rfl,fun W hW=>by go_simp⟩) hS ?_
 simp only [pS]
 refine anyH_take 91 (some 192) (.bool true) rfl rfl (by kernel_rfl) (by kernel_rfl) (by kernel_rfl) (fun _ _ _ h=>(HNP _ _ _ h).elim) (.inl ⟨by rfl,fun W hW=>by go_simp⟩) hS ?_
 simp only [pS]
 refine anyH_take 92 (some 193) (.int .i64 0) rfl rfl (by kernel_rfl) (by kernel_rfl) (by kernel_rfl) (fun _ _ _ h=>(HNP _ _ _ h).elim) (.inl ⟨by rfl,fun W hW=>by go_simp⟩) hS ?_
 simp only [pS]
 refine anyH_take 93 (some 194) (.bool true) rfl rfl (by kernel_rfl) (by kernel_rfl) (by kernel_rfl) (fun _ _ _ h=>(HNP _ _ _ h).elim) (.inl ⟨by rfl,fun W hW=>by go_simp⟩) hS ?_
 simp only [pS]
 refine anyH_take 94 (some 195) (.bool true) rfl rfl (by kernel_rfl) (by kernel_rfl) (by kernel_rfl) (fun _ _ _ h=>(HNP _ _ _ h).elim) (.inl ⟨by rfl,fun W hW=>by go_simp⟩) hS ?_
 simp only [pS]
 refine anyH_take 95 (some 196) (.bool true) rfl rfl (by kernel_rfl) (by kernel_rfl) (by kernel_rfl) (fun _ _ _ h=>(HNP _ _ _ h).elim) (.inl ⟨by rfl,fun W hW=>by go_simp⟩) hS ?_
 simp only [pS]
 exact wk13c (pm:=0) _ rfl w0 _ _ (by kernel_rfl) rfl rfl rfl rfl rfl rfl rfl rfl rfl rfl rfl rfl rfl rfl rfl rfl rfl rfl rfl rfl hS k2 u0 u1 u2 u3 i1 i3 HO HI HNP HQ


theorem wk13b (t:Array Value) (hs:t.size=224) (w0 w:World) {la oa na pa':Option Addr} {lc oc nc ic B7 ib io ub uo uc pm pcc:Nat} {Q:Exit→Act→World→Prop} (listed:Array Bool) (hl:listed = #[true,true,true,true,true,true,true,true,true,true,true,true,true,true,true,true,true,true,true,true,true,true,true,true,true,true,true,true,true,true,true,true,true,true,true,true,true,true,true,true,true,false,false,false,false,false,false,false,false,false,false,false,false,false,false,false,false,false,false,false,false,false,false,false,false,false,false,false,false,false,false,false,false,false,false,false,false,false,false,false,false,false,false,false,false,false,false,false,false,false,false,false,false,false,false,false,false,false,false,false,false,false,false,false,false,false,false,false,false,false,false,false,false,false,false,false,false,false,false,false,false,false,false,false])
  (hq1:t.getD 1 undef = .slice la 2 lc)
  (hq2:t.getD 2 undef = .int .i64 0)
  (hq3:t.getD 3 undef = .string ⟨#[117,61,49,44,32,105]⟩)
  (hq4:t.getD 4 undef = .int .i64 0)
  (hq5:t.getD 5 undef = .slice oa 1 oc)
  (hq6:t.getD 6 undef = .int .i64 0)
  (hq7:t.getD 7 undef = .pointer (some ⟨B7,0,none⟩))
  (hq8:t.getD 8 undef = .bool true)
  (hq10:t.getD 10 undef = .bool false)
  (hq12:t.getD 12 undef = .int .i64 130)
  (hq14:t.getD 14 undef = .int .i64 130)
  (hq16:t.getD 16 undef = .int .i64 130)
  (hq17:t.getD 17 undef = .slice na 0 nc)
  (hq18:t.getD 18 undef = .int .i64 0)
  (hq19:t.getD 19 undef = .slice (some ⟨ib,io,none⟩) 1 ic)
  (hq20:t.getD 20 undef = .int .i64 0)
  (hq22:t.getD 22 undef = .int .i64 2)
  (hq23:t.getD 23 undef = .string ⟨#[97,61,40,49,32,50,59,120,41,59,121]⟩)
  (hq24:t.getD 24 undef = .int .i64 0)
  (hq141:t.getD 141 undef = .bool true)
  (hS:New w0 w) (k2:w0.cell? ⟨B7,2,none⟩=some (.slice (some ⟨ub,uo,none⟩) 1 uc)) (u0:w0.cell? ⟨ub,uo,none⟩=some (.int .u8 1)) (u1:w0.cell? ⟨ub,uo + 1,none⟩=some (.int .i64 1)) (u2:w0.cell? ⟨ub,uo + 2,none⟩=some (.string ⟨#[]⟩)) (u3:w0.cell? ⟨ub,uo + 3,none⟩=some (.bool false))
  (i1:w0.cell? ⟨ib,io + 1,none⟩=some (.bool true)) (i3:w0.cell? ⟨ib,io + 3,none⟩=some (.slice pa' 1 pcc))
  (HO:Hid (RdD true w0 (.slice oa 1 oc) dwO)) (HI:Hid (RdD true w0 (.slice (some ⟨ib,io,none⟩) 1 ic) dwI))
  (HNP:∀ c a w,¬ Q (.panic c) a w) (HQ:∀ a' W',a'.tmps.size=224→a'.defers = []→a'.tmps.getD 0 undef = .bool true→New w0 W'→Q .normal a' W') :
  wpAnyH Tryz.prog .any (opsOf reg_causeylaw13_wakes_15) Q (fun W=>New w0 W) 83 listed ⟨t,[]⟩ w:=by
 subst hl
 conv=>arg 3;whnf
 obtain ⟨u,rfl⟩:=lit224 t hs
 have hq1:u 1 = _:=hq1
 have hq2:u 2 = _:=hq2
 have hq3:u 3 = _:=hq3
 have hq4:u 4 = _:=hq4
 have hq5:u 5 = _:=hq5
 have hq6:u 6 = _:=hq6
 have hq7:u 7 = _:=hq7
 have hq8:u 8 = _:=hq8
 have hq10:u 10 = _:=hq10
 have hq12:u 12 = _:=hq12
 have hq14:u 14 = _:=hq14
 have hq16:u 16 = _:=hq16
 have hq17:u 17 = _:=hq17
 have hq18:u 18 = _:=hq18
 have hq19:u 19 = _:=hq19
 have hq20:u 20 = _:=hq20
 have hq22:u 22 = _:=hq22
 have hq23:u 23 = _:=hq23
 have hq24:u 24 = _:=hq24
 have hq141:u 141 = _:=hq141
 rw [hq1,hq2,hq3,hq4,hq5,hq6,hq7,hq8,hq10,hq12,hq14,hq16,hq17,hq18,hq19,hq20,hq22,hq23,hq24,hq141]
 clear hq1 hq2 hq3 hq4 hq5 hq6 hq7 hq8 hq10 hq12 hq14 hq16 hq17 hq18 hq19 hq20 hq22 hq23 hq24 hq141 hs
 refine anyH_take 41 (some 142) (.bool false) rfl rfl (by kernel_rfl) (by kernel_rfl) (by kernel_rfl) (fun _ _ _ h=>(HNP _ _ _ h).elim) (.inl ⟨by rfl,fun W hW=>by go_simp⟩) hS ?_
 simp only [pS]
 refine anyH_take 42 (some 143) (.bool true) rfl rfl (by kernel_rfl) (by kernel_rfl) (by kernel_rfl) (fun _ _ _ h=>(HNP _ _ _ h).elim) (.inl ⟨by rfl,fun W hW=>by go_simp⟩) hS ?_
 simp only [pS]
 refine anyH_take 43 (some 144) (.bool true) rfl rfl (by kernel_rfl) (by kernel_rfl) (by kernel_rfl) (fun _ _ _ h=>(HNP _ _ _ h).elim) (.inl ⟨by rfl,fun W hW=>by go_simp⟩) hS ?_
 simp only [pS]
 refine anyH_take 44 (some 145) (.bool true) rfl rfl (by kernel_rfl) (by kernel_rfl) (by kernel_rfl) (fun _ _ _ h=>(HNP _ _ _ h).elim) (.inl ⟨by rfl,fun W hW=>by go_simp⟩) hS ?_
 simp only [pS]
 refine anyH_take 45 (some 146) (.int .i64 130) rfl rfl (by kernel_rfl) (by kernel_rfl) (by kernel_rfl) (fun _ _ _ h=>(HNP _ _ _ h).elim) (.inl ⟨by rfl,fun W hW=>by go_simp⟩) hS ?_
 simp only [pS]
 refine anyH_take 46 (some 147) (.bool true) rfl rfl (by kernel_rfl) (by kernel_rfl) (by kernel_rfl) (fun _ _ _ h=>(HNP _ _ _ h).elim) (.inl ⟨by rfl,fun W hW=>by go_simp⟩) hS ?_
 simp only [pS]
 refine anyH_take 47 (some 148) (.bool true) rfl rfl (by kernel_rfl) (by kernel_rfl) (by kernel_rfl) (fun _ _ _ h=>(HNP _ _ _ h).elim) (.inl ⟨by rfl,fun W hW=>by go_simp⟩) hS ?_
 simp only [pS]
 refine anyH_take 48 (some 149) (.bool true) rfl rfl (by kernel_rfl) (by kernel_rfl) (by kernel_rfl) (fun _ _ _ h=>(HNP _ _ _ h).elim) (.inl ⟨by rfl,fun W hW=>by go_simp⟩) hS ?_
 simp only [pS]
 refine anyH_take 49 (some 150) (.int .i64 130) rfl rfl (by kernel_rfl) (by kernel_rfl) (by kernel_rfl) (fun _ _ _ h=>(HNP _ _ _ h).elim) (.inl ⟨by rfl,fun W hW=>by go_simp⟩) hS ?_
 simp only [pS]
 refine anyH_take 50 (some 151) (.bool true) rfl rfl (by kernel_rfl) (by kernel_rfl) (by kernel_rfl) (fun _ _ _ h=>(HNP _ _ _ h).elim) (.inl ⟨by rfl,fun W hW=>by go_simp⟩) hS ?_
 simp only [pS]
 refine anyH_take 51 (some 152) (.bool true) rfl rfl (by kernel_rfl) (by kernel_rfl) (by kernel_rfl) (fun _ _ _ h=>(HNP _ _ _ h).elim) (.inl ⟨by rfl,fun W hW=>by go_simp⟩) hS ?_
 simp only [pS]
 refine anyH_take 52 (some 153) (.bool true) rfl rfl (by kernel_rfl) (by kernel_rfl) (by kernel_rfl) (fun _ _ _ h=>(HNP _ _ _ h).elim) (.inl ⟨by rfl,fun W hW=>by go_simp⟩) hS ?_
 simp only [pS]
 refine anyH_take 53 (some 154) (.int .i64 130) rfl rfl (by kernel_rfl) (by kernel_rfl) (by kernel_rfl) (fun _ _ _ h=>(HNP _ _ _ h).elim) (.inl ⟨by rfl,fun W hW=>by go_simp⟩) hS ?_
 simp only [pS]
 refine anyH_take 54 (some 155) (.bool true) rfl rfl (by kernel_rfl) (by kernel_rfl) (by kernel_rfl) (fun _ _ _ h=>(HNP _ _ _ h).elim) (.inl ⟨by rfl,fun W hW=>by go_simp⟩) hS ?_
 simp only [pS]
 refine anyH_take 55 (some 156) (.bool true) rfl rfl (by kernel_rfl) (by kernel_rfl) (by kernel_rfl) (fun _ _ _ h=>(HNP _ _ _ h).elim) (.inl ⟨by rfl,fun W hW=>by go_simp⟩) hS ?_
 simp only [pS]
 refine anyH_take 56 (some 157) (.bool true) rfl rfl (by kernel_rfl) (by kernel_rfl) (by kernel_rfl) (fun _ _ _ h=>(HNP _ _ _ h).elim) (.inl ⟨by rfl,fun W hW=>by go_simp⟩) hS ?_
 simp only [pS]
 refine anyH_take 57 (some 158) (.slice na 0 nc) rfl rfl (by kernel_rfl) (by kernel_rfl) (by kernel_rfl) (fun _ _ _ h=>(HNP _ _ _ h).elim) (.inl ⟨by rfl,fun W hW=>by go_simp⟩) hS ?_
 simp only [pS]
 refine anyH_take 58 (some 159) (.int .i64 0) rfl rfl (by kernel_rfl) (by kernel_rfl) (by kernel_rfl) (fun _ _ _ h=>(HNP _ _ _ h).elim) (.inl ⟨by rfl,fun W hW=>by go_simp⟩) hS ?_
 simp only [pS]
 refine anyH_take 59 (some 160) (.bool true) rfl rfl (by kernel_rfl) (by kernel_rfl) (by kernel_rfl) (fun _ _ _ h=>(HNP _ _ _ h).elim) (.inl ⟨by rfl,fun W hW=>by go_simp⟩) hS ?_
 simp only [pS]
 refine anyH_take 60 (some 161) (.bool true) rfl rfl (by kernel_rfl) (by kernel_rfl) (by kernel_rfl) (fun _ _ _ h=>(HNP _ _ _ h).elim) (.inl ⟨by rfl,fun W hW=>by go_simp⟩) hS ?_
 simp only [pS]
 refine anyH_take 61 (some 162) (.bool true) rfl rfl (by kernel_rfl) (by kernel_rfl) (by kernel_rfl) (fun _ _ _ h=>(HNP _ _ _ h).elim) (.inl ⟨by rfl,fun W hW=>by go_simp⟩) hS ?_
 simp only [pS]
 refine anyH_take 62 (some 163) (.int .i64 0) rfl rfl (by kernel_rfl) (by kernel_rfl) (by kernel_rfl) (fun _ _ _ h=>(HNP _ _ _ h).elim) (.inl ⟨by rfl,fun W hW=>by go_simp⟩) hS ?_
 simp only [pS]
 refine anyH_take 63 (some 164) (.bool true) rfl rfl (by kernel_rfl) (by kernel_rfl) (by kernel_rfl) (fun _ _ _ h=>(HNP _ _ _ h).elim) (.inl ⟨by rfl,fun W hW=>by go_simp⟩) hS ?_
 simp only [pS]
 refine anyH_take 64 (some 165) (.bool true) rfl rfl (by kernel_rfl) (by kernel_rfl) (by kernel_rfl) (fun _ _ _ h=>(HNP _ _ _ h).elim) (.inl ⟨by rfl,fun W hW=>by go_simp⟩) hS ?_
 simp only [pS]
 refine anyH_take 65 (some 166) (.bool true) rfl rfl (by kernel_rfl) (by kernel_rfl) (by kernel_rfl) (fun _ _ _ h=>(HNP _ _ _ h).elim) (.inl ⟨by rfl,fun W hW=>by go_simp⟩) hS ?_
 simp only [pS]
 refine anyH_take 66 (some 167) (.int .i64 0) rfl rfl (by kernel_rfl) (by kernel_rfl) (by kernel_rfl) (fun _ _ _ h=>(HNP _ _ _ h).elim) (.inl ⟨by rfl,fun W hW=>by go_simp⟩) hS ?_
 simp only [pS]
 refine anyH_take 67 (some 168) (.bool true) rfl rfl (by kernel_rfl) (by kernel_rfl) (by kernel_rfl) (fun _ _ _ h=>(HNP _ _ _ h).elim) (.inl ⟨by rfl,fun W hW=>by go_simp⟩) hS ?_
 simp only [pS]
 refine anyH_take 68 (some 169) (.bool true) rfl rfl (by kernel_rfl) (by kernel_rfl) (by kernel_rfl) (fun _ _ _ h=>(HNP _ _ _ h).elim) (.inl ⟨by rfl,fun W hW=>by go_simp⟩) hS ?_
 simp only [pS]
 exact wk13b2 (pm:=0) _ rfl w0 _ _ (by kernel_rfl) rfl rfl rfl rfl rfl rfl rfl rfl rfl rfl rfl rfl rfl rfl rfl rfl rfl rfl rfl rfl hS k2 u0 u1 u2 u3 i1 i3 HO HI HNP HQ
end Go.Proofs.YtkiiameibdhdfaaGreatDoor
