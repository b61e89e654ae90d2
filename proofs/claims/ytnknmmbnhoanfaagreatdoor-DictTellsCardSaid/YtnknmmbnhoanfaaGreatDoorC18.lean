/- Texts joined. -/
import Derived.Test.YtnknmmbnhoanfaaGreatDoorC17
import Derived.Test.YtnknmmbnhoanfaaGreatDoorC08
import Derived.Test.YtnknmmbnhoanfaaGreatDoorC10
import Derived.Test.YtnknmmbnhoanfaaGreatDoorC09
import Derived.Test.YtnknmmbnhoanfaaGreatDoorC11
set_option linter.unusedSimpArgs false
set_option linter.unusedVariables false
set_option maxHeartbeats 16000000
set_option maxRecDepth 100000
namespace Go.Proofs.YtnknmmbnhoanfaaGreatDoor
open Go.RowKit Go.Shelf Go.Cs
attribute [local go_sem] Oper.semAt_some


theorem lit29 (t:Array Value) (h:t.size=29):∃ u:Nat→Value,t=(u 0::u 1::u 2::u 3::u 4::u 5::u 6::u 7::u 8::u 9::u 10::u 11::u 12::u 13::u 14::u 15::u 16::u 17::u 18::u 19::u 20::u 21::u 22::u 23::u 24::u 25::u 26::u 27::u 28::([]:List Value)).toArray:=⟨fun i=>t.getD i undef,range_lit t 29 h⟩
noncomputable def reg_causeyref13_putParam_4:Code:=((Tryz.f172.body.bind (regionOf 4)).getD .skip)
theorem putp4 (t:Array Value) (hs:t.size=29) (w:World) {g B k n cap:Nat} {a b:ByteArray} {y:Bool}
  (hq0:t.getD 0 undef = .slice (some ⟨g,0,none⟩) n cap)
  (hq3:t.getD 3 undef = .pointer (some ⟨B,0,none⟩))
  (hq5:t.getD 5 undef = .int .i64 k)
  (c0:w.cell? ⟨g,k * 5,none⟩=some (.string a)) (c1:w.cell? ⟨B,0,none⟩=some (.string b)) (hk:k < n) (hy:(a.toList == b.toList)=y) :
  reg_causeyref13_putParam_4.wp Tryz.prog (Only fun a' W'=>∃ z:Nat→Value,a'=⟨((pz t z [12,13,14,15,16,17,18]).setIfInBounds 19 (.bool y)),[]⟩∧New w W') ⟨t,[]⟩ w:=by
 conv=>arg 2;whnf
 obtain ⟨u,rfl⟩:=lit29 t hs
 have hq0:u 0 = _:=hq0
 have hq3:u 3 = _:=hq3
 have hq5:u 5 = _:=hq5
 rw [hq0,hq3,hq5]
 clear hq0 hq3 hq5 hs
 have hid:decide ((k:Int) < (n:Int))=true:=decide_eq_true (by omega)
 refine wp_region_held (S:=fun W=>New w W) (by kernel_rfl) ?_
 show wpAnyH _ _ _ _ _ 8 _ _ w.drew
 have hN:New w w.drew:=(Mods.refl _ _).drew
 have hS:New w w.drew:=(Mods.refl _ _).drew
 refine tkI 0 (some 12) (.slice (some ⟨g,0,none⟩) n cap) hS ?_
 simp only [pS]
 refine tkI 1 (some 13) (.int .i64 k) hS ?_
 simp only [pS]
 refine tkI 2 (some 14) (.pointer (some ⟨g,k * 5,none⟩)) hS ?_
 simp only [pS]
 refine tkI 3 (some 15) (.pointer (some ⟨g,k * 5,none⟩)) hS ?_
 simp only [pS]
 refine tkA 4 rfl (some 16) (.string a) (.inl ⟨by rfl,fun W hW=>by have q:=hW.cell c0 id;go_simp⟩) hS ?_
 simp only [pS]
 refine tkI 5 (some 17) (.pointer (some ⟨B,0,none⟩)) hS ?_
 simp only [pS]
 refine tkA 6 rfl (some 18) (.string b) (.inl ⟨by rfl,fun W hW=>by have q:=hW.cell c1 id;go_simp⟩) hS ?_
 simp only [pS]
 refine tkA 7 rfl (some 19) (.bool y) (.inl ⟨by rfl,fun W hW=>by go_simp;first | done | exact hy⟩) hS ?_
 simp only [pS]
 refine wpAnyH_done (by kernel_rfl) ?_ _
 exact zc rfl hN
theorem putParam_r {base:Nat} (v:Value) (l:List Bare.Par) (p:Bare.Par) (w:World) (h:OwP base w v l.length (pf l)) (hnd:(l.map (·.key)).Nodup) (hl:l.length ≤ 1000000) (hb:base ≤ w.heap.size) :
  Calls Tryz.prog 172 #[v,.agg (pcs p).toArray] w fun e w'=>∃ v',e = .returned v'∧OwP base w' v' (Bare.setP l p).length (pf (Bare.setP l p))∧Mods (fun g=>v.ownBlock=some g) w w':=by
 have HL:=Lib.hid h
 obtain ⟨ao,cap,rfl⟩:=h.slice
 have hA:New w (w.alloc (.cells (pcs p).toArray 83)):=(Mods.refl _ _).alloc _
 have rB:=World.alloc_heap_new w (.cells (pcs p).toArray 83)
 obtain ⟨n,hn⟩:∃ n,l.length=n:=⟨_,rfl⟩
 have Hn:=Lib.hid hn
 rw [hn] at h HL hl ⊢
 have hLt:=Lib.hid (fun g hg=>(h.lt (g:=g) hg).2)
 clear h hn
 obtain ⟨Post,hPost⟩:∃ Post:Ending→World→Prop,(fun e w'=>∃ v',e = .returned v'∧OwP base w' v' (Bare.setP l p).length (pf (Bare.setP l p))∧Mods (fun g=>Value.ownBlock (.slice ao n cap)=some g) w w')=Post:=⟨_,rfl⟩
 have HPost:=Lib.hid hPost
 rw [hPost]
 clear hPost
 obtain ⟨W1,hW1⟩:∃ V,w.alloc (.cells (pcs p).toArray 83)=V:=⟨_,rfl⟩
 have hs1:W1.heap.size=w.heap.size + 1:=by rw [← hW1];simp
 have hW1':w.alloc (.cells #[.string (tx p.key),.int .u8 p.bare.kind,.int .i64 p.bare.int,.string (tx p.bare.text),.bool p.bare.yes] 83)=W1:=hW1
 rw [hW1] at hA rB
 obtain ⟨B,hB⟩:∃ b,w.heap.size=b:=⟨_,rfl⟩
 rw [hB] at rB hs1
 have hbB:base ≤ B:=by omega
 have hLB:Hid (∀ g,Value.ownBlock (.slice ao n cap)=some g→g < B):=Lib.hid fun g hg=>by have:=hLt.out g hg;omega
 have HR0:=Lib.hid rB
 unfold pcs
 go_enter Tryz.func172,Tryz.ntmps172
 go_upto_region 2 with fail
 clear hW1 hW1' hB hLt rB
 go_loopw [5] (fun t wr=>∃ k:Nat,k ≤ n∧t = .int .i64 k∧Hid (∀ j,j < k→(l.getD j noP).key ≠ p.key)∧New W1 wr) (fun t _=>n - (intOf t).toNat)
 case atStart=>exact ⟨0,Nat.zero_le _,rfl,Lib.hid fun i hi=>by omega,Mods.refl _ _⟩
 case round =>
  obtain ⟨k,hk,rfl,hbef,hN⟩:=hrel
  have ho:=HL.out.new (hA.trans hN)
  have rB:=hN.heap HR0.out id
  by_cases hlt:k < n
  ·have hkd:decide ((k:Int) < (n:Int))=true:=decide_eq_true (by omega)
   obtain ⟨g,og,rfl,-⟩:=(ho.row (by omega)).at.2.2 k hlt
   obtain rfl:og=0:=by
    rcases ho.2.2.2 with ⟨h,_⟩ | ⟨b',cap',cur,h,_⟩
    ·cases h
    ·cases h;rfl
   obtain ⟨b',o',e',hrw⟩:=(ho.row (by omega)).at.2.2 k hlt
   obtain ⟨rfl,rfl⟩:b'=g∧o'=0:=by cases e';exact ⟨rfl,rfl⟩
   rw [Nat.zero_add] at hrw
   obtain ⟨m0,m1,m2,m3,m4⟩:=cells5 hrw
   have hgB:b' < B:=hLB.out b' rfl
   obtain ⟨x,hx⟩:∃ x,l.getD k noP=x:=⟨_,rfl⟩
   have HX:=Lib.hid hx
   have m0:wr.cell? ⟨b',k * 5,none⟩=some (.string (tx x.key)):=by rw [← hx];exact m0
   obtain ⟨q0,q1,q2,q3,q4⟩:=par_cells rB
   have hey:=eq_tx (tx x.key) (tx p.key)
   rw [bl_tx,bl_tx] at hey
   by_cases heq:x.key=p.key
   ·rw [decide_eq_true heq] at hey
    have hset:=Lib.hid (setP_set (p:=p) hnd (show k < l.length by rw [Hn.out];exact hlt) (by rw [HX.out];exact heq))
    have z0:=ho.frozen rfl (k * 5)
    have z1:=ho.frozen rfl (k * 5 + 1)
    have z2:=ho.frozen rfl (k * 5 + 2)
    have z3:=ho.frozen rfl (k * 5 + 3)
    have z4:=ho.frozen rfl (k * 5 + 4)
    have HO:=Lib.hid ho
    have HM0:=Lib.hid m0
    have HQ:=Lib.hid q0
    have HTh:Hid (wr.there b' (k * 5) 5):=Lib.hid fun j hj=>by
     have:j=0 ∨ j=1 ∨ j=2 ∨ j=3 ∨ j=4:=by omega
     rcases this with rfl | rfl | rfl | rfl | rfl
     ·exact ⟨by rw [Nat.add_zero,m0];rfl,by rw [Nat.add_zero];exact z0⟩
     ·exact ⟨by rw [m1];rfl,z1⟩
     ·exact ⟨by rw [m2];rfl,z2⟩
     ·exact ⟨by rw [m3];rfl,z3⟩
     ·exact ⟨by rw [m4];rfl,z4⟩
    clear e' hrw m0 m1 m2 m3 m4 z0 z1 z2 z3 z4 ho hx heq hbef q0 q1 q2 q3 q4
    go_upto_region 4 with fail
    refine piece (fun _=>_) (putp4 _ rfl wr rfl rfl rfl HM0.out HQ.out hlt hey) ?_
    rintro a' w4 ⟨z,rfl,hN4⟩
    simp only [pS]
    have ho4:=HO.out.new hN4
    have hput:=Lib.hid (ho4.put hlt (.string (tx p.key)) (.int .u8 p.bare.kind) (.int .i64 p.bare.int) (.string (tx p.bare.text)) (.bool p.bare.yes) (pcs_one p))
    have hthere:w4.there b' (k * 5) 5:=fun j hj=>by
     obtain ⟨h1,h2⟩:=HTh.out j hj
     obtain ⟨u,hu⟩:=Option.isSome_iff_exists.1 h1
     exact ⟨by rw [hN4.cell hu id];rfl,by
      rcases ho4.2.2.2 with ⟨h,_⟩ | ⟨b2,cap',cur,h,_,hb,_⟩
      ·cases h
      ·cases h;exact frozen_row hb⟩
    have hN:=hN.trans hN4
    obtain ⟨q0,q1,q2,q3,q4⟩:=par_cells (hN4.heap rB id)
    clear ho4 HTh HO HM0 HQ rB
    go_wp2_with (refine wpList_store_midN rfl rfl 83 (.tmp 23) (.tmp 22) rfl b' (k * 5) (pcs p) rfl rfl hthere sizeP (pcs_one p) ?_)
    obtain ⟨W10,hW10⟩:∃ W10,w4.setCells b' (k * 5) (pcs p)=W10:=⟨_,rfl⟩
    have hp10:=hput.out
    have hW11:(((((w4.setCell ⟨b',k * 5 + 0,none⟩ (.string (tx p.key))).setCell ⟨b',k * 5 + 1,none⟩ (.int .u8 p.bare.kind)).setCell ⟨b',k * 5 + 2,none⟩ (.int .i64 p.bare.int)).setCell ⟨b',k * 5 + 3,none⟩ (.string (tx p.bare.text))).setCell ⟨b',k * 5 + 4,none⟩ (.bool p.bare.yes))=W10:=hW10
    rw [hW11] at hp10
    have hmg:Mods (fun x=>x=b') w4 W10:=by
     rw [← hW10]
     exact setCells_mods _ _ _ _
    rw [hW10]
    go_wp2_with fail
    rw [← HPost.out,hset.out]
    refine ⟨_,rfl,?_,((Mods.ofNew (hA.trans hN)).trans hmg).mono (fun g hg=>by rw [hg];rfl)⟩
    rw [List.length_set,Hn.out]
    refine hp10.congr (pf_len _) fun i hi=>?_
    unfold pf
    rw [getD_set]
    by_cases e:i=k
    ·subst e;rw [if_pos rfl,if_pos ⟨rfl,by rw [Hn.out];exact hi⟩];rfl
    ·rw [if_neg e,if_neg (fun h=>e h.1.symm)]
   ·rw [decide_eq_false heq] at hey
    have hh:Hid (∀ j,j < k + 1→(l.getD j noP).key ≠ p.key):=Lib.hid fun i hi=>by
     by_cases hik:i < k
     ·exact hbef.out i hik
     ·obtain rfl:i=k:=by omega
      rw [HX.out];exact heq
    have HM0:=Lib.hid m0
    have HQ:=Lib.hid q0
    clear e' hrw m0 m1 m2 m3 m4 ho hx heq hbef q0 q1 q2 q3 q4 rB
    go_upto_region 4 with fail
    refine piece (fun _=>_) (putp4 _ rfl wr rfl rfl rfl HM0.out HQ.out hlt hey) ?_
    rintro a' w4 ⟨z,rfl,hN4⟩
    simp only [pS]
    clear HM0 HQ
    go_wp2_with fail
    go_roundw
    case rel=>exact ⟨k + 1,by omega,by go_num,hh,hN.trans hN4⟩
    case measure=>simp [intOf];omega
  ·obtain rfl:k=n:=by omega
   have hkd:decide ((k:Int) < (k:Int))=false:=decide_eq_false (by omega)
   have hadd:=setP_add (p:=p) (fun i hi=>hbef.out i (by rw [Hn.out] at hi;exact hi))
   have HO:=Lib.hid ho
   obtain ⟨q0,q1,q2,q3,q4⟩:=par_cells rB
   have hwb:base ≤ wr.heap.size:=by have:=hN.size;omega
   clear hbef ho rB
   go_wp2_with (at_builtin;refine wpList_append_P (w:=wr) (c:=pcs p) _ _ rfl rfl rfl rfl rfl rfl (pcs_one p) HO.out (by omega) hwb ?_;intro v' W' ho' hm';obtain ⟨a',c',rfl⟩:=ho'.slice)
   go_wp2_with fail
   rw [← HPost.out,hadd]
   refine ⟨_,rfl,?_,hm' w _ (Mods.ofNew (hA.trans hN)) (fun g hg=>.inr hg)⟩
   rw [List.length_append,Hn.out]
   refine ho'.congr (pf_len _) fun i hi=>?_
   unfold pf
   by_cases e:i=k
   ·rw [if_pos e,e,List.getD_eq_getElem?_getD,List.getElem?_append_right (by rw [Hn.out];exact Nat.le_refl _),Hn.out,Nat.sub_self];rfl
   ·rw [if_neg e,List.getD_eq_getElem?_getD,List.getD_eq_getElem?_getD,List.getElem?_append_left (by rw [Hn.out];have:i < k + 1:=hi;omega)]


theorem begN_yes {s:ByteArray} {d:Nat} (hd:d < 256) (h:begN (bl s) d=true):0 < s.size∧bl s=UInt8.ofNat d::(bl s).drop 1:=by
 by_cases h0:s.size=0
 ·rw [begN_nil s d h0] at h;cases h
 ·rw [begN_at s d (by omega)] at h
  refine ⟨by omega,?_⟩
  conv=>lhs;rw [first_drop s (by omega)]
  congr 1
  rw [← UInt8.toNat_inj,of_decide_eq_true h]
  simp [Nat.mod_eq_of_lt hd]
theorem begN_no {s:ByteArray} {d:Nat} (hd:d < 256) (h:begN (bl s) d=false):(bl s).head? ≠ some (UInt8.ofNat d):=by
 by_cases h0:s.size=0
 ·have:bl s = []:=List.length_eq_zero_iff.1 (by rw [bl_len];exact h0)
  rw [this];intro h;cases h
 ·rw [begN_at s d (by omega)] at h
  rw [first_drop s (by omega)]
  intro e
  have e:gb s 0=UInt8.ofNat d:=Option.some.inj e
  refine of_decide_eq_false h ?_
  rw [e]
  simp [Nat.mod_eq_of_lt hd]
def ReadPs (r:Option (List Bare.Par × Bare.Bs)) (base:Nat) (e:Ending) (w':World):Prop:=match r with
 | none=>e = .returned (.tuple #[.slice none 0 0,.string ⟨#[]⟩,.bool false])
 | some (ps,q)=>∃ v,e = .returned (.tuple #[v,.string (tx q),.bool true])∧OwP base w' v ps.length (pf ps)
theorem readParams_r (s:ByteArray) (w:World) (hs:s.size ≤ 1000000) :
  Calls Tryz.prog 137 #[.string s] w fun e w'=>ReadPs (Bare.readParams [] (bl s)) w.heap.size e w'∧New w w':=by
 obtain ⟨R,hR⟩:∃ R,Bare.readParams [] (bl s)=R:=⟨_,rfl⟩
 have HR:=Lib.hid hR
 rw [hR]
 clear hR
 have hN0:New w w:=Mods.refl _ _
 obtain ⟨B,hB⟩:∃ B,w.heap.size=B:=⟨_,rfl⟩
 have hNs:Hid (∀ W,New w W→B ≤ W.heap.size):=Lib.hid fun W h=>by have:=h.size;omega
 have hBw:w.heap.size ≤ B:=by omega
 rw [hB]
 have ho0:=OwP.nil B w (pf []) (pf_len [])
 obtain ⟨Post,hPost⟩:∃ Post:Ending→World→Prop,(fun e w'=>ReadPs R B e w'∧New w w')=Post:=⟨_,rfl⟩
 have HPost:=Lib.hid hPost
 rw [hPost]
 clear hPost hB
 go_enter Tryz.func137,Tryz.ntmps137
 go_upto_region 2 with fail
 go_loopw [0,5] (fun t v wr=>∃ (q:ByteArray) (l:List Bare.Par),t = .string q∧q.size ≤ s.size∧OwP B wr v l.length (pf l)∧(l.map (·.key)).Nodup∧l.length + q.size ≤ s.size∧Hid (Bare.readParams l (bl q)=R)∧New w wr) (fun t _ _=>match t with | .string q=>q.size | _=>0)
 case atStart=>exact ⟨s,[],rfl,Nat.le_refl _,ho0,.nil,by simp,HR,hN0⟩
 case round =>
  clear HR ho0 hN0
  obtain ⟨wo,hwo⟩:∃ x,x=wr:=⟨_,rfl⟩
  subst hwo
  obtain ⟨q,l,rfl,hq,ho,hnd,hlen,HR,hN⟩:=hrel
  have HO:=Lib.hid ho
  obtain ⟨va,vc,rfl⟩:=ho.slice
  obtain ⟨n,hn⟩:∃ n,l.length=n:=⟨_,rfl⟩
  have Hn:=Lib.hid hn
  rw [hn] at HO hlen
  rw [hn]
  clear ho hn
  have hb:=Lib.hid (begins_r q 59 wo (by omega) (by decide))
  cases h59:begN (bl q) 59 with
  | false =>
   rw [h59] at hb
   have hend:=Bare.readParams_end l (bl q) (begN_no (by decide) h59)
   have hRR:R=some (l,bl q):=by rw [← HR.out,hend]
   clear HR h59 hend
   have hb:Hid (Calls Tryz.prog 79 #[.string q,.int .u8 59] wo fun e w'=>e = .returned (.bool false)∧w'=wo):=hb
   go_wp2_with (go_at_call 79;refine hb.out.mono ?_;rintro e w' ⟨rfl,rfl⟩)
   go_ret3
   rw [← HPost.out]
   subst hRR
   exact ⟨⟨.slice va n vc,by rw [tx_bl];rfl,by rw [Hn.out];exact HO.out⟩,hN⟩
  | true =>
   rw [h59] at hb
   obtain ⟨hq0,hq1⟩:=begN_yes (by decide) h59
   have hsl:∀ W,(Instr.slice 9 (.string q) (some (.int .i64 1)) none none).run Tryz.prog W = .ok (.string (tx ((bl q).drop 1))) W:=run_sl_l q 1 (by omega)
   have hRs:=HR.out
   rw [hq1,show (UInt8.ofNat 59:UInt8)=59 from rfl,Bare.readParams_semi] at hRs
   obtain ⟨r,hr⟩:∃ r,(bl q).drop 1=r:=⟨_,rfl⟩
   have hrl:r.length + 1=q.size:=by rw [← hr,List.length_drop,bl_len];omega
   rw [hr] at hsl hRs
   have HBl:=Lib.hid (blanks_r (tx r) false wo (by rw [tx_size];omega))
   rw [bl_tx,show blkL false = [32] from rfl] at HBl
   obtain ⟨s2,hs2⟩:∃ x,Bare.skipB [32] r=x:=⟨_,rfl⟩
   have hs2l:s2.length ≤ r.length:=by rw [← hs2];exact Bare.skip_len _ _
   rw [hs2] at HBl hRs
   have HKy:=Lib.hid (keyof_r (tx s2) wo (by rw [tx_size];omega))
   rw [bl_tx] at HKy
   obtain ⟨K,hK⟩:∃ x,Bare.keyOf s2=x:=⟨_,rfl⟩
   have hkey:Bare.readKey s2=if K.isEmpty then none else some (K,s2.drop K.length):=by unfold Bare.readKey;rw [hK]
   rw [hkey] at hRs
   rw [hK] at HKy
   obtain ⟨r1,hr1⟩:∃ x,s2.drop K.length=x:=⟨_,rfl⟩
   have hr1l:r1.length ≤ r.length:=by rw [← hr1,List.length_drop];omega
   rw [hr1] at HKy hRs
   have hb:Hid (Calls Tryz.prog 79 #[.string q,.int .u8 59] wo fun e w'=>e = .returned (.bool true)∧w'=wo):=hb
   obtain ⟨rx,hrx⟩:∃ x,tx r=x:=⟨_,rfl⟩
   rw [hrx] at hsl HBl
   obtain ⟨sx2,hsx2⟩:∃ x,tx s2=x:=⟨_,rfl⟩
   rw [hsx2] at HBl HKy
   obtain ⟨KX,hKX⟩:∃ x,tx K=x:=⟨_,rfl⟩
   rw [hKX] at HKy
   obtain ⟨x1,hx1⟩:∃ x,tx r1=x:=⟨_,rfl⟩
   rw [hx1] at HKy
   have hx1s:x1.size=r1.length:=by rw [← hx1,tx_size]
   have hx1b:bl x1=r1:=by rw [← hx1,bl_tx]
   have hR2:=Lib.hid hRs
   clear HR h59 hq1 hr hRs hs2 hK hkey hr1 hrx hsx2
   go_upto_region 4 with (first | (go_at_call 79;refine hb.out.mono ?_;rintro e w' ⟨rfl,rfl⟩) | (go_at_call 76;refine HBl.out.mono ?_;rintro e w' ⟨rfl,rfl⟩) | (go_at_call 134;refine HKy.out.mono ?_;rintro e w4 ⟨rfl,hN4⟩))
   clear hb HBl HKy hsl
   cases hem:K.isEmpty with
   | true =>
    have hRR:R=none:=by rw [← hR2.out,hem];rfl
    clear hR2 hem hKX hx1 hx1s hx1b
    go_wp2_with fail
    go_ret3
    rw [← HPost.out]
    subst hRR
    exact ⟨rfl,hN.trans hN4⟩
   | false =>
    have hR3:=hR2.out
    rw [hem] at hR3
    simp only [Bool.false_eq_true,if_false] at hR3
    replace hR3:=Lib.hid hR3
    clear hR2 hem hx1
    have HO4:=Lib.hid (HO.out.new hN4)
    have hNw:=hN.trans hN4
    clear HO hN hN4
    have rP:=World.alloc_heap_new w4 (.cells #[.string KX,.int .u8 6,.int .i64 0,.string ⟨#[]⟩,.bool true] 83)
    have hA:New w4 (w4.alloc (.cells #[.string KX,.int .u8 6,.int .i64 0,.string ⟨#[]⟩,.bool true] 83)):=(Mods.refl _ _).alloc _
    go_upto_region 7 with fail
    obtain ⟨w5,hw5⟩:∃ V,w4.alloc (.cells #[.string KX,.int .u8 6,.int .i64 0,.string ⟨#[]⟩,.bool true] 83)=V:=⟨_,rfl⟩
    obtain ⟨P,hP⟩:∃ b,w4.heap.size=b:=⟨_,rfl⟩
    rw [hw5] at rP hA ⊢
    rw [hP] at rP ⊢
    have hPB:B ≤ P:=by have:=hNs.out _ hNw;omega
    have HOlt:Hid (∀ g,Value.ownBlock (.slice va n vc)=some g→B ≤ g∧g < P):=Lib.hid fun g hg=>by have:=HO4.out.lt hg;omega
    replace HO4:=Lib.hid (HO4.out.new hA)
    replace hNw:=hNw.trans hA
    clear hw5 hP hA
    have hb:=Lib.hid (begins_r x1 61 w5 (by omega) (by decide))
    rw [hx1b] at hb
    cases h61:begN r1 61 with
    | false =>
     have hno:=begN_no (s:=x1) (d:=61) (by decide) (by rw [hx1b];exact h61)
     rw [hx1b] at hno
     have hval:Bare.readVal r1=some (Bare.yesI,r1):=by
      unfold Bare.readVal
      split
      ·exact absurd rfl hno
      ·rfl
     have hR4:=hR3.out
     rw [hval] at hR4
     simp only at hR4
     replace hR4:=Lib.hid hR4
     rw [h61] at hb
     have hb:Hid (Calls Tryz.prog 79 #[.string x1,.int .u8 61] w5 fun e w'=>e = .returned (.bool false)∧w'=w5):=hb
     have HPp:=Lib.hid (putParam_r (base:=B) (.slice va n vc) l ⟨K,Bare.yesI⟩ w5 (by rw [Hn.out];exact HO4.out) hnd (by rw [Hn.out];omega) (by have:=hNs.out _ hNw;exact this))
     unfold pcs Bare.yesI at HPp
     simp only at HPp
     rw [hKX] at HPp
     have HPp:Hid (Calls Tryz.prog 172 #[.slice va n vc,.agg #[.string KX,.int .u8 6,.int .i64 0,.string ⟨#[]⟩,.bool true]] w5 fun e w'=>∃ v',e = .returned v'∧OwP B w' v' (Bare.setP l ⟨K,Bare.yesI⟩).length (pf (Bare.setP l ⟨K,Bare.yesI⟩))∧Mods (fun g=>Value.ownBlock (.slice va n vc)=some g) w5 w'):=HPp
     have k0:=cell_of_row _ _ 0 _ _ _ rP
     have k1:=cell_of_row _ _ 1 _ _ _ rP
     have k2:=cell_of_row _ _ 2 _ _ _ rP
     have k3:=cell_of_row _ _ 3 _ _ _ rP
     have k4:=cell_of_row _ _ 4 _ _ _ rP
     simp only [List.getElem?_toArray,List.getElem?_cons_zero,List.getElem?_cons_succ] at k0 k1 k2 k3 k4
     clear hR3 h61 hno hval
     go_wp2_with (first | (go_at_call 79;refine hb.out.mono ?_;rintro e w' ⟨rfl,rfl⟩) | (go_at_call 172;refine HPp.out.mono ?_;rintro e w9 ⟨v9,rfl,ho9,hm9⟩))
     go_roundw
     case rel=>exact ⟨x1,Bare.setP l ⟨K,Bare.yesI⟩,rfl,by omega,ho9,setP_nodup hnd,by have:=setP_len l ⟨K,Bare.yesI⟩;have:=Hn.out;omega,by rw [hx1b];exact hR4,((Mods.ofNew hNw).trans hm9).new (fun g hg=>by have:=(HOlt.out g hg).1;omega)⟩
     case measure=>simp;omega
    | true =>
     obtain ⟨hx0,hx2⟩:=begN_yes (s:=x1) (d:=61) (by decide) (by rw [hx1b];exact h61)
     rw [hx1b] at hx2
     have hsl:∀ W,(Instr.slice 9 (.string x1) (some (.int .i64 1)) none none).run Tryz.prog W = .ok (.string (tx ((bl x1).drop 1))) W:=run_sl_l x1 1 (by omega)
     rw [hx1b] at hsl
     obtain ⟨r1',hr1'⟩:∃ x,r1.drop 1=x:=⟨_,rfl⟩
     have hr1l':r1'.length ≤ r1.length:=by rw [← hr1',List.length_drop];omega
     rw [hr1'] at hsl hx2
     have hval:Bare.readVal r1=Bare.parseI r1':=by rw [hx2];rfl
     have hR4:=hR3.out
     rw [hval] at hR4
     have HPa:=parse_r (tx r1') w5 (by rw [tx_size];omega)
     rw [bl_tx] at HPa
     rw [h61] at hb
     have hb:Hid (Calls Tryz.prog 79 #[.string x1,.int .u8 61] w5 fun e w'=>e = .returned (.bool true)∧w'=w5):=hb
     obtain ⟨xx,hxx⟩:∃ x,tx r1'=x:=⟨_,rfl⟩
     rw [hxx] at hsl HPa
     clear hR3 h61 hval hx2 hr1' hxx
     cases hp:Bare.parseI r1' with
     | none =>
      rw [hp] at HPa hR4
      simp only at hR4
      have HPa:Hid (Calls Tryz.prog 10 #[.string xx] w5 fun e w'=>e = .returned (.tuple #[.agg #[.int .u8 0,.int .i64 0,.string ⟨#[]⟩,.bool false],.string ⟨#[]⟩,.int .i64 120])∧New w5 w'):=HPa
      clear hp
      go_upto_region 9 with (first | (go_at_call 79;refine hb.out.mono ?_;rintro e w' ⟨rfl,rfl⟩) | (go_at_call 10;refine HPa.out.mono ?_;rintro e w6 ⟨rfl,hN6⟩))
      have hA6:New w6 (w6.alloc (.cells #[.int .u8 0,.int .i64 0,.string ⟨#[]⟩,.bool false] 23)):=(Mods.refl _ _).alloc _
      clear hb HPa hsl
      go_wp2_with fail
      go_ret3
      rw [← HPost.out]
      subst hR4
      exact ⟨rfl,(hNw.trans hN6).trans hA6⟩
     | some br =>
      obtain ⟨⟨bk,bn,bt,by'⟩,r2⟩:=br
      have hpl:=Bare.parseI_len hp
      rw [hp] at HPa hR4
      simp only at hR4
      obtain ⟨BT,hBT⟩:∃ x,tx bt=x:=⟨_,rfl⟩
      obtain ⟨x2,hx2⟩:∃ x,tx r2=x:=⟨_,rfl⟩
      have hx2s:x2.size=r2.length:=by rw [← hx2,tx_size]
      have hx2b:bl x2=r2:=by rw [← hx2,bl_tx]
      have HPa:Hid (Calls Tryz.prog 10 #[.string xx] w5 fun e w'=>e = .returned (.tuple #[.agg #[.int .u8 bk,.int .i64 bn,.string BT,.bool by'],.string x2,.int .i64 0])∧New w5 w'):=by
       rw [← hBT,← hx2]
       exact Lib.hid HPa
      replace hR4:=Lib.hid hR4
      clear hp hx2
      go_upto_region 9 with (first | (go_at_call 79;refine hb.out.mono ?_;rintro e w' ⟨rfl,rfl⟩) | (go_at_call 10;refine HPa.out.mono ?_;rintro e w6 ⟨rfl,hN6⟩))
      have hA6:New w6 (w6.alloc (.cells #[.int .u8 bk,.int .i64 bn,.string BT,.bool by'] 23)):=(Mods.refl _ _).alloc _
      have rQ:=World.alloc_heap_new w6 (.cells #[.int .u8 bk,.int .i64 bn,.string BT,.bool by'] 23)
      obtain ⟨w7,hw7⟩:∃ V,w6.alloc (.cells #[.int .u8 bk,.int .i64 bn,.string BT,.bool by'] 23)=V:=⟨_,rfl⟩
      obtain ⟨Q,hQ⟩:∃ b,w6.heap.size=b:=⟨_,rfl⟩
      rw [hw7] at rQ hA6 ⊢
      rw [hQ] at rQ ⊢
      have rP7:=(hN6.trans hA6).heap rP id
      have hN7:=(hNw.trans hN6).trans hA6
      have HO7:=Lib.hid (HO4.out.new (hN6.trans hA6))
      clear hb HPa hsl hw7 hQ hA6 hN6 rP HO4 hNw
      have k0:=cell_of_row _ _ 0 _ _ _ rQ
      have k1:=cell_of_row _ _ 1 _ _ _ rQ
      have k2:=cell_of_row _ _ 2 _ _ _ rQ
      have k3:=cell_of_row _ _ 3 _ _ _ rQ
      simp only [List.getElem?_toArray,List.getElem?_cons_zero,List.getElem?_cons_succ] at k0 k1 k2 k3
      have hthere:w7.there P 1 4:=fun j hj=>by
       have:j=0 ∨ j=1 ∨ j=2 ∨ j=3:=by omega
       rcases this with rfl | rfl | rfl | rfl
       ·exact ⟨by rw [cell_of_row _ _ 1 _ _ _ rP7];rfl,frozen_row (i:=1) rP7⟩
       ·exact ⟨by rw [cell_of_row _ _ 2 _ _ _ rP7];rfl,frozen_row (i:=2) rP7⟩
       ·exact ⟨by rw [cell_of_row _ _ 3 _ _ _ rP7];rfl,frozen_row (i:=3) rP7⟩
       ·exact ⟨by rw [cell_of_row _ _ 4 _ _ _ rP7];rfl,frozen_row (i:=4) rP7⟩
      have hone:=one4 bk bn BT by'
      have HRP:=Lib.hid rP7
      clear rQ rP7
      go_upto_region 12 with (refine wpList_store_midN rfl rfl 23 (.tmp 41) (.tmp 39) rfl P 1 [.int .u8 bk,.int .i64 bn,.string BT,.bool by'] rfl rfl hthere info_bare hone ?_)
      obtain ⟨w8,hW8⟩:∃ w8,w7.setCells P 1 [.int .u8 bk,.int .i64 bn,.string BT,.bool by']=w8:=⟨_,rfl⟩
      rw [hW8]
      have rP8:w8.heap[P]? = some (.cells #[.string KX,.int .u8 bk,.int .i64 bn,.string BT,.bool by'] 83 (0,0)):=by
       have:=setCell_heap (i:=4) (setCell_heap (i:=3) (setCell_heap (i:=2) (setCell_heap (i:=1) HRP.out (.int .u8 bk)) (.int .i64 bn)) (.string BT)) (.bool by')
       have e:((((w7.setCell ⟨P,1,none⟩ (.int .u8 bk)).setCell ⟨P,2,none⟩ (.int .i64 bn)).setCell ⟨P,3,none⟩ (.string BT)).setCell ⟨P,4,none⟩ (.bool by'))=w8:=hW8
       rw [e] at this
       exact this
      have hmP:Mods (fun x=>x=P) w7 w8:=by
       rw [← hW8]
       exact setCells_mods _ _ _ _
      have hN8:New w w8:=((Mods.ofNew hN7).trans hmP).new (fun g hg=>by omega)
      have HO8:=Lib.hid (HO7.out.mods hmP (fun g hg e=>by have:=(HOlt.out g hg).2;omega))
      clear hthere hW8 hmP k0 k1 k2 k3 hN7 HO7 HRP
      have HPp:=Lib.hid (putParam_r (base:=B) (.slice va n vc) l ⟨K,⟨bk,bn,bt,by'⟩⟩ w8 (by rw [Hn.out];exact HO8.out) hnd (by rw [Hn.out];omega) (by have:=hNs.out _ hN8;exact this))
      unfold pcs at HPp
      simp only at HPp
      rw [hKX,hBT] at HPp
      obtain ⟨p,hpp⟩:∃ p:Bare.Par,(⟨K,⟨bk,bn,bt,by'⟩⟩:Bare.Par)=p:=⟨_,rfl⟩
      rw [hpp] at HPp hR4
      have k0:=cell_of_row _ _ 0 _ _ _ rP8
      have k1:=cell_of_row _ _ 1 _ _ _ rP8
      have k2:=cell_of_row _ _ 2 _ _ _ rP8
      have k3:=cell_of_row _ _ 3 _ _ _ rP8
      have k4:=cell_of_row _ _ 4 _ _ _ rP8
      simp only [List.getElem?_toArray,List.getElem?_cons_zero,List.getElem?_cons_succ] at k0 k1 k2 k3 k4
      clear rP8 hpp
      go_wp2_with (go_at_call 172;refine HPp.out.mono ?_;rintro e w9 ⟨v9,rfl,ho9,hm9⟩)
      go_roundw
      case rel=>exact ⟨x2,Bare.setP l p,rfl,by omega,ho9,setP_nodup hnd,by have:=setP_len l p;have:=Hn.out;omega,by rw [hx2b];exact hR4,((Mods.ofNew hN8).trans hm9).new (fun g hg=>by have:=(HOlt.out g hg).1;omega)⟩
      case measure=>simp;omega


theorem item_end {fn:Func} {R:Ending→World→Prop} {tmps:Array Value} {W:World} {B:Nat} {a b c d g v v2:Value} (hf:fn.results = #[.cell 2 85,.tmp 3,.tmp 4]) (hp:tmps.getD 2 undef = .pointer (some ⟨B,0,none⟩)) (hq:tmps.getD 3 undef=v) (hr:tmps.getD 4 undef=v2)
  (hg:W.heap[B]? = some (.cells #[a,b,c,d,g] 85 (0,0))) (hR:R (.returned (.tuple #[.agg #[a,b,c,d,g],v,v2])) W):bodyPost Tryz.prog fn R .ret ⟨tmps,[]⟩ W :=
 bodyPost_ret (results_row3 (p:=2) (q:=3) (r:=4) hf tmps W B 85 #[a,b,c,d,g] (0,0) _ hp hg Tryz.underlying85 rfl sizeX hq hr) rfl hR
def ReadX (r:Option (Bare.Itm × Bare.Bs)) (base:Nat) (e:Ending) (w':World):Prop:=match r with
 | none=>∃ (k n:Int) (t:ByteArray) (y:Bool),e = .returned (.tuple #[.agg #[.int .u8 k,.int .i64 n,.string t,.bool y,.slice none 0 0],.string ⟨#[]⟩,.bool false])
 | some (x,q)=>∃ (pa:Option Addr) (pc:Nat),e = .returned (.tuple #[.agg (ics x (.slice pa x.params.length pc)).toArray,.string (tx q),.bool true])∧OwP base w' (.slice pa x.params.length pc) x.params.length (pf x.params)
theorem readItem_r (s:ByteArray) (w:World) (hs:s.size ≤ 1000000) :
  Calls Tryz.prog 136 #[.string s] w fun e w'=>ReadX (Bare.readItem (bl s)) w.heap.size e w'∧New w w':=by
 obtain ⟨R,hR⟩:∃ R,Bare.readItem (bl s)=R:=⟨_,rfl⟩
 have HR:=Lib.hid hR
 rw [hR]
 clear hR
 have hA:New w (w.alloc (.cells #[.int .u8 0,.int .i64 0,.string ⟨#[]⟩,.bool false,.slice none 0 0] 85)):=(Mods.refl _ _).alloc _
 have rB:=World.alloc_heap_new w (.cells #[.int .u8 0,.int .i64 0,.string ⟨#[]⟩,.bool false,.slice none 0 0] 85)
 have HPa:=Lib.hid (fun W=>parse_r s W hs)
 have HPs:=Lib.hid (fun q h W=>readParams_r q W h)
 obtain ⟨Post,hPost⟩:∃ Post:Ending→World→Prop,(fun e w'=>ReadX R w.heap.size e w'∧New w w')=Post:=⟨_,rfl⟩
 have HPost:=Lib.hid hPost
 rw [hPost]
 clear hPost
 go_enter Tryz.func136,Tryz.ntmps136
 go_upto_region 1 with fail
 obtain ⟨W1,hW1⟩:∃ V,w.alloc (.cells #[.int .u8 0,.int .i64 0,.string ⟨#[]⟩,.bool false,.slice none 0 0] 85)=V:=⟨_,rfl⟩
 obtain ⟨B,hB⟩:∃ B,w.heap.size=B:=⟨_,rfl⟩
 rw [hW1] at hA rB ⊢
 rw [hB] at rB ⊢
 have HB:=Lib.hid hB
 have hBw:w.heap.size ≤ B:=by omega
 clear hW1 hB
 cases hp:Bare.parseI (bl s) with
 | none =>
  have hRR:R=none:=by rw [← HR.out];unfold Bare.readItem;rw [hp]
  have HP:Hid (∀ W,Calls Tryz.prog 10 #[.string s] W fun e w'=>e = .returned (.tuple #[.agg #[.int .u8 0,.int .i64 0,.string ⟨#[]⟩,.bool false],.string ⟨#[]⟩,.int .i64 120])∧New W w'):=Lib.hid fun W=>(HPa.out W).mono fun e w' h=>by rw [hp] at h;exact h
  clear HPa HPs hp HR
  go_upto_region 2 with (go_at_call 10;refine (HP.out _).mono ?_;rintro e w2 ⟨rfl,hN2⟩)
  have hA2:New w2 (w2.alloc (.cells #[.int .u8 0,.int .i64 0,.string ⟨#[]⟩,.bool false] 23)):=(Mods.refl _ _).alloc _
  obtain ⟨w3,hw3⟩:∃ V,w2.alloc (.cells #[.int .u8 0,.int .i64 0,.string ⟨#[]⟩,.bool false] 23)=V:=⟨_,rfl⟩
  rw [hw3] at hA2 ⊢
  have rB3:=(hN2.trans hA2).heap rB id
  clear hw3
  go_wp2_with (refine op_skip rfl (run_store_row 85 (.tmp 2) (.tmp 18) rfl B rfl 85 [.int .u8 0,.int .i64 0,.string ⟨#[]⟩,.bool false,.slice none 0 0] [.int .u8 0,.int .i64 0,.string ⟨#[]⟩,.bool false,.slice none 0 0] rfl rB3 sizeX rfl (by intro x hx;simp only [List.mem_cons,List.not_mem_nil,or_false] at hx;rcases hx with rfl | rfl | rfl | rfl | rfl <;> rfl)) ?_)
  have hrow:=setRow_heap w3 B _ #[.int .u8 0,.int .i64 0,.string ⟨#[]⟩,.bool false,.slice none 0 0] _ _ rB3
  refine item_end (by kernel_rfl) rfl rfl rfl hrow ?_
  rw [← HPost.out]
  subst hRR
  exact ⟨⟨0,0,_,false,rfl⟩,((hA.trans hN2).trans hA2).setRow hBw _⟩
 | some br =>
  obtain ⟨⟨bk,bn,bt,by'⟩,r⟩:=br
  have hpl:=Bare.parseI_len hp
  rw [bl_len] at hpl
  obtain ⟨BT,hBT⟩:∃ x,tx bt=x:=⟨_,rfl⟩
  have HBT:=Lib.hid hBT
  obtain ⟨rx,hrx⟩:∃ x,tx r=x:=⟨_,rfl⟩
  have hrs:rx.size=r.length:=by rw [← hrx,tx_size]
  have hrb:bl rx=r:=by rw [← hrx,bl_tx]
  have HP:Hid (∀ W,Calls Tryz.prog 10 #[.string s] W fun e w'=>e = .returned (.tuple #[.agg #[.int .u8 bk,.int .i64 bn,.string BT,.bool by'],.string rx,.int .i64 0])∧New W w'):=Lib.hid fun W=>(HPa.out W).mono fun e w' h=>by rw [hp] at h;rw [← hBT,← hrx];exact h
  have hRs:(match Bare.readParams [] r with | none=>none | some (ps,r')=>some ((⟨⟨bk,bn,bt,by'⟩,ps⟩:Bare.Itm),r'))=R:=by rw [← HR.out];unfold Bare.readItem;rw [hp];rfl
  have HRs:=Lib.hid hRs
  have HQ:=Lib.hid (fun W=>HPs.out rx (by omega) W)
  rw [hrb] at HQ
  clear HPa HPs hp HR hRs hBT hrx
  go_upto_region 2 with (go_at_call 10;refine (HP.out _).mono ?_;rintro e w2 ⟨rfl,hN2⟩)
  have hA2:New w2 (w2.alloc (.cells #[.int .u8 bk,.int .i64 bn,.string BT,.bool by'] 23)):=(Mods.refl _ _).alloc _
  have rQ:=World.alloc_heap_new w2 (.cells #[.int .u8 bk,.int .i64 bn,.string BT,.bool by'] 23)
  obtain ⟨w3,hw3⟩:∃ V,w2.alloc (.cells #[.int .u8 bk,.int .i64 bn,.string BT,.bool by'] 23)=V:=⟨_,rfl⟩
  obtain ⟨Q,hQ⟩:∃ b,w2.heap.size=b:=⟨_,rfl⟩
  rw [hw3] at hA2 rQ ⊢
  rw [hQ] at rQ ⊢
  have rB3:=(hN2.trans hA2).heap rB id
  have hN3:=(hA.trans hN2).trans hA2
  have hBs:B < w3.heap.size:=(Array.getElem?_eq_some_iff.1 rB3).1
  clear hw3 hQ HP hN2 hA2 rB hA
  have HQ3:=HQ.out w3
  unfold ReadPs at HQ3
  have HQ3:=Lib.hid HQ3
  clear HQ
  cases hq:Bare.readParams [] r with
  | none =>
   have hRR:R=none:=by rw [← HRs.out,hq]
   rw [hq] at HQ3
   simp only at HQ3
   clear hq HRs
   go_upto_region 5 with (go_at_call 137;refine HQ3.out.mono ?_;rintro e w4 ⟨rfl,hN4⟩)
   have rB4:=hN4.heap rB3 id
   have rQ4:=hN4.heap rQ id
   obtain ⟨⟨c0,c1,c2,c3⟩,-⟩:=row_facts rQ4
   clear HQ3 rB3 rQ
   go_wp2_with (refine op_skip rfl (run_store_row 85 (.tmp 2) (.tmp 27) rfl B rfl 85 [.int .u8 0,.int .i64 0,.string ⟨#[]⟩,.bool false,.slice none 0 0] [.int .u8 bk,.int .i64 bn,.string BT,.bool by',.slice none 0 0] rfl rB4 sizeX rfl (by intro x hx;simp only [List.mem_cons,List.not_mem_nil,or_false] at hx;rcases hx with rfl | rfl | rfl | rfl | rfl <;> rfl)) ?_)
   have hrow:=setRow_heap w4 B _ #[.int .u8 bk,.int .i64 bn,.string BT,.bool by',.slice none 0 0] _ _ rB4
   refine item_end (by kernel_rfl) rfl rfl rfl hrow ?_
   rw [← HPost.out]
   subst hRR
   exact ⟨⟨bk,bn,_,by',rfl⟩,(hN3.trans hN4).setRow hBw _⟩
  | some pr =>
   obtain ⟨ps,r'⟩:=pr
   have hRR:R=some (⟨⟨bk,bn,bt,by'⟩,ps⟩,r'):=by rw [← HRs.out,hq]
   rw [hq] at HQ3
   simp only at HQ3
   obtain ⟨rx',hrx'⟩:∃ x,tx r'=x:=⟨_,rfl⟩
   have HRX:=Lib.hid hrx'
   rw [hrx'] at HQ3
   clear hq HRs hrx'
   go_upto_region 5 with (go_at_call 137;refine HQ3.out.mono ?_;rintro e w4 ⟨⟨v4,rfl,ho4⟩,hN4⟩;obtain ⟨pa,pc,rfl⟩:=ho4.slice)
   have rB4:=hN4.heap rB3 id
   have rQ4:=hN4.heap rQ id
   have HO4:=Lib.hid ho4
   obtain ⟨⟨c0,c1,c2,c3⟩,-⟩:=row_facts rQ4
   obtain ⟨pn,hpn⟩:∃ n,ps.length=n:=⟨_,rfl⟩
   have HPN:=Lib.hid hpn
   rw [hpn] at HO4 ⊢
   clear HQ3 rB3 rQ ho4 hpn
   go_wp2_with (refine op_skip rfl (run_store_row 85 (.tmp 2) (.tmp 27) rfl B rfl 85 [.int .u8 0,.int .i64 0,.string ⟨#[]⟩,.bool false,.slice none 0 0] [.int .u8 bk,.int .i64 bn,.string BT,.bool by',.slice pa pn pc] rfl rB4 sizeX rfl (by intro x hx;simp only [List.mem_cons,List.not_mem_nil,or_false] at hx;rcases hx with rfl | rfl | rfl | rfl | rfl <;> rfl)) ?_)
   have hrow:=setRow_heap w4 B _ #[.int .u8 bk,.int .i64 bn,.string BT,.bool by',.slice pa pn pc] _ _ rB4
   have hmR:=mods_setRow rB4 #[.int .u8 bk,.int .i64 bn,.string BT,.bool by',.slice pa pn pc]
   refine item_end (by kernel_rfl) rfl rfl rfl hrow ?_
   rw [← HPost.out]
   subst hRR
   refine ⟨⟨pa,pc,?_,?_⟩,(hN3.trans hN4).setRow hBw _⟩
   ·rw [HRX.out]
    unfold ics
    simp only
    rw [HBT.out,HPN.out]
    rfl
   ·show OwP _ _ (.slice pa ps.length pc) ps.length (pf ps)
    rw [HPN.out]
    exact (HO4.out.mods hmR (fun g hg e=>by have:=(HO4.out.lt hg).1;omega)).mono (by omega)


theorem begN_head (l:Bare.Bs) (d:Nat) (hd:d < 256):begN l d=true ↔ l.head? = some (UInt8.ofNat d):=by
 cases l with
 | nil=>simp [begN]
 | cons c l =>
  show decide (c.toNat=d)=true ↔ some c=some (UInt8.ofNat d)
  rw [decide_eq_true_eq,Option.some.injEq,← UInt8.toNat_inj]
  simp [Nat.mod_eq_of_lt hd]
theorem rinner_none {l:List Bare.Itm} {s:Bare.Bs} (hs:∀ r,Bare.skipB [32] s ≠ 41::r) (h:Bare.readItem (Bare.skipB [32] s)=none):Bare.readInner l s=none:=by
 rw [Bare.readInner.eq_def]
 split
 ·rename_i r0 h0
  exact absurd h0 (hs r0)
 ·split
  ·rfl
  ·rename_i x1 y1 h1
   rw [h] at h1
   cases h1
theorem inner_bad {l:List Bare.Itm} {s y:Bare.Bs} {x:Bare.Itm} (hs:∀ r,Bare.skipB [32] s ≠ 41::r) (h:Bare.readItem (Bare.skipB [32] s)=some (x,y)) (hy:¬ (y.head? = some 41 ∨ y.head? = some 32)):Bare.readInner l s=none:=by
 rw [Bare.readInner.eq_def]
 split
 ·rename_i r0 h0
  exact absurd h0 (hs r0)
 ·split
  ·rfl
  ·rename_i x1 y1 h1
   rw [h] at h1
   cases h1
   rw [if_neg hy]
theorem wpList_append_It {ops:Array Oper} {Q:Exit→Act→World→Prop} {rest:List Oper} {o:Oper} {a:Act} {w W:World} (s x:Operand) {base:Nat} {v:Value} {L:List Bare.Itm} {y:Bare.Itm} {ya:Option Addr} {yl yc:Nat} (hgd:o.guard=none) (hop:o.op = .call { callee:=.builtin .append,args:=#[s,x],argTypes:=#[41,41] })
  (hs:a.eval s=v) (hx:a.eval x = .slice (some ⟨w.heap.size,0,none⟩) 1 1) (hW:w.alloc (.cells (ics y (.slice ya yl yc)).toArray 85)=W) (hown:OwIt base w v L) (hy:RdP true w (.slice ya yl yc) y.params) (hn:L.length ≤ 2000000) (hbase:base ≤ w.heap.size)
  (h:∀ v' W',OwIt base W' v' (L ++ [y])→(∀ (w0:World) (S:Nat→Prop),Mods S w0 w→(∀ g,v.ownBlock=some g→w0.heap.size ≤ g ∨ S g)→Mods S w0 W')→wpList Tryz.prog ops Q rest (a.put o.dst v') W'):wpList Tryz.prog ops Q (o::rest) a W:=by
 refine wpList_plain hgd fun K hK=>?_
 obtain ⟨v',w',hr,ho,hg⟩:=run_append_It hop hs hx hW hown hy hn hbase
 unfold Oper.wp
 rw [hr]
 exact hK _ _ (h v' w' ho hg)
theorem member_end {fn:Func} {R:Ending→World→Prop} {tmps:Array Value} {W:World} {B:Nat} {a b c d v v2:Value} (hf:fn.results = #[.cell 2 44,.tmp 3,.tmp 4]) (hp:tmps.getD 2 undef = .pointer (some ⟨B,0,none⟩)) (hq:tmps.getD 3 undef=v) (hr:tmps.getD 4 undef=v2)
  (hg:W.heap[B]? = some (.cells #[a,b,c,d] 44 (0,0))) (hR:R (.returned (.tuple #[.agg #[a,b,c,d],v,v2])) W):bodyPost Tryz.prog fn R .ret ⟨tmps,[]⟩ W :=
 bodyPost_ret (results_row3 (p:=2) (q:=3) (r:=4) hf tmps W B 44 #[a,b,c,d] (0,0) _ hp hg Tryz.underlying44 rfl sizeM hq hr) rfl hR
def innR (s:Bare.Bs):Option (List Bare.Itm × List Bare.Par × Bare.Bs):=match Bare.readInner [] s with
 | none=>none
 | some (its,r)=>match Bare.readParams [] r with
  | none=>none
  | some (ps,q)=>some (its,ps,q)
def ReadI (r:Option (List Bare.Itm × List Bare.Par × Bare.Bs)) (e:Ending) (w':World):Prop:=match r with
 | none=>∃ (ia:Option Addr) (il ic:Nat),e = .returned (.tuple #[.agg #[.string ⟨#[]⟩,.bool true,.slice ia il ic,.slice none 0 0],.string ⟨#[]⟩,.bool false])
 | some (its,ps,q)=>∃ (ia pa:Option Addr) (ic pc:Nat),e = .returned (.tuple #[.agg #[.string ⟨#[]⟩,.bool true,.slice ia its.length ic,.slice pa ps.length pc],.string (tx q),.bool true])∧RdI true w' (.slice ia its.length ic) its∧RdP true w' (.slice pa ps.length pc) ps
theorem OwP.rdP {base:Nat} {W:World} {v:Value} {L:List Bare.Par} (h:OwP base W v L.length (pf L)) (hl:L.length ≤ 281474976710656):RdP true W v L:=⟨h.row hl,fun _=>h.tag⟩
theorem far_row {W:World} {B:Nat} {cs:Array Value} (r:W.heap[B]? = some (.cells cs 44 (0,0))):FarI W (fun b=>b=B):=fun g cs' t fr hg hc=>by
 subst hg
 rw [r] at hc
 cases hc
 decide
theorem readInner_r (s:ByteArray) (w:World) (hs:s.size ≤ 1000000) :
  Calls Tryz.prog 135 #[.string s] w fun e w'=>ReadI (innR (bl s)) e w'∧New w w':=by
 obtain ⟨R,hR⟩:∃ R,innR (bl s)=R:=⟨_,rfl⟩
 have HR:=Lib.hid hR
 rw [hR]
 clear hR
 have HBl:=Lib.hid (fun q h W=>blanks_r q false W h)
 have HBg:=Lib.hid (fun q d h hd W=>begins_r q d W h hd)
 have HIt:=Lib.hid (fun q h W=>readItem_r q W h)
 have HPs:=Lib.hid (fun q h W=>readParams_r q W h)
 obtain ⟨Post,hPost⟩:∃ Post:Ending→World→Prop,(fun e w'=>ReadI R e w'∧New w w')=Post:=⟨_,rfl⟩
 have HPost:=Lib.hid hPost
 rw [hPost]
 clear hPost
 go_enter Tryz.func135,Tryz.ntmps135
 go_upto_region 2 with fail
 obtain ⟨W1,B,M,hW1,hB,hM,rB,rM,hN1,hs1⟩:=pair_rows w #[.string ⟨#[]⟩,.bool false,.slice none 0 0,.slice none 0 0] #[.string ⟨#[]⟩,.bool true,.slice none 0 0,.slice none 0 0] 44 44
 have hBw:w.heap.size ≤ B:=by omega
 have hMB:B < M:=by omega
 have hs1':M + 1 ≤ W1.heap.size:=by omega
 try simp only [hW1,hB,hM]
 clear hW1 hB hs1 hM
 have hbl0:=HBl.out s hs
 rw [show blkL false = [32] from rfl] at hbl0
 have hR0:Hid ((match Bare.readInner [] (Bare.skipB [32] (bl s)) with | none=>none | some (its,r)=>match Bare.readParams [] r with | none=>none | some (ps,q)=>some (its,ps,q))=R):=Lib.hid (by rw [inner_skip,← HR.out];rfl)
 have hid0:=skip_idem [32] (bl s)
 have hln0:=Bare.skip_len [32] (bl s)
 rw [bl_len] at hln0
 obtain ⟨s1,hs1e⟩:∃ x,Bare.skipB [32] (bl s)=x:=⟨_,rfl⟩
 rw [hs1e] at hbl0 hR0 hid0 hln0
 obtain ⟨x1,hx1⟩:∃ x,tx s1=x:=⟨_,rfl⟩
 have hx1s:x1.size=s1.length:=by rw [← hx1,tx_size]
 have hx1b:bl x1=s1:=by rw [← hx1,bl_tx]
 rw [hx1] at hbl0
 rw [← hx1b] at hR0 hid0
 have hbl0:=Lib.hid hbl0
 clear hs1e hx1 HR
 go_upto_region 3 with (go_at_call 76;refine (hbl0.out _).mono ?_;rintro e w' ⟨rfl,rfl⟩)
 rename_i WW
 clear hbl0
 go_loopw [0] (fun t wr=>∃ (q:ByteArray) (its:List Bare.Itm) (iv:Value),t = .string q∧q.size ≤ s.size∧wr.heap[M]? = some (.cells #[.string ⟨#[]⟩,.bool true,iv,.slice none 0 0] 44 (0,0))∧wr.heap[B]? = some (.cells #[.string ⟨#[]⟩,.bool false,.slice none 0 0,.slice none 0 0] 44 (0,0))∧OwIt (M + 1) wr iv its∧its.length + q.size ≤ s.size∧Hid ((match Bare.readInner its (bl q) with | none=>none | some (its,r)=>match Bare.readParams [] r with | none=>none | some (ps,q)=>some (its,ps,q))=R)∧Bare.skipB [32] (bl q)=bl q∧New w wr∧M + 1 ≤ wr.heap.size) (fun t _=>match t with | .string q=>q.size | _=>0)
 case atStart=>exact ⟨x1,[],_,rfl,by omega,rM,rB,OwIt.nil _ _,by simp;omega,hR0,hid0,hN1,hs1'⟩
 case round =>
  clear hR0 hid0 hN1 rM rB hs1' hx1s hx1b hln0
  obtain ⟨wo,hwo⟩:∃ x,x=wr:=⟨_,rfl⟩
  subst hwo
  obtain ⟨q,its,iv,rfl,hq,rM,rB,ho,hlen,HR,hid,hN,hMs⟩:=hrel
  have hitl:its.length ≤ 2000000:=by omega
  obtain ⟨ia,ic,rfl⟩:=ho.slice
  have HID:=Lib.hid hid
  have HO:=Lib.hid ho
  have HRM:=Lib.hid rM
  have HRB:=Lib.hid rB
  clear hid ho rM rB
  cases h41:begN (bl q) 41 with
  | true =>
   have hb:Hid (∀ W,Calls Tryz.prog 79 #[.string q,.int .u8 41] W fun e w'=>e = .returned (.bool true)∧w'=W):=Lib.hid fun W=>(HBg.out q 41 (by omega) (by decide) W).mono fun e w' h=>by rw [h41] at h;exact h
   obtain ⟨hq0,hq1⟩:=begN_yes (by decide) h41
   have hsl:∀ W,(Instr.slice 9 (.string q) (some (.int .i64 1)) none none).run Tryz.prog W = .ok (.string (tx ((bl q).drop 1))) W:=run_sl_l q 1 (by omega)
   obtain ⟨r,hr⟩:∃ r,(bl q).drop 1=r:=⟨_,rfl⟩
   have hrl:r.length + 1=q.size:=by rw [← hr,List.length_drop,bl_len];omega
   have hRs:=HR.out
   rw [hr] at hq1 hsl
   rw [hq1,show (UInt8.ofNat 41:UInt8)=41 from rfl,Bare.readInner_close] at hRs
   simp only at hRs
   obtain ⟨rx,hrx⟩:∃ x,tx r=x:=⟨_,rfl⟩
   have hrs:rx.size=r.length:=by rw [← hrx,tx_size]
   have hrb:bl rx=r:=by rw [← hrx,bl_tx]
   rw [hrx] at hsl
   have HQ:=HPs.out rx (by omega) wo
   rw [hrb] at HQ
   unfold ReadPs at HQ
   have HQ:=Lib.hid HQ
   clear HR h41 hq1 hr hrx HBg HBl HIt HPs
   cases hp:Bare.readParams [] r with
   | none =>
    rw [hp] at HQ hRs
    simp only at HQ hRs
    clear hp
    go_upto_region 10 with (first | (go_at_call 79;refine (hb.out _).mono ?_;rintro e w' ⟨rfl,rfl⟩) | (go_at_call 137;refine HQ.out.mono ?_;rintro e w4 ⟨rfl,hN4⟩))
    have rM4:=hN4.heap HRM.out id
    have rB4:=hN4.heap HRB.out id
    have HOw4:=Lib.hid (HO.out.new hN4)
    have c3:=cell_of_row _ _ 3 _ _ _ rM4
    simp only [gS] at c3
    have f3:=frozen_row (i:=3) rM4
    obtain ⟨il,hil⟩:∃ n,its.length=n:=⟨_,rfl⟩
    have HIL:=Lib.hid hil
    rw [hil] at rM4
    clear HQ hb hsl hil
    go_upto_region 11 with fail
    have hm5:=setMods w4 M 3 (.slice none 0 0)
    have rM5:=setCell_heap (i:=3) rM4 (.slice none 0 0)
    simp only [pS] at rM5
    have rB5:=hm5.heap rB4 (by omega)
    obtain ⟨w5,hw5⟩:∃ V,w4.setCell ⟨M,3,none⟩ (.slice none 0 0)=V:=⟨_,rfl⟩
    rw [hw5] at hm5 rM5 rB5 ⊢
    clear hw5 c3 f3
    have hone:=mcs_one ⟨#[]⟩ true ia none il ic 0 0
    go_wp2_with (first | (refine op_value rfl (run_load_row 44 (.tmp 5) rfl M rfl 44 _ (0,0) _ rM5 Tryz.underlying44 rfl sizeM) ?_) | (refine op_skip rfl (run_store_row 44 (.tmp 2) (.tmp 54) rfl B rfl 44 [.string ⟨#[]⟩,.bool false,.slice none 0 0,.slice none 0 0] [.string ⟨#[]⟩,.bool true,.slice ia il ic,.slice none 0 0] rfl rB5 sizeM rfl hone) ?_))
    have hrow:=setRow_heap w5 B _ #[.string ⟨#[]⟩,.bool true,.slice ia il ic,.slice none 0 0] _ _ rB5
    have hm6:=mods_setRow rB5 #[.string ⟨#[]⟩,.bool true,.slice ia il ic,.slice none 0 0]
    have hNf:New w (w5.setRow B #[.string ⟨#[]⟩,.bool true,.slice ia il ic,.slice none 0 0]):=(((Mods.ofNew (hN.trans hN4)).trans hm5).new (fun g hg=>by omega)).setRow hBw _
    refine member_end (by kernel_rfl) rfl rfl rfl hrow ?_
    rw [← HPost.out]
    subst hRs
    exact ⟨⟨_,_,_,rfl⟩,hNf⟩
   | some pr =>
    obtain ⟨ps,r'⟩:=pr
    rw [hp] at HQ hRs
    simp only at HQ hRs
    obtain ⟨rx',hrx'⟩:∃ x,tx r'=x:=⟨_,rfl⟩
    have HRX:=Lib.hid hrx'
    rw [hrx'] at HQ
    have hpln:=(readParams_nil r.length (Nat.le_refl _) hp).1
    have hpl2:ps.length ≤ 281474976710656:=by omega
    clear hp hrx' hpln
    go_upto_region 10 with (first | (go_at_call 79;refine (hb.out _).mono ?_;rintro e w' ⟨rfl,rfl⟩) | (go_at_call 137;refine HQ.out.mono ?_;rintro e w4 ⟨⟨v4,rfl,ho4⟩,hN4⟩;obtain ⟨pa,pc,rfl⟩:=ho4.slice))
    have HO4:=Lib.hid ho4
    obtain ⟨pn,hpn⟩:∃ n,ps.length=n:=⟨_,rfl⟩
    have HPN:=Lib.hid hpn
    rw [hpn] at HO4 ⊢
    clear ho4 hpn
    have rM4:=hN4.heap HRM.out id
    have rB4:=hN4.heap HRB.out id
    have HOw4:=Lib.hid (HO.out.new hN4)
    have c3:=cell_of_row _ _ 3 _ _ _ rM4
    simp only [gS] at c3
    have f3:=frozen_row (i:=3) rM4
    obtain ⟨il,hil⟩:∃ n,its.length=n:=⟨_,rfl⟩
    have HIL:=Lib.hid hil
    rw [hil] at rM4
    clear HQ hb hsl hil
    go_upto_region 11 with fail
    have hm5:=setMods w4 M 3 (.slice pa pn pc)
    have rM5:=setCell_heap (i:=3) rM4 (.slice pa pn pc)
    simp only [pS] at rM5
    have rB5:=hm5.heap rB4 (by omega)
    obtain ⟨w5,hw5⟩:∃ V,w4.setCell ⟨M,3,none⟩ (.slice pa pn pc)=V:=⟨_,rfl⟩
    rw [hw5] at hm5 rM5 rB5 ⊢
    clear hw5 c3 f3
    have hone:=mcs_one ⟨#[]⟩ true ia pa il ic pn pc
    go_wp2_with (first | (refine op_value rfl (run_load_row 44 (.tmp 5) rfl M rfl 44 _ (0,0) _ rM5 Tryz.underlying44 rfl sizeM) ?_) | (refine op_skip rfl (run_store_row 44 (.tmp 2) (.tmp 54) rfl B rfl 44 [.string ⟨#[]⟩,.bool false,.slice none 0 0,.slice none 0 0] [.string ⟨#[]⟩,.bool true,.slice ia il ic,.slice pa pn pc] rfl rB5 sizeM rfl hone) ?_))
    have hrow:=setRow_heap w5 B _ #[.string ⟨#[]⟩,.bool true,.slice ia il ic,.slice pa pn pc] _ _ rB5
    have hm6:=mods_setRow rB5 #[.string ⟨#[]⟩,.bool true,.slice ia il ic,.slice pa pn pc]
    have hNf:New w (w5.setRow B #[.string ⟨#[]⟩,.bool true,.slice ia il ic,.slice pa pn pc]):=(((Mods.ofNew (hN.trans hN4)).trans hm5).new (fun g hg=>by omega)).setRow hBw _
    refine member_end (by kernel_rfl) rfl rfl rfl hrow ?_
    rw [← HPost.out]
    subst hRs
    refine ⟨⟨ia,pa,ic,pc,?_,?_,?_⟩,hNf⟩
    ·rw [HRX.out,HPN.out,HIL.out];rfl
    ·exact (((HOw4.out.reads hitl).far hm5 (far_row rM4)).far hm6 (far_row rB5))
    ·rw [HPN.out]
     have h1:RdP true w4 (.slice pa pn pc) ps:=by rw [← HPN.out] at HO4 ⊢;exact HO4.out.rdP hpl2
     exact (h1.far hm5 (far_row rM4)).far hm6 (far_row rB5)
  | false =>
   have hb:Hid (∀ W,Calls Tryz.prog 79 #[.string q,.int .u8 41] W fun e w'=>e = .returned (.bool false)∧w'=W):=Lib.hid fun W=>(HBg.out q 41 (by omega) (by decide) W).mono fun e w' h=>by rw [h41] at h;exact h
   have hno:=begN_no (by decide) h41
   rw [show (UInt8.ofNat 41:UInt8)=41 from rfl] at hno
   have hns:∀ r,Bare.skipB [32] (bl q) ≠ 41::r:=fun r e=>by rw [HID.out] at e;rw [e] at hno;exact hno rfl
   have HX:=HIt.out q (by omega) wo
   unfold ReadX ics at HX
   cases hx:Bare.readItem (bl q) with
   | none =>
    have hRR:R=none:=by rw [← HR.out,rinner_none hns (by rw [HID.out];exact hx)]
    rw [hx] at HX
    simp only at HX
    have HX:=Lib.hid HX
    have hb1:=hb
    have hb2:=hb
    clear hx hns hno h41 HR HBg HBl HIt HPs
    go_upto_region 6 with (first | (go_at_call 79;first | (with_reducible refine (hb.out _).mono ?_;rintro e w' ⟨rfl,rfl⟩) | (with_reducible refine (hb1.out _).mono ?_;rintro e w' ⟨rfl,rfl⟩) | (with_reducible refine (hb2.out _).mono ?_;rintro e w' ⟨rfl,rfl⟩)) | (go_at_call 136;refine HX.out.mono ?_;rintro e w4 ⟨⟨xk,xn,xt,xy,rfl⟩,hN4⟩))
    have hA4:New w4 (w4.alloc (.cells #[.int .u8 xk,.int .i64 xn,.string xt,.bool xy,.slice none 0 0] 85)):=(Mods.refl _ _).alloc _
    have rM4:=(hN4.trans hA4).heap HRM.out id
    have rB4:=(hN4.trans hA4).heap HRB.out id
    have hN5:=(hN.trans hN4).trans hA4
    obtain ⟨w5,hw5⟩:∃ V,w4.alloc (.cells #[.int .u8 xk,.int .i64 xn,.string xt,.bool xy,.slice none 0 0] 85)=V:=⟨_,rfl⟩
    rw [hw5] at rM4 rB4 hN5 ⊢
    clear hw5 hA4 HX
    obtain ⟨il,hil⟩:∃ n,its.length=n:=⟨_,rfl⟩
    rw [hil] at rM4
    have hone:=mcs_one ⟨#[]⟩ true ia none il ic 0 0
    go_wp2_with (first | (refine op_value rfl (run_load_row 44 (.tmp 5) rfl M rfl 44 _ (0,0) _ rM4 Tryz.underlying44 rfl sizeM) ?_) | (refine op_skip rfl (run_store_row 44 (.tmp 2) (.tmp 36) rfl B rfl 44 [.string ⟨#[]⟩,.bool false,.slice none 0 0,.slice none 0 0] [.string ⟨#[]⟩,.bool true,.slice ia il ic,.slice none 0 0] rfl rB4 sizeM rfl hone) ?_))
    have hrow:=setRow_heap w5 B _ #[.string ⟨#[]⟩,.bool true,.slice ia il ic,.slice none 0 0] _ _ rB4
    refine member_end (by kernel_rfl) rfl rfl rfl hrow ?_
    rw [← HPost.out]
    subst hRR
    exact ⟨⟨_,_,_,rfl⟩,hN5.setRow hBw _⟩
   | some xr =>
    obtain ⟨x,y⟩:=xr
    have hxl0:=Bare.readItem_len hx
    rw [bl_len] at hxl0
    have hxl:x.params.length ≤ 281474976710656:=by
     have:=(readItem_sz (bl q).length (Nat.le_refl _) hx).2.1
     rw [bl_len] at this
     omega
    rw [hx] at HX
    simp only at HX
    obtain ⟨yx,hyx⟩:∃ z,tx y=z:=⟨_,rfl⟩
    have hys:yx.size=y.length:=by rw [← hyx,tx_size]
    have hyb:bl yx=y:=by rw [← hyx,bl_tx]
    rw [hyx] at HX
    have HX:=Lib.hid HX
    have hb1:Hid (∀ W,Calls Tryz.prog 79 #[.string yx,.int .u8 41] W fun e w'=>e = .returned (.bool (begN y 41))∧w'=W):=Lib.hid fun W=>(HBg.out yx 41 (by omega) (by decide) W).mono fun e w' h=>by rw [hyb] at h;exact h
    have hb2:Hid (∀ W,Calls Tryz.prog 79 #[.string yx,.int .u8 32] W fun e w'=>e = .returned (.bool (begN y 32))∧w'=W):=Lib.hid fun W=>(HBg.out yx 32 (by omega) (by decide) W).mono fun e w' h=>by rw [hyb] at h;exact h
    have hh41:=begN_head y 41 (by decide)
    have hh32:=begN_head y 32 (by decide)
    rw [show (UInt8.ofNat 41:UInt8)=41 from rfl] at hh41
    rw [show (UInt8.ofNat 32:UInt8)=32 from rfl] at hh32
    have hbad:begN y 41=false→begN y 32=false→R=none:=fun h1 h2=>by
     rw [← HR.out,inner_bad hns (by rw [HID.out];exact hx) (by rw [← hh41,← hh32,h1,h2];simp)]
    have hblk:=HBl.out yx (by omega)
    rw [hyb,show blkL false = [32] from rfl] at hblk
    obtain ⟨z,hz⟩:∃ z,Bare.skipB [32] y=z:=⟨_,rfl⟩
    have hzl:z.length ≤ y.length:=by rw [← hz];exact Bare.skip_len _ _
    have hzi:Bare.skipB [32] z=z:=by rw [← hz];exact skip_idem _ _
    have hgood:begN y 41=true ∨ begN y 32=true→Hid ((match Bare.readInner (its ++ [x]) z with | none=>none | some (its,r)=>match Bare.readParams [] r with | none=>none | some (ps,q)=>some (its,ps,q))=R):=fun h=>Lib.hid (by
     rw [← HR.out,Bare.readInner_item hns (by rw [HID.out];exact hx) (by rw [← hh41,← hh32];exact h),← hz,inner_skip])
    rw [hz] at hblk
    obtain ⟨zx,hzx⟩:∃ x,tx z=x:=⟨_,rfl⟩
    have hzs:zx.size=z.length:=by rw [← hzx,tx_size]
    have hzb:bl zx=z:=by rw [← hzx,bl_tx]
    rw [hzx] at hblk
    have HBk:=Lib.hid hblk
    obtain ⟨b1,e1⟩:∃ b,begN y 41=b:=⟨_,rfl⟩
    obtain ⟨b2,e2⟩:∃ b,begN y 32=b:=⟨_,rfl⟩
    rw [e1] at hb1 hbad hgood
    rw [e2] at hb2 hbad hgood
    have HGd:=Lib.hid hgood
    have HBd:=Lib.hid hbad
    clear hx hns hno h41 HR HBg HBl HIt HPs hblk hgood hbad hh41 hh32 e1 e2 hz hyx hzx
    cases b1 with
    | true =>
     replace HGd:=HGd.out (.inl rfl)
     go_upto_region 7 with (first | (go_at_call 79;first | (with_reducible refine (hb.out _).mono ?_;rintro e w' ⟨rfl,rfl⟩) | (with_reducible refine (hb1.out _).mono ?_;rintro e w' ⟨rfl,rfl⟩) | (with_reducible refine (hb2.out _).mono ?_;rintro e w' ⟨rfl,rfl⟩)) | (go_at_call 136;refine HX.out.mono ?_;rintro e w4 ⟨⟨pa,pc,rfl,ho4⟩,hN4⟩))
     have hA4:New w4 (w4.alloc (.cells #[.int .u8 x.bare.kind,.int .i64 x.bare.int,.string (tx x.bare.text),.bool x.bare.yes,.slice pa x.params.length pc] 85)):=(Mods.refl _ _).alloc _
     have rX:=World.alloc_heap_new w4 (.cells #[.int .u8 x.bare.kind,.int .i64 x.bare.int,.string (tx x.bare.text),.bool x.bare.yes,.slice pa x.params.length pc] 85)
     have rM4:=(hN4.trans hA4).heap HRM.out id
     have rB4:=(hN4.trans hA4).heap HRB.out id
     have hN5:=(hN.trans hN4).trans hA4
     have HO5:=Lib.hid (HO.out.new (hN4.trans hA4))
     have hx5:RdP true _ (.slice pa x.params.length pc) x.params:=(ho4.rdP hxl).new hA4
     have HX5:=Lib.hid hx5
     obtain ⟨w5,hw5⟩:∃ V,w4.alloc (.cells #[.int .u8 x.bare.kind,.int .i64 x.bare.int,.string (tx x.bare.text),.bool x.bare.yes,.slice pa x.params.length pc] 85)=V:=⟨_,rfl⟩
     obtain ⟨X,hX⟩:∃ b,w4.heap.size=b:=⟨_,rfl⟩
     rw [hw5] at rX rM4 rB4 hN5 HO5 HX5 hA4 ⊢
     rw [hX] at rX ⊢
     have hM5:M + 1 ≤ w5.heap.size:=by have:=hA4.size;have:=hN4.size;omega
     clear hx5 hw5 hX hA4 HX ho4
     have c2:=cell_of_row _ _ 2 _ _ _ rM4
     have k0:=cell_of_row _ _ 0 _ _ _ rX
     have k1:=cell_of_row _ _ 1 _ _ _ rX
     have k2:=cell_of_row _ _ 2 _ _ _ rX
     have k3:=cell_of_row _ _ 3 _ _ _ rX
     have k4:=cell_of_row _ _ 4 _ _ _ rX
     simp only [gS] at c2 k0 k1 k2 k3 k4
     have HRM4:=Lib.hid rM4
     have HRB4:=Lib.hid rB4
     clear rX rM4 rB4
     go_wp2_with (at_builtin;refine wpList_append_It (w:=w5) (y:=x) (ya:=pa) (yl:=x.params.length) (yc:=pc) _ _ rfl rfl rfl rfl rfl HO5.out HX5.out hitl hM5 ?_;intro v6 w6 ho6 hm6;obtain ⟨ja,jc,rfl⟩:=ho6.slice;have hmm6:=hm6 w5 (fun b=>Value.ownBlock (.slice ia its.length ic)=some b) (Mods.refl _ _) (fun g hg=>.inr hg);have rM6:=hmm6.heap HRM4.out (fun e=>by have:=(HO5.out.lt e).1;omega);have c6:=cell_of_row _ _ 2 _ _ _ rM6;have f6:=frozen_row (i:=2) rM6;simp only [gS] at c6)
     have el:(its ++ [x]).length=its.length + 1:=by simp
     rw [el] at ho6
     have hm7:=setMods w6 M 2 (.slice ja (its.length + 1) jc)
     have rM7:=setCell_heap (i:=2) rM6 (.slice ja (its.length + 1) jc)
     simp only [pS] at rM7
     have rB7:=hm7.heap (hmm6.heap HRB4.out (fun e=>by have:=(HO5.out.lt e).1;omega)) (by omega)
     have hN6:New w w6:=hm6 w (fun _=>False) hN5 (fun g hg=>.inl (by have:=(HO5.out.lt hg).1;omega))
     have hN7:New w _:=((Mods.ofNew hN6).trans hm7).new (fun g hg=>by omega)
     have ho7:=ho6.modB rM6 hm7
     have hsz7:=hm7.size
     have hsz6:=hmm6.size
     refine (HBk.out _).mono ?_
     rintro e w8 ⟨rfl,rfl⟩
     clear c6 f6 c2 k0 k1 k2 k3 k4
     go_wp2_with fail
     go_roundw
     case rel=>exact ⟨zx,its ++ [x],_,rfl,by omega,rM7,rB7,ho7,by rw [el];omega,by rw [hzb];exact HGd,by rw [hzb];exact hzi,hN7,by omega⟩
     case measure=>simp;omega
    | false =>
     cases b2 with
     | true =>
      replace HGd:=HGd.out (.inr rfl)
      go_upto_region 7 with (first | (go_at_call 79;first | (with_reducible refine (hb.out _).mono ?_;rintro e w' ⟨rfl,rfl⟩) | (with_reducible refine (hb1.out _).mono ?_;rintro e w' ⟨rfl,rfl⟩) | (with_reducible refine (hb2.out _).mono ?_;rintro e w' ⟨rfl,rfl⟩)) | (go_at_call 136;refine HX.out.mono ?_;rintro e w4 ⟨⟨pa,pc,rfl,ho4⟩,hN4⟩))
      have hA4:New w4 (w4.alloc (.cells #[.int .u8 x.bare.kind,.int .i64 x.bare.int,.string (tx x.bare.text),.bool x.bare.yes,.slice pa x.params.length pc] 85)):=(Mods.refl _ _).alloc _
      have rX:=World.alloc_heap_new w4 (.cells #[.int .u8 x.bare.kind,.int .i64 x.bare.int,.string (tx x.bare.text),.bool x.bare.yes,.slice pa x.params.length pc] 85)
      have rM4:=(hN4.trans hA4).heap HRM.out id
      have rB4:=(hN4.trans hA4).heap HRB.out id
      have hN5:=(hN.trans hN4).trans hA4
      have HO5:=Lib.hid (HO.out.new (hN4.trans hA4))
      have hx5:RdP true _ (.slice pa x.params.length pc) x.params:=(ho4.rdP hxl).new hA4
      have HX5:=Lib.hid hx5
      obtain ⟨w5,hw5⟩:∃ V,w4.alloc (.cells #[.int .u8 x.bare.kind,.int .i64 x.bare.int,.string (tx x.bare.text),.bool x.bare.yes,.slice pa x.params.length pc] 85)=V:=⟨_,rfl⟩
      obtain ⟨X,hX⟩:∃ b,w4.heap.size=b:=⟨_,rfl⟩
      rw [hw5] at rX rM4 rB4 hN5 HO5 HX5 hA4 ⊢
      rw [hX] at rX ⊢
      have hM5:M + 1 ≤ w5.heap.size:=by have:=hA4.size;have:=hN4.size;omega
      clear hx5 hw5 hX hA4 HX ho4
      have c2:=cell_of_row _ _ 2 _ _ _ rM4
      have k0:=cell_of_row _ _ 0 _ _ _ rX
      have k1:=cell_of_row _ _ 1 _ _ _ rX
      have k2:=cell_of_row _ _ 2 _ _ _ rX
      have k3:=cell_of_row _ _ 3 _ _ _ rX
      have k4:=cell_of_row _ _ 4 _ _ _ rX
      simp only [gS] at c2 k0 k1 k2 k3 k4
      have HRM4:=Lib.hid rM4
      have HRB4:=Lib.hid rB4
      clear rX rM4 rB4
      go_wp2_with (at_builtin;refine wpList_append_It (w:=w5) (y:=x) (ya:=pa) (yl:=x.params.length) (yc:=pc) _ _ rfl rfl rfl rfl rfl HO5.out HX5.out hitl hM5 ?_;intro v6 w6 ho6 hm6;obtain ⟨ja,jc,rfl⟩:=ho6.slice;have hmm6:=hm6 w5 (fun b=>Value.ownBlock (.slice ia its.length ic)=some b) (Mods.refl _ _) (fun g hg=>.inr hg);have rM6:=hmm6.heap HRM4.out (fun e=>by have:=(HO5.out.lt e).1;omega);have c6:=cell_of_row _ _ 2 _ _ _ rM6;have f6:=frozen_row (i:=2) rM6;simp only [gS] at c6)
      have el:(its ++ [x]).length=its.length + 1:=by simp
      rw [el] at ho6
      have hm7:=setMods w6 M 2 (.slice ja (its.length + 1) jc)
      have rM7:=setCell_heap (i:=2) rM6 (.slice ja (its.length + 1) jc)
      simp only [pS] at rM7
      have rB7:=hm7.heap (hmm6.heap HRB4.out (fun e=>by have:=(HO5.out.lt e).1;omega)) (by omega)
      have hN6:New w w6:=hm6 w (fun _=>False) hN5 (fun g hg=>.inl (by have:=(HO5.out.lt hg).1;omega))
      have hN7:New w _:=((Mods.ofNew hN6).trans hm7).new (fun g hg=>by omega)
      have ho7:=ho6.modB rM6 hm7
      have hsz7:=hm7.size
      have hsz6:=hmm6.size
      refine (HBk.out _).mono ?_
      rintro e w8 ⟨rfl,rfl⟩
      clear c6 f6 c2 k0 k1 k2 k3 k4
      go_wp2_with fail
      go_roundw
      case rel=>exact ⟨zx,its ++ [x],_,rfl,by omega,rM7,rB7,ho7,by rw [el];omega,by rw [hzb];exact HGd,by rw [hzb];exact hzi,hN7,by omega⟩
      case measure=>simp;omega
     | false =>
      have hRR:=HBd.out rfl rfl
      go_upto_region 6 with (first | (go_at_call 79;first | (with_reducible refine (hb.out _).mono ?_;rintro e w' ⟨rfl,rfl⟩) | (with_reducible refine (hb1.out _).mono ?_;rintro e w' ⟨rfl,rfl⟩) | (with_reducible refine (hb2.out _).mono ?_;rintro e w' ⟨rfl,rfl⟩)) | (go_at_call 136;refine HX.out.mono ?_;rintro e w4 ⟨⟨pa,pc,rfl,ho4⟩,hN4⟩))
      have hA4:New w4 (w4.alloc (.cells #[.int .u8 x.bare.kind,.int .i64 x.bare.int,.string (tx x.bare.text),.bool x.bare.yes,.slice pa x.params.length pc] 85)):=(Mods.refl _ _).alloc _
      have rM4:=(hN4.trans hA4).heap HRM.out id
      have rB4:=(hN4.trans hA4).heap HRB.out id
      have hN5:=(hN.trans hN4).trans hA4
      obtain ⟨w5,hw5⟩:∃ V,w4.alloc (.cells #[.int .u8 x.bare.kind,.int .i64 x.bare.int,.string (tx x.bare.text),.bool x.bare.yes,.slice pa x.params.length pc] 85)=V:=⟨_,rfl⟩
      rw [hw5] at rM4 rB4 hN5 ⊢
      clear hw5 hA4 HX ho4
      obtain ⟨il,hil⟩:∃ n,its.length=n:=⟨_,rfl⟩
      rw [hil] at rM4
      have hone:=mcs_one ⟨#[]⟩ true ia none il ic 0 0
      go_wp2_with (first | (refine op_value rfl (run_load_row 44 (.tmp 5) rfl M rfl 44 _ (0,0) _ rM4 Tryz.underlying44 rfl sizeM) ?_) | (refine op_skip rfl (run_store_row 44 (.tmp 2) (.tmp 36) rfl B rfl 44 [.string ⟨#[]⟩,.bool false,.slice none 0 0,.slice none 0 0] [.string ⟨#[]⟩,.bool true,.slice ia il ic,.slice none 0 0] rfl rB4 sizeM rfl hone) ?_))
      have hrow:=setRow_heap w5 B _ #[.string ⟨#[]⟩,.bool true,.slice ia il ic,.slice none 0 0] _ _ rB4
      refine member_end (by kernel_rfl) rfl rfl rfl hrow ?_
      rw [← HPost.out]
      subst hRR
      exact ⟨⟨_,_,_,rfl⟩,hN5.setRow hBw _⟩


theorem rest_inner (k r:Bare.Bs):Bare.readRest k (61::40::r)=(innR r).map fun x=>(⟨k,true,x.1,x.2.1⟩,x.2.2):=by
 unfold Bare.readRest innR
 cases h:Bare.readInner [] r with
 | none=>simp only [h,Option.map]
 | some x =>
  obtain ⟨its,q⟩:=x
  cases h2:Bare.readParams [] q with
  | none=>simp only [h,h2,Option.map]
  | some y=>simp only [h,h2,Option.map]
theorem rest_item (k:Bare.Bs) {r:Bare.Bs} (h:r.head? ≠ some 40):Bare.readRest k (61::r)=(Bare.readItem r).map fun x=>(⟨k,false,[x.1],[]⟩,x.2):=by
 unfold Bare.readRest
 split
 ·rename_i r1 e
  cases e
  exact absurd rfl h
 ·rename_i r1 _ e
  cases e
  cases Bare.readItem r with
  | none=>rfl
  | some y=>rfl
 ·rename_i h1 h2
  exact absurd rfl (h2 r)
theorem rest_none (k:Bare.Bs) {r:Bare.Bs} (h:r.head? ≠ some 61):Bare.readRest k r=(Bare.readParams [] r).map fun x=>(⟨k,false,[⟨Bare.yesI,x.1⟩],[]⟩,x.2):=by
 unfold Bare.readRest
 split
 ·exact absurd rfl h
 ·exact absurd rfl h
 ·cases Bare.readParams [] r with
  | none=>rfl
  | some y=>rfl
theorem RdI.one {W:World} {A:Nat} {x:Bare.Itm} {pv:Value} {fr:Nat × Nat} (h:W.heap[A]? = some (.cells (ics x pv).toArray 85 fr)) (hp:RdP true W pv x.params):RdI true W (.slice (some ⟨A,0,none⟩) 1 1) [x]:=by
 refine ⟨fun _=>pv,⟨by show 1 ≤ _;omega,some ⟨A,0,none⟩,1,rfl,fun i hi=>⟨A,0,rfl,?_⟩⟩,fun _ g hg=>by cases hg;exact ⟨_,_,h⟩,fun i hi=>?_⟩
 ·obtain rfl:i=0:=by simp at hi;omega
  intro j v hv
  have c:=cell_of_row _ _ j _ _ _ h
  simp only [Nat.zero_mul,Nat.add_zero,Nat.zero_add]
  rw [c,List.getElem?_toArray]
  exact hv
 ·obtain rfl:i=0:=by simp at hi;omega
  exact hp
def InnK (r:Option (List Bare.Itm × List Bare.Par × Bare.Bs)) (w':World) (iv pv:Value) (t:ByteArray) (ok:Bool):Prop:=match r with
 | none=>ok=false
 | some (its,ps,q)=>ok=true∧t=tx q∧RdI true w' iv its∧RdP true w' pv ps
def ItmK (r:Option (Bare.Itm × Bare.Bs)) (w':World) (k n:Int) (t:ByteArray) (y:Bool) (pv:Value) (q:ByteArray) (ok:Bool):Prop:=match r with
 | none=>ok=false
 | some (x,q')=>ok=true∧q=tx q'∧k=x.bare.kind∧n=x.bare.int∧t=tx x.bare.text∧y=x.bare.yes∧RdP true w' pv x.params
def ParK (r:Option (List Bare.Par × Bare.Bs)) (w':World) (pv:Value) (q:ByteArray) (ok:Bool):Prop:=match r with
 | none=>ok=false
 | some (ps,q')=>ok=true∧q=tx q'∧RdP true w' pv ps
def MemK (r:Option (Bare.Mem × Bare.Bs)) (w':World) (kx:ByteArray) (yb:Bool) (iv pv:Value) (t:ByteArray) (ok:Bool):Prop:=match r with
 | none=>ok=false
 | some (m,q)=>ok=true∧t=tx q∧kx=tx m.key∧yb=m.inner∧RdI true w' iv m.items∧RdP true w' pv m.params
theorem ReadI.all {r:Option (List Bare.Itm × List Bare.Par × Bare.Bs)} {e:Ending} {w':World} (h:ReadI r e w'):∃ (ia pa:Option Addr) (il ic pl pc:Nat) (t:ByteArray) (ok:Bool),e = .returned (.tuple #[.agg #[.string ⟨#[]⟩,.bool true,.slice ia il ic,.slice pa pl pc],.string t,.bool ok])∧InnK r w' (.slice ia il ic) (.slice pa pl pc) t ok:=by
 cases r with
 | none =>
  obtain ⟨ia,il,ic,e⟩:=h
  exact ⟨ia,none,il,ic,0,0,_,_,e,rfl⟩
 | some x =>
  obtain ⟨its,ps,q⟩:=x
  obtain ⟨ia,pa,ic,pc,e,h1,h2⟩:=h
  exact ⟨ia,pa,_,ic,_,pc,_,_,e,rfl,rfl,h1,h2⟩
theorem ReadX.all {r:Option (Bare.Itm × Bare.Bs)} {base:Nat} {e:Ending} {w':World} (h:ReadX r base e w') (hs:∀ x q,r=some (x,q)→x.params.length ≤ 281474976710656):∃ (k n:Int) (t:ByteArray) (y:Bool) (pa:Option Addr) (pl pc:Nat) (q:ByteArray) (ok:Bool),e = .returned (.tuple #[.agg #[.int .u8 k,.int .i64 n,.string t,.bool y,.slice pa pl pc],.string q,.bool ok])∧ItmK r w' k n t y (.slice pa pl pc) q ok:=by
 cases r with
 | none =>
  obtain ⟨k,n,t,y,e⟩:=h
  exact ⟨k,n,t,y,none,0,0,_,_,e,rfl⟩
 | some x =>
  obtain ⟨x,q⟩:=x
  obtain ⟨pa,pc,e,h1⟩:=h
  exact ⟨_,_,_,_,pa,_,pc,_,_,e,rfl,rfl,rfl,rfl,rfl,rfl,h1.rdP (hs _ _ rfl)⟩
theorem ReadPs.all {r:Option (List Bare.Par × Bare.Bs)} {base:Nat} {e:Ending} {w':World} (h:ReadPs r base e w') (hs:∀ x q,r=some (x,q)→x.length ≤ 281474976710656):∃ (pa:Option Addr) (pl pc:Nat) (q:ByteArray) (ok:Bool),e = .returned (.tuple #[.slice pa pl pc,.string q,.bool ok])∧ParK r w' (.slice pa pl pc) q ok:=by
 cases r with
 | none=>exact ⟨none,0,0,_,_,h,rfl⟩
 | some x =>
  obtain ⟨ps,q⟩:=x
  obtain ⟨v,e,h1⟩:=h
  obtain ⟨pa,pc,rfl⟩:=h1.slice
  exact ⟨pa,_,pc,_,_,e,rfl,rfl,h1.rdP (hs _ _ rfl)⟩
def ReadM (r:Option (Bare.Mem × Bare.Bs)) (e:Ending) (w':World):Prop:=∃ (kx:ByteArray) (yb:Bool) (ia pa:Option Addr) (il ic pl pc:Nat) (t:ByteArray) (ok:Bool),e = .returned (.tuple #[.agg #[.string kx,.bool yb,.slice ia il ic,.slice pa pl pc],.string t,.bool ok])∧MemK r w' kx yb (.slice ia il ic) (.slice pa pl pc) t ok
theorem RdP.none (W:World):RdP true W (.slice none 0 0) []:=⟨RowR.nil _ _ _ _ _,fun _ g hg=>by cases hg⟩
theorem readMember_r (s:ByteArray) (w:World) (hs:s.size ≤ 1000000) :
  Calls Tryz.prog 77 #[.string s] w fun e w'=>ReadM (Bare.readMem (bl s)) e w'∧New w w':=by
 obtain ⟨R,hR⟩:∃ R,Bare.readMem (bl s)=R:=⟨_,rfl⟩
 have HR:=Lib.hid hR
 rw [hR]
 clear hR
 have hke:=fun W=>keyof_r s W hs
 have HBg:=Lib.hid (fun q d h hd W=>begins_r q d W h hd)
 have HIt:=Lib.hid (fun q h W=>readItem_r q W h)
 have HPs:=Lib.hid (fun q h W=>readParams_r q W h)
 have HIn:=Lib.hid (fun q h W=>readInner_r q W h)
 obtain ⟨Post,hPost⟩:∃ Post:Ending→World→Prop,(fun e w'=>ReadM R e w'∧New w w')=Post:=⟨_,rfl⟩
 have HPost:=Lib.hid hPost
 rw [hPost]
 clear hPost
 obtain ⟨K,hK⟩:∃ K,Bare.keyOf (bl s)=K:=⟨_,rfl⟩
 have HRR:Hid (R=if K.isEmpty then none else Bare.readRest K ((bl s).drop K.length)):=Lib.hid (by
  rw [← HR.out]
  unfold Bare.readMem Bare.readKey
  simp only
  rw [hK]
  cases K.isEmpty <;> rfl)
 rw [hK] at hke
 clear HR hK
 have hql:((bl s).drop K.length).length ≤ s.size:=by rw [List.length_drop,bl_len];omega
 obtain ⟨q,hq⟩:∃ q,(bl s).drop K.length=q:=⟨_,rfl⟩
 rw [hq] at hke HRR hql
 obtain ⟨kx,hkx⟩:∃ x,tx K=x:=⟨_,rfl⟩
 obtain ⟨rx,hrx⟩:∃ x,tx q=x:=⟨_,rfl⟩
 have hrs:rx.size=q.length:=by rw [← hrx,tx_size]
 have hrb:bl rx=q:=by rw [← hrx,bl_tx]
 rw [hkx,hrx] at hke
 have HKX:=Lib.hid hkx
 have HRB:=Lib.hid hrb
 have hrl:rx.size ≤ 1000000:=by omega
 clear hq hkx hrx hql hrb
 go_enter Tryz.func77,Tryz.ntmps77
 go_upto_region 1 with fail
 have hA:New w (w.alloc (.cells #[.string ⟨#[]⟩,.bool false,.slice none 0 0,.slice none 0 0] 44)):=(Mods.refl _ _).alloc _
 have rB:=World.alloc_heap_new w (.cells #[.string ⟨#[]⟩,.bool false,.slice none 0 0,.slice none 0 0] 44)
 obtain ⟨W1,hW1⟩:∃ V,w.alloc (.cells #[.string ⟨#[]⟩,.bool false,.slice none 0 0,.slice none 0 0] 44)=V:=⟨_,rfl⟩
 obtain ⟨B,hB⟩:∃ B,w.heap.size=B:=⟨_,rfl⟩
 rw [hW1] at hA rB ⊢
 rw [hB] at rB ⊢
 have hBw:w.heap.size ≤ B:=by omega
 clear hW1 hB
 cases hb:K.isEmpty with
 | true =>
  rw [hb] at hke
  have HKe:=Lib.hid hke
  have hRR:R=none:=by rw [HRR.out,hb];rfl
  clear hke HRR hb HIn HPs HIt HBg
  go_upto_region 2 with (go_at_call 134;refine (HKe.out _).mono ?_;rintro e w2 ⟨rfl,hN2⟩)
  have rB2:=hN2.heap rB id
  go_wp2_with (refine op_skip rfl (run_store_row 44 (.tmp 2) (.tmp 23) rfl B rfl 44 [.string ⟨#[]⟩,.bool false,.slice none 0 0,.slice none 0 0] [.string ⟨#[]⟩,.bool false,.slice none 0 0,.slice none 0 0] rfl rB2 sizeM rfl (mcs_one _ _ _ _ _ _ _ _)) ?_)
  have hrow:=setRow_heap _ B _ #[.string ⟨#[]⟩,.bool false,.slice none 0 0,.slice none 0 0] _ _ rB2
  refine member_end (by kernel_rfl) rfl rfl rfl hrow ?_
  rw [← HPost.out]
  subst hRR
  exact ⟨⟨_,_,_,_,_,_,_,_,_,_,rfl,rfl⟩,(hA.trans hN2).setRow hBw _⟩
 | false =>
 rw [hb] at hke
 have HKe:=Lib.hid hke
 have hRR:R=Bare.readRest K q:=by rw [HRR.out,hb];rfl
 have HRR:=Lib.hid hRR
 clear hke hb hRR
 go_upto_region 4 with (go_at_call 134;refine (HKe.out _).mono ?_;rintro e w2 ⟨rfl,hN2⟩)
 clear HKe
 go_upto_region 7 with fail
 obtain ⟨w3,M,hW3,hM,rM,hN3,hMs⟩:∃ V M,w2.alloc (.cells #[.string kx,.bool false,.slice none 0 0,.slice none 0 0] 44)=V∧w2.heap.size=M∧V.heap[M]? = some (.cells #[.string kx,.bool false,.slice none 0 0,.slice none 0 0] 44 (0,0))∧New w2 V∧M + 1=V.heap.size:=⟨_,_,rfl,rfl,World.alloc_heap_new _ _,(Mods.refl _ _).alloc _,by simp⟩
 rw [hW3,hM]
 have hBM:B < M:=by
  have h1:=(Array.getElem?_eq_some_iff.1 rB).1
  have:=hN2.size
  omega
 have hNw:=(hA.trans hN2).trans hN3
 have rB3:=(hN2.trans hN3).heap rB id
 clear hW3 hM rB hA hN2 hN3 W1 w2
 cases h61:begN q 61 with
 | true =>
  have hb:Hid (∀ W,Calls Tryz.prog 79 #[.string rx,.int .u8 61] W fun e w'=>e = .returned (.bool true)∧w'=W):=Lib.hid fun W=>(HBg.out rx 61 (by omega) (by decide) W).mono fun e w' h=>by rw [HRB.out,h61] at h;exact h
  obtain ⟨hq0,hq1⟩:=begN_yes (s:=rx) (d:=61) (by decide) (by rw [HRB.out];exact h61)
  rw [HRB.out,show (UInt8.ofNat 61:UInt8)=61 from rfl] at hq1
  have hsl:∀ W,(Instr.slice 9 (.string rx) (some (.int .i64 1)) none none).run Tryz.prog W = .ok (.string (tx ((bl rx).drop 1))) W:=run_sl_l rx 1 (by omega)
  rw [HRB.out] at hsl
  obtain ⟨q1,hqe⟩:∃ r,q.drop 1=r:=⟨_,rfl⟩
  rw [hqe] at hq1 hsl
  obtain ⟨sx,hsx⟩:∃ x,tx q1=x:=⟨_,rfl⟩
  have hss:sx.size=q1.length:=by rw [← hsx,tx_size]
  have hsb:bl sx=q1:=by rw [← hsx,bl_tx]
  have HSB:=Lib.hid hsb
  rw [hsx] at hsl
  have hq1l:q1.length + 1=rx.size:=by rw [hrs,hq1];rfl
  have hsl1:sx.size ≤ 1000000:=by omega
  clear hqe hsx hsb
  cases h40:begN q1 40 with
  | true =>
   have hb2:Hid (∀ W,Calls Tryz.prog 79 #[.string sx,.int .u8 40] W fun e w'=>e = .returned (.bool true)∧w'=W):=Lib.hid fun W=>(HBg.out sx 40 (by omega) (by decide) W).mono fun e w' h=>by rw [HSB.out,h40] at h;exact h
   obtain ⟨hp0,hp1⟩:=begN_yes (s:=sx) (d:=40) (by decide) (by rw [HSB.out];exact h40)
   rw [HSB.out,show (UInt8.ofNat 40:UInt8)=40 from rfl] at hp1
   have hsl2:∀ W,(Instr.slice 9 (.string rx) (some (.int .i64 2)) none none).run Tryz.prog W = .ok (.string (tx ((bl rx).drop 2))) W:=run_sl_l rx 2 (by omega)
   rw [HRB.out] at hsl2
   obtain ⟨q2,hqe⟩:∃ r,q1.drop 1=r:=⟨_,rfl⟩
   rw [hqe] at hp1
   rw [hq1,hp1,show (61::40::q2:Bare.Bs).drop 2=q2 from rfl] at hsl2
   obtain ⟨ux,hux⟩:∃ x,tx q2=x:=⟨_,rfl⟩
   have hus:ux.size=q2.length:=by rw [← hux,tx_size]
   have hub:bl ux=q2:=by rw [← hux,bl_tx]
   rw [hux] at hsl2
   have hq2l:q2.length + 1=q1.length:=by rw [hp1];rfl
   have hI:=HIn.out ux (by omega)
   rw [hub] at hI
   have HI:=Lib.hid hI
   have hRe:Hid (R=(innR q2).map fun x=>(⟨K,true,x.1,x.2.1⟩,x.2.2)):=Lib.hid (by rw [HRR.out,hq1,hp1];exact rest_inner K q2)
   clear hI h61 h40 HIn HPs HIt HBg HRR hq1 hp1 hqe hux hus hub hq2l hss hq1l HSB HRB
   go_upto_region 8 with (go_at_call 79;first | (with_reducible refine (hb.out _).mono ?_;rintro e w' ⟨rfl,rfl⟩) | (with_reducible refine (hb2.out _).mono ?_;rintro e w' ⟨rfl,rfl⟩))
   go_upto_region 9 with (first | (go_at_call 135;refine (HI.out _).mono ?_;rintro e w4 ⟨h4,hN4⟩;obtain ⟨ia,pa,il,ic,pl,pc,t,ok,rfl,hF⟩:=h4.all;have rM4:=hN4.heap rM id;have rB4:=hN4.heap rB3 id;have HF:=Lib.hid hF;clear hF h4) | (refine op_skip rfl (run_store_row 44 (.tmp 8) (.tmp 51) rfl M rfl 44 [.string kx,.bool false,.slice none 0 0,.slice none 0 0] [.string ⟨#[]⟩,.bool true,.slice ia il ic,.slice pa pl pc] rfl rM4 sizeM rfl (mcs_one _ _ _ _ _ _ _ _)) ?_))
   have hm5:=mods_setRow rM4 #[.string ⟨#[]⟩,.bool true,.slice ia il ic,.slice pa pl pc]
   have rM5:=setRow_heap w4 M _ #[.string ⟨#[]⟩,.bool true,.slice ia il ic,.slice pa pl pc] _ _ rM4
   obtain ⟨w5,hw5⟩:∃ V,w4.setRow M #[.string ⟨#[]⟩,.bool true,.slice ia il ic,.slice pa pl pc]=V:=⟨_,rfl⟩
   have hw5':w4.setRow M [.string ⟨#[]⟩,.bool true,.slice ia il ic,.slice pa pl pc].toArray=w5:=hw5
   rw [hw5] at hm5 rM5
   rw [hw5']
   have rB5:=hm5.heap rB4 (by omega)
   clear hw5 hw5'
   have c0:=cell_of_row _ _ 0 _ _ _ rM5
   simp only [gS] at c0
   have f0:=frozen_row (i:=0) rM5
   go_upto_region 13 with fail
   have hm6:=setMods w5 M 0 (.string kx)
   have rM6:=setCell_heap (i:=0) rM5 (.string kx)
   simp only [pS] at rM6
   have rB6:=hm6.heap rB5 (by omega)
   obtain ⟨w6,hw6⟩:∃ V,w5.setCell ⟨M,0,none⟩ (.string kx)=V:=⟨_,rfl⟩
   rw [hw6] at hm6 rM6 rB6 ⊢
   clear hw6 c0 f0
   go_wp2_with (first | (refine op_value rfl (run_load_row 44 (.tmp 8) rfl M rfl 44 _ (0,0) _ rM6 Tryz.underlying44 rfl sizeM) ?_) | (refine op_skip rfl (run_store_row 44 (.tmp 2) (.tmp 71) rfl B rfl 44 [.string ⟨#[]⟩,.bool false,.slice none 0 0,.slice none 0 0] [.string kx,.bool true,.slice ia il ic,.slice pa pl pc] rfl rB6 sizeM rfl (mcs_one _ _ _ _ _ _ _ _)) ?_))
   have hrow:=setRow_heap w6 B _ #[.string kx,.bool true,.slice ia il ic,.slice pa pl pc] _ _ rB6
   have hm7:=mods_setRow rB6 #[.string kx,.bool true,.slice ia il ic,.slice pa pl pc]
   refine member_end (by kernel_rfl) rfl rfl rfl hrow ?_
   rw [← HPost.out]
   have hNf:New w (w6.setRow B #[.string kx,.bool true,.slice ia il ic,.slice pa pl pc]):=(((Mods.ofNew (hNw.trans hN4)).trans hm5).trans hm6).new (fun g hg=>by omega) |>.setRow hBw _
   refine ⟨⟨_,_,_,_,_,_,_,_,_,ok,rfl,?_⟩,hNf⟩
   rw [hRe.out]
   have hF:=HF.out
   cases hin:innR q2 with
   | none=>rw [hin] at hF;exact hF
   | some x =>
    obtain ⟨its,ps,q'⟩:=x
    rw [hin] at hF
    obtain ⟨h1,h2,h3,h4⟩:=hF
    exact ⟨h1,h2,HKX.out.symm,rfl,((h3.far hm5 (far_row rM4)).far hm6 (far_row rM5)).far hm7 (far_row rB6),((h4.far hm5 (far_row rM4)).far hm6 (far_row rM5)).far hm7 (far_row rB6)⟩
  | false =>
   have hb2:Hid (∀ W,Calls Tryz.prog 79 #[.string sx,.int .u8 40] W fun e w'=>e = .returned (.bool false)∧w'=W):=Lib.hid fun W=>(HBg.out sx 40 (by omega) (by decide) W).mono fun e w' h=>by rw [HSB.out,h40] at h;exact h
   have hno:=begN_no (s:=sx) (d:=40) (by decide) (by rw [HSB.out];exact h40)
   rw [HSB.out,show (UInt8.ofNat 40:UInt8)=40 from rfl] at hno
   have hRe:Hid (R=(Bare.readItem q1).map fun x=>(⟨K,false,[x.1],[]⟩,x.2)):=Lib.hid (by rw [HRR.out,hq1];exact rest_item K hno)
   have hI:=HIt.out sx (by omega)
   rw [HSB.out] at hI
   have HI:=Lib.hid hI
   have HSz:Hid (∀ x r,Bare.readItem q1=some (x,r)→x.params.length ≤ 281474976710656):=Lib.hid fun x r h=>by
    have:=(readItem_sz q1.length (Nat.le_refl _) h).2.1
    omega
   clear hI h61 h40 HIn HPs HIt HBg HRR hq1 hno hss hq1l HSB HRB
   go_upto_region 10 with (go_at_call 79;first | (with_reducible refine (hb.out _).mono ?_;rintro e w' ⟨rfl,rfl⟩) | (with_reducible refine (hb2.out _).mono ?_;rintro e w' ⟨rfl,rfl⟩))
   go_upto_region 11 with (go_at_call 79;with_reducible refine (hb.out _).mono ?_;rintro e w' ⟨rfl,rfl⟩)
   go_upto_region 12 with (go_at_call 136;refine (HI.out _).mono ?_;rintro e w4 ⟨h4,hN4⟩;obtain ⟨k,n,t,y,pa,pl,pc,tr,ok,rfl,hF⟩:=h4.all HSz.out;have rM4:=hN4.heap rM id;have rB4:=hN4.heap rB3 id;have HF:=Lib.hid hF;clear hF h4)
   obtain ⟨w5,X,hW5,hX,rX,hN5,hXs⟩:∃ V X,w4.alloc (.cells #[.int .u8 k,.int .i64 n,.string t,.bool y,.slice pa pl pc] 85)=V∧w4.heap.size=X∧V.heap[X]? = some (.cells #[.int .u8 k,.int .i64 n,.string t,.bool y,.slice pa pl pc] 85 (0,0))∧New w4 V∧X + 1=V.heap.size:=⟨_,_,rfl,rfl,World.alloc_heap_new _ _,(Mods.refl _ _).alloc _,by simp⟩
   rw [hW5,hX]
   have rM5:=hN5.heap rM4 id
   have rB5:=hN5.heap rB4 id
   have k0:=cell_of_row _ _ 0 _ _ _ rX
   have k1:=cell_of_row _ _ 1 _ _ _ rX
   have k2:=cell_of_row _ _ 2 _ _ _ rX
   have k3:=cell_of_row _ _ 3 _ _ _ rX
   have k4:=cell_of_row _ _ 4 _ _ _ rX
   simp only [gS] at k0 k1 k2 k3 k4
   clear hW5 hX
   have hN6:New w5 (w5.alloc (.cells #[.int .u8 k,.int .i64 n,.string t,.bool y,.slice pa pl pc] 85)):=(Mods.refl _ _).alloc _
   have rA:=World.alloc_heap_new w5 (.cells #[.int .u8 k,.int .i64 n,.string t,.bool y,.slice pa pl pc] 85)
   have rM6:=hN6.heap rM5 id
   have rB6:=hN6.heap rB5 id
   have c2:=cell_of_row _ _ 2 _ _ _ rM6
   simp only [gS] at c2
   have f2:=frozen_row (i:=2) rM6
   go_upto_region 13 with fail
   obtain ⟨A,hA⟩:∃ b,w5.heap.size=b:=⟨_,rfl⟩
   obtain ⟨w6,hw6⟩:∃ V,w5.alloc (.cells #[.int .u8 k,.int .i64 n,.string t,.bool y,.slice pa pl pc] 85)=V:=⟨_,rfl⟩
   rw [hw6] at hN6 rA rM6 rB6 ⊢
   rw [hA] at rA ⊢
   clear hw6 hA c2 f2
   have hm6:=setMods w6 M 2 (.slice (some ⟨A,0,none⟩) 1 1)
   have rM7:=setCell_heap (i:=2) rM6 (.slice (some ⟨A,0,none⟩) 1 1)
   simp only [pS] at rM7
   have rB7:=hm6.heap rB6 (by omega)
   obtain ⟨w7,hw7⟩:∃ V,w6.setCell ⟨M,2,none⟩ (.slice (some ⟨A,0,none⟩) 1 1)=V:=⟨_,rfl⟩
   rw [hw7] at hm6 rM7 rB7 ⊢
   clear hw7
   clear k0 k1 k2 k3 k4
   go_wp2_with (first | (refine op_value rfl (run_load_row 44 (.tmp 8) rfl M rfl 44 _ (0,0) _ rM7 Tryz.underlying44 rfl sizeM) ?_) | (refine op_skip rfl (run_store_row 44 (.tmp 2) (.tmp 71) rfl B rfl 44 [.string ⟨#[]⟩,.bool false,.slice none 0 0,.slice none 0 0] [.string kx,.bool false,.slice (some ⟨A,0,none⟩) 1 1,.slice none 0 0] rfl rB7 sizeM rfl (mcs_one _ _ _ _ _ _ _ _)) ?_))
   have hrow:=setRow_heap w7 B _ #[.string kx,.bool false,.slice (some ⟨A,0,none⟩) 1 1,.slice none 0 0] _ _ rB7
   have hm7:=mods_setRow rB7 #[.string kx,.bool false,.slice (some ⟨A,0,none⟩) 1 1,.slice none 0 0]
   refine member_end (by kernel_rfl) rfl rfl rfl hrow ?_
   rw [← HPost.out]
   have hNf:New w (w7.setRow B #[.string kx,.bool false,.slice (some ⟨A,0,none⟩) 1 1,.slice none 0 0]):=((Mods.ofNew (((hNw.trans hN4).trans hN5).trans hN6)).trans hm6).new (fun g hg=>by omega) |>.setRow hBw _
   refine ⟨⟨_,_,_,_,_,_,_,_,_,ok,rfl,?_⟩,hNf⟩
   rw [hRe.out]
   have hF:=HF.out
   cases hin:Bare.readItem q1 with
   | none=>rw [hin] at hF;exact hF
   | some x =>
    obtain ⟨x,q'⟩:=x
    rw [hin] at hF
    obtain ⟨h1,h2,rfl,rfl,rfl,rfl,h4⟩:=hF
    exact ⟨h1,h2,HKX.out.symm,rfl,((RdI.one (x:=x) rA (h4.new (hN5.trans hN6))).far hm6 (far_row rM6)).far hm7 (far_row rB7),RdP.none _⟩
 | false =>
  have hb:Hid (∀ W,Calls Tryz.prog 79 #[.string rx,.int .u8 61] W fun e w'=>e = .returned (.bool false)∧w'=W):=Lib.hid fun W=>(HBg.out rx 61 (by omega) (by decide) W).mono fun e w' h=>by rw [HRB.out,h61] at h;exact h
  have hno:=begN_no (s:=rx) (d:=61) (by decide) (by rw [HRB.out];exact h61)
  rw [HRB.out,show (UInt8.ofNat 61:UInt8)=61 from rfl] at hno
  have hRe:Hid (R=(Bare.readParams [] q).map fun x=>(⟨K,false,[⟨Bare.yesI,x.1⟩],[]⟩,x.2)):=Lib.hid (by rw [HRR.out];exact rest_none K hno)
  have hI:=HPs.out rx (by omega)
  rw [HRB.out] at hI
  have HI:=Lib.hid hI
  have HSz:Hid (∀ x r,Bare.readParams [] q=some (x,r)→x.length ≤ 281474976710656):=Lib.hid fun x r h=>by
   have:=(readParams_nil q.length (Nat.le_refl _) h).1
   omega
  clear hI h61 HIn HPs HIt HBg HRR hno HRB
  go_upto_region 10 with (go_at_call 79;with_reducible refine (hb.out _).mono ?_;rintro e w' ⟨rfl,rfl⟩)
  go_upto_region 5 with (go_at_call 79;with_reducible refine (hb.out _).mono ?_;rintro e w' ⟨rfl,rfl⟩)
  go_upto_region 6 with (go_at_call 137;refine (HI.out _).mono ?_;rintro e w4 ⟨h4,hN4⟩;obtain ⟨pa,pl,pc,tr,ok,rfl,hF⟩:=h4.all HSz.out;have rM4:=hN4.heap rM id;have rB4:=hN4.heap rB3 id;have HF:=Lib.hid hF;clear hF h4)
  have hN6:New w4 (w4.alloc (.cells #[.int .u8 6,.int .i64 0,.string ⟨#[]⟩,.bool true,.slice pa pl pc] 85)):=(Mods.refl _ _).alloc _
  have rA:=World.alloc_heap_new w4 (.cells #[.int .u8 6,.int .i64 0,.string ⟨#[]⟩,.bool true,.slice pa pl pc] 85)
  have rM6:=hN6.heap rM4 id
  have rB6:=hN6.heap rB4 id
  have c2:=cell_of_row _ _ 2 _ _ _ rM6
  simp only [gS] at c2
  have f2:=frozen_row (i:=2) rM6
  go_upto_region 13 with fail
  obtain ⟨A,hA⟩:∃ b,w4.heap.size=b:=⟨_,rfl⟩
  obtain ⟨w6,hw6⟩:∃ V,w4.alloc (.cells #[.int .u8 6,.int .i64 0,.string ⟨#[]⟩,.bool true,.slice pa pl pc] 85)=V:=⟨_,rfl⟩
  rw [hw6] at hN6 rA rM6 rB6 ⊢
  rw [hA] at rA ⊢
  clear hw6 hA c2 f2
  have hm6:=setMods w6 M 2 (.slice (some ⟨A,0,none⟩) 1 1)
  have rM7:=setCell_heap (i:=2) rM6 (.slice (some ⟨A,0,none⟩) 1 1)
  simp only [pS] at rM7
  have rB7:=hm6.heap rB6 (by omega)
  obtain ⟨w7,hw7⟩:∃ V,w6.setCell ⟨M,2,none⟩ (.slice (some ⟨A,0,none⟩) 1 1)=V:=⟨_,rfl⟩
  rw [hw7] at hm6 rM7 rB7 ⊢
  clear hw7
  go_wp2_with (first | (refine op_value rfl (run_load_row 44 (.tmp 8) rfl M rfl 44 _ (0,0) _ rM7 Tryz.underlying44 rfl sizeM) ?_) | (refine op_skip rfl (run_store_row 44 (.tmp 2) (.tmp 71) rfl B rfl 44 [.string ⟨#[]⟩,.bool false,.slice none 0 0,.slice none 0 0] [.string kx,.bool false,.slice (some ⟨A,0,none⟩) 1 1,.slice none 0 0] rfl rB7 sizeM rfl (mcs_one _ _ _ _ _ _ _ _)) ?_))
  have hrow:=setRow_heap w7 B _ #[.string kx,.bool false,.slice (some ⟨A,0,none⟩) 1 1,.slice none 0 0] _ _ rB7
  have hm7:=mods_setRow rB7 #[.string kx,.bool false,.slice (some ⟨A,0,none⟩) 1 1,.slice none 0 0]
  refine member_end (by kernel_rfl) rfl rfl rfl hrow ?_
  rw [← HPost.out]
  have hNf:New w (w7.setRow B #[.string kx,.bool false,.slice (some ⟨A,0,none⟩) 1 1,.slice none 0 0]):=((Mods.ofNew ((hNw.trans hN4).trans hN6)).trans hm6).new (fun g hg=>by omega) |>.setRow hBw _
  refine ⟨⟨_,_,_,_,_,_,_,_,_,ok,rfl,?_⟩,hNf⟩
  rw [hRe.out]
  have hF:=HF.out
  cases hin:Bare.readParams [] q with
  | none=>rw [hin] at hF;exact hF
  | some x =>
   obtain ⟨ps,q'⟩:=x
   rw [hin] at hF
   obtain ⟨h1,h2,h4⟩:=hF
   exact ⟨h1,h2,HKX.out.symm,rfl,((RdI.one (x:=⟨Bare.yesI,ps⟩) rA (h4.new hN6)).far hm6 (far_row rM6)).far hm7 (far_row rB7),RdP.none _⟩
end Go.Proofs.YtnknmmbnhoanfaaGreatDoor
