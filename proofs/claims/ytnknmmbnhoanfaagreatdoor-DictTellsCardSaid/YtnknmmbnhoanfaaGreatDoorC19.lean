/- Texts joined. -/
import Derived.Test.YtnknmmbnhoanfaaGreatDoorC18
import Derived.Deep.CutBlock
import Derived.Deep.DeepCutAuto
import Derived.Test.YtnknmmbnhoanfaaGreatDoorC11
import Derived.Test.YtnknmmbnhoanfaaGreatDoorC17
import Derived.Test.YtnknmmbnhoanfaaGreatDoorC15
set_option linter.unusedSimpArgs false
set_option linter.unusedVariables false
set_option maxHeartbeats 16000000
set_option maxRecDepth 100000
namespace Go.Proofs.YtnknmmbnhoanfaaGreatDoor
open Go.RowKit Go.Shelf Go.Cs
attribute [local go_sem] Oper.semAt_some


noncomputable def reg_causeyref13_putMember_4:Code:=((Tryz.f78.body.bind (regionOf 4)).getD .skip)
theorem putm4 (t:Array Value) (hs:t.size=29) (w:World) {g B k n cap:Nat} {a b:ByteArray} {y:Bool}
  (hq0:t.getD 0 undef = .slice (some ⟨g,0,none⟩) n cap)
  (hq3:t.getD 3 undef = .pointer (some ⟨B,0,none⟩))
  (hq5:t.getD 5 undef = .int .i64 k)
  (c0:w.cell? ⟨g,k * 4,none⟩=some (.string a)) (c1:w.cell? ⟨B,0,none⟩=some (.string b)) (hk:k < n) (hy:(a.toList == b.toList)=y) :
  reg_causeyref13_putMember_4.wp Tryz.prog (Only fun a' W'=>∃ z:Nat→Value,a'=⟨((pz t z [12,13,14,15,16,17,18]).setIfInBounds 19 (.bool y)),[]⟩∧New w W') ⟨t,[]⟩ w:=by
 conv=>arg 2;whnf
 obtain ⟨u,rfl⟩:=lit29 t hs
 have hq0:u 0 = _:=hq0
 have hq3:u 3 = _:=hq3
 have hq5:u 5 = _:=hq5
 rw [hq0,hq3,hq5]
 clear hq0 hq3 hq5 hs
 have hid:decide ((k:Int) < (n:Int))=true:=decide_eq_true (by omega)
 refine wp_region_held (S:=fun W=>New w W) (by kernel_rfl) ?_
 show wpAnyH _ _ _ _ _ 8 _ _ w.drew
 have hN:New w w.drew:=(Mods.refl _ _).drew
 have hS:New w w.drew:=(Mods.refl _ _).drew
 refine tkI 0 (some 12) (.slice (some ⟨g,0,none⟩) n cap) hS ?_
 simp only [pS]
 refine tkI 1 (some 13) (.int .i64 k) hS ?_
 simp only [pS]
 refine tkI 2 (some 14) (.pointer (some ⟨g,k * 4,none⟩)) hS ?_
 simp only [pS]
 refine tkI 3 (some 15) (.pointer (some ⟨g,k * 4,none⟩)) hS ?_
 simp only [pS]
 refine tkA 4 rfl (some 16) (.string a) (.inl ⟨by rfl,fun W hW=>by have q:=hW.cell c0 id;go_simp⟩) hS ?_
 simp only [pS]
 refine tkI 5 (some 17) (.pointer (some ⟨B,0,none⟩)) hS ?_
 simp only [pS]
 refine tkA 6 rfl (some 18) (.string b) (.inl ⟨by rfl,fun W hW=>by have q:=hW.cell c1 id;go_simp⟩) hS ?_
 simp only [pS]
 refine tkA 7 rfl (some 19) (.bool y) (.inl ⟨by rfl,fun W hW=>by go_simp;first | done | exact hy⟩) hS ?_
 simp only [pS]
 refine wpAnyH_done (by kernel_rfl) ?_ _
 exact zc rfl hN
theorem wpList_append_D {ops:Array Oper} {Q:Exit→Act→World→Prop} {rest:List Oper} {o:Oper} {a:Act} {w W:World} (s x:Operand) {base:Nat} {v:Value} {d:List Bare.Mem} {m:Bare.Mem} {ia pa:Option Addr} {il ic pl pc:Nat} (hgd:o.guard=none) (hop:o.op = .call { callee:=.builtin .append,args:=#[s,x],argTypes:=#[36,36] })
  (hs:a.eval s=v) (hx:a.eval x = .slice (some ⟨w.heap.size,0,none⟩) 1 1) (hW:w.alloc (.cells (mcs m (.slice ia il ic) (.slice pa pl pc)).toArray 44)=W) (hown:OwD base w v d) (hi:RdI true w (.slice ia il ic) m.items) (hp:RdP true w (.slice pa pl pc) m.params) (hn:d.length ≤ 2000000) (hbase:base ≤ w.heap.size)
  (h:∀ v' W',OwD base W' v' (d ++ [m])→(∀ (w0:World) (S:Nat→Prop),Mods S w0 w→(∀ g,v.ownBlock=some g→w0.heap.size ≤ g ∨ S g)→Mods S w0 W')→wpList Tryz.prog ops Q rest (a.put o.dst v') W'):wpList Tryz.prog ops Q (o::rest) a W:=by
 refine wpList_plain hgd fun K hK=>?_
 obtain ⟨v',w',hr,ho,hg⟩:=run_append_D hop hs hx hW hown hi hp hn hbase
 unfold Oper.wp
 rw [hr]
 exact hK _ _ (h v' w' ho hg)
theorem mem_cells {W:World} {B:Nat} {m:Bare.Mem} {iv pv:Value} (hr:W.heap[B]? = some (.cells (mcs m iv pv).toArray 44 (0,0))):W.cell? ⟨B,0,none⟩=some (.string (tx m.key))∧W.cell? ⟨B,1,none⟩=some (.bool m.inner)∧W.cell? ⟨B,2,none⟩=some iv∧W.cell? ⟨B,3,none⟩=some pv :=
 ⟨cell_of_row _ _ 0 _ _ _ hr,cell_of_row _ _ 1 _ _ _ hr,cell_of_row _ _ 2 _ _ _ hr,cell_of_row _ _ 3 _ _ _ hr⟩
theorem putMember_r {base:Nat} (v:Value) (d:List Bare.Mem) (m:Bare.Mem) {ia pa:Option Addr} {il ic pl pc:Nat} (w:World) (h:OwD base w v d) (hnd:(d.map (·.key)).Nodup) (hl:d.length ≤ 1000000) (hb:base ≤ w.heap.size) (hI:RdI true w (.slice ia il ic) m.items) (hP:RdP true w (.slice pa pl pc) m.params) :
  Calls Tryz.prog 78 #[v,.agg (mcs m (.slice ia il ic) (.slice pa pl pc)).toArray] w fun e w'=>∃ v',e = .returned v'∧OwD base w' v' (Bare.setM d m)∧Mods (fun g=>v.ownBlock=some g) w w':=by
 have HL:=Lib.hid h
 obtain ⟨ao,cap,rfl⟩:=h.slice
 have hA:New w (w.alloc (.cells (mcs m (.slice ia il ic) (.slice pa pl pc)).toArray 44)):=(Mods.refl _ _).alloc _
 have rB:=World.alloc_heap_new w (.cells (mcs m (.slice ia il ic) (.slice pa pl pc)).toArray 44)
 obtain ⟨n,hn⟩:∃ n,d.length=n:=⟨_,rfl⟩
 have Hn:=Lib.hid hn
 rw [hn] at h HL hl ⊢
 have hLt:=Lib.hid (fun g hg=>(h.lt (g:=g) hg).2)
 have HI:=Lib.hid (hI.new hA)
 have HP:=Lib.hid (hP.new hA)
 clear h hn hI hP
 obtain ⟨Post,hPost⟩:∃ Post:Ending→World→Prop,(fun e w'=>∃ v',e = .returned v'∧OwD base w' v' (Bare.setM d m)∧Mods (fun g=>Value.ownBlock (.slice ao n cap)=some g) w w')=Post:=⟨_,rfl⟩
 have HPost:=Lib.hid hPost
 rw [hPost]
 clear hPost
 obtain ⟨W1,hW1⟩:∃ V,w.alloc (.cells (mcs m (.slice ia il ic) (.slice pa pl pc)).toArray 44)=V:=⟨_,rfl⟩
 have hs1:W1.heap.size=w.heap.size + 1:=by rw [← hW1];simp
 have hW1':w.alloc (.cells #[.string (tx m.key),.bool m.inner,.slice ia il ic,.slice pa pl pc] 44)=W1:=hW1
 rw [hW1] at hA rB HI HP
 obtain ⟨B,hB⟩:∃ b,w.heap.size=b:=⟨_,rfl⟩
 rw [hB] at rB hs1
 have hbB:base ≤ B:=by omega
 have hLB:Hid (∀ g,Value.ownBlock (.slice ao n cap)=some g→g < B):=Lib.hid fun g hg=>by have:=hLt.out g hg;omega
 have HR0:=Lib.hid rB
 unfold mcs
 go_enter Tryz.func78,Tryz.ntmps78
 go_upto_region 2 with fail
 clear hW1 hW1' hB hLt rB
 go_loopw [5] (fun t wr=>∃ k:Nat,k ≤ n∧t = .int .i64 k∧Hid (∀ j,j < k→(d.getD j noM).key ≠ m.key)∧New W1 wr) (fun t _=>n - (intOf t).toNat)
 case atStart=>exact ⟨0,Nat.zero_le _,rfl,Lib.hid fun i hi=>by omega,Mods.refl _ _⟩
 case round =>
  obtain ⟨k,hk,rfl,hbef,hN⟩:=hrel
  have ho:=HL.out.new (hA.trans hN)
  have rB:=hN.heap HR0.out id
  by_cases hlt:k < n
  ·have hkd:decide ((k:Int) < (n:Int))=true:=decide_eq_true (by omega)
   have hoD:=ho
   obtain ⟨iv0,pv0,ho,hq⟩:=ho
   rw [Hn.out] at ho
   obtain ⟨g,og,rfl,-⟩:=(ho.row (by omega)).at.2.2 k hlt
   obtain rfl:og=0:=by
    rcases ho.2.2.2 with ⟨h,_⟩ | ⟨b',cap',cur,h,_⟩
    ·cases h
    ·cases h;rfl
   obtain ⟨b',o',e',hrw⟩:=(ho.row (by omega)).at.2.2 k hlt
   obtain ⟨rfl,rfl⟩:b'=g∧o'=0:=by cases e';exact ⟨rfl,rfl⟩
   rw [Nat.zero_add] at hrw
   obtain ⟨m0,m1,m2,m3⟩:=cells4 hrw
   have hgB:b' < B:=hLB.out b' rfl
   obtain ⟨x,hx⟩:∃ x,d.getD k noM=x:=⟨_,rfl⟩
   have HX:=Lib.hid hx
   have m0:wr.cell? ⟨b',k * 4,none⟩=some (.string (tx x.key)):=by rw [← hx];exact m0
   obtain ⟨q0,q1,q2,q3⟩:=mem_cells rB
   have hey:=eq_tx (tx x.key) (tx m.key)
   rw [bl_tx,bl_tx] at hey
   by_cases heq:x.key=m.key
   ·rw [decide_eq_true heq] at hey
    have hset:=Lib.hid (setM_set (p:=m) hnd (show k < d.length by rw [Hn.out];exact hlt) (by rw [HX.out];exact heq))
    have HO:=Lib.hid hoD
    have HM0:=Lib.hid m0
    have HQ:=Lib.hid q0
    have HTh:Hid (∀ W,New wr W→W.there b' (k * 4) 4):=Lib.hid fun W hN=>(ho.new hN).there hlt
    clear e' hrw m0 m1 m2 m3 ho hq hoD hx heq hbef q0 q1 q2 q3
    go_upto_region 4 with fail
    refine piece (fun _=>_) (putm4 _ rfl wr rfl rfl rfl HM0.out HQ.out hlt hey) ?_
    rintro a' w4 ⟨z,rfl,hN4⟩
    simp only [pS]
    have ho4:=HO.out.new hN4
    have hput:=Lib.hid (OwD.put (m:=m) (i:=k) (by rw [Hn.out];exact ho4) (by rw [Hn.out];exact hlt) (HI.out.new (hN.trans hN4)) (HP.out.new (hN.trans hN4)))
    have hthere:=HTh.out w4 hN4
    have hN:=hN.trans hN4
    obtain ⟨q0,q1,q2,q3⟩:=mem_cells (hN4.heap rB id)
    clear ho4 HTh HO HM0 HQ rB
    go_wp2_with (refine wpList_store_midN rfl rfl 44 (.tmp 23) (.tmp 22) rfl b' (k * 4) (mcs m (.slice ia il ic) (.slice pa pl pc)) rfl rfl hthere sizeM (mcs_one _ _ _ _ _ _ _ _) ?_)
    obtain ⟨W10,hW10⟩:∃ W10,w4.setCells b' (k * 4) (mcs m (.slice ia il ic) (.slice pa pl pc))=W10:=⟨_,rfl⟩
    have hp10:=hput.out
    rw [hW10] at hp10
    have hmg:Mods (fun x=>x=b') w4 W10:=by
     rw [← hW10]
     exact setCells_mods _ _ _ _
    rw [hW10]
    go_wp2_with fail
    rw [← HPost.out,hset.out]
    refine ⟨_,rfl,?_,((Mods.ofNew (hA.trans hN)).trans hmg).mono (fun g hg=>by rw [hg];rfl)⟩
    rw [List.length_set,Hn.out] at hp10
    exact hp10
   ·rw [decide_eq_false heq] at hey
    have hh:Hid (∀ j,j < k + 1→(d.getD j noM).key ≠ m.key):=Lib.hid fun i hi=>by
     by_cases hik:i < k
     ·exact hbef.out i hik
     ·obtain rfl:i=k:=by omega
      rw [HX.out];exact heq
    have HM0:=Lib.hid m0
    have HQ:=Lib.hid q0
    clear e' hrw m0 m1 m2 m3 ho hq hoD hx heq hbef q0 q1 q2 q3 rB
    go_upto_region 4 with fail
    refine piece (fun _=>_) (putm4 _ rfl wr rfl rfl rfl HM0.out HQ.out hlt hey) ?_
    rintro a' w4 ⟨z,rfl,hN4⟩
    simp only [pS]
    clear HM0 HQ
    go_wp2_with fail
    go_roundw
    case rel=>exact ⟨k + 1,by omega,by go_num,hh,hN.trans hN4⟩
    case measure=>simp [intOf];omega
  ·obtain rfl:k=n:=by omega
   have hkd:decide ((k:Int) < (k:Int))=false:=decide_eq_false (by omega)
   have hadd:=setM_add (p:=m) (fun i hi=>hbef.out i (by rw [Hn.out] at hi;exact hi))
   have HO:=Lib.hid ho
   obtain ⟨q0,q1,q2,q3⟩:=mem_cells rB
   have hwb:base ≤ wr.heap.size:=by have:=hN.size;omega
   have HI4:=Lib.hid (HI.out.new hN)
   have HP4:=Lib.hid (HP.out.new hN)
   have hdl:d.length ≤ 2000000:=by rw [Hn.out];omega
   clear hbef ho rB
   go_wp2_with (at_builtin;refine wpList_append_D (w:=wr) (m:=m) (ia:=ia) (il:=il) (ic:=ic) (pa:=pa) (pl:=pl) (pc:=pc) _ _ rfl rfl rfl rfl rfl HO.out HI4.out HP4.out hdl hwb ?_;intro v' W' ho' hm';obtain ⟨a',c',rfl⟩:=ho'.slice)
   go_wp2_with fail
   have el:(d ++ [m]).length=d.length + 1:=by simp
   rw [el] at ho'
   rw [← HPost.out,hadd]
   exact ⟨_,rfl,ho',hm' w _ (Mods.ofNew (hA.trans hN)) (fun g hg=>.inr hg)⟩


theorem readD_bad1 {d:List Bare.Mem} {c:UInt8} {l:Bare.Bs} (h:Bare.readMem (c::l)=none):Bare.readD d (c::l)=none:=by
 rw [Bare.readD.eq_def]
 simp only
 split
 ·rfl
 ·rename_i m r h1
  rw [h] at h1;cases h1
theorem readD_mem {d:List Bare.Mem} {c:UInt8} {l r:Bare.Bs} {m:Bare.Mem} (h:Bare.readMem (c::l)=some (m,r)):Bare.readD d (c::l)=if r.isEmpty then some (Bare.setM d m) else match Bare.skipB [32,9] r with
  | 44::r2=>if (Bare.skipB [32,9] r2).isEmpty then none else Bare.readD (Bare.setM d m) (Bare.skipB [32,9] r2)
  | _=>none:=by
 rw [Bare.readD.eq_def]
 simp only
 split
 ·rename_i h1
  rw [h] at h1;cases h1
 ·rename_i m1 r1 h1
  rw [h] at h1;cases h1
  by_cases he:r.isEmpty=true
  ·rw [if_pos he,if_pos he]
  ·rw [if_neg he,if_neg he]
   split
   ·rename_i r2 h2
    rw [h2]
    rfl
   ·rename_i h2
    split
    ·rename_i r2 h3
     exact absurd h3 (h2 r2)
    ·rfl
def PostR (R:Option (List Bare.Mem)) (n:Nat) (w:World) (e:Ending) (w':World):Prop:=∃ v z,e = .returned (.tuple #[v,.int .i64 z])∧New w w'∧match R with
 | some d=>z=0∧RdD true w' v d∧d.length ≤ n
 | none=>z=130∧v = .slice none 0 0
theorem parse_r13 (s:ByteArray) (w:World) (hs:s.size ≤ 1000000):Calls Tryz.prog 22 #[.string s] w (PostD (bl s) w):=by
 obtain ⟨R,hR⟩:∃ R,Bare.parseD (bl s)=R:=⟨_,rfl⟩
 obtain ⟨S,hS⟩:∃ T,Bare.skipB [32] (bl s)=T:=⟨_,rfl⟩
 obtain ⟨T,hT⟩:∃ T,Bare.trimR 32 S=T:=⟨_,rfl⟩
 have hSl:S.length ≤ s.size:=by rw [← hS,← bl_len];exact Bare.skip_len [32] (bl s)
 have hTl:T.length ≤ S.length:=by rw [← hT];exact trimR_len 32 S
 have HR0:Hid (Bare.readD [] T=R):=Lib.hid (by rw [← hR,← hT,← hS];rfl)
 obtain ⟨Post,hPost⟩:∃ Post:Ending→World→Prop,PostD (bl s) w=Post:=⟨_,rfl⟩
 have HPost:Hid (∀ e w',PostR R s.size w e w'→Post e w'):=Lib.hid fun e w' h=>by
  rw [← hPost]
  unfold PostD
  rw [hR,bl_len]
  exact h
 rw [hPost]
 have hbl0:=fun W=>blanks_r s false W hs
 rw [show blkL false = [32] from rfl,hS] at hbl0
 have HBl:=Lib.hid (fun q h W=>blanks_r q true W h)
 rw [show blkL true = [32,9] from rfl] at HBl
 have HBg:=Lib.hid (fun q d h hd W=>begins_r q d W h hd)
 have HMe:=Lib.hid (fun q h W=>readMember_r q W h)
 have HT:=Lib.hid hT
 obtain ⟨Sx,hSx⟩:∃ x,tx S=x:=⟨_,rfl⟩
 have hSxl:Sx.size=S.length:=by rw [← hSx,tx_size]
 have HSb:Hid (bl Sx=S):=Lib.hid (by rw [← hSx,bl_tx])
 rw [hSx] at hbl0
 have hbl0:=Lib.hid hbl0
 obtain ⟨Tx,hTx⟩:∃ x,tx T=x:=⟨_,rfl⟩
 have hTxl:Tx.size=T.length:=by rw [← hTx,tx_size]
 have HTb:Hid (bl Tx=T):=Lib.hid (by rw [← hTx,bl_tx])
 have HTx:=Lib.hid hTx
 clear hR hS hT hPost hSx hTx
 go_enter Tryz.func22,Tryz.ntmps22
 go_upto_block 0 with (go_at_call 76;refine (hbl0.out _).mono ?_;rintro e w' ⟨rfl,hw'⟩;rw [hw'];clear hw')
 clear hbl0
 go_cut [0] from 10 (fun s0 wx=>s0 = .string Tx∧New w wx)
 case first =>
  go_wp2_with fail
  go_loopw [0] (fun t wr=>∃ q:ByteArray,q.size ≤ s.size∧t = .string q∧Hid (Bare.trimR 32 (bl q)=T)∧New w wr) (fun t _=>match t with | .string q=>q.size | _=>0)
  case atStart=>exact ⟨Sx,by omega,rfl,Lib.hid (by rw [HSb.out];exact HT.out),Mods.refl _ _⟩
  case round =>
   clear HSb HT hSxl hSl
   obtain ⟨q,hq,rfl,HQ,hN⟩:=hrel
   by_cases h0:q.size=0
   ·have hg:decide ((0:Int) < (q.size:Int))=false:=decide_eq_false (by omega)
    have hqT:Hid (q=Tx):=Lib.hid <| by
     have hnil:bl q = []:=List.length_eq_zero_iff.1 (by rw [bl_len];exact h0)
     rw [← HTx.out,← HQ.out,hnil]
     show q=tx []
     rw [← hnil,tx_bl]
    clear HQ
    go_wp2_with fail
    go_meet
    exact ⟨by rw [hqT.out],hN⟩
   ·have hg:decide ((0:Int) < (q.size:Int))=true:=decide_eq_true (by omega)
    obtain ⟨n,hn⟩:∃ n,q.size=n + 1:=⟨q.size - 1,by omega⟩
    have hne:(bl q)=(bl q).take n ++ [gb q n]:=by
     have h1:(bl q).length=n + 1:=by rw [bl_len,hn]
     have h2:(bl q)[n]? = some (gb q n):=gb_get q n (by omega)
     conv=>lhs;rw [← List.take_append_drop n (bl q)]
     congr 1
     have h3:=List.getElem?_eq_some_iff.1 h2
     rw [List.drop_eq_getElem_cons h3.1,h3.2,List.drop_eq_nil_of_le (by omega)]
    have hix:∀ W,(Instr.index 9 (.string q) (.int .i64 (n:Int))).run Tryz.prog W = .ok (.int .u8 ((gb q n).toNat:Nat)) W:=run_idx q n (by omega)
    have hsb:((q.size:Int) - 1)=(n:Int):=by omega
    have hsl:∀ W,(Instr.slice 9 (.string q) none (some (.int .i64 (n:Int))) none).run Tryz.prog W = .ok (.string (tx ((bl q).take n))) W:=run_sl_h q n (by omega)
    have htr:=Bare.trimR_snoc 32 (gb q n) ((bl q).take n)
    rw [← hne] at htr
    obtain ⟨x,hx⟩:∃ x,tx ((bl q).take n)=x:=⟨_,rfl⟩
    have hxs:x.size ≤ n:=by rw [← hx,tx_size,List.length_take];omega
    have hxb:bl x=(bl q).take n:=by rw [← hx,bl_tx]
    rw [hx] at hsl
    rw [← hxb] at htr
    obtain ⟨y,hy⟩:∃ y,(gb q n).toNat=y:=⟨_,rfl⟩
    have hw:IntKind.i64.wrap ((q.size:Int) - 1)=(n:Int):=by rw [hsb];exact IntWalk.i64_in _ ⟨by omega,by omega⟩
    by_cases h32:gb q n=32
    ·have hyd:((y:Int) == 32)=true:=by rw [← hy,h32];rfl
     rw [if_pos h32] at htr
     have HX:Hid (Bare.trimR 32 (bl x)=T):=Lib.hid (by rw [← htr];exact HQ.out)
     rw [hy] at hix
     have hnq:n < q.size:=by omega
     clear htr hne hx hxb hy h32 h0 HQ hn
     go_wp2_with fail
     go_roundw
     case rel=>exact ⟨x,by omega,rfl,HX,hN⟩
     case measure=>simp;omega
    ·have hyd:((y:Int) == 32)=false:=by
      rw [← hy,beq_eq_false_iff_ne]
      intro h
      refine h32 (UInt8.toNat_inj.1 ?_)
      have:(gb q n).toNat=32:=by omega
      rw [this];rfl
     rw [if_neg h32] at htr
     have hqT:Hid (q=Tx):=Lib.hid (by rw [← HTx.out,← HQ.out,htr,tx_bl])
     rw [hy] at hix
     clear htr hne hx hxb hy h32 h0 HQ hn
     go_wp2_with fail
     go_meet
     exact ⟨by rw [hqT.out],hN⟩
 case rest =>
  obtain ⟨rfl,hN0⟩:=hcut
  have hwl:=hN0.size
  have HTb0:=HTb
  have hTm:Tx.size ≤ s.size:=by omega
  have HR1:Hid (Bare.readD [] (bl Tx)=R):=Lib.hid (by rw [HTb.out];exact HR0.out)
  clear HTx HTb HTb0 HR0 hSxl HSb HT hTxl hSl hTl
  go_upto_region 5 with fail
  go_loopw [0,4] (fun t v wr=>∃ (q:ByteArray) (d:List Bare.Mem),t = .string q∧q.size ≤ s.size∧OwD w.heap.size wr v d∧Hid ((d.map (·.key)).Nodup)∧d.length + q.size ≤ s.size∧Hid (Bare.readD d (bl q)=R)∧New w wr) (fun t _ _=>match t with | .string q=>q.size | _=>0)
  case atStart=>exact ⟨Tx,[],rfl,hTm,OwD.nil _ _,Lib.hid List.nodup_nil,by simpa using hTm,HR1,hN0⟩
  case round =>
   clear HR1 hN0 hwl hTm
   obtain ⟨q,d,rfl,hq,ho,HND,hlen,HR,hN⟩:=hrel
   obtain ⟨va,vc,rfl⟩:=ho.slice
   have hdl:d.length ≤ 1000000:=by omega
   have hws:=hN.size
   have HO:=Lib.hid ho
   by_cases h0:q.size=0
   ·have hg:decide ((0:Int) < (q.size:Int))=false:=decide_eq_false (by omega)
    have hnil:bl q = []:=List.length_eq_zero_iff.1 (by rw [bl_len];exact h0)
    have hRR:Hid (R=some d):=Lib.hid (by rw [← HR.out,hnil,Bare.readD.eq_def])
    obtain ⟨n,hn⟩:∃ n,d.length=n:=⟨_,rfl⟩
    have HNn:=Lib.hid hn
    rw [hn] at HO ⊢
    clear HBl HBg HMe hnil HR ho hn
    go_wp2_with fail
    refine HPost.out _ _ ⟨_,_,rfl,hN,?_⟩
    rw [hRR.out]
    exact ⟨rfl,HO.out.reads (by omega),by omega⟩
   ·have hg:decide ((0:Int) < (q.size:Int))=true:=decide_eq_true (by omega)
    obtain ⟨c0,l0,hcl⟩:∃ c l,bl q=c::l:=by
     cases h:bl q with
     | nil=>exact absurd (by rw [← bl_len,h];rfl) h0
     | cons c l=>exact ⟨c,l,rfl⟩
    have hM:=HMe.out q (by omega)
    obtain ⟨n,hn⟩:∃ n,d.length=n:=⟨_,rfl⟩
    have HNn:=Lib.hid hn
    cases hme:Bare.readMem (bl q) with
    | none =>
     have hRR:Hid (R=none):=Lib.hid (by
      rw [← HR.out,hcl]
      rw [hcl] at hme
      exact readD_bad1 hme)
     rw [hme] at hM
     have HM:=Lib.hid hM
     rw [hn]
     clear HBl HBg HMe hM hme hcl HR ho hn
     have h0p:0 < q.size:=by omega
     clear h0
     go_upto_region 7 with (go_at_call 77;refine (HM.out _).mono ?_;rintro e w4 ⟨⟨kx,yb,ia,pa,il,ic,pl,pc,t,ok,rfl,hk⟩,hN4⟩;obtain rfl:ok=false:=hk)
     have hA4:New w4 (w4.alloc (.cells #[.string kx,.bool yb,.slice ia il ic,.slice pa pl pc] 44)):=(Mods.refl _ _).alloc _
     go_wp2_with fail
     refine HPost.out _ _ ⟨_,_,rfl,(hN.trans hN4).trans hA4,?_⟩
     rw [hRR.out]
     exact ⟨rfl,rfl⟩
    | some mr =>
     obtain ⟨m,r⟩:=mr
     have hrl:r.length < q.size:=by rw [← bl_len];exact Bare.readMem_len hme
     have hRD:R=if r.isEmpty then some (Bare.setM d m) else match Bare.skipB [32,9] r with
  | 44::r2=>if (Bare.skipB [32,9] r2).isEmpty then none else Bare.readD (Bare.setM d m) (Bare.skipB [32,9] r2)
  | _=>none:=by
      rw [← HR.out,hcl]
      rw [hcl] at hme
      exact readD_mem hme
     have HRD:=Lib.hid hRD
     rw [hme] at hM
     have HM:=Lib.hid hM
     obtain ⟨y,hy⟩:∃ y,Bare.skipB [32,9] r=y:=⟨_,rfl⟩
     have hyl:y.length ≤ r.length:=by rw [← hy];exact Bare.skip_len _ _
     rw [hy] at HRD
     obtain ⟨rx,hrx⟩:∃ x,tx r=x:=⟨_,rfl⟩
     have hrs:rx.size=r.length:=by rw [← hrx,tx_size]
     have hrb:bl rx=r:=by rw [← hrx,bl_tx]
     have hb1:=HBl.out rx (by omega)
     rw [hrb,hy] at hb1
     obtain ⟨yx,hyx⟩:∃ x,tx y=x:=⟨_,rfl⟩
     have hys:yx.size=y.length:=by rw [← hyx,tx_size]
     have hyb:bl yx=y:=by rw [← hyx,bl_tx]
     have hyr:yx.size ≤ rx.size:=by omega
     have hrq:rx.size < q.size:=by omega
     have hrn0:r = [] ∨ 0 < rx.size:=by
      cases r with
      | nil=>exact .inl rfl
      | cons a b=>exact .inr (by rw [hrs];simp)
     have hrn1:r = []→rx.size=0:=fun h=>by rw [hrs,h];rfl
     have hyc0:y = []→yx.size=0:=fun h=>by rw [hys,h];rfl
     have hyc1:∀ c l,y=c::l→l.length + 1 ≤ yx.size:=fun c l h=>by rw [hys,h];simp
     have HRN0:=Lib.hid hrn0
     have HRN1:=Lib.hid hrn1
     have HYC0:=Lib.hid hyc0
     have HYC1:=Lib.hid hyc1
     clear hrn0 hrn1 hyc0 hyc1
     rw [hyx] at hb1
     have HB1:=Lib.hid hb1
     have HRX:=Lib.hid hrx
     have hsl1:=setM_len d m
     have hnd:=Lib.hid (setM_nodup (p:=m) HND.out)
     clear hRD hM hme hcl HR ho hb1 hrx hyx hrb HMe h0 hrs hys hrl hyl
     go_upto_region 9 with (go_at_call 77;refine (HM.out _).mono ?_;rintro e w4 ⟨⟨kx,yb,ia,pa,il,ic,pl,pc,t,ok,rfl,hk⟩,hN4⟩;obtain ⟨rfl,rfl,rfl,rfl,hI,hP⟩:=hk;rw [HRX.out])
     obtain ⟨w5,M,hW5,hM,rM,hN5,hMs⟩:∃ V M,w4.alloc (.cells #[.string (tx m.key),.bool m.inner,.slice ia il ic,.slice pa pl pc] 44)=V∧w4.heap.size=M∧V.heap[M]? = some (.cells #[.string (tx m.key),.bool m.inner,.slice ia il ic,.slice pa pl pc] 44 (0,0))∧New w4 V∧M + 1=V.heap.size:=⟨_,_,rfl,rfl,World.alloc_heap_new _ _,(Mods.refl _ _).alloc _,by simp⟩
     rw [hW5,hM]
     have k0:=cell_of_row _ _ 0 _ _ _ rM
     have k1:=cell_of_row _ _ 1 _ _ _ rM
     have k2:=cell_of_row _ _ 2 _ _ _ rM
     have k3:=cell_of_row _ _ 3 _ _ _ rM
     simp only [gS] at k0 k1 k2 k3
     have hN5w:=(hN.trans hN4).trans hN5
     have HPut:Hid (Calls Tryz.prog 78 #[.slice va d.length vc,.agg #[.string (tx m.key),.bool m.inner,.slice ia il ic,.slice pa pl pc]] w5 fun e w'=>∃ v',e = .returned v'∧OwD w.heap.size w' v' (Bare.setM d m)∧Mods (fun g=>Value.ownBlock (.slice va d.length vc)=some g) w5 w'):=Lib.hid (putMember_r _ d m w5 (HO.out.new (hN4.trans hN5)) HND.out hdl hN5w.size (hI.new hN5) (hP.new hN5))
     have HLt:=Lib.hid (fun g h=>(HO.out.lt (g:=g) h).1)
     rw [hn] at HPut HLt
     clear hW5 hM HO HM hN4 hN5 hI hP hn rM hMs
     go_upto_region 10 with (go_at_call 78;refine HPut.out.mono ?_;rintro e w6 ⟨v6,rfl,ho6,hm6⟩)
     have hN6:New w w6:=((Mods.ofNew hN5w).trans hm6).new (fun g hg=>HLt.out g hg)
     clear HPut HLt k0 k1 k2 k3 hm6
     go_upto_region 11 with (go_at_call 76;refine (HB1.out _).mono ?_;rintro e w7 ⟨rfl,rfl⟩)
     clear HB1
     cases hyc:y with
     | nil =>
      have hy0:yx.size=0:=HYC0.out hyc
      have e1:((yx.size:Int) == 0)=true:=by rw [hy0];rfl
      have g1:decide ((0:Int) < (yx.size:Int))=false:=decide_eq_false (by omega)
      by_cases hr0:rx.size=0
      ·have g2:decide ((0:Int) < (rx.size:Int))=false:=decide_eq_false (by omega)
       have hrn:r = []:=by
        rcases HRN0.out with h | h
        ·exact h
        ·omega
       have hRf:Hid (Bare.readD (Bare.setM d m) (bl yx)=R):=Lib.hid (by
        rw [HRD.out,if_pos (by rw [hrn];rfl),hyb,hyc,Bare.readD.eq_def])
       clear HRD hyc hy hrn
       go_wp2_with fail
       go_roundw
       case rel=>exact ⟨yx,Bare.setM d m,rfl,by omega,ho6,hnd,by omega,hRf,hN6⟩
       case measure=>simp;omega
      ·have g2:decide ((0:Int) < (rx.size:Int))=true:=decide_eq_true (by omega)
       have hrn:¬ r.isEmpty=true:=fun h=>hr0 (HRN1.out (List.isEmpty_iff.1 h))
       have hRf:Hid (R=none):=Lib.hid (by rw [HRD.out,if_neg hrn,hyc])
       clear HRD hyc hy hrn
       go_wp2_with fail
       refine HPost.out _ _ ⟨_,_,rfl,hN6,?_⟩
       rw [hRf.out]
       exact ⟨rfl,rfl⟩
     | cons c l =>
      have hyl1:=HYC1.out c l hyc
      have e1:((yx.size:Int) == 0)=false:=by rw [beq_eq_false_iff_ne];omega
      have g1:decide ((0:Int) < (yx.size:Int))=true:=decide_eq_true (by omega)
      have g2:decide ((0:Int) < (rx.size:Int))=true:=decide_eq_true (by omega)
      have hrn:¬ r.isEmpty=true:=fun h=>by
       have:=HRN1.out (List.isEmpty_iff.1 h)
       omega
      have hb:=HBg.out yx 44 (by omega) (by decide)
      rw [hyb,hyc,show begN (c::l) 44=decide (c.toNat=44) from rfl] at hb
      by_cases h44:c.toNat=44
      ·rw [decide_eq_true h44] at hb
       have HB:=Lib.hid hb
       obtain rfl:c=44:=UInt8.toNat_inj.1 h44
       have hsl:∀ W,(Instr.slice 9 (.string yx) (some (.int .i64 1)) none none).run Tryz.prog W = .ok (.string (tx ((bl yx).drop 1))) W:=run_sl_l yx 1 (by omega)
       rw [hyb,hyc,show (44::l:Bare.Bs).drop 1=l from rfl] at hsl
       obtain ⟨lx,hlx⟩:∃ x,tx l=x:=⟨_,rfl⟩
       have hls:lx.size=l.length:=by rw [← hlx,tx_size]
       have hlb:bl lx=l:=by rw [← hlx,bl_tx]
       rw [hlx] at hsl
       have hb2:=HBl.out lx (by omega)
       rw [hlb] at hb2
       obtain ⟨z,hz⟩:∃ z,Bare.skipB [32,9] l=z:=⟨_,rfl⟩
       have hzl:z.length ≤ l.length:=by rw [← hz];exact Bare.skip_len _ _
       rw [hz] at hb2
       obtain ⟨zx,hzx⟩:∃ x,tx z=x:=⟨_,rfl⟩
       have hzs:zx.size=z.length:=by rw [← hzx,tx_size]
       have hzb:bl zx=z:=by rw [← hzx,bl_tx]
       have hzx1:zx.size < q.size:=by omega
       rw [hzx] at hb2
       have HB2:=Lib.hid hb2
       have hRf:Hid (R=if z.isEmpty then none else Bare.readD (Bare.setM d m) z):=Lib.hid (by rw [HRD.out,if_neg hrn,hyc,← hz];rfl)
       clear HRD hyc hy hrn hb hb2 hlx hzx hz HBg HBl hlb h44
       by_cases hz0:zx.size=0
       ·have e2:((zx.size:Int) == 0)=true:=by rw [hz0];rfl
        have hRn:Hid (R=none):=Lib.hid (by rw [hRf.out,if_pos (List.isEmpty_iff.2 (List.length_eq_zero_iff.1 (by omega)))])
        clear hRf hzb hyb hzs hls
        go_upto_region 13 with (go_at_call 79;refine (HB.out _).mono ?_;rintro e w8 ⟨rfl,rfl⟩)
        go_wp2_with (go_at_call 76;refine (HB2.out _).mono ?_;rintro e w8 ⟨rfl,rfl⟩)
        refine HPost.out _ _ ⟨_,_,rfl,hN6,?_⟩
        rw [hRn.out]
        exact ⟨rfl,rfl⟩
       ·have e2:((zx.size:Int) == 0)=false:=by rw [beq_eq_false_iff_ne];omega
        have hRn:Hid (Bare.readD (Bare.setM d m) (bl zx)=R):=Lib.hid (by
         rw [hRf.out,if_neg (fun h=>hz0 (by rw [hzs,List.isEmpty_iff.1 h];rfl)),hzb])
        clear hRf hzb hyb hzs hls
        go_upto_region 13 with (go_at_call 79;refine (HB.out _).mono ?_;rintro e w8 ⟨rfl,rfl⟩)
        go_wp2_with (go_at_call 76;refine (HB2.out _).mono ?_;rintro e w8 ⟨rfl,rfl⟩)
        go_roundw
        case rel=>exact ⟨zx,Bare.setM d m,rfl,by omega,ho6,hnd,by omega,hRn,hN6⟩
        case measure=>simp;omega
      ·rw [decide_eq_false h44] at hb
       have HB:=Lib.hid hb
       have hRf:Hid (R=none):=Lib.hid (by
        rw [HRD.out,if_neg hrn,hyc]
        split
        ·rename_i r2 h2
         cases h2
         exact absurd rfl h44
        ·rfl)
       clear HRD hyc hy hrn hb h44 HBl HBg hyb
       go_wp2_with (go_at_call 79;refine (HB.out _).mono ?_;rintro e w8 ⟨rfl,rfl⟩)
       refine HPost.out _ _ ⟨_,_,rfl,hN6,?_⟩
       rw [hRf.out]
       exact ⟨rfl,rfl⟩


theorem run_spread_P {o:Oper} {a:Act} {w W:World} {s x:Operand} {ao:Option Addr} {n cap:Nat} {f:Nat→List Value} (hop:o.op = .call { callee:=.builtin .append,args:=#[s,x],argTypes:=#[42,42] })
  (hs:a.eval s = .slice (some ⟨w.heap.size,0,none⟩) 0 0) (hx:a.eval x = .slice ao n cap) (hW:w.alloc (.cells #[] 83)=W) (hf:∀ i,(f i).length=5) (h1:∀ i,i < n→∀ u ∈ f i,u.oneCell'=true) (hv:RowR w (.slice ao n cap) n 5 f) (hn:n ≤ 2513169434880) :
  ∃ v' W',(execOp a.eval o).run Tryz.prog W = .ok (.value v') W'∧OwP w.heap.size W' v' n f∧New w W':=by
 obtain ⟨i0,hi,hz0,hz1,hz2⟩:=info_parts infoP
 obtain ⟨g1,g2⟩:=hv.cells (by decide) hf
 have hfl:=flatF_len hf n
 have hone:=flatF_one h1
 have hown:W.ownsRow w.heap.size 83 5 (.slice (some ⟨w.heap.size,0,none⟩) 0 0) 0 []:=by
  rw [← hW];exact World.ownsRow_made w #[] 0 (Nat.le_refl _) (Nat.zero_le _) rfl
 have hbase:w.heap.size ≤ W.heap.size:=by rw [← hW];simp
 cases ao with
 | none =>
  obtain rfl:n=0:=g1 rfl
  have hr:(Builtin.append_ #[42,42] o.type #[.slice (some ⟨w.heap.size,0,none⟩) 0 0,.slice none 0 cap]).run Tryz.prog W = .ok (.slice (some ⟨w.heap.size,0,none⟩) 0 0) W:=by
   simp [Builtin.append_,run_underlying Tryz.underlying42,sizeOf,typeInfo,hi,Builtin.lenOf,Builtin.firstCells,storeCells]
  refine ⟨_,W,?_,⟨hf,h1,hown⟩,by rw [← hW];exact (Mods.refl _ _).alloc _⟩
  simp [execOp,hop,resolve,invoke,builtin,hs,hx,hr,Result.andThen]
 | some b =>
  obtain ⟨v',w',hr,ho,hg,-⟩:=run_append_own (P:=Tryz.prog) W w.heap.size 42 o.type 83 i0 _ 5 56 Tryz.underlying42 hi hz0 hz1 hz2 rfl (by decide) _ 0 [] hown b n cap (flatF n f) hfl (fun j u hj=>by rw [← hW];exact Lib.cell?_alloc_some _ (g2 b rfl j u hj)) hone (by unfold maxLen;omega) (by omega) hbase
  refine ⟨v',w',?_,⟨hf,h1,?_⟩,?_⟩
  ·simp [execOp,hop,resolve,invoke,builtin,hs,hx,hr,Result.andThen]
  ·simpa using ho
  ·have hA:New w W:=by rw [← hW];exact (Mods.refl _ _).alloc _
   exact hA.grown hg (by intro k hk;simp [Value.ownBlock] at hk;exact .inl (by omega))
theorem wpOp_spread_P {ops:Array Oper} {Q:Exit→Act→World→Prop} {i:Nat} {o:Oper} (d:Option Tmp) {a:Act} {w W:World} {K:Act→World→Prop} (hi:ops[i]? = some o) (hw:Region.wanted o (yielded ops a.tmps)=true) (hd:o.dst=d) (s x:Operand) {ao:Option Addr} {n cap:Nat} {f:Nat→List Value} (hop:o.op = .call { callee:=.builtin .append,args:=#[s,x],argTypes:=#[42,42] })
  (hs:a.eval s = .slice (some ⟨w.heap.size,0,none⟩) 0 0) (hx:a.eval x = .slice ao n cap) (hW:w.alloc (.cells #[] 83)=W) (hf:∀ i,(f i).length=5) (h1:∀ i,i < n→∀ u ∈ f i,u.oneCell'=true) (hv:RowR w (.slice ao n cap) n 5 f) (hn:n ≤ 2513169434880)
  (h:∀ v' W',OwP w.heap.size W' v' n f→New w W'→K (a.put d v') W'):wpOp Tryz.prog ops Q i K a W:=by
 obtain ⟨v',w',hr,ho,hg⟩:=run_spread_P hop hs hx hW hf h1 hv hn
 exact opH_value d hi hw hd hr (h v' w' ho hg)
theorem wpOp_append_It {ops:Array Oper} {Q:Exit→Act→World→Prop} {i:Nat} {o:Oper} (d:Option Tmp) {a:Act} {w W:World} {K:Act→World→Prop} (hi:ops[i]? = some o) (hw:Region.wanted o (yielded ops a.tmps)=true) (hd:o.dst=d) (s x:Operand) {base:Nat} {v:Value} {L:List Bare.Itm} {y:Bare.Itm} {ya:Option Addr} {yl yc:Nat} (hop:o.op = .call { callee:=.builtin .append,args:=#[s,x],argTypes:=#[41,41] })
  (hs:a.eval s=v) (hx:a.eval x = .slice (some ⟨w.heap.size,0,none⟩) 1 1) (hW:w.alloc (.cells (ics y (.slice ya yl yc)).toArray 85)=W) (hown:OwIt base w v L) (hy:RdP true w (.slice ya yl yc) y.params) (hn:L.length ≤ 2000000) (hbase:base ≤ w.heap.size)
  (h:∀ v' W',OwIt base W' v' (L ++ [y])→(∀ (w0:World) (S:Nat→Prop),Mods S w0 w→(∀ g,v.ownBlock=some g→w0.heap.size ≤ g ∨ S g)→Mods S w0 W')→K (a.put d v') W'):wpOp Tryz.prog ops Q i K a W:=by
 obtain ⟨v',w',hr,ho,hg⟩:=run_append_It hop hs hx hW hown hy hn hbase
 exact opH_value d hi hw hd hr (h v' w' ho hg)
theorem lit55 (t:Array Value) (h:t.size=55):∃ u:Nat→Value,t=(u 0::u 1::u 2::u 3::u 4::u 5::u 6::u 7::u 8::u 9::u 10::u 11::u 12::u 13::u 14::u 15::u 16::u 17::u 18::u 19::u 20::u 21::u 22::u 23::u 24::u 25::u 26::u 27::u 28::u 29::u 30::u 31::u 32::u 33::u 34::u 35::u 36::u 37::u 38::u 39::u 40::u 41::u 42::u 43::u 44::u 45::u 46::u 47::u 48::u 49::u 50::u 51::u 52::u 53::u 54::([]:List Value)).toArray:=⟨fun i=>t.getD i undef,range_lit t 55 h⟩
noncomputable def reg_causeyref13_Own_10:Code:=((Tryz.f85.body.bind (regionOf 10)).getD .skip)
theorem own10r (t:Array Value) (hs:t.size=55) (w:World) {base B g o n m ic pc k oc:Nat} {oa pa:Option Addr} {L:List Bare.Itm} {y:Bare.Itm}
  (hq5:t.getD 5 undef = .pointer (some ⟨B,0,none⟩))
  (hq6:t.getD 6 undef = .slice oa k oc)
  (hq7:t.getD 7 undef = .int .i64 k)
  (c2:w.cell? ⟨B,2,none⟩=some (.slice (some ⟨g,o,none⟩) n ic)) (d0:w.cell? ⟨g,o + k * 5,none⟩=some (.int .u8 y.bare.kind)) (d1:w.cell? ⟨g,o + k * 5 + 1,none⟩=some (.int .i64 y.bare.int)) (d2:w.cell? ⟨g,o + k * 5 + 2,none⟩=some (.string (tx y.bare.text))) (d3:w.cell? ⟨g,o + k * 5 + 3,none⟩=some (.bool y.bare.yes)) (d4:w.cell? ⟨g,o + k * 5 + 4,none⟩=some (.slice pa m pc)) (hi:k < n) (hv:RowR w (.slice pa m pc) m 5 (pf y.params)) (hm:y.params.length=m) (hmb:m ≤ 2513169434880) (hO:OwIt base w (.slice oa k oc) L) (hL:L.length=k) (hkl:k ≤ 2000000) (hbase:base ≤ w.heap.size) (hnB:¬ (Value.slice oa k oc).ownBlock=some B) (hng:¬ (Value.slice oa k oc).ownBlock=some g) :
  reg_causeyref13_Own_10.wp Tryz.prog (Only fun a' W'=>∃ z:Nat→Value,∃ v',a'=⟨((pz t z [25,26,27,28,29,30,31,32,33,34,35,36,37,38,39,40,41,42]).setIfInBounds 6 (v')),[]⟩∧OwIt base W' v' (L ++ [y])∧Mods (fun b=>(Value.slice oa k oc).ownBlock=some b) w W') ⟨t,[]⟩ w:=by
 conv=>arg 2;whnf
 obtain ⟨u,rfl⟩:=lit55 t hs
 have hq5:u 5 = _:=hq5
 have hq6:u 6 = _:=hq6
 have hq7:u 7 = _:=hq7
 rw [hq5,hq6,hq7]
 clear hq5 hq6 hq7 hs
 have hid:decide ((k:Int) < (n:Int))=true:=decide_eq_true (by omega)
 refine wp_region_held (S:=fun W=>Mods (fun b=>(Value.slice oa k oc).ownBlock=some b) w W) (by kernel_rfl) ?_
 show wpAnyH _ _ _ _ _ 19 _ _ w.drew
 have hN:New w w.drew:=(Mods.refl _ _).drew
 have hS:Mods (fun b=>(Value.slice oa k oc).ownBlock=some b) w w.drew:=(Mods.refl _ _).drew
 refine tkI 0 (some 25) (.slice oa k oc) hS ?_
 simp only [pS]
 refine tkI 1 (some 26) (.pointer (some ⟨B,2,none⟩)) hS ?_
 simp only [pS]
 refine tkA 2 rfl (some 27) (.slice (some ⟨g,o,none⟩) n ic) (.inl ⟨by rfl,fun W hW=>by have q:=hW.cell c2 hnB;go_simp⟩) hS ?_
 simp only [pS]
 refine tkI 3 (some 28) (.int .i64 k) hS ?_
 simp only [pS]
 refine tkI 4 (some 29) (.pointer (some ⟨g,o + k * 5,none⟩)) hS ?_
 simp only [pS]
 refine tkI 5 (some 30) (.pointer (some ⟨g,o + k * 5,none⟩)) hS ?_
 simp only [pS]
 refine tkA 6 rfl (some 31) (.agg #[.int .u8 y.bare.kind,.int .i64 y.bare.int,.string (tx y.bare.text),.bool y.bare.yes]) (.inl ⟨by rfl,fun W hW=>by have q0:=hW.cell d0 hng;have q1:=hW.cell d1 hng;have q2:=hW.cell d2 hng;have q3:=hW.cell d3 hng;go_simp⟩) hS ?_
 simp only [pS]
 refine tkI 8 (some 33) (.pointer (some ⟨B,2,none⟩)) hS ?_
 simp only [pS]
 refine tkA 9 rfl (some 34) (.slice (some ⟨g,o,none⟩) n ic) (.inl ⟨by rfl,fun W hW=>by have q:=hW.cell c2 hnB;go_simp⟩) hS ?_
 simp only [pS]
 refine tkI 10 (some 35) (.int .i64 k) hS ?_
 simp only [pS]
 refine tkI 11 (some 36) (.pointer (some ⟨g,o + k * 5,none⟩)) hS ?_
 simp only [pS]
 refine tkI 12 (some 37) (.pointer (some ⟨g,o + k * 5 + 4,none⟩)) hS ?_
 simp only [pS]
 refine tkA 13 rfl (some 38) (.slice pa m pc) (.inl ⟨by rfl,fun W hW=>by have q:=hW.cell d4 hng;go_simp⟩) hS ?_
 simp only [pS]
 refine tkO 7 ?_
 have hA7:New w.drew (w.drew.alloc (.cells #[] 83)):=(Mods.refl _ _).alloc _
 refine opH_value (some 32) (w':=w.drew.alloc (.cells #[] 83)) (v:=.slice (some ⟨w.drew.heap.size,0,none⟩) 0 0) rfl (by rfl) rfl (by go_simp) ?_
 refine ⟨hS.trans (Mods.ofNew hA7),?_⟩
 simp only [pS]
 refine tkO 14 ?_
 refine wpOp_spread_P (w:=w.drew) (f:=pf y.params) (ao:=pa) (n:=m) (cap:=pc) (some 39) rfl (by rfl) rfl (.tmp 32) (.tmp 38) rfl rfl rfl rfl (pf_len _) (fun i _=>pcs_one _) (hv.new hN) hmb ?_
 intro v14 w14 ho14 hk14
 obtain ⟨qa,qc,rfl⟩:=ho14.slice
 refine ⟨hS.trans (Mods.ofNew hk14),?_⟩
 have hN:=hN.trans hk14
 have hS:Mods (fun b=>(Value.slice oa k oc).ownBlock=some b) w w14:=Mods.ofNew hN
 simp only [pS]
 refine tkI 15 (some 40) (.agg #[.int .u8 y.bare.kind,.int .i64 y.bare.int,.string (tx y.bare.text),.bool y.bare.yes,.slice qa m qc]) hS ?_
 simp only [pS]
 refine tkO 16 ?_
 obtain ⟨w16,hw16⟩:∃ V,w14.alloc (.cells #[.int .u8 y.bare.kind,.int .i64 y.bare.int,.string (tx y.bare.text),.bool y.bare.yes,.slice qa m qc] 85)=V:=⟨_,rfl⟩
 refine opH_value (some 41) (w':=w14.alloc (.cells #[.int .u8 y.bare.kind,.int .i64 y.bare.int,.string (tx y.bare.text),.bool y.bare.yes,.slice qa m qc] 85)) (v:=.slice (some ⟨w14.heap.size,0,none⟩) 1 1) rfl (by rfl) rfl (by go_simp) ?_
 refine ⟨hS.trans (Mods.ofNew ((Mods.refl _ _).alloc _)),?_⟩
 simp only [pS]
 refine tkO 17 ?_
 have hy14:RdP true w14 (.slice qa m qc) y.params:=by rw [← hm] at ho14 ⊢;exact ho14.rdP (by omega)
 refine wpOp_append_It (w:=w14) (y:=y) (ya:=qa) (yl:=m) (yc:=qc) (L:=L) (base:=base) (some 42) rfl (by rfl) rfl (.tmp 25) (.tmp 41) rfl rfl rfl rfl (by rw [← hL] at hO ⊢;exact hO.new hN) hy14 (by omega) (Nat.le_trans hbase hN.size) ?_
 intro v17 w17 ho17 hm17
 have hS:Mods (fun b=>(Value.slice oa k oc).ownBlock=some b) w w17:=hm17 w _ (Mods.ofNew hN) (fun g hg=>.inr hg)
 refine ⟨hS,?_⟩
 simp only [pS]
 refine tkI 18 (some 6) (v17) hS ?_
 simp only [pS]
 refine wpAnyH_done (by kernel_rfl) ?_ _
 exact zc1 v17 rfl ⟨ho17,hS⟩


theorem wpList_spread_P {ops:Array Oper} {Q:Exit→Act→World→Prop} {rest:List Oper} {o:Oper} {a:Act} {w W:World} (s x:Operand) {ao:Option Addr} {n cap:Nat} {f:Nat→List Value} (hgd:o.guard=none) (hop:o.op = .call { callee:=.builtin .append,args:=#[s,x],argTypes:=#[42,42] })
  (hs:a.eval s = .slice (some ⟨w.heap.size,0,none⟩) 0 0) (hx:a.eval x = .slice ao n cap) (hW:w.alloc (.cells #[] 83)=W) (hf:∀ i,(f i).length=5) (h1:∀ i,i < n→∀ u ∈ f i,u.oneCell'=true) (hv:RowR w (.slice ao n cap) n 5 f) (hn:n ≤ 2513169434880)
  (h:∀ v' W',OwP w.heap.size W' v' n f→New w W'→wpList Tryz.prog ops Q rest (a.put o.dst v') W'):wpList Tryz.prog ops Q (o::rest) a W:=by
 refine wpList_plain hgd fun K hK=>?_
 obtain ⟨v',w',hr,ho,hg⟩:=run_spread_P hop hs hx hW hf h1 hv hn
 unfold Oper.wp
 rw [hr]
 exact hK _ _ (h v' w' ho hg)
theorem cell_lt {W:World} {b o:Nat} {v:Value} (h:W.cell? ⟨b,o,none⟩=some v):b < W.heap.size:=by
 rcases Nat.lt_or_ge b W.heap.size with h' | h'
 ·exact h'
 ·have:W.heap[b]? = none:=Array.getElem?_eq_none h'
  simp [World.cell?,this] at h
theorem take_snoc {α:Type} (l:List α) (k:Nat) (x:α) (h:k < l.length):l.take (k + 1)=l.take k ++ [l.getD k x]:=by
 rw [List.take_add_one,List.getElem?_eq_getElem h]
 simp [List.getD,h]
def FitO (m:Bare.Mem):Prop:=m.items.length ≤ 1000000∧m.params.length ≤ 2513169434880∧∀ j,j < m.items.length→(m.items.getD j Bare.noI).params.length ≤ 2513169434880
theorem own_r13 {τ:Bool} (v:Value) (d:List Bare.Mem) (w:World) (h:RdD τ w v d) (hd:d.length ≤ 1000000) (hf:∀ i,i < d.length→FitO (d.getD i noM)) :
  Calls Tryz.prog 85 #[v] w fun e w'=>∃ v',e = .returned v'∧OwD w.heap.size w' v' d∧New w w':=by
 obtain ⟨iv,pv,hrow,-,hip⟩:=h
 obtain ⟨ao,cap,rfl⟩:=hrow.slice
 have HRow:=Lib.hid hrow
 have HIP:=Lib.hid hip
 have HF:=Lib.hid hf
 obtain ⟨n,hn⟩:∃ n,d.length=n:=⟨_,rfl⟩
 have Hn:=Lib.hid hn
 rw [hn] at HRow HIP HF hd ⊢
 clear hrow hip hf hn
 have hN0:New w w:=Mods.refl _ _
 obtain ⟨Post,hPost⟩:∃ Post:Ending→World→Prop,(fun e w'=>∃ v',e = .returned v'∧OwD w.heap.size w' v' d∧New w w')=Post:=⟨_,rfl⟩
 have HPost:=Lib.hid hPost
 rw [hPost]
 clear hPost
 go_enter Tryz.func85,Tryz.ntmps85
 go_upto_region 3 with fail
 go_loopw [3,4] (fun v t wr=>∃ (k:Nat) (oa:Option Addr) (oc:Nat),k ≤ n∧t = .int .i64 k∧v = .slice oa k oc∧Hid (OwD w.heap.size wr (.slice oa k oc) (d.take k))∧New w wr) (fun _ t _=>n - (intOf t).toNat)
 case atStart=>exact ⟨0,none,0,Nat.zero_le _,rfl,rfl,Lib.hid (OwD.nil _ _),hN0⟩
 case round =>
  clear hN0
  obtain ⟨k,oa,oc,hk,rfl,rfl,HO,hN⟩:=hrel
  by_cases hlt:k < n
  ·have hkd:decide ((k:Int) < (n:Int))=true:=decide_eq_true (by omega)
   obtain ⟨m,hm⟩:∃ m,d.getD k noM=m:=⟨_,rfl⟩
   obtain ⟨gd,od,rfl,hrw⟩:=HRow.out.at.2.2 k hlt
   obtain ⟨q0,q1,q2,q3⟩:=cells4 hrw
   have hIP:=HIP.out k hlt
   have hFt:=HF.out k hlt
   have hsn:=take_snoc d k noM (by rw [Hn.out];exact hlt)
   rw [hm] at q0 q1 hIP hFt hsn
   obtain ⟨hI,hP⟩:=hIP
   obtain ⟨ivk,hik⟩:∃ x,iv k=x:=⟨_,rfl⟩
   obtain ⟨pvk,hpk⟩:∃ x,pv k=x:=⟨_,rfl⟩
   rw [hik] at q2 hI
   rw [hpk] at q3 hP
   obtain ⟨ip,hir,-,hipp⟩:=hI
   obtain ⟨ja,jc,rfl⟩:=hir.slice
   obtain ⟨pa,pc,rfl⟩:=hP.1.slice
   obtain ⟨l,hl⟩:∃ l,m.items.length=l:=⟨_,rfl⟩
   obtain ⟨np,hnp⟩:∃ l,m.params.length=l:=⟨_,rfl⟩
   have HSn:=Lib.hid hsn
   have HIr:=Lib.hid hir
   have HIpp:=Lib.hid hipp
   have HP:=Lib.hid hP.1
   have HFt:=Lib.hid hFt
   have HLl:=Lib.hid hl
   have HNp:=Lib.hid hnp
   rw [hl] at HIr HIpp q2
   rw [hnp] at HP q3
   obtain ⟨kx,hkx⟩:∃ x,tx m.key=x:=⟨_,rfl⟩
   obtain ⟨yb,hyb⟩:∃ x,m.inner=x:=⟨_,rfl⟩
   have HKx:=Lib.hid hkx
   have HYb:=Lib.hid hyb
   have q0:w.cell? ⟨gd,od + k * 4,none⟩=some (.string (tx m.key)):=q0
   have q1:w.cell? ⟨gd,od + k * 4 + 1,none⟩=some (.bool m.inner):=q1
   rw [hkx] at q0
   rw [hyb] at q1
   have q0:=hN.cell q0 id
   have q1:=hN.cell q1 id
   have q2:=hN.cell q2 id
   have q3:=hN.cell q3 id
   clear hrw hsn hir hipp hP hFt hl hnp hkx hyb hm hik hpk
   go_upto_region 6 with fail
   obtain ⟨w1,M,hW1,hM,rM,hN1,hMs⟩:∃ V M,wr.alloc (.cells #[.string kx,.bool yb,.slice ja l jc,.slice pa np pc] 44)=V∧wr.heap.size=M∧V.heap[M]? = some (.cells #[.string kx,.bool yb,.slice ja l jc,.slice pa np pc] 44 (0,0))∧New wr V∧M + 1=V.heap.size:=⟨_,_,rfl,rfl,World.alloc_heap_new _ _,(Mods.refl _ _).alloc _,by simp⟩
   rw [hW1,hM]
   have HO1:=Lib.hid (HO.out.new hN1)
   have hNw:=hN.trans hN1
   have hwM:w.heap.size ≤ M:=by have:=hN.size;omega
   have hOl:Hid (∀ g,Value.ownBlock (.slice oa k oc)=some g→g < M):=Lib.hid fun g hg=>by have:=(HO.out.lt hg).2;omega
   have hMs':M + 1 ≤ w1.heap.size:=by omega
   have hMs2:w1.heap.size ≤ M + 1:=by omega
   clear hW1 hM q0 q1 q2 q3 HO hN1 hMs hN
   go_upto_region 8 with fail
   have HRM0:=Lib.hid rM
   clear rM
   go_loopw [6,7] (fun v t wr=>∃ (j:Nat) (oa:Option Addr) (oc:Nat),j ≤ l∧t = .int .i64 j∧v = .slice oa j oc∧Hid (OwIt (M + 1) wr (.slice oa j oc) (m.items.take j))∧New w1 wr) (fun _ t _=>l - (intOf t).toNat)
   case atStart=>exact ⟨0,none,0,Nat.zero_le _,rfl,rfl,Lib.hid (OwIt.nil _ _),Mods.refl _ _⟩
   case round =>
    obtain ⟨j,ia,ic,hj,rfl,rfl,HIt,hNj⟩:=hrel
    have rM:=hNj.heap HRM0.out id
    have c2:=cell_of_row _ _ 2 _ _ _ rM
    simp only [gS] at c2
    by_cases hjl:j < l
    ·have hjd:decide ((j:Int) < (l:Int))=true:=decide_eq_true (by omega)
     obtain ⟨y,hy⟩:∃ y,m.items.getD j Bare.noI=y:=⟨_,rfl⟩
     obtain ⟨g,og,rfl,hrw⟩:=HIr.out.at.2.2 j hjl
     have hpp:=HIpp.out j hjl
     have hfj:=HFt.out.2.2 j (by rw [HLl.out];exact hjl)
     have hsj:=take_snoc m.items j Bare.noI (by rw [HLl.out];exact hjl)
     rw [hy] at hrw hpp hfj hsj
     obtain ⟨qa,qc,hq⟩:=hpp.1.slice
     rw [hq] at hrw hpp
     obtain ⟨d0,d1,d2,d3,d4⟩:=cells5 hrw
     have hgw:=cell_lt d0
     have hNx:=hNw.trans hNj
     have d0:=hNx.cell d0 id
     have d1:=hNx.cell d1 id
     have d2:=hNx.cell d2 id
     have d3:=hNx.cell d3 id
     have d4:=hNx.cell d4 id
     have hv:=hpp.1.new hNx
     have hOB:∀ b,Value.ownBlock (.slice ia j ic)=some b→M + 1 ≤ b:=fun b hb=>(HIt.out.lt hb).1
     have hnB:¬ Value.ownBlock (.slice ia j ic)=some M:=fun e=>by have:=hOB _ e;omega
     have hng:¬ Value.ownBlock (.slice ia j ic)=some g:=fun e=>by have:=hOB _ e;omega
     have hjj:(m.items.take j).length=j:=by rw [List.length_take,HLl.out];omega
     have hbs:M + 1 ≤ wr.heap.size:=by have:=hNj.size;omega
     have hil:=HFt.out.1
     rw [HLl.out] at hil
     obtain ⟨mq,hmq⟩:∃ q,y.params.length=q:=⟨_,rfl⟩
     have HPc:=fun t hs h1 h2 h3=>own10r t hs wr (y:=y) (L:=m.items.take j) (base:=M + 1) (m:=mq) h1 h2 h3 c2 d0 d1 d2 d3 (by rw [← hmq];exact d4) hjl (by rw [← hmq];exact hv) hmq (by rw [← hmq];exact hfj) HIt.out hjj (by omega) hbs hnB hng
     have HPc:=Lib.hid HPc
     have HSj:=Lib.hid hsj
     have hOB:=Lib.hid hOB
     clear hrw hpp hfj hsj hv d0 d1 d2 d3 d4 hq hmq hy hjj hnB hng
     go_upto_region 10 with fail
     clear c2 rM
     refine piece (fun _=>_) (HPc.out _ rfl rfl rfl rfl) ?_
     rintro a' w4 ⟨z,v4,rfl,ho4,hm4⟩
     simp only [pS]
     rw [← HSj.out] at ho4
     obtain ⟨xa,xc,rfl⟩:=ho4.slice
     have hj1:(m.items.take (j + 1)).length=j + 1:=by rw [List.length_take,HLl.out];omega
     rw [hj1] at ho4 ⊢
     have hN4:New w1 w4:=((Mods.ofNew hNj).trans hm4).new (fun b hb=>by
      have h1:M + 1 ≤ b:=hOB.out b hb
      omega)
     clear hj1 HPc HIt
     go_wp2_with fail
     go_roundw
     case rel=>exact ⟨j + 1,xa,xc,by omega,by go_num,rfl,Lib.hid ho4,hN4⟩
     case measure=>simp [intOf];omega
    ·obtain rfl:j=l:=by omega
     have hjd:decide ((j:Int) < (j:Int))=false:=decide_eq_false (by omega)
     have htk:m.items.take j=m.items:=List.take_of_length_le (by rw [HLl.out];exact Nat.le_refl _)
     have HX:=HIt.out
     rw [htk] at HX
     have hil:=HFt.out.1
     rw [HLl.out] at hil
     have HRi:=HX.reads (by rw [HLl.out];omega)
     have HRi:=Lib.hid HRi
     have HPp:=Lib.hid (HP.out.new (hNw.trans hNj))
     have f2:=frozen_row (i:=2) rM
     have hwx:=hNj.size
     have HO2:=Lib.hid (HO1.out.new hNj)
     have hNx:=hNw.trans hNj
     clear HX htk HIt HIr HIpp HO1
     go_upto_region 12 with fail
     have hm5:=setMods wr M 2 (.slice ia j ic)
     have rM5:=setCell_heap (i:=2) rM (.slice ia j ic)
     simp only [pS] at rM5
     obtain ⟨w5,hw5⟩:∃ V,wr.setCell ⟨M,2,none⟩ (.slice ia j ic)=V:=⟨_,rfl⟩
     rw [hw5] at hm5 rM5 ⊢
     clear hw5 c2 f2
     have hN5:New w w5:=((Mods.ofNew hNx).trans hm5).new (fun b hb=>by omega)
     have HRi5:=Lib.hid (HRi.out.far hm5 (far_row rM))
     have hPp5:RowR w5 (.slice pa np pc) np 5 (fun i=>pcs (m.params.getD i noP)):=HP.out.new hN5
     have HPp5:=Lib.hid hPp5
     have HO5:Hid (OwD w.heap.size w5 (.slice oa k oc) (d.take k)):=Lib.hid (HO2.out.mods hm5 (fun g hg e=>by have:=hOl.out g hg;omega) (far_row rM))
     have hs5:=hm5.size
     have HNpl:m.params.length ≤ 2513169434880:=HFt.out.2.1
     rw [HNp.out] at HNpl
     have hk5:(d.take k).length ≤ 2000000:=by rw [List.length_take];omega
     clear HRi HPp HO2 hPp5 hm5 rM HRM0 HP
     have hA5:New w5 (w5.alloc (.cells #[] 83)):=(Mods.refl _ _).alloc _
     have r5':=hA5.heap rM5 id
     have c3:=cell_of_row _ _ 3 _ _ _ r5'
     simp only [gS] at c3
     go_upto_region 13 with (at_builtin;refine wpList_spread_P (w:=w5) (f:=fun i=>pcs (m.params.getD i noP)) _ _ rfl rfl rfl rfl rfl (fun _=>rfl) (fun i _=>pcs_one _) HPp5.out HNpl ?_;intro v6 w6 ho6 hk6;obtain ⟨za,zc,rfl⟩:=ho6.slice;have rM6:=hk6.heap rM5 id;have c36:=cell_of_row _ _ 3 _ _ _ rM6;simp only [gS] at c36;have f36:=frozen_row (i:=3) rM6)
     have hm7:=setMods w6 M 3 (.slice za np zc)
     have rM7:=setCell_heap (i:=3) rM6 (.slice za np zc)
     simp only [pS] at rM7
     obtain ⟨w7,hw7⟩:∃ V,w6.setCell ⟨M,3,none⟩ (.slice za np zc)=V:=⟨_,rfl⟩
     rw [hw7] at hm7 rM7 ⊢
     clear hw7 c3 c36 f36
     have hN6:=hN5.trans hk6
     have hN7:New w w7:=((Mods.ofNew hN6).trans hm7).new (fun b hb=>by omega)
     have HRi7:=Lib.hid ((HRi5.out.new hk6).far hm7 (far_row rM6))
     have ho6':OwP w5.heap.size w6 (.slice za np zc) m.params.length (pf m.params):=by rw [HNp.out];exact ho6
     have HPp7:Hid (RdP true w7 (.slice za np zc) m.params):=Lib.hid (by
      have h1:=ho6'.rdP (by rw [HNp.out];omega)
      exact h1.far hm7 (far_row rM6))
     have HO7:Hid (OwD w.heap.size w7 (.slice oa k oc) (d.take k)):=Lib.hid ((HO5.out.new hk6).mods hm7 (fun g hg e=>by have:=hOl.out g hg;omega) (far_row rM6))
     have hs7:=hm7.size
     have hs6:=hk6.size
     have k0:=cell_of_row _ _ 0 _ _ _ rM7
     have k1:=cell_of_row _ _ 1 _ _ _ rM7
     have k2:=cell_of_row _ _ 2 _ _ _ rM7
     have k3:=cell_of_row _ _ 3 _ _ _ rM7
     simp only [gS] at k0 k1 k2 k3
     have hmc:mcs m (.slice ia j ic) (.slice za np zc) = [.string kx,.bool yb,.slice ia j ic,.slice za np zc]:=by unfold mcs;rw [HKx.out,HYb.out]
     have hb7:w.heap.size ≤ w7.heap.size:=by omega
     have hOl':Hid (∀ g,Value.ownBlock (.slice oa k oc)=some g→w.heap.size ≤ g ∨ False):=Lib.hid fun g hg=>.inl (by have:=(HO7.out.lt hg).1;omega)
     clear rM5 r5' rM6 rM7 ho6 ho6' HRi5 HPp5 HO5 hA5
     have HMC:=Lib.hid hmc
     clear hmc
     go_wp2_with (at_builtin;refine wpList_append_D (w:=w7) (m:=m) (ia:=ia) (il:=j) (ic:=ic) (pa:=za) (pl:=np) (pc:=zc) _ _ rfl rfl rfl rfl (by rw [HMC.out]) HO7.out HRi7.out HPp7.out hk5 hb7 ?_;intro v8 w8 ho8 hm8;obtain ⟨ya,yc,rfl⟩:=ho8.slice)
     have hN8:New w w8:=hm8 w (fun _=>False) hN7 hOl'.out
     have el:(d.take k ++ [m]).length=k + 1:=by rw [List.length_append,List.length_take,Hn.out];simp;omega
     rw [el,← HSn.out] at ho8
     have hmin:min k d.length + 1=k + 1:=by rw [Hn.out];omega
     go_roundw
     case rel=>exact ⟨k + 1,ya,yc,by omega,by go_num,by rw [hmin],Lib.hid ho8,hN8⟩
     case measure=>simp [intOf];omega
  ·obtain rfl:k=n:=by omega
   have hkd:decide ((k:Int) < (k:Int))=false:=decide_eq_false (by omega)
   have htk:d.take k=d:=List.take_of_length_le (by rw [Hn.out];exact Nat.le_refl _)
   have HX:=HO.out
   rw [htk] at HX
   have HX:=Lib.hid HX
   clear htk HO
   go_wp2_with fail
   rw [← HPost.out]
   exact ⟨_,rfl,HX.out,hN⟩


def MemS (m:Bare.Mem):Prop:=m.key.length ≤ 100000000∧ParS m.params∧m.items.length ≤ 1000000∧∀ x ∈ m.items,x.bare.text.length ≤ 100000000∧ParS x.params
theorem mfacts {W:World} {B:Nat} {a b c d:Value} (h:W.heap[B]? = some (.cells #[a,b,c,d] 44 (0,0))):W.cell? ⟨B,0,none⟩=some a∧W.cell? ⟨B,1,none⟩=some b∧W.cell? ⟨B,2,none⟩=some c∧W.cell? ⟨B,3,none⟩=some d :=
 ⟨cell_of_row _ _ 0 _ _ _ h,cell_of_row _ _ 1 _ _ _ h,cell_of_row _ _ 2 _ _ _ h,cell_of_row _ _ 3 _ _ _ h⟩
theorem member_r13 {τ:Bool} (m:Bare.Mem) (iv pv:Value) (w:World) (hI:RdI τ w iv m.items) (hP:RdP τ w pv m.params) (hs:MemS m) :
  Calls Tryz.prog 93 #[.agg (mcs m iv pv).toArray] w fun e w'=>e = .returned (.bool (Bare.keyB m.key && Bare.memB m))∧New w w':=by
 obtain ⟨hs1,hs2,hs3,hs4⟩:=hs
 have HP:=Lib.hid (fun W (hN:New w W)=>params_r13 pv m.params W (hP.new hN) hs2)
 have HK:=Lib.hid (fun W=>key_r13 (tx m.key) W (by rw [tx_size];omega))
 rw [bl_tx] at HK
 obtain ⟨pi,hIr,-,hIp⟩:=hI
 obtain ⟨ia,ic,rfl⟩:=hIr.slice
 obtain ⟨pa,pc,rfl⟩:=hP.slice
 have HI:=Lib.hid hIr
 have HQ:=Lib.hid (fun W (hN:New w W) i (hi:i < m.items.length)=>params_r13 (pi i) (m.items.getD i Bare.noI).params W ((hIp i hi).new hN) (hs4 _ (getD_mem hi)).2)
 have HR:=Lib.hid (fun W i (hi:i < m.items.length)=>right_r (m.items.getD i Bare.noI).bare (hs4 _ (getD_mem hi)).1 W)
 have HSl:=Lib.hid (fun i (hi:i < m.items.length)=>(hIp i hi).slice)
 obtain ⟨ni,hni⟩:∃ n,m.items.length=n:=⟨_,rfl⟩
 obtain ⟨np,hnp⟩:∃ n,m.params.length=n:=⟨_,rfl⟩
 have HNi:=Lib.hid hni
 have hni6:ni ≤ 1000000:=by omega
 have HMem:Hid (Bare.memB m=((m.inner || (decide (ni=1) && decide (np=0))) && (Bare.paramsB m.params && m.items.all Bare.itemB))):=Lib.hid (by
  unfold Bare.memB
  rw [hni,← hnp]
  congr 3
  cases m.params <;> rfl)
 unfold mcs at *
 rw [hni] at HI HQ HR HSl ⊢
 rw [hnp] at HP ⊢
 obtain ⟨kx,hkx⟩:∃ s,tx m.key=s:=⟨_,rfl⟩
 obtain ⟨inn,hinn⟩:∃ b,m.inner=b:=⟨_,rfl⟩
 obtain ⟨kb,hkb⟩:∃ b,Bare.keyB m.key=b:=⟨_,rfl⟩
 obtain ⟨pb,hpb⟩:∃ b,Bare.paramsB m.params=b:=⟨_,rfl⟩
 rw [hkx] at HK ⊢
 rw [hinn,hpb] at HMem
 rw [hkb] at HK ⊢
 rw [hinn]
 rw [hpb] at HP
 obtain ⟨r,hr⟩:∃ r,(kb && Bare.memB m)=r:=⟨_,rfl⟩
 have HRr:=Lib.hid hr
 rw [hr]
 clear hs1 hs2 hs3 hs4 hIr hIp hP hni hnp hkx hinn hkb hpb hr
 go_enter Tryz.func93,Tryz.ntmps93
 obtain ⟨W1,B,hW1,hB,rB,hN⟩:∃ V X,w.alloc (.cells #[.string kx,.bool inn,.slice ia ni ic,.slice pa np pc] 44)=V∧w.heap.size=X∧V.heap[X]? = some (.cells #[.string kx,.bool inn,.slice ia ni ic,.slice pa np pc] 44 (0,0))∧New w V:=⟨_,_,rfl,rfl,World.alloc_heap_new _ _,(Mods.refl _ _).alloc _⟩
 go_upto_region 1 with fail
 clear hW1 hB
 go_cut [30] from 4 (fun a wx=>∃ bb,a = .bool bb∧Hid (bb=true→r=false)∧Hid (bb=false→m.items.all Bare.itemB=r)∧New W1 wx)
 case first =>
  obtain ⟨c0,c1,c2,c3⟩:=mfacts rB
  go_wp2_with fail
  refine (HK.out _).mono ?_
  rintro e w1 ⟨rfl,hw1⟩
  obtain rfl:=hw1.symm
  clear hw1
  cases kb with
  | false =>
   have HF:Hid (false=r):=Lib.hid (by rw [← HRr.out];rfl)
   go_wp2_with fail
   go_meet
   exact ⟨true,rfl,Lib.hid (fun _=>HF.out.symm),Lib.hid (fun h=>by cases h),Mods.refl _ _⟩
  | true =>
  go_wp2_with fail
  refine (HP.out _ hN).mono ?_
  rintro e w2 ⟨rfl,hk⟩
  replace rB:=hk.heap rB id
  clear c0 c1 c2 c3 HK HP
  obtain ⟨c0,c1,c2,c3⟩:=mfacts rB
  cases pb with
  | false =>
   have HF:Hid (false=r):=Lib.hid (by rw [← HRr.out];rw [HMem.out];simp)
   go_wp2_with fail
   go_meet
   exact ⟨true,rfl,Lib.hid (fun _=>HF.out.symm),Lib.hid (fun h=>by cases h),hk⟩
  | true =>
  have hnb:Hid (inn=false→¬ (ni=1∧np=0)→r=false):=Lib.hid (by
   rintro rfl h
   rw [← HRr.out,HMem.out]
   have:(decide (ni=1) && decide (np=0))=false:=by
    rw [Bool.and_eq_false_iff,decide_eq_false_iff_not,decide_eq_false_iff_not]
    omega
   rw [this];rfl)
  have hgo:Hid ((inn=true ∨ (ni=1∧np=0))→m.items.all Bare.itemB=r):=Lib.hid (by
   intro h
   rw [← HRr.out,HMem.out]
   have:(inn || (decide (ni=1) && decide (np=0)))=true:=by
    rcases h with rfl | ⟨rfl,rfl⟩
    ·rfl
    ·simp
   rw [this];simp)
  cases inn with
  | true =>
   have HF:=Lib.hid (hgo.out (.inl rfl))
   go_wp2_with fail
   go_meet
   exact ⟨false,rfl,Lib.hid (fun h=>by cases h),Lib.hid (fun _=>HF.out),hk⟩
  | false =>
   by_cases h1:ni=1
   ·have hd1:((ni:Int) != 1)=false:=by simp [h1]
    by_cases h2:0 < np
    ·have HF:=Lib.hid (hnb.out rfl (by omega))
     have hd2:decide ((0:Int) < (np:Int))=true:=decide_eq_true (by omega)
     clear h1 hnb hgo
     go_wp2_with fail
     go_meet
     exact ⟨true,rfl,Lib.hid (fun _=>HF.out),Lib.hid (fun h=>by cases h),hk⟩
    ·have HF:=Lib.hid (hgo.out (.inr ⟨h1,by omega⟩))
     have hd2:decide ((0:Int) < (np:Int))=false:=decide_eq_false (by omega)
     clear h1 hnb hgo
     go_wp2_with fail
     go_meet
     exact ⟨false,rfl,Lib.hid (fun h=>by cases h),Lib.hid (fun _=>HF.out),hk⟩
   ·have hd1:((ni:Int) != 1)=true:=by simp;omega
    have HF:=Lib.hid (hnb.out rfl (by omega))
    clear h1 hnb hgo
    go_wp2_with fail
    go_meet
    exact ⟨true,rfl,Lib.hid (fun _=>HF.out),Lib.hid (fun h=>by cases h),hk⟩
 case rest =>
  obtain ⟨bb,rfl,HT,HFl,hk⟩:=hcut
  replace hN:=hN.trans hk
  replace rB:=hk.heap rB id
  cases bb with
  | true =>
   obtain rfl:=HT.out rfl
   clear HT HFl
   go_wp2_with fail
   go_ret
   exact ⟨rfl,hN⟩
  | false =>
  have HA:=Lib.hid (HFl.out rfl)
  have HB:=Lib.hid rB
  clear HT HFl rB hk HK HP
  go_upto_region 4 with fail
  go_loopw [3] (fun t wr=>∃ i:Nat,i ≤ ni∧t = .int .i64 i∧Hid (∀ j,j < i→Bare.itemB (m.items.getD j Bare.noI)=true)∧New wc wr) (fun t _=>ni - (intOf t).toNat)
  case atStart=>exact ⟨0,Nat.zero_le _,rfl,Lib.hid (fun j hj=>by omega),Mods.refl _ _⟩
  case round =>
   obtain ⟨i,hi,rfl,HBf,hNr⟩:=hrel
   have rB:=hNr.heap HB.out id
   obtain ⟨-,-,c2,-⟩:=mfacts rB
   by_cases hlt:i < ni
   ·have hid:decide ((i:Int) < (ni:Int))=true:=decide_eq_true (by omega)
    have hiL:i < m.items.length:=by rw [HNi.out];exact hlt
    have hro:=RowR.new HI.out (hN.trans hNr)
    obtain ⟨b,o,rfl,hrow⟩:=hro.at.2.2 i hlt
    obtain ⟨qa,qc,hq⟩:=HSl.out i hlt
    have HQi:=Lib.hid (fun W hN=>HQ.out W hN i hlt)
    have HRi:=Lib.hid (fun W=>HR.out W i hlt)
    obtain ⟨x,hx⟩:∃ x,m.items.getD i Bare.noI=x:=⟨_,rfl⟩
    rw [hq] at HQi
    rw [hx] at HQi HRi
    have hrow:wr.rangeAt b (o + i * 5) (ics x (.slice qa x.params.length qc)):=by rw [← hx,← hq];exact hrow
    have q0:wr.cell? ⟨b,o + i * 5,none⟩=some (.int .u8 x.bare.kind):=hrow 0 _ rfl
    have q1:wr.cell? ⟨b,o + i * 5 + 1,none⟩=some (.int .i64 x.bare.int):=hrow 1 _ rfl
    have q2:wr.cell? ⟨b,o + i * 5 + 2,none⟩=some (.string (tx x.bare.text)):=hrow 2 _ rfl
    have q3:wr.cell? ⟨b,o + i * 5 + 3,none⟩=some (.bool x.bare.yes):=hrow 3 _ rfl
    have q4:wr.cell? ⟨b,o + i * 5 + 4,none⟩=some (.slice qa x.params.length qc):=hrow 4 _ rfl
    unfold bv bcs at HRi
    obtain ⟨pl,hpl⟩:∃ n,x.params.length=n:=⟨_,rfl⟩
    obtain ⟨tt,htt⟩:∃ s,tx x.bare.text=s:=⟨_,rfl⟩
    obtain ⟨rb,hrb⟩:∃ v,Bare.rightI x.bare=v:=⟨_,rfl⟩
    obtain ⟨pb2,hpb2⟩:∃ v,Bare.paramsB x.params=v:=⟨_,rfl⟩
    rw [htt] at q2 HRi
    rw [hpl] at q4 HQi
    rw [hrb] at HRi
    rw [hpb2] at HQi
    have HIt:Hid (Bare.itemB (m.items.getD i Bare.noI)=(rb && pb2)):=Lib.hid (by rw [hx];unfold Bare.itemB;rw [hrb,hpb2])
    clear hrow hro hq hx hpl htt hrb hpb2
    go_wp2_with fail
    refine (HRi.out _).mono ?_
    rintro e w3 ⟨rfl,hk3⟩
    have q4':=hk3.cell q4 id
    have c2':=hk3.cell c2 id
    have hNw3:=(hN.trans hNr).trans hk3
    have hNc3:=hNr.trans hk3
    clear q0 q1 q2 q3 q4 c2 rB
    cases rb with
    | false =>
     obtain rfl:false=r:=by
      rw [← HA.out,eq_comm,List.all_eq_false]
      exact ⟨_,getD_mem hiL,by rw [HIt.out];simp⟩
     clear HBf
     go_wp2_with fail
     go_ret
     exact ⟨rfl,hNw3⟩
    | true =>
    go_wp2_with fail
    refine (HQi.out _ hNw3).mono ?_
    rintro e w4 ⟨rfl,hk4⟩
    cases pb2 with
    | false =>
     obtain rfl:false=r:=by
      rw [← HA.out,eq_comm,List.all_eq_false]
      exact ⟨_,getD_mem hiL,by rw [HIt.out];simp⟩
     clear HBf
     go_wp2_with fail
     go_ret
     exact ⟨rfl,hNw3.trans hk4⟩
    | true =>
    have HB2:Hid (∀ j,j < i + 1→Bare.itemB (m.items.getD j Bare.noI)=true):=Lib.hid (fun j hj=>by
     by_cases e:j < i
     ·exact HBf.out j e
     ·obtain rfl:j=i:=by omega
      exact HIt.out)
    clear HBf
    go_wp2_with fail
    go_roundw
    case rel=>exact ⟨i + 1,by omega,by go_num,HB2,hNc3.trans hk4⟩
    case measure=>simp [intOf];omega
   ·obtain rfl:i=ni:=by omega
    have hid:decide ((i:Int) < (i:Int))=false:=decide_eq_false (by omega)
    obtain rfl:true=r:=by
     rw [← HA.out,eq_comm,List.all_eq_true]
     intro x hx
     obtain ⟨j,hj,rfl⟩:=List.mem_iff_getElem.1 hx
     have:=HBf.out j (by rw [← HNi.out];exact hj)
     rw [List.getD_eq_getElem?_getD,List.getElem?_eq_getElem hj] at this
     exact this
    clear HBf
    go_wp2_with fail
    go_ret
    exact ⟨rfl,hN.trans hNr⟩


theorem litj33 (t:Array Value) (h:t.size=33):∃ u:Nat→Value,t=(u 0::u 1::u 2::u 3::u 4::u 5::u 6::u 7::u 8::u 9::u 10::u 11::u 12::u 13::u 14::u 15::u 16::u 17::u 18::u 19::u 20::u 21::u 22::u 23::u 24::u 25::u 26::u 27::u 28::u 29::u 30::u 31::u 32::([]:List Value)).toArray:=⟨fun i=>t.getD i undef,range_lit t 33 h⟩
noncomputable def reg_causeyref13_Right_9:Code:=((Tryz.f32.body.bind (regionOf 9)).getD .skip)
theorem right9r (t:Array Value) (hs:t.size=33) (w:World) {b o n cap i k:Nat} {ka kb:ByteArray} {y:Bool}
  (hq0:t.getD 0 undef = .slice (some ⟨b,o,none⟩) n cap)
  (hq3:t.getD 3 undef = .int .i64 i)
  (hq4:t.getD 4 undef = .int .i64 k)
  (c0:w.cell? ⟨b,o + k * 4,none⟩=some (.string ka)) (c1:w.cell? ⟨b,o + i * 4,none⟩=some (.string kb)) (hk:k < n) (hi:i < n) (hkd:decide ((k:Int) < (n:Int))=true) (hid:decide ((i:Int) < (n:Int))=true) (he:(ka.toList == kb.toList)=y) :
  reg_causeyref13_Right_9.wp Tryz.prog (Only fun a' W'=>∃ z:Nat→Value,a'=⟨((pz t z [22,23,24,25,26,27,28,29,30,31]).setIfInBounds 32 (.bool y)),[]⟩∧New w W') ⟨t,[]⟩ w:=by
 conv=>arg 2;whnf
 obtain ⟨u,rfl⟩:=litj33 t hs
 have hq0:u 0 = _:=hq0
 have hq3:u 3 = _:=hq3
 have hq4:u 4 = _:=hq4
 rw [hq0,hq3,hq4]
 clear hq0 hq3 hq4 hs
 refine wp_region_held (S:=fun W=>New w W) (by kernel_rfl) ?_
 show wpAnyH _ _ _ _ _ 11 _ _ w.drew
 have hN:New w w.drew:=(Mods.refl _ _).drew
 have hS:New w w.drew:=(Mods.refl _ _).drew
 refine tkI 0 (some 22) (.slice (some ⟨b,o,none⟩) n cap) hS ?_
 simp only [pS]
 refine tkI 1 (some 23) (.int .i64 k) hS ?_
 simp only [pS]
 refine tkI 2 (some 24) (.pointer (some ⟨b,o + k * 4,none⟩)) hS ?_
 simp only [pS]
 refine tkI 3 (some 25) (.pointer (some ⟨b,o + k * 4,none⟩)) hS ?_
 simp only [pS]
 refine tkA 4 rfl (some 26) (.string ka) (.inl ⟨by rfl,fun W hW=>by have q:=hW.cell c0 id;go_simp⟩) hS ?_
 simp only [pS]
 refine tkI 5 (some 27) (.slice (some ⟨b,o,none⟩) n cap) hS ?_
 simp only [pS]
 refine tkI 6 (some 28) (.int .i64 i) hS ?_
 simp only [pS]
 refine tkI 7 (some 29) (.pointer (some ⟨b,o + i * 4,none⟩)) hS ?_
 simp only [pS]
 refine tkI 8 (some 30) (.pointer (some ⟨b,o + i * 4,none⟩)) hS ?_
 simp only [pS]
 refine tkA 9 rfl (some 31) (.string kb) (.inl ⟨by rfl,fun W hW=>by have q:=hW.cell c1 id;go_simp⟩) hS ?_
 simp only [pS]
 refine tkI 10 (some 32) (.bool y) hS ?_
 simp only [pS]
 refine wpAnyH_done (by kernel_rfl) ?_ _
 exact zc rfl hN
theorem rightD_no1 {d:List Bare.Mem} {i:Nat} (hi:i < d.length) (h:(Bare.keyB (d.getD i noM).key && Bare.memB (d.getD i noM))=false):Bare.rightD d=false:=by
 unfold Bare.rightD
 rw [Bool.and_eq_false_iff] at h
 rcases h with h | h
 ·rw [alone_no (get_map (·.key) d noM i hi) h,Bool.false_and]
 ·have:(d.all Bare.memB)=false:=by
   rw [List.all_eq_false]
   exact ⟨_,getD_mem hi,by rw [h];decide⟩
  rw [this,Bool.and_false]
theorem rightD_no2 {d:List Bare.Mem} {i k:Nat} (hi:i < d.length) (hk:k < i) (h:(d.getD k noM).key=(d.getD i noM).key):Bare.rightD d=false:=by
 unfold Bare.rightD
 rw [alone_dup2 (·.key) d noM i k hi hk h,Bool.false_and]
theorem rightD_yes {d:List Bare.Mem} (h1:∀ i,i < d.length→(Bare.keyB (d.getD i noM).key && Bare.memB (d.getD i noM))=true) (h2:∀ i,i < d.length→∀ k,k < i→(d.getD k noM).key ≠ (d.getD i noM).key):Bare.rightD d=true:=by
 unfold Bare.rightD
 rw [alone_yes (·.key) d noM (fun i hi=>(Bool.and_eq_true_iff.1 (h1 i hi)).1) h2,Bool.true_and,List.all_eq_true]
 intro p hp
 obtain ⟨i,hi,rfl⟩:=List.mem_iff_getElem.1 hp
 have:=(Bool.and_eq_true_iff.1 (h1 i hi)).2
 rw [List.getD_eq_getElem?_getD,List.getElem?_eq_getElem hi] at this
 exact this
theorem right_r13 {τ:Bool} (v:Value) (d:List Bare.Mem) (w:World) (h:RdD τ w v d) (hd:d.length ≤ 1000000) (hs:∀ m ∈ d,MemS m) :
  Calls Tryz.prog 32 #[v] w fun e w'=>e = .returned (.bool (Bare.rightD d))∧New w w':=by
 obtain ⟨iv,pv,hrow,-,hip⟩:=h
 obtain ⟨ao,cap,rfl⟩:=hrow.slice
 have HD:=Lib.hid hrow
 have HM:=Lib.hid (fun W (hN:New w W) i (hi:i < d.length)=>member_r13 (d.getD i noM) (iv i) (pv i) W ((hip i hi).1.new hN) ((hip i hi).2.new hN) (hs _ (getD_mem hi)))
 have HIs:=Lib.hid (fun i (hi:i < d.length)=>(hip i hi).1.slice)
 have HPs:=Lib.hid (fun i (hi:i < d.length)=>(hip i hi).2.slice)
 obtain ⟨n,hn⟩:∃ n,d.length=n:=⟨_,rfl⟩
 have HN:=Lib.hid hn
 rw [hn] at HD HM HIs HPs hd ⊢
 obtain ⟨r,hr⟩:∃ r,Bare.rightD d=r:=⟨_,rfl⟩
 have HR:=Lib.hid hr
 rw [hr]
 clear hn hr hs hrow hip
 go_enter Tryz.func32,Tryz.ntmps32
 go_upto_region 2 with fail
 go_loopw [3] (fun t wr=>∃ i:Nat,i ≤ n∧t = .int .i64 i∧Hid (∀ j,j < i→(Bare.keyB (d.getD j noM).key && Bare.memB (d.getD j noM))=true∧∀ k,k < j→(d.getD k noM).key ≠ (d.getD j noM).key)∧New w wr) (fun t _=>n - (intOf t).toNat)
 case atStart=>exact ⟨0,Nat.zero_le _,rfl,Lib.hid (fun j hj=>by omega),Mods.refl _ _⟩
 case round =>
  obtain ⟨i,hi,rfl,HB,hN⟩:=hrel
  by_cases hlt:i < n
  ·have hid:decide ((i:Int) < (n:Int))=true:=decide_eq_true (by omega)
   have hiL:i < d.length:=by rw [HN.out];exact hlt
   obtain ⟨b,o,rfl,hrow⟩:=(RowR.new HD.out hN).at.2.2 i hlt
   have HMi:=Lib.hid (fun W hN=>HM.out W hN i hlt)
   obtain ⟨ja,jc,hj⟩:=HIs.out i hlt
   obtain ⟨pa,pc,hp⟩:=HPs.out i hlt
   obtain ⟨x,hx⟩:∃ x,d.getD i noM=x:=⟨_,rfl⟩
   rw [hj,hp,hx] at HMi
   have hrow:wr.rangeAt b (o + i * 4) (mcs x (.slice ja x.items.length jc) (.slice pa x.params.length pc)):=by rw [← hx,← hj,← hp];exact hrow
   have q0:wr.cell? ⟨b,o + i * 4,none⟩=some (.string (tx x.key)):=hrow 0 _ rfl
   have q1:wr.cell? ⟨b,o + i * 4 + 1,none⟩=some (.bool x.inner):=hrow 1 _ rfl
   have q2:wr.cell? ⟨b,o + i * 4 + 2,none⟩=some (.slice ja x.items.length jc):=hrow 2 _ rfl
   have q3:wr.cell? ⟨b,o + i * 4 + 3,none⟩=some (.slice pa x.params.length pc):=hrow 3 _ rfl
   unfold mcs at HMi
   obtain ⟨kx,hkx⟩:∃ s,tx x.key=s:=⟨_,rfl⟩
   obtain ⟨il,hil⟩:∃ s,x.items.length=s:=⟨_,rfl⟩
   obtain ⟨pl,hpl⟩:∃ s,x.params.length=s:=⟨_,rfl⟩
   obtain ⟨mb,hmb⟩:∃ s,(Bare.keyB x.key && Bare.memB x)=s:=⟨_,rfl⟩
   rw [hkx] at q0 HMi
   rw [hil] at q2 HMi
   rw [hpl] at q3 HMi
   rw [hmb] at HMi
   have HX:=Lib.hid hx
   have HKX:=Lib.hid hkx
   have HMB:=Lib.hid hmb
   clear hrow hx hkx hil hpl hmb hj hp
   go_wp2_with fail
   refine (HMi.out _ hN).mono ?_
   rintro e w1 ⟨rfl,hk1⟩
   have hN1:=hN.trans hk1
   clear q0 q1 q2 q3 hk1 hN HMi
   cases mb with
   | false =>
    obtain rfl:false=r:=by rw [← HR.out];exact (rightD_no1 hiL (by rw [HX.out];exact HMB.out)).symm
    clear HB
    go_wp2_with fail
    go_ret
    exact ⟨rfl,hN1⟩
   | true =>
   go_upto_region 7 with fail
   go_loopw [4] (fun t wi=>∃ k:Nat,k ≤ i∧t = .int .i64 k∧Hid (∀ j,j < k→(d.getD j noM).key ≠ x.key)∧New w wi) (fun t _=>i - (intOf t).toNat)
   case atStart=>exact ⟨0,Nat.zero_le _,rfl,Lib.hid (fun j hj=>by omega),hN1⟩
   case round =>
    obtain ⟨k,hk,rfl,HBk,hNk⟩:=hrel
    by_cases hki:k < i
    ·have hkd:decide ((k:Int) < (i:Int))=true:=decide_eq_true (by omega)
     obtain ⟨b2,o2,e2,hrow⟩:=(RowR.new HD.out hNk).at.2.2 k (by omega)
     cases e2
     obtain ⟨b3,o3,e3,hrow3⟩:=(RowR.new HD.out hNk).at.2.2 i hlt
     cases e3
     have c0:wr.cell? ⟨b,o + k * 4,none⟩=some (.string (tx (d.getD k noM).key)):=hrow 0 _ rfl
     have c1:wr.cell? ⟨b,o + i * 4,none⟩=some (.string (tx (d.getD i noM).key)):=hrow3 0 _ rfl
     rw [HX.out,HKX.out] at c1
     have he:=eq_tx (tx (d.getD k noM).key) kx
     rw [bl_tx,← HKX.out,bl_tx,HKX.out] at he
     obtain ⟨ka,hka⟩:∃ s,tx (d.getD k noM).key=s:=⟨_,rfl⟩
     rw [hka] at c0 he
     clear hrow hrow3 hka
     go_upto_region 9 with fail
     refine piece (fun _=>_) (right9r _ rfl wr rfl rfl rfl c0 c1 (by omega) hlt (decide_eq_true (by omega)) hid he) ?_
     rintro a' w5 ⟨zg,rfl,hN5⟩
     simp only [pS]
     by_cases heq:(d.getD k noM).key=x.key
     ·obtain rfl:false=r:=by rw [← HR.out];exact (rightD_no2 hiL hki (by rw [HX.out];exact heq)).symm
      rw [decide_eq_true heq]
      clear heq he HB HBk c0 c1
      go_wp2_with fail
      go_ret
      exact ⟨rfl,hNk.trans hN5⟩
     ·have HB2:Hid (∀ j,j < k + 1→(d.getD j noM).key ≠ x.key):=Lib.hid (fun j hj=>by
       by_cases e:j < k
       ·exact HBk.out j e
       ·obtain rfl:j=k:=by omega
        exact heq)
      rw [decide_eq_false heq]
      clear heq he HBk c0 c1
      go_wp2_with fail
      go_roundw
      case rel=>exact ⟨k + 1,by omega,by go_num,HB2,hNk.trans hN5⟩
      case measure=>simp [intOf];omega
    ·obtain rfl:k=i:=by omega
     have hkd:decide ((k:Int) < (k:Int))=false:=decide_eq_false (by omega)
     have HB2:Hid (∀ j,j < k + 1→(Bare.keyB (d.getD j noM).key && Bare.memB (d.getD j noM))=true∧∀ k,k < j→(d.getD k noM).key ≠ (d.getD j noM).key):=Lib.hid (fun j hj=>by
      by_cases e:j < k
      ·exact HB.out j e
      ·obtain rfl:j=k:=by omega
       rw [HX.out]
       exact ⟨HMB.out,HBk.out⟩)
     clear HB HBk
     go_wp2_with fail
     go_roundw
     case rel=>exact ⟨k + 1,by omega,by go_num,HB2,hNk⟩
     case measure=>simp [intOf];omega
  ·obtain rfl:i=n:=by omega
   have hid:decide ((i:Int) < (i:Int))=false:=decide_eq_false (by omega)
   obtain rfl:true=r:=by
    rw [← HR.out]
    exact (rightD_yes (fun j hj=>(HB.out j (by rw [HN.out] at hj;exact hj)).1) (fun j hj=>(HB.out j (by rw [HN.out] at hj;exact hj)).2)).symm
   clear HB
   go_wp2_with fail
   go_ret
   exact ⟨rfl,hN⟩


theorem memS_pr {m:Bare.Mem} (h:PrM m):MemS m:=by
 obtain ⟨⟨h1,h2,h3,h4,h5⟩,h6,h7,h8⟩:=h
 exact ⟨by omega,⟨by omega,fun p hp=>by have:=h5 p hp;unfold SmP at this;omega⟩,by omega,fun x hx=>by
  obtain ⟨⟨x1,x2,x3,x4⟩,x5⟩:=h8 x hx
  exact ⟨by omega,by omega,fun p hp=>by have:=x4 p hp;unfold SmP at this;omega⟩⟩
theorem print_r13 {τ:Bool} (v:Value) (d:List Bare.Mem) (w:World) (h:RdD τ w v d) (hs:PrD d) :
  Calls Tryz.prog 24 #[v] w fun e w'=>e = .returned (printV (Bare.printD d))∧New w w':=by
 have HR:=Lib.hid (right_r13 v d w h (by have:=hs.1;omega) (fun m hm=>memS_pr (hs.2 m hm)))
 have HV:=Lib.hid h
 have HS:=Lib.hid hs.2
 have hl:=hs.1
 obtain ⟨ao,cap,rfl⟩:=h.slice
 obtain ⟨n,hn⟩:∃ n,d.length=n:=⟨_,rfl⟩
 have Hn:=Lib.hid hn
 rw [hn] at hl HV HR ⊢
 cases hr:Bare.rightD d with
 | false =>
  rw [hr] at HR
  have e:Bare.printD d=none:=by unfold Bare.printD;rw [hr];rfl
  rw [e]
  unfold printV
  clear h hs hn hr e
  go_enter Tryz.func24,Tryz.ntmps24
  go_wp2_with fail
  refine HR.out.mono ?_
  rintro e w1 ⟨rfl,hN1⟩
  go_wp2_with fail
  go_ret2
  exact ⟨rfl,hN1⟩
 | true =>
  rw [hr] at HR
  have e:Bare.printD d=some (Bare.joinW [44,32] (d.map Bare.toldM)):=by unfold Bare.printD;rw [hr];rfl
  have hmm:∀ m ∈ d,m.inner=true ∨ m.items.length=1:=fun m hm=>by
   have:d.all Bare.memB=true:=by unfold Bare.rightD at hr;rw [Bool.and_eq_true] at hr;exact hr.2
   have:=List.all_eq_true.1 this m hm
   rcases (Bare.mem_parts this).1 with h | h
   ·exact .inl h
   ·exact .inr h.1
  have HM:=Lib.hid hmm
  have hlen:∀ m ∈ d,(Bare.toldM m).length ≤ 50200000000:=fun m hm=>toldM_len (hs.2 m hm) (hmm m hm)
  have HLn:=Lib.hid hlen
  have hji:=joinD_len hs.1 hlen
  have HJl:=Lib.hid (fun j (hj:j ≤ d.length)=>Nat.le_trans (join_part [44,32] Bare.toldM d noM j hj) hji)
  have HJs:=Lib.hid (fun j (hj:j < d.length)=>join_take [44,32] Bare.toldM d noM j hj)
  obtain ⟨R,hR⟩:∃ R,tx (Bare.joinW [44,32] (d.map Bare.toldM))=R:=⟨_,rfl⟩
  have HRR:=Lib.hid hR
  rw [e]
  unfold printV
  simp only
  rw [hR]
  rw [hn] at HJl HJs
  clear h hs hn hr e hlen hmm hji hR
  go_enter Tryz.func24,Tryz.ntmps24
  go_wp2_with fail
  refine HR.out.mono ?_
  rintro e w1 ⟨rfl,hN1⟩
  clear HR
  go_wp2_with fail
  go_loopw [4,5] (fun a t wr=>∃ j:Nat,j ≤ n∧t = .int .i64 j∧a = .string (tx (Bare.joinW [44,32] ((d.take j).map Bare.toldM)))∧New w wr) (fun _ t _=>n - (intOf t).toNat)
  case atStart=>exact ⟨0,Nat.zero_le _,rfl,rfl,hN1⟩
  case round =>
   clear hN1
   obtain ⟨j,hj,rfl,rfl,hNr⟩:=hrel
   by_cases hjl:j < n
   ·have hjd:decide ((j:Int) < (n:Int))=true:=decide_eq_true (by omega)
    have hjl':j < d.length:=by rw [Hn.out];exact hjl
    obtain ⟨iv,pv,r1,-,r3⟩:=HV.out
    obtain ⟨b,o,rfl,hrow0⟩:=r1.at.2.2 j hjl
    have hrow:wr.rangeAt b (o + j * 4) (mcs (d.getD j noM) (iv j) (pv j)):=fun i u hj=>hNr.cell (hrow0 i u hj) id
    obtain ⟨hi,hp⟩:=r3 j hjl'
    have hi:=hi.new hNr
    have hp:=hp.new hNr
    have hms:=HS.out _ (getD_mem (d:=noM) hjl')
    have hmm:=HM.out _ (getD_mem (d:=noM) hjl')
    have hil:=HLn.out _ (getD_mem (d:=noM) hjl')
    have hst:=HJs.out j hjl
    have hln:=HJl.out j hj
    obtain ⟨m,hxx⟩:∃ x,d.getD j noM=x:=⟨_,rfl⟩
    rw [hxx] at hrow hi hp hms hmm hil hst
    have HMt:=Lib.hid (mtext_r m (iv j) (pv j) wr hi hp hms hmm)
    obtain ⟨ia,ic,hie⟩:=hi.slice
    obtain ⟨pa,pc,hpe⟩:=hp.slice
    rw [hie,hpe] at hrow HMt
    obtain ⟨I,hI⟩:∃ y,tx (Bare.toldM m)=y:=⟨_,rfl⟩
    obtain ⟨J,hJ⟩:∃ y,tx (Bare.joinW [44,32] ((d.take j).map Bare.toldM))=y:=⟨_,rfl⟩
    obtain ⟨J2,hJ2⟩:∃ y,tx (Bare.joinW [44,32] ((d.take (j + 1)).map Bare.toldM))=y:=⟨_,rfl⟩
    have HJ2:=Lib.hid hJ2
    have hIs:I.size ≤ 50200000000:=by rw [← hI,tx_size];exact hil
    have hJs:J.size ≤ 140737488355328:=by rw [← hJ,tx_size];exact hln
    have hE1:j=0→Hid (J ++ I=J2):=fun h=>Lib.hid (by
     rw [← hJ2,hst,if_pos h,← hI,← hJ,h,catx]
     simp [Bare.joinW])
    have hE2:¬ j=0→Hid (J ++ ⟨#[44,32]⟩ ++ I=J2):=fun h=>Lib.hid (by
     rw [← hJ2,hst,if_neg h,← hI,← hJ,show (⟨#[44,32]⟩:ByteArray)=tx [44,32] from rfl,catx,catx,List.append_assoc])
    rw [hI] at HMt
    rw [hJ]
    obtain ⟨key,y,its,ps⟩:=m
    unfold mcs at HMt hrow
    simp only at HMt hrow
    obtain ⟨k0,k1,k2,k3⟩:=cells4 hrow
    obtain ⟨q,hq⟩:∃ x,tx key=x:=⟨_,rfl⟩
    obtain ⟨il,hil'⟩:∃ x,its.length=x:=⟨_,rfl⟩
    obtain ⟨pl,hpl⟩:∃ x,ps.length=x:=⟨_,rfl⟩
    rw [hq] at k0 HMt
    rw [hil'] at k2 HMt
    rw [hpl] at k3 HMt
    have z1:¬ 9223372036854775807 < J.size + 2:=by omega
    have z2:¬ 9223372036854775807 < J.size + 2 + I.size:=by omega
    have z3:¬ 9223372036854775807 < J.size + I.size:=by omega
    clear hq hil' hpl hxx hI hJ hJ2 hst hln hil hie hpe hms hmm hi hp hrow hrow0 r1 r3
    by_cases h0:j=0
    ·have hgd:decide ((0:Int) < (j:Int))=false:=decide_eq_false (by omega)
     have hn0:¬ 0 < j:=by omega
     have hJ:=hE1 h0
     clear hE1 hE2 h0
     go_wp2_with fail
     refine HMt.out.mono ?_
     rintro e1 w1 ⟨rfl,hN1⟩
     clear k0 k1 k2 k3
     go_wp2_with fail
     go_roundw
     case rel=>exact ⟨j + 1,by omega,by go_num,by rw [HJ2.out,← hJ.out],hNr.trans hN1⟩
     case measure=>simp [intOf];omega
    ·have hgd:decide ((0:Int) < (j:Int))=true:=decide_eq_true (by omega)
     have hn0:0 < j:=by omega
     have hJ:=hE2 h0
     clear hE1 hE2 h0
     go_wp2_with fail
     refine HMt.out.mono ?_
     rintro e1 w1 ⟨rfl,hN1⟩
     clear k0 k1 k2 k3
     go_wp2_with fail
     go_roundw
     case rel=>exact ⟨j + 1,by omega,by go_num,by rw [HJ2.out,← hJ.out],hNr.trans hN1⟩
     case measure=>simp [intOf];omega
   ·obtain rfl:j=n:=by omega
    have hjd:decide ((j:Int) < (j:Int))=false:=decide_eq_false (by omega)
    have hall:(d.take j).map Bare.toldM=d.map Bare.toldM:=by rw [List.take_of_length_le (by rw [Hn.out];exact Nat.le_refl _)]
    rw [hall,HRR.out]
    clear hall HJl HJs HV HS HM HLn Hn HRR
    go_wp2_with fail
    go_ret2
    exact ⟨rfl,hNr⟩
end Go.Proofs.YtnknmmbnhoanfaaGreatDoor
