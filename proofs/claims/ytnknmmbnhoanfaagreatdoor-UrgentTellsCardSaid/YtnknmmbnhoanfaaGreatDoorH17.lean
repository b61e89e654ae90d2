/- Texts joined. -/
import Derived.Test.YtnknmmbnhoanfaaGreatDoorH16
import Derived.Test.YtnknmmbnhoanfaaGreatDoorH08
import Derived.Test.YtnknmmbnhoanfaaGreatDoorH09
import Derived.Test.YtnknmmbnhoanfaaGreatDoorH05
import Derived.Test.YtnknmmbnhoanfaaGreatDoorH10
import Derived.Deep.CutBlock
import Derived.Deep.DeepCutAuto
set_option linter.unusedSimpArgs false
set_option linter.unusedVariables false
set_option maxHeartbeats 16000000
set_option maxRecDepth 100000
namespace Go.Proofs.YtnknmmbnhoanfaaGreatDoor
open Go.RowKit Go.Shelf Go.Cs
attribute [local go_sem] Oper.semAt_some


theorem begN_head (l:Bare.Bs) (d:Nat) (hd:d < 256):begN l d=true ↔ l.head? = some (UInt8.ofNat d):=by
 cases l with
 | nil=>simp [begN]
 | cons c l =>
  show decide (c.toNat=d)=true ↔ some c=some (UInt8.ofNat d)
  rw [decide_eq_true_eq,Option.some.injEq,← UInt8.toNat_inj]
  simp [Nat.mod_eq_of_lt hd]
theorem rinner_none {l:List Bare.Itm} {s:Bare.Bs} (hs:∀ r,Bare.skipB [32] s ≠ 41::r) (h:Bare.readItem (Bare.skipB [32] s)=none):Bare.readInner l s=none:=by
 rw [Bare.readInner.eq_def]
 split
 ·rename_i r0 h0
  exact absurd h0 (hs r0)
 ·split
  ·rfl
  ·rename_i x1 y1 h1
   rw [h] at h1
   cases h1
theorem inner_bad {l:List Bare.Itm} {s y:Bare.Bs} {x:Bare.Itm} (hs:∀ r,Bare.skipB [32] s ≠ 41::r) (h:Bare.readItem (Bare.skipB [32] s)=some (x,y)) (hy:¬ (y.head? = some 41 ∨ y.head? = some 32)):Bare.readInner l s=none:=by
 rw [Bare.readInner.eq_def]
 split
 ·rename_i r0 h0
  exact absurd h0 (hs r0)
 ·split
  ·rfl
  ·rename_i x1 y1 h1
   rw [h] at h1
   cases h1
   rw [if_neg hy]
theorem wpList_append_It {ops:Array Oper} {Q:Exit→Act→World→Prop} {rest:List Oper} {o:Oper} {a:Act} {w W:World} (s x:Operand) {base:Nat} {v:Value} {L:List Bare.Itm} {y:Bare.Itm} {ya:Option Addr} {yl yc:Nat} (hgd:o.guard=none) (hop:o.op = .call { callee:=.builtin .append,args:=#[s,x],argTypes:=#[41,41] })
  (hs:a.eval s=v) (hx:a.eval x = .slice (some ⟨w.heap.size,0,none⟩) 1 1) (hW:w.alloc (.cells (ics y (.slice ya yl yc)).toArray 85)=W) (hown:OwIt base w v L) (hy:RdP true w (.slice ya yl yc) y.params) (hn:L.length ≤ 2000000) (hbase:base ≤ w.heap.size)
  (h:∀ v' W',OwIt base W' v' (L ++ [y])→(∀ (w0:World) (S:Nat→Prop),Mods S w0 w→(∀ g,v.ownBlock=some g→w0.heap.size ≤ g ∨ S g)→Mods S w0 W')→wpList Tryz.prog ops Q rest (a.put o.dst v') W'):wpList Tryz.prog ops Q (o::rest) a W:=by
 refine wpList_plain hgd fun K hK=>?_
 obtain ⟨v',w',hr,ho,hg⟩:=run_append_It hop hs hx hW hown hy hn hbase
 unfold Oper.wp
 rw [hr]
 exact hK _ _ (h v' w' ho hg)
theorem member_end {fn:Func} {R:Ending→World→Prop} {tmps:Array Value} {W:World} {B:Nat} {a b c d v v2:Value} (hf:fn.results = #[.cell 2 44,.tmp 3,.tmp 4]) (hp:tmps.getD 2 undef = .pointer (some ⟨B,0,none⟩)) (hq:tmps.getD 3 undef=v) (hr:tmps.getD 4 undef=v2)
  (hg:W.heap[B]? = some (.cells #[a,b,c,d] 44 (0,0))) (hR:R (.returned (.tuple #[.agg #[a,b,c,d],v,v2])) W):bodyPost Tryz.prog fn R .ret ⟨tmps,[]⟩ W :=
 bodyPost_ret (results_row3 (p:=2) (q:=3) (r:=4) hf tmps W B 44 #[a,b,c,d] (0,0) _ hp hg Tryz.underlying44 rfl sizeM hq hr) rfl hR
def innR (s:Bare.Bs):Option (List Bare.Itm × List Bare.Par × Bare.Bs):=match Bare.readInner [] s with
 | none=>none
 | some (its,r)=>match Bare.readParams [] r with
  | none=>none
  | some (ps,q)=>some (its,ps,q)
def ReadI (r:Option (List Bare.Itm × List Bare.Par × Bare.Bs)) (e:Ending) (w':World):Prop:=match r with
 | none=>∃ (ia:Option Addr) (il ic:Nat),e = .returned (.tuple #[.agg #[.string ⟨#[]⟩,.bool true,.slice ia il ic,.slice none 0 0],.string ⟨#[]⟩,.bool false])
 | some (its,ps,q)=>∃ (ia pa:Option Addr) (ic pc:Nat),e = .returned (.tuple #[.agg #[.string ⟨#[]⟩,.bool true,.slice ia its.length ic,.slice pa ps.length pc],.string (tx q),.bool true])∧RdI true w' (.slice ia its.length ic) its∧RdP true w' (.slice pa ps.length pc) ps
theorem OwP.rdP {base:Nat} {W:World} {v:Value} {L:List Bare.Par} (h:OwP base W v L.length (pf L)) (hl:L.length ≤ 281474976710656):RdP true W v L:=⟨h.row hl,fun _=>h.tag⟩
theorem far_row {W:World} {B:Nat} {cs:Array Value} (r:W.heap[B]? = some (.cells cs 44 (0,0))):FarI W (fun b=>b=B):=fun g cs' t fr hg hc=>by
 subst hg
 rw [r] at hc
 cases hc
 decide
theorem readInner_r (s:ByteArray) (w:World) (hs:s.size ≤ 1000000) :
  Calls Tryz.prog 135 #[.string s] w fun e w'=>ReadI (innR (bl s)) e w'∧New w w':=by
 obtain ⟨R,hR⟩:∃ R,innR (bl s)=R:=⟨_,rfl⟩
 have HR:=Lib.hid hR
 rw [hR]
 clear hR
 have HBl:=Lib.hid (fun q h W=>blanks_r q false W h)
 have HBg:=Lib.hid (fun q d h hd W=>begins_r q d W h hd)
 have HIt:=Lib.hid (fun q h W=>readItem_r q W h)
 have HPs:=Lib.hid (fun q h W=>readParams_r q W h)
 obtain ⟨Post,hPost⟩:∃ Post:Ending→World→Prop,(fun e w'=>ReadI R e w'∧New w w')=Post:=⟨_,rfl⟩
 have HPost:=Lib.hid hPost
 rw [hPost]
 clear hPost
 go_enter Tryz.func135,Tryz.ntmps135
 go_upto_region 2 with fail
 obtain ⟨W1,B,M,hW1,hB,hM,rB,rM,hN1,hs1⟩:=pair_rows w #[.string ⟨#[]⟩,.bool false,.slice none 0 0,.slice none 0 0] #[.string ⟨#[]⟩,.bool true,.slice none 0 0,.slice none 0 0] 44 44
 have hBw:w.heap.size ≤ B:=by omega
 have hMB:B < M:=by omega
 have hs1':M + 1 ≤ W1.heap.size:=by omega
 try simp only [hW1,hB,hM]
 clear hW1 hB hs1 hM
 have hbl0:=HBl.out s hs
 rw [show blkL false = [32] from rfl] at hbl0
 have hR0:Hid ((match Bare.readInner [] (Bare.skipB [32] (bl s)) with | none=>none | some (its,r)=>match Bare.readParams [] r with | none=>none | some (ps,q)=>some (its,ps,q))=R):=Lib.hid (by rw [inner_skip,← HR.out];rfl)
 have hid0:=skip_idem [32] (bl s)
 have hln0:=Bare.skip_len [32] (bl s)
 rw [bl_len] at hln0
 obtain ⟨s1,hs1e⟩:∃ x,Bare.skipB [32] (bl s)=x:=⟨_,rfl⟩
 rw [hs1e] at hbl0 hR0 hid0 hln0
 obtain ⟨x1,hx1⟩:∃ x,tx s1=x:=⟨_,rfl⟩
 have hx1s:x1.size=s1.length:=by rw [← hx1,tx_size]
 have hx1b:bl x1=s1:=by rw [← hx1,bl_tx]
 rw [hx1] at hbl0
 rw [← hx1b] at hR0 hid0
 have hbl0:=Lib.hid hbl0
 clear hs1e hx1 HR
 go_upto_region 3 with (go_at_call 76;refine (hbl0.out _).mono ?_;rintro e w' ⟨rfl,rfl⟩)
 rename_i WW
 clear hbl0
 go_loopw [0] (fun t wr=>∃ (q:ByteArray) (its:List Bare.Itm) (iv:Value),t = .string q∧q.size ≤ s.size∧wr.heap[M]? = some (.cells #[.string ⟨#[]⟩,.bool true,iv,.slice none 0 0] 44 (0,0))∧wr.heap[B]? = some (.cells #[.string ⟨#[]⟩,.bool false,.slice none 0 0,.slice none 0 0] 44 (0,0))∧OwIt (M + 1) wr iv its∧its.length + q.size ≤ s.size∧Hid ((match Bare.readInner its (bl q) with | none=>none | some (its,r)=>match Bare.readParams [] r with | none=>none | some (ps,q)=>some (its,ps,q))=R)∧Bare.skipB [32] (bl q)=bl q∧New w wr∧M + 1 ≤ wr.heap.size) (fun t _=>match t with | .string q=>q.size | _=>0)
 case atStart=>exact ⟨x1,[],_,rfl,by omega,rM,rB,OwIt.nil _ _,by simp;omega,hR0,hid0,hN1,hs1'⟩
 case round =>
  clear hR0 hid0 hN1 rM rB hs1' hx1s hx1b hln0
  obtain ⟨wo,hwo⟩:∃ x,x=wr:=⟨_,rfl⟩
  subst hwo
  obtain ⟨q,its,iv,rfl,hq,rM,rB,ho,hlen,HR,hid,hN,hMs⟩:=hrel
  have hitl:its.length ≤ 2000000:=by omega
  obtain ⟨ia,ic,rfl⟩:=ho.slice
  have HID:=Lib.hid hid
  have HO:=Lib.hid ho
  have HRM:=Lib.hid rM
  have HRB:=Lib.hid rB
  clear hid ho rM rB
  cases h41:begN (bl q) 41 with
  | true =>
   have hb:Hid (∀ W,Calls Tryz.prog 79 #[.string q,.int .u8 41] W fun e w'=>e = .returned (.bool true)∧w'=W):=Lib.hid fun W=>(HBg.out q 41 (by omega) (by decide) W).mono fun e w' h=>by rw [h41] at h;exact h
   obtain ⟨hq0,hq1⟩:=begN_yes (by decide) h41
   have hsl:∀ W,(Instr.slice 9 (.string q) (some (.int .i64 1)) none none).run Tryz.prog W = .ok (.string (tx ((bl q).drop 1))) W:=run_sl_l q 1 (by omega)
   obtain ⟨r,hr⟩:∃ r,(bl q).drop 1=r:=⟨_,rfl⟩
   have hrl:r.length + 1=q.size:=by rw [← hr,List.length_drop,bl_len];omega
   have hRs:=HR.out
   rw [hr] at hq1 hsl
   rw [hq1,show (UInt8.ofNat 41:UInt8)=41 from rfl,Bare.readInner_close] at hRs
   simp only at hRs
   obtain ⟨rx,hrx⟩:∃ x,tx r=x:=⟨_,rfl⟩
   have hrs:rx.size=r.length:=by rw [← hrx,tx_size]
   have hrb:bl rx=r:=by rw [← hrx,bl_tx]
   rw [hrx] at hsl
   have HQ:=HPs.out rx (by omega) wo
   rw [hrb] at HQ
   unfold ReadPs at HQ
   have HQ:=Lib.hid HQ
   clear HR h41 hq1 hr hrx HBg HBl HIt HPs
   cases hp:Bare.readParams [] r with
   | none =>
    rw [hp] at HQ hRs
    simp only at HQ hRs
    clear hp
    go_upto_region 10 with (first | (go_at_call 79;refine (hb.out _).mono ?_;rintro e w' ⟨rfl,rfl⟩) | (go_at_call 137;refine HQ.out.mono ?_;rintro e w4 ⟨rfl,hN4⟩))
    have rM4:=hN4.heap HRM.out id
    have rB4:=hN4.heap HRB.out id
    have HOw4:=Lib.hid (HO.out.new hN4)
    have c3:=cell_of_row _ _ 3 _ _ _ rM4
    simp only [gS] at c3
    have f3:=frozen_row (i:=3) rM4
    obtain ⟨il,hil⟩:∃ n,its.length=n:=⟨_,rfl⟩
    have HIL:=Lib.hid hil
    rw [hil] at rM4
    clear HQ hb hsl hil
    go_upto_region 11 with fail
    have hm5:=setMods w4 M 3 (.slice none 0 0)
    have rM5:=setCell_heap (i:=3) rM4 (.slice none 0 0)
    simp only [pS] at rM5
    have rB5:=hm5.heap rB4 (by omega)
    obtain ⟨w5,hw5⟩:∃ V,w4.setCell ⟨M,3,none⟩ (.slice none 0 0)=V:=⟨_,rfl⟩
    rw [hw5] at hm5 rM5 rB5 ⊢
    clear hw5 c3 f3
    have hone:=mcs_one ⟨#[]⟩ true ia none il ic 0 0
    go_wp2_with (first | (refine op_value rfl (run_load_row 44 (.tmp 5) rfl M rfl 44 _ (0,0) _ rM5 Tryz.underlying44 rfl sizeM) ?_) | (refine op_skip rfl (run_store_row 44 (.tmp 2) (.tmp 54) rfl B rfl 44 [.string ⟨#[]⟩,.bool false,.slice none 0 0,.slice none 0 0] [.string ⟨#[]⟩,.bool true,.slice ia il ic,.slice none 0 0] rfl rB5 sizeM rfl hone) ?_))
    have hrow:=setRow_heap w5 B _ #[.string ⟨#[]⟩,.bool true,.slice ia il ic,.slice none 0 0] _ _ rB5
    have hm6:=mods_setRow rB5 #[.string ⟨#[]⟩,.bool true,.slice ia il ic,.slice none 0 0]
    have hNf:New w (w5.setRow B #[.string ⟨#[]⟩,.bool true,.slice ia il ic,.slice none 0 0]):=(((Mods.ofNew (hN.trans hN4)).trans hm5).new (fun g hg=>by omega)).setRow hBw _
    refine member_end (by kernel_rfl) rfl rfl rfl hrow ?_
    rw [← HPost.out]
    subst hRs
    exact ⟨⟨_,_,_,rfl⟩,hNf⟩
   | some pr =>
    obtain ⟨ps,r'⟩:=pr
    rw [hp] at HQ hRs
    simp only at HQ hRs
    obtain ⟨rx',hrx'⟩:∃ x,tx r'=x:=⟨_,rfl⟩
    have HRX:=Lib.hid hrx'
    rw [hrx'] at HQ
    have hpln:=(readParams_nil r.length (Nat.le_refl _) hp).1
    have hpl2:ps.length ≤ 281474976710656:=by omega
    clear hp hrx' hpln
    go_upto_region 10 with (first | (go_at_call 79;refine (hb.out _).mono ?_;rintro e w' ⟨rfl,rfl⟩) | (go_at_call 137;refine HQ.out.mono ?_;rintro e w4 ⟨⟨v4,rfl,ho4⟩,hN4⟩;obtain ⟨pa,pc,rfl⟩:=ho4.slice))
    have HO4:=Lib.hid ho4
    obtain ⟨pn,hpn⟩:∃ n,ps.length=n:=⟨_,rfl⟩
    have HPN:=Lib.hid hpn
    rw [hpn] at HO4 ⊢
    clear ho4 hpn
    have rM4:=hN4.heap HRM.out id
    have rB4:=hN4.heap HRB.out id
    have HOw4:=Lib.hid (HO.out.new hN4)
    have c3:=cell_of_row _ _ 3 _ _ _ rM4
    simp only [gS] at c3
    have f3:=frozen_row (i:=3) rM4
    obtain ⟨il,hil⟩:∃ n,its.length=n:=⟨_,rfl⟩
    have HIL:=Lib.hid hil
    rw [hil] at rM4
    clear HQ hb hsl hil
    go_upto_region 11 with fail
    have hm5:=setMods w4 M 3 (.slice pa pn pc)
    have rM5:=setCell_heap (i:=3) rM4 (.slice pa pn pc)
    simp only [pS] at rM5
    have rB5:=hm5.heap rB4 (by omega)
    obtain ⟨w5,hw5⟩:∃ V,w4.setCell ⟨M,3,none⟩ (.slice pa pn pc)=V:=⟨_,rfl⟩
    rw [hw5] at hm5 rM5 rB5 ⊢
    clear hw5 c3 f3
    have hone:=mcs_one ⟨#[]⟩ true ia pa il ic pn pc
    go_wp2_with (first | (refine op_value rfl (run_load_row 44 (.tmp 5) rfl M rfl 44 _ (0,0) _ rM5 Tryz.underlying44 rfl sizeM) ?_) | (refine op_skip rfl (run_store_row 44 (.tmp 2) (.tmp 54) rfl B rfl 44 [.string ⟨#[]⟩,.bool false,.slice none 0 0,.slice none 0 0] [.string ⟨#[]⟩,.bool true,.slice ia il ic,.slice pa pn pc] rfl rB5 sizeM rfl hone) ?_))
    have hrow:=setRow_heap w5 B _ #[.string ⟨#[]⟩,.bool true,.slice ia il ic,.slice pa pn pc] _ _ rB5
    have hm6:=mods_setRow rB5 #[.string ⟨#[]⟩,.bool true,.slice ia il ic,.slice pa pn pc]
    have hNf:New w (w5.setRow B #[.string ⟨#[]⟩,.bool true,.slice ia il ic,.slice pa pn pc]):=(((Mods.ofNew (hN.trans hN4)).trans hm5).new (fun g hg=>by omega)).setRow hBw _
    refine member_end (by kernel_rfl) rfl rfl rfl hrow ?_
    rw [← HPost.out]
    subst hRs
    refine ⟨⟨ia,pa,ic,pc,?_,?_,?_⟩,hNf⟩
    ·rw [HRX.out,HPN.out,HIL.out];rfl
    ·exact (((HOw4.out.reads hitl).far hm5 (far_row rM4)).far hm6 (far_row rB5))
    ·rw [HPN.out]
     have h1:RdP true w4 (.slice pa pn pc) ps:=by rw [← HPN.out] at HO4 ⊢;exact HO4.out.rdP hpl2
     exact (h1.far hm5 (far_row rM4)).far hm6 (far_row rB5)
  | false =>
   have hb:Hid (∀ W,Calls Tryz.prog 79 #[.string q,.int .u8 41] W fun e w'=>e = .returned (.bool false)∧w'=W):=Lib.hid fun W=>(HBg.out q 41 (by omega) (by decide) W).mono fun e w' h=>by rw [h41] at h;exact h
   have hno:=begN_no (by decide) h41
   rw [show (UInt8.ofNat 41:UInt8)=41 from rfl] at hno
   have hns:∀ r,Bare.skipB [32] (bl q) ≠ 41::r:=fun r e=>by rw [HID.out] at e;rw [e] at hno;exact hno rfl
   have HX:=HIt.out q (by omega) wo
   unfold ReadX ics at HX
   cases hx:Bare.readItem (bl q) with
   | none =>
    have hRR:R=none:=by rw [← HR.out,rinner_none hns (by rw [HID.out];exact hx)]
    rw [hx] at HX
    simp only at HX
    have HX:=Lib.hid HX
    have hb1:=hb
    have hb2:=hb
    clear hx hns hno h41 HR HBg HBl HIt HPs
    go_upto_region 6 with (first | (go_at_call 79;first | (with_reducible refine (hb.out _).mono ?_;rintro e w' ⟨rfl,rfl⟩) | (with_reducible refine (hb1.out _).mono ?_;rintro e w' ⟨rfl,rfl⟩) | (with_reducible refine (hb2.out _).mono ?_;rintro e w' ⟨rfl,rfl⟩)) | (go_at_call 136;refine HX.out.mono ?_;rintro e w4 ⟨⟨xk,xn,xt,xy,rfl⟩,hN4⟩))
    have hA4:New w4 (w4.alloc (.cells #[.int .u8 xk,.int .i64 xn,.string xt,.bool xy,.slice none 0 0] 85)):=(Mods.refl _ _).alloc _
    have rM4:=(hN4.trans hA4).heap HRM.out id
    have rB4:=(hN4.trans hA4).heap HRB.out id
    have hN5:=(hN.trans hN4).trans hA4
    obtain ⟨w5,hw5⟩:∃ V,w4.alloc (.cells #[.int .u8 xk,.int .i64 xn,.string xt,.bool xy,.slice none 0 0] 85)=V:=⟨_,rfl⟩
    rw [hw5] at rM4 rB4 hN5 ⊢
    clear hw5 hA4 HX
    obtain ⟨il,hil⟩:∃ n,its.length=n:=⟨_,rfl⟩
    rw [hil] at rM4
    have hone:=mcs_one ⟨#[]⟩ true ia none il ic 0 0
    go_wp2_with (first | (refine op_value rfl (run_load_row 44 (.tmp 5) rfl M rfl 44 _ (0,0) _ rM4 Tryz.underlying44 rfl sizeM) ?_) | (refine op_skip rfl (run_store_row 44 (.tmp 2) (.tmp 36) rfl B rfl 44 [.string ⟨#[]⟩,.bool false,.slice none 0 0,.slice none 0 0] [.string ⟨#[]⟩,.bool true,.slice ia il ic,.slice none 0 0] rfl rB4 sizeM rfl hone) ?_))
    have hrow:=setRow_heap w5 B _ #[.string ⟨#[]⟩,.bool true,.slice ia il ic,.slice none 0 0] _ _ rB4
    refine member_end (by kernel_rfl) rfl rfl rfl hrow ?_
    rw [← HPost.out]
    subst hRR
    exact ⟨⟨_,_,_,rfl⟩,hN5.setRow hBw _⟩
   | some xr =>
    obtain ⟨x,y⟩:=xr
    have hxl0:=Bare.readItem_len hx
    rw [bl_len] at hxl0
    have hxl:x.params.length ≤ 281474976710656:=by
     have:=(readItem_sz (bl q).length (Nat.le_refl _) hx).2.1
     rw [bl_len] at this
     omega
    rw [hx] at HX
    simp only at HX
    obtain ⟨yx,hyx⟩:∃ z,tx y=z:=⟨_,rfl⟩
    have hys:yx.size=y.length:=by rw [← hyx,tx_size]
    have hyb:bl yx=y:=by rw [← hyx,bl_tx]
    rw [hyx] at HX
    have HX:=Lib.hid HX
    have hb1:Hid (∀ W,Calls Tryz.prog 79 #[.string yx,.int .u8 41] W fun e w'=>e = .returned (.bool (begN y 41))∧w'=W):=Lib.hid fun W=>(HBg.out yx 41 (by omega) (by decide) W).mono fun e w' h=>by rw [hyb] at h;exact h
    have hb2:Hid (∀ W,Calls Tryz.prog 79 #[.string yx,.int .u8 32] W fun e w'=>e = .returned (.bool (begN y 32))∧w'=W):=Lib.hid fun W=>(HBg.out yx 32 (by omega) (by decide) W).mono fun e w' h=>by rw [hyb] at h;exact h
    have hh41:=begN_head y 41 (by decide)
    have hh32:=begN_head y 32 (by decide)
    rw [show (UInt8.ofNat 41:UInt8)=41 from rfl] at hh41
    rw [show (UInt8.ofNat 32:UInt8)=32 from rfl] at hh32
    have hbad:begN y 41=false→begN y 32=false→R=none:=fun h1 h2=>by
     rw [← HR.out,inner_bad hns (by rw [HID.out];exact hx) (by rw [← hh41,← hh32,h1,h2];simp)]
    have hblk:=HBl.out yx (by omega)
    rw [hyb,show blkL false = [32] from rfl] at hblk
    obtain ⟨z,hz⟩:∃ z,Bare.skipB [32] y=z:=⟨_,rfl⟩
    have hzl:z.length ≤ y.length:=by rw [← hz];exact Bare.skip_len _ _
    have hzi:Bare.skipB [32] z=z:=by rw [← hz];exact skip_idem _ _
    have hgood:begN y 41=true ∨ begN y 32=true→Hid ((match Bare.readInner (its ++ [x]) z with | none=>none | some (its,r)=>match Bare.readParams [] r with | none=>none | some (ps,q)=>some (its,ps,q))=R):=fun h=>Lib.hid (by
     rw [← HR.out,Bare.readInner_item hns (by rw [HID.out];exact hx) (by rw [← hh41,← hh32];exact h),← hz,inner_skip])
    rw [hz] at hblk
    obtain ⟨zx,hzx⟩:∃ x,tx z=x:=⟨_,rfl⟩
    have hzs:zx.size=z.length:=by rw [← hzx,tx_size]
    have hzb:bl zx=z:=by rw [← hzx,bl_tx]
    rw [hzx] at hblk
    have HBk:=Lib.hid hblk
    obtain ⟨b1,e1⟩:∃ b,begN y 41=b:=⟨_,rfl⟩
    obtain ⟨b2,e2⟩:∃ b,begN y 32=b:=⟨_,rfl⟩
    rw [e1] at hb1 hbad hgood
    rw [e2] at hb2 hbad hgood
    have HGd:=Lib.hid hgood
    have HBd:=Lib.hid hbad
    clear hx hns hno h41 HR HBg HBl HIt HPs hblk hgood hbad hh41 hh32 e1 e2 hz hyx hzx
    cases b1 with
    | true =>
     replace HGd:=HGd.out (.inl rfl)
     go_upto_region 7 with (first | (go_at_call 79;first | (with_reducible refine (hb.out _).mono ?_;rintro e w' ⟨rfl,rfl⟩) | (with_reducible refine (hb1.out _).mono ?_;rintro e w' ⟨rfl,rfl⟩) | (with_reducible refine (hb2.out _).mono ?_;rintro e w' ⟨rfl,rfl⟩)) | (go_at_call 136;refine HX.out.mono ?_;rintro e w4 ⟨⟨pa,pc,rfl,ho4⟩,hN4⟩))
     have hA4:New w4 (w4.alloc (.cells #[.int .u8 x.bare.kind,.int .i64 x.bare.int,.string (tx x.bare.text),.bool x.bare.yes,.slice pa x.params.length pc] 85)):=(Mods.refl _ _).alloc _
     have rX:=World.alloc_heap_new w4 (.cells #[.int .u8 x.bare.kind,.int .i64 x.bare.int,.string (tx x.bare.text),.bool x.bare.yes,.slice pa x.params.length pc] 85)
     have rM4:=(hN4.trans hA4).heap HRM.out id
     have rB4:=(hN4.trans hA4).heap HRB.out id
     have hN5:=(hN.trans hN4).trans hA4
     have HO5:=Lib.hid (HO.out.new (hN4.trans hA4))
     have hx5:RdP true _ (.slice pa x.params.length pc) x.params:=(ho4.rdP hxl).new hA4
     have HX5:=Lib.hid hx5
     obtain ⟨w5,hw5⟩:∃ V,w4.alloc (.cells #[.int .u8 x.bare.kind,.int .i64 x.bare.int,.string (tx x.bare.text),.bool x.bare.yes,.slice pa x.params.length pc] 85)=V:=⟨_,rfl⟩
     obtain ⟨X,hX⟩:∃ b,w4.heap.size=b:=⟨_,rfl⟩
     rw [hw5] at rX rM4 rB4 hN5 HO5 HX5 hA4 ⊢
     rw [hX] at rX ⊢
     have hM5:M + 1 ≤ w5.heap.size:=by have:=hA4.size;have:=hN4.size;omega
     clear hx5 hw5 hX hA4 HX ho4
     have c2:=cell_of_row _ _ 2 _ _ _ rM4
     have k0:=cell_of_row _ _ 0 _ _ _ rX
     have k1:=cell_of_row _ _ 1 _ _ _ rX
     have k2:=cell_of_row _ _ 2 _ _ _ rX
     have k3:=cell_of_row _ _ 3 _ _ _ rX
     have k4:=cell_of_row _ _ 4 _ _ _ rX
     simp only [gS] at c2 k0 k1 k2 k3 k4
     have HRM4:=Lib.hid rM4
     have HRB4:=Lib.hid rB4
     clear rX rM4 rB4
     go_wp2_with (at_builtin;refine wpList_append_It (w:=w5) (y:=x) (ya:=pa) (yl:=x.params.length) (yc:=pc) _ _ rfl rfl rfl rfl rfl HO5.out HX5.out hitl hM5 ?_;intro v6 w6 ho6 hm6;obtain ⟨ja,jc,rfl⟩:=ho6.slice;have hmm6:=hm6 w5 (fun b=>Value.ownBlock (.slice ia its.length ic)=some b) (Mods.refl _ _) (fun g hg=>.inr hg);have rM6:=hmm6.heap HRM4.out (fun e=>by have:=(HO5.out.lt e).1;omega);have c6:=cell_of_row _ _ 2 _ _ _ rM6;have f6:=frozen_row (i:=2) rM6;simp only [gS] at c6)
     have el:(its ++ [x]).length=its.length + 1:=by simp
     rw [el] at ho6
     have hm7:=setMods w6 M 2 (.slice ja (its.length + 1) jc)
     have rM7:=setCell_heap (i:=2) rM6 (.slice ja (its.length + 1) jc)
     simp only [pS] at rM7
     have rB7:=hm7.heap (hmm6.heap HRB4.out (fun e=>by have:=(HO5.out.lt e).1;omega)) (by omega)
     have hN6:New w w6:=hm6 w (fun _=>False) hN5 (fun g hg=>.inl (by have:=(HO5.out.lt hg).1;omega))
     have hN7:New w _:=((Mods.ofNew hN6).trans hm7).new (fun g hg=>by omega)
     have ho7:=ho6.modB rM6 hm7
     have hsz7:=hm7.size
     have hsz6:=hmm6.size
     refine (HBk.out _).mono ?_
     rintro e w8 ⟨rfl,rfl⟩
     clear c6 f6 c2 k0 k1 k2 k3 k4
     go_wp2_with fail
     go_roundw
     case rel=>exact ⟨zx,its ++ [x],_,rfl,by omega,rM7,rB7,ho7,by rw [el];omega,by rw [hzb];exact HGd,by rw [hzb];exact hzi,hN7,by omega⟩
     case measure=>simp;omega
    | false =>
     cases b2 with
     | true =>
      replace HGd:=HGd.out (.inr rfl)
      go_upto_region 7 with (first | (go_at_call 79;first | (with_reducible refine (hb.out _).mono ?_;rintro e w' ⟨rfl,rfl⟩) | (with_reducible refine (hb1.out _).mono ?_;rintro e w' ⟨rfl,rfl⟩) | (with_reducible refine (hb2.out _).mono ?_;rintro e w' ⟨rfl,rfl⟩)) | (go_at_call 136;refine HX.out.mono ?_;rintro e w4 ⟨⟨pa,pc,rfl,ho4⟩,hN4⟩))
      have hA4:New w4 (w4.alloc (.cells #[.int .u8 x.bare.kind,.int .i64 x.bare.int,.string (tx x.bare.text),.bool x.bare.yes,.slice pa x.params.length pc] 85)):=(Mods.refl _ _).alloc _
      have rX:=World.alloc_heap_new w4 (.cells #[.int .u8 x.bare.kind,.int .i64 x.bare.int,.string (tx x.bare.text),.bool x.bare.yes,.slice pa x.params.length pc] 85)
      have rM4:=(hN4.trans hA4).heap HRM.out id
      have rB4:=(hN4.trans hA4).heap HRB.out id
      have hN5:=(hN.trans hN4).trans hA4
      have HO5:=Lib.hid (HO.out.new (hN4.trans hA4))
      have hx5:RdP true _ (.slice pa x.params.length pc) x.params:=(ho4.rdP hxl).new hA4
      have HX5:=Lib.hid hx5
      obtain ⟨w5,hw5⟩:∃ V,w4.alloc (.cells #[.int .u8 x.bare.kind,.int .i64 x.bare.int,.string (tx x.bare.text),.bool x.bare.yes,.slice pa x.params.length pc] 85)=V:=⟨_,rfl⟩
      obtain ⟨X,hX⟩:∃ b,w4.heap.size=b:=⟨_,rfl⟩
      rw [hw5] at rX rM4 rB4 hN5 HO5 HX5 hA4 ⊢
      rw [hX] at rX ⊢
      have hM5:M + 1 ≤ w5.heap.size:=by have:=hA4.size;have:=hN4.size;omega
      clear hx5 hw5 hX hA4 HX ho4
      have c2:=cell_of_row _ _ 2 _ _ _ rM4
      have k0:=cell_of_row _ _ 0 _ _ _ rX
      have k1:=cell_of_row _ _ 1 _ _ _ rX
      have k2:=cell_of_row _ _ 2 _ _ _ rX
      have k3:=cell_of_row _ _ 3 _ _ _ rX
      have k4:=cell_of_row _ _ 4 _ _ _ rX
      simp only [gS] at c2 k0 k1 k2 k3 k4
      have HRM4:=Lib.hid rM4
      have HRB4:=Lib.hid rB4
      clear rX rM4 rB4
      go_wp2_with (at_builtin;refine wpList_append_It (w:=w5) (y:=x) (ya:=pa) (yl:=x.params.length) (yc:=pc) _ _ rfl rfl rfl rfl rfl HO5.out HX5.out hitl hM5 ?_;intro v6 w6 ho6 hm6;obtain ⟨ja,jc,rfl⟩:=ho6.slice;have hmm6:=hm6 w5 (fun b=>Value.ownBlock (.slice ia its.length ic)=some b) (Mods.refl _ _) (fun g hg=>.inr hg);have rM6:=hmm6.heap HRM4.out (fun e=>by have:=(HO5.out.lt e).1;omega);have c6:=cell_of_row _ _ 2 _ _ _ rM6;have f6:=frozen_row (i:=2) rM6;simp only [gS] at c6)
      have el:(its ++ [x]).length=its.length + 1:=by simp
      rw [el] at ho6
      have hm7:=setMods w6 M 2 (.slice ja (its.length + 1) jc)
      have rM7:=setCell_heap (i:=2) rM6 (.slice ja (its.length + 1) jc)
      simp only [pS] at rM7
      have rB7:=hm7.heap (hmm6.heap HRB4.out (fun e=>by have:=(HO5.out.lt e).1;omega)) (by omega)
      have hN6:New w w6:=hm6 w (fun _=>False) hN5 (fun g hg=>.inl (by have:=(HO5.out.lt hg).1;omega))
      have hN7:New w _:=((Mods.ofNew hN6).trans hm7).new (fun g hg=>by omega)
      have ho7:=ho6.modB rM6 hm7
      have hsz7:=hm7.size
      have hsz6:=hmm6.size
      refine (HBk.out _).mono ?_
      rintro e w8 ⟨rfl,rfl⟩
      clear c6 f6 c2 k0 k1 k2 k3 k4
      go_wp2_with fail
      go_roundw
      case rel=>exact ⟨zx,its ++ [x],_,rfl,by omega,rM7,rB7,ho7,by rw [el];omega,by rw [hzb];exact HGd,by rw [hzb];exact hzi,hN7,by omega⟩
      case measure=>simp;omega
     | false =>
      have hRR:=HBd.out rfl rfl
      go_upto_region 6 with (first | (go_at_call 79;first | (with_reducible refine (hb.out _).mono ?_;rintro e w' ⟨rfl,rfl⟩) | (with_reducible refine (hb1.out _).mono ?_;rintro e w' ⟨rfl,rfl⟩) | (with_reducible refine (hb2.out _).mono ?_;rintro e w' ⟨rfl,rfl⟩)) | (go_at_call 136;refine HX.out.mono ?_;rintro e w4 ⟨⟨pa,pc,rfl,ho4⟩,hN4⟩))
      have hA4:New w4 (w4.alloc (.cells #[.int .u8 x.bare.kind,.int .i64 x.bare.int,.string (tx x.bare.text),.bool x.bare.yes,.slice pa x.params.length pc] 85)):=(Mods.refl _ _).alloc _
      have rM4:=(hN4.trans hA4).heap HRM.out id
      have rB4:=(hN4.trans hA4).heap HRB.out id
      have hN5:=(hN.trans hN4).trans hA4
      obtain ⟨w5,hw5⟩:∃ V,w4.alloc (.cells #[.int .u8 x.bare.kind,.int .i64 x.bare.int,.string (tx x.bare.text),.bool x.bare.yes,.slice pa x.params.length pc] 85)=V:=⟨_,rfl⟩
      rw [hw5] at rM4 rB4 hN5 ⊢
      clear hw5 hA4 HX ho4
      obtain ⟨il,hil⟩:∃ n,its.length=n:=⟨_,rfl⟩
      rw [hil] at rM4
      have hone:=mcs_one ⟨#[]⟩ true ia none il ic 0 0
      go_wp2_with (first | (refine op_value rfl (run_load_row 44 (.tmp 5) rfl M rfl 44 _ (0,0) _ rM4 Tryz.underlying44 rfl sizeM) ?_) | (refine op_skip rfl (run_store_row 44 (.tmp 2) (.tmp 36) rfl B rfl 44 [.string ⟨#[]⟩,.bool false,.slice none 0 0,.slice none 0 0] [.string ⟨#[]⟩,.bool true,.slice ia il ic,.slice none 0 0] rfl rB4 sizeM rfl hone) ?_))
      have hrow:=setRow_heap w5 B _ #[.string ⟨#[]⟩,.bool true,.slice ia il ic,.slice none 0 0] _ _ rB4
      refine member_end (by kernel_rfl) rfl rfl rfl hrow ?_
      rw [← HPost.out]
      subst hRR
      exact ⟨⟨_,_,_,rfl⟩,hN5.setRow hBw _⟩


theorem rest_inner (k r:Bare.Bs):Bare.readRest k (61::40::r)=(innR r).map fun x=>(⟨k,true,x.1,x.2.1⟩,x.2.2):=by
 unfold Bare.readRest innR
 cases h:Bare.readInner [] r with
 | none=>simp only [h,Option.map]
 | some x =>
  obtain ⟨its,q⟩:=x
  cases h2:Bare.readParams [] q with
  | none=>simp only [h,h2,Option.map]
  | some y=>simp only [h,h2,Option.map]
theorem rest_item (k:Bare.Bs) {r:Bare.Bs} (h:r.head? ≠ some 40):Bare.readRest k (61::r)=(Bare.readItem r).map fun x=>(⟨k,false,[x.1],[]⟩,x.2):=by
 unfold Bare.readRest
 split
 ·rename_i r1 e
  cases e
  exact absurd rfl h
 ·rename_i r1 _ e
  cases e
  cases Bare.readItem r with
  | none=>rfl
  | some y=>rfl
 ·rename_i h1 h2
  exact absurd rfl (h2 r)
theorem rest_none (k:Bare.Bs) {r:Bare.Bs} (h:r.head? ≠ some 61):Bare.readRest k r=(Bare.readParams [] r).map fun x=>(⟨k,false,[⟨Bare.yesI,x.1⟩],[]⟩,x.2):=by
 unfold Bare.readRest
 split
 ·exact absurd rfl h
 ·exact absurd rfl h
 ·cases Bare.readParams [] r with
  | none=>rfl
  | some y=>rfl
theorem RdI.one {W:World} {A:Nat} {x:Bare.Itm} {pv:Value} {fr:Nat × Nat} (h:W.heap[A]? = some (.cells (ics x pv).toArray 85 fr)) (hp:RdP true W pv x.params):RdI true W (.slice (some ⟨A,0,none⟩) 1 1) [x]:=by
 refine ⟨fun _=>pv,⟨by show 1 ≤ _;omega,some ⟨A,0,none⟩,1,rfl,fun i hi=>⟨A,0,rfl,?_⟩⟩,fun _ g hg=>by cases hg;exact ⟨_,_,h⟩,fun i hi=>?_⟩
 ·obtain rfl:i=0:=by simp at hi;omega
  intro j v hv
  have c:=cell_of_row _ _ j _ _ _ h
  simp only [Nat.zero_mul,Nat.add_zero,Nat.zero_add]
  rw [c,List.getElem?_toArray]
  exact hv
 ·obtain rfl:i=0:=by simp at hi;omega
  exact hp
def InnK (r:Option (List Bare.Itm × List Bare.Par × Bare.Bs)) (w':World) (iv pv:Value) (t:ByteArray) (ok:Bool):Prop:=match r with
 | none=>ok=false
 | some (its,ps,q)=>ok=true∧t=tx q∧RdI true w' iv its∧RdP true w' pv ps
def ItmK (r:Option (Bare.Itm × Bare.Bs)) (w':World) (k n:Int) (t:ByteArray) (y:Bool) (pv:Value) (q:ByteArray) (ok:Bool):Prop:=match r with
 | none=>ok=false
 | some (x,q')=>ok=true∧q=tx q'∧k=x.bare.kind∧n=x.bare.int∧t=tx x.bare.text∧y=x.bare.yes∧RdP true w' pv x.params
def ParK (r:Option (List Bare.Par × Bare.Bs)) (w':World) (pv:Value) (q:ByteArray) (ok:Bool):Prop:=match r with
 | none=>ok=false
 | some (ps,q')=>ok=true∧q=tx q'∧RdP true w' pv ps
def MemK (r:Option (Bare.Mem × Bare.Bs)) (w':World) (kx:ByteArray) (yb:Bool) (iv pv:Value) (t:ByteArray) (ok:Bool):Prop:=match r with
 | none=>ok=false
 | some (m,q)=>ok=true∧t=tx q∧kx=tx m.key∧yb=m.inner∧RdI true w' iv m.items∧RdP true w' pv m.params
theorem ReadI.all {r:Option (List Bare.Itm × List Bare.Par × Bare.Bs)} {e:Ending} {w':World} (h:ReadI r e w'):∃ (ia pa:Option Addr) (il ic pl pc:Nat) (t:ByteArray) (ok:Bool),e = .returned (.tuple #[.agg #[.string ⟨#[]⟩,.bool true,.slice ia il ic,.slice pa pl pc],.string t,.bool ok])∧InnK r w' (.slice ia il ic) (.slice pa pl pc) t ok:=by
 cases r with
 | none =>
  obtain ⟨ia,il,ic,e⟩:=h
  exact ⟨ia,none,il,ic,0,0,_,_,e,rfl⟩
 | some x =>
  obtain ⟨its,ps,q⟩:=x
  obtain ⟨ia,pa,ic,pc,e,h1,h2⟩:=h
  exact ⟨ia,pa,_,ic,_,pc,_,_,e,rfl,rfl,h1,h2⟩
theorem ReadX.all {r:Option (Bare.Itm × Bare.Bs)} {base:Nat} {e:Ending} {w':World} (h:ReadX r base e w') (hs:∀ x q,r=some (x,q)→x.params.length ≤ 281474976710656):∃ (k n:Int) (t:ByteArray) (y:Bool) (pa:Option Addr) (pl pc:Nat) (q:ByteArray) (ok:Bool),e = .returned (.tuple #[.agg #[.int .u8 k,.int .i64 n,.string t,.bool y,.slice pa pl pc],.string q,.bool ok])∧ItmK r w' k n t y (.slice pa pl pc) q ok:=by
 cases r with
 | none =>
  obtain ⟨k,n,t,y,e⟩:=h
  exact ⟨k,n,t,y,none,0,0,_,_,e,rfl⟩
 | some x =>
  obtain ⟨x,q⟩:=x
  obtain ⟨pa,pc,e,h1⟩:=h
  exact ⟨_,_,_,_,pa,_,pc,_,_,e,rfl,rfl,rfl,rfl,rfl,rfl,h1.rdP (hs _ _ rfl)⟩
theorem ReadPs.all {r:Option (List Bare.Par × Bare.Bs)} {base:Nat} {e:Ending} {w':World} (h:ReadPs r base e w') (hs:∀ x q,r=some (x,q)→x.length ≤ 281474976710656):∃ (pa:Option Addr) (pl pc:Nat) (q:ByteArray) (ok:Bool),e = .returned (.tuple #[.slice pa pl pc,.string q,.bool ok])∧ParK r w' (.slice pa pl pc) q ok:=by
 cases r with
 | none=>exact ⟨none,0,0,_,_,h,rfl⟩
 | some x =>
  obtain ⟨ps,q⟩:=x
  obtain ⟨v,e,h1⟩:=h
  obtain ⟨pa,pc,rfl⟩:=h1.slice
  exact ⟨pa,_,pc,_,_,e,rfl,rfl,h1.rdP (hs _ _ rfl)⟩
def ReadM (r:Option (Bare.Mem × Bare.Bs)) (e:Ending) (w':World):Prop:=∃ (kx:ByteArray) (yb:Bool) (ia pa:Option Addr) (il ic pl pc:Nat) (t:ByteArray) (ok:Bool),e = .returned (.tuple #[.agg #[.string kx,.bool yb,.slice ia il ic,.slice pa pl pc],.string t,.bool ok])∧MemK r w' kx yb (.slice ia il ic) (.slice pa pl pc) t ok
theorem RdP.none (W:World):RdP true W (.slice none 0 0) []:=⟨RowR.nil _ _ _ _ _,fun _ g hg=>by cases hg⟩
theorem readMember_r (s:ByteArray) (w:World) (hs:s.size ≤ 1000000) :
  Calls Tryz.prog 77 #[.string s] w fun e w'=>ReadM (Bare.readMem (bl s)) e w'∧New w w':=by
 obtain ⟨R,hR⟩:∃ R,Bare.readMem (bl s)=R:=⟨_,rfl⟩
 have HR:=Lib.hid hR
 rw [hR]
 clear hR
 have hke:=fun W=>keyof_r s W hs
 have HBg:=Lib.hid (fun q d h hd W=>begins_r q d W h hd)
 have HIt:=Lib.hid (fun q h W=>readItem_r q W h)
 have HPs:=Lib.hid (fun q h W=>readParams_r q W h)
 have HIn:=Lib.hid (fun q h W=>readInner_r q W h)
 obtain ⟨Post,hPost⟩:∃ Post:Ending→World→Prop,(fun e w'=>ReadM R e w'∧New w w')=Post:=⟨_,rfl⟩
 have HPost:=Lib.hid hPost
 rw [hPost]
 clear hPost
 obtain ⟨K,hK⟩:∃ K,Bare.keyOf (bl s)=K:=⟨_,rfl⟩
 have HRR:Hid (R=if K.isEmpty then none else Bare.readRest K ((bl s).drop K.length)):=Lib.hid (by
  rw [← HR.out]
  unfold Bare.readMem Bare.readKey
  simp only
  rw [hK]
  cases K.isEmpty <;> rfl)
 rw [hK] at hke
 clear HR hK
 have hql:((bl s).drop K.length).length ≤ s.size:=by rw [List.length_drop,bl_len];omega
 obtain ⟨q,hq⟩:∃ q,(bl s).drop K.length=q:=⟨_,rfl⟩
 rw [hq] at hke HRR hql
 obtain ⟨kx,hkx⟩:∃ x,tx K=x:=⟨_,rfl⟩
 obtain ⟨rx,hrx⟩:∃ x,tx q=x:=⟨_,rfl⟩
 have hrs:rx.size=q.length:=by rw [← hrx,tx_size]
 have hrb:bl rx=q:=by rw [← hrx,bl_tx]
 rw [hkx,hrx] at hke
 have HKX:=Lib.hid hkx
 have HRB:=Lib.hid hrb
 have hrl:rx.size ≤ 1000000:=by omega
 clear hq hkx hrx hql hrb
 go_enter Tryz.func77,Tryz.ntmps77
 go_upto_region 1 with fail
 have hA:New w (w.alloc (.cells #[.string ⟨#[]⟩,.bool false,.slice none 0 0,.slice none 0 0] 44)):=(Mods.refl _ _).alloc _
 have rB:=World.alloc_heap_new w (.cells #[.string ⟨#[]⟩,.bool false,.slice none 0 0,.slice none 0 0] 44)
 obtain ⟨W1,hW1⟩:∃ V,w.alloc (.cells #[.string ⟨#[]⟩,.bool false,.slice none 0 0,.slice none 0 0] 44)=V:=⟨_,rfl⟩
 obtain ⟨B,hB⟩:∃ B,w.heap.size=B:=⟨_,rfl⟩
 rw [hW1] at hA rB ⊢
 rw [hB] at rB ⊢
 have hBw:w.heap.size ≤ B:=by omega
 clear hW1 hB
 cases hb:K.isEmpty with
 | true =>
  rw [hb] at hke
  have HKe:=Lib.hid hke
  have hRR:R=none:=by rw [HRR.out,hb];rfl
  clear hke HRR hb HIn HPs HIt HBg
  go_upto_region 2 with (go_at_call 134;refine (HKe.out _).mono ?_;rintro e w2 ⟨rfl,hN2⟩)
  have rB2:=hN2.heap rB id
  go_wp2_with (refine op_skip rfl (run_store_row 44 (.tmp 2) (.tmp 23) rfl B rfl 44 [.string ⟨#[]⟩,.bool false,.slice none 0 0,.slice none 0 0] [.string ⟨#[]⟩,.bool false,.slice none 0 0,.slice none 0 0] rfl rB2 sizeM rfl (mcs_one _ _ _ _ _ _ _ _)) ?_)
  have hrow:=setRow_heap _ B _ #[.string ⟨#[]⟩,.bool false,.slice none 0 0,.slice none 0 0] _ _ rB2
  refine member_end (by kernel_rfl) rfl rfl rfl hrow ?_
  rw [← HPost.out]
  subst hRR
  exact ⟨⟨_,_,_,_,_,_,_,_,_,_,rfl,rfl⟩,(hA.trans hN2).setRow hBw _⟩
 | false =>
 rw [hb] at hke
 have HKe:=Lib.hid hke
 have hRR:R=Bare.readRest K q:=by rw [HRR.out,hb];rfl
 have HRR:=Lib.hid hRR
 clear hke hb hRR
 go_upto_region 4 with (go_at_call 134;refine (HKe.out _).mono ?_;rintro e w2 ⟨rfl,hN2⟩)
 clear HKe
 go_upto_region 7 with fail
 obtain ⟨w3,M,hW3,hM,rM,hN3,hMs⟩:∃ V M,w2.alloc (.cells #[.string kx,.bool false,.slice none 0 0,.slice none 0 0] 44)=V∧w2.heap.size=M∧V.heap[M]? = some (.cells #[.string kx,.bool false,.slice none 0 0,.slice none 0 0] 44 (0,0))∧New w2 V∧M + 1=V.heap.size:=⟨_,_,rfl,rfl,World.alloc_heap_new _ _,(Mods.refl _ _).alloc _,by simp⟩
 rw [hW3,hM]
 have hBM:B < M:=by
  have h1:=(Array.getElem?_eq_some_iff.1 rB).1
  have:=hN2.size
  omega
 have hNw:=(hA.trans hN2).trans hN3
 have rB3:=(hN2.trans hN3).heap rB id
 clear hW3 hM rB hA hN2 hN3 W1 w2
 cases h61:begN q 61 with
 | true =>
  have hb:Hid (∀ W,Calls Tryz.prog 79 #[.string rx,.int .u8 61] W fun e w'=>e = .returned (.bool true)∧w'=W):=Lib.hid fun W=>(HBg.out rx 61 (by omega) (by decide) W).mono fun e w' h=>by rw [HRB.out,h61] at h;exact h
  obtain ⟨hq0,hq1⟩:=begN_yes (s:=rx) (d:=61) (by decide) (by rw [HRB.out];exact h61)
  rw [HRB.out,show (UInt8.ofNat 61:UInt8)=61 from rfl] at hq1
  have hsl:∀ W,(Instr.slice 9 (.string rx) (some (.int .i64 1)) none none).run Tryz.prog W = .ok (.string (tx ((bl rx).drop 1))) W:=run_sl_l rx 1 (by omega)
  rw [HRB.out] at hsl
  obtain ⟨q1,hqe⟩:∃ r,q.drop 1=r:=⟨_,rfl⟩
  rw [hqe] at hq1 hsl
  obtain ⟨sx,hsx⟩:∃ x,tx q1=x:=⟨_,rfl⟩
  have hss:sx.size=q1.length:=by rw [← hsx,tx_size]
  have hsb:bl sx=q1:=by rw [← hsx,bl_tx]
  have HSB:=Lib.hid hsb
  rw [hsx] at hsl
  have hq1l:q1.length + 1=rx.size:=by rw [hrs,hq1];rfl
  have hsl1:sx.size ≤ 1000000:=by omega
  clear hqe hsx hsb
  cases h40:begN q1 40 with
  | true =>
   have hb2:Hid (∀ W,Calls Tryz.prog 79 #[.string sx,.int .u8 40] W fun e w'=>e = .returned (.bool true)∧w'=W):=Lib.hid fun W=>(HBg.out sx 40 (by omega) (by decide) W).mono fun e w' h=>by rw [HSB.out,h40] at h;exact h
   obtain ⟨hp0,hp1⟩:=begN_yes (s:=sx) (d:=40) (by decide) (by rw [HSB.out];exact h40)
   rw [HSB.out,show (UInt8.ofNat 40:UInt8)=40 from rfl] at hp1
   have hsl2:∀ W,(Instr.slice 9 (.string rx) (some (.int .i64 2)) none none).run Tryz.prog W = .ok (.string (tx ((bl rx).drop 2))) W:=run_sl_l rx 2 (by omega)
   rw [HRB.out] at hsl2
   obtain ⟨q2,hqe⟩:∃ r,q1.drop 1=r:=⟨_,rfl⟩
   rw [hqe] at hp1
   rw [hq1,hp1,show (61::40::q2:Bare.Bs).drop 2=q2 from rfl] at hsl2
   obtain ⟨ux,hux⟩:∃ x,tx q2=x:=⟨_,rfl⟩
   have hus:ux.size=q2.length:=by rw [← hux,tx_size]
   have hub:bl ux=q2:=by rw [← hux,bl_tx]
   rw [hux] at hsl2
   have hq2l:q2.length + 1=q1.length:=by rw [hp1];rfl
   have hI:=HIn.out ux (by omega)
   rw [hub] at hI
   have HI:=Lib.hid hI
   have hRe:Hid (R=(innR q2).map fun x=>(⟨K,true,x.1,x.2.1⟩,x.2.2)):=Lib.hid (by rw [HRR.out,hq1,hp1];exact rest_inner K q2)
   clear hI h61 h40 HIn HPs HIt HBg HRR hq1 hp1 hqe hux hus hub hq2l hss hq1l HSB HRB
   go_upto_region 8 with (go_at_call 79;first | (with_reducible refine (hb.out _).mono ?_;rintro e w' ⟨rfl,rfl⟩) | (with_reducible refine (hb2.out _).mono ?_;rintro e w' ⟨rfl,rfl⟩))
   go_upto_region 9 with (first | (go_at_call 135;refine (HI.out _).mono ?_;rintro e w4 ⟨h4,hN4⟩;obtain ⟨ia,pa,il,ic,pl,pc,t,ok,rfl,hF⟩:=h4.all;have rM4:=hN4.heap rM id;have rB4:=hN4.heap rB3 id;have HF:=Lib.hid hF;clear hF h4) | (refine op_skip rfl (run_store_row 44 (.tmp 8) (.tmp 51) rfl M rfl 44 [.string kx,.bool false,.slice none 0 0,.slice none 0 0] [.string ⟨#[]⟩,.bool true,.slice ia il ic,.slice pa pl pc] rfl rM4 sizeM rfl (mcs_one _ _ _ _ _ _ _ _)) ?_))
   have hm5:=mods_setRow rM4 #[.string ⟨#[]⟩,.bool true,.slice ia il ic,.slice pa pl pc]
   have rM5:=setRow_heap w4 M _ #[.string ⟨#[]⟩,.bool true,.slice ia il ic,.slice pa pl pc] _ _ rM4
   obtain ⟨w5,hw5⟩:∃ V,w4.setRow M #[.string ⟨#[]⟩,.bool true,.slice ia il ic,.slice pa pl pc]=V:=⟨_,rfl⟩
   have hw5':w4.setRow M [.string ⟨#[]⟩,.bool true,.slice ia il ic,.slice pa pl pc].toArray=w5:=hw5
   rw [hw5] at hm5 rM5
   rw [hw5']
   have rB5:=hm5.heap rB4 (by omega)
   clear hw5 hw5'
   have c0:=cell_of_row _ _ 0 _ _ _ rM5
   simp only [gS] at c0
   have f0:=frozen_row (i:=0) rM5
   go_upto_region 13 with fail
   have hm6:=setMods w5 M 0 (.string kx)
   have rM6:=setCell_heap (i:=0) rM5 (.string kx)
   simp only [pS] at rM6
   have rB6:=hm6.heap rB5 (by omega)
   obtain ⟨w6,hw6⟩:∃ V,w5.setCell ⟨M,0,none⟩ (.string kx)=V:=⟨_,rfl⟩
   rw [hw6] at hm6 rM6 rB6 ⊢
   clear hw6 c0 f0
   go_wp2_with (first | (refine op_value rfl (run_load_row 44 (.tmp 8) rfl M rfl 44 _ (0,0) _ rM6 Tryz.underlying44 rfl sizeM) ?_) | (refine op_skip rfl (run_store_row 44 (.tmp 2) (.tmp 71) rfl B rfl 44 [.string ⟨#[]⟩,.bool false,.slice none 0 0,.slice none 0 0] [.string kx,.bool true,.slice ia il ic,.slice pa pl pc] rfl rB6 sizeM rfl (mcs_one _ _ _ _ _ _ _ _)) ?_))
   have hrow:=setRow_heap w6 B _ #[.string kx,.bool true,.slice ia il ic,.slice pa pl pc] _ _ rB6
   have hm7:=mods_setRow rB6 #[.string kx,.bool true,.slice ia il ic,.slice pa pl pc]
   refine member_end (by kernel_rfl) rfl rfl rfl hrow ?_
   rw [← HPost.out]
   have hNf:New w (w6.setRow B #[.string kx,.bool true,.slice ia il ic,.slice pa pl pc]):=(((Mods.ofNew (hNw.trans hN4)).trans hm5).trans hm6).new (fun g hg=>by omega) |>.setRow hBw _
   refine ⟨⟨_,_,_,_,_,_,_,_,_,ok,rfl,?_⟩,hNf⟩
   rw [hRe.out]
   have hF:=HF.out
   cases hin:innR q2 with
   | none=>rw [hin] at hF;exact hF
   | some x =>
    obtain ⟨its,ps,q'⟩:=x
    rw [hin] at hF
    obtain ⟨h1,h2,h3,h4⟩:=hF
    exact ⟨h1,h2,HKX.out.symm,rfl,((h3.far hm5 (far_row rM4)).far hm6 (far_row rM5)).far hm7 (far_row rB6),((h4.far hm5 (far_row rM4)).far hm6 (far_row rM5)).far hm7 (far_row rB6)⟩
  | false =>
   have hb2:Hid (∀ W,Calls Tryz.prog 79 #[.string sx,.int .u8 40] W fun e w'=>e = .returned (.bool false)∧w'=W):=Lib.hid fun W=>(HBg.out sx 40 (by omega) (by decide) W).mono fun e w' h=>by rw [HSB.out,h40] at h;exact h
   have hno:=begN_no (s:=sx) (d:=40) (by decide) (by rw [HSB.out];exact h40)
   rw [HSB.out,show (UInt8.ofNat 40:UInt8)=40 from rfl] at hno
   have hRe:Hid (R=(Bare.readItem q1).map fun x=>(⟨K,false,[x.1],[]⟩,x.2)):=Lib.hid (by rw [HRR.out,hq1];exact rest_item K hno)
   have hI:=HIt.out sx (by omega)
   rw [HSB.out] at hI
   have HI:=Lib.hid hI
   have HSz:Hid (∀ x r,Bare.readItem q1=some (x,r)→x.params.length ≤ 281474976710656):=Lib.hid fun x r h=>by
    have:=(readItem_sz q1.length (Nat.le_refl _) h).2.1
    omega
   clear hI h61 h40 HIn HPs HIt HBg HRR hq1 hno hss hq1l HSB HRB
   go_upto_region 10 with (go_at_call 79;first | (with_reducible refine (hb.out _).mono ?_;rintro e w' ⟨rfl,rfl⟩) | (with_reducible refine (hb2.out _).mono ?_;rintro e w' ⟨rfl,rfl⟩))
   go_upto_region 11 with (go_at_call 79;with_reducible refine (hb.out _).mono ?_;rintro e w' ⟨rfl,rfl⟩)
   go_upto_region 12 with (go_at_call 136;refine (HI.out _).mono ?_;rintro e w4 ⟨h4,hN4⟩;obtain ⟨k,n,t,y,pa,pl,pc,tr,ok,rfl,hF⟩:=h4.all HSz.out;have rM4:=hN4.heap rM id;have rB4:=hN4.heap rB3 id;have HF:=Lib.hid hF;clear hF h4)
   obtain ⟨w5,X,hW5,hX,rX,hN5,hXs⟩:∃ V X,w4.alloc (.cells #[.int .u8 k,.int .i64 n,.string t,.bool y,.slice pa pl pc] 85)=V∧w4.heap.size=X∧V.heap[X]? = some (.cells #[.int .u8 k,.int .i64 n,.string t,.bool y,.slice pa pl pc] 85 (0,0))∧New w4 V∧X + 1=V.heap.size:=⟨_,_,rfl,rfl,World.alloc_heap_new _ _,(Mods.refl _ _).alloc _,by simp⟩
   rw [hW5,hX]
   have rM5:=hN5.heap rM4 id
   have rB5:=hN5.heap rB4 id
   have k0:=cell_of_row _ _ 0 _ _ _ rX
   have k1:=cell_of_row _ _ 1 _ _ _ rX
   have k2:=cell_of_row _ _ 2 _ _ _ rX
   have k3:=cell_of_row _ _ 3 _ _ _ rX
   have k4:=cell_of_row _ _ 4 _ _ _ rX
   simp only [gS] at k0 k1 k2 k3 k4
   clear hW5 hX
   have hN6:New w5 (w5.alloc (.cells #[.int .u8 k,.int .i64 n,.string t,.bool y,.slice pa pl pc] 85)):=(Mods.refl _ _).alloc _
   have rA:=World.alloc_heap_new w5 (.cells #[.int .u8 k,.int .i64 n,.string t,.bool y,.slice pa pl pc] 85)
   have rM6:=hN6.heap rM5 id
   have rB6:=hN6.heap rB5 id
   have c2:=cell_of_row _ _ 2 _ _ _ rM6
   simp only [gS] at c2
   have f2:=frozen_row (i:=2) rM6
   go_upto_region 13 with fail
   obtain ⟨A,hA⟩:∃ b,w5.heap.size=b:=⟨_,rfl⟩
   obtain ⟨w6,hw6⟩:∃ V,w5.alloc (.cells #[.int .u8 k,.int .i64 n,.string t,.bool y,.slice pa pl pc] 85)=V:=⟨_,rfl⟩
   rw [hw6] at hN6 rA rM6 rB6 ⊢
   rw [hA] at rA ⊢
   clear hw6 hA c2 f2
   have hm6:=setMods w6 M 2 (.slice (some ⟨A,0,none⟩) 1 1)
   have rM7:=setCell_heap (i:=2) rM6 (.slice (some ⟨A,0,none⟩) 1 1)
   simp only [pS] at rM7
   have rB7:=hm6.heap rB6 (by omega)
   obtain ⟨w7,hw7⟩:∃ V,w6.setCell ⟨M,2,none⟩ (.slice (some ⟨A,0,none⟩) 1 1)=V:=⟨_,rfl⟩
   rw [hw7] at hm6 rM7 rB7 ⊢
   clear hw7
   clear k0 k1 k2 k3 k4
   go_wp2_with (first | (refine op_value rfl (run_load_row 44 (.tmp 8) rfl M rfl 44 _ (0,0) _ rM7 Tryz.underlying44 rfl sizeM) ?_) | (refine op_skip rfl (run_store_row 44 (.tmp 2) (.tmp 71) rfl B rfl 44 [.string ⟨#[]⟩,.bool false,.slice none 0 0,.slice none 0 0] [.string kx,.bool false,.slice (some ⟨A,0,none⟩) 1 1,.slice none 0 0] rfl rB7 sizeM rfl (mcs_one _ _ _ _ _ _ _ _)) ?_))
   have hrow:=setRow_heap w7 B _ #[.string kx,.bool false,.slice (some ⟨A,0,none⟩) 1 1,.slice none 0 0] _ _ rB7
   have hm7:=mods_setRow rB7 #[.string kx,.bool false,.slice (some ⟨A,0,none⟩) 1 1,.slice none 0 0]
   refine member_end (by kernel_rfl) rfl rfl rfl hrow ?_
   rw [← HPost.out]
   have hNf:New w (w7.setRow B #[.string kx,.bool false,.slice (some ⟨A,0,none⟩) 1 1,.slice none 0 0]):=((Mods.ofNew (((hNw.trans hN4).trans hN5).trans hN6)).trans hm6).new (fun g hg=>by omega) |>.setRow hBw _
   refine ⟨⟨_,_,_,_,_,_,_,_,_,ok,rfl,?_⟩,hNf⟩
   rw [hRe.out]
   have hF:=HF.out
   cases hin:Bare.readItem q1 with
   | none=>rw [hin] at hF;exact hF
   | some x =>
    obtain ⟨x,q'⟩:=x
    rw [hin] at hF
    obtain ⟨h1,h2,rfl,rfl,rfl,rfl,h4⟩:=hF
    exact ⟨h1,h2,HKX.out.symm,rfl,((RdI.one (x:=x) rA (h4.new (hN5.trans hN6))).far hm6 (far_row rM6)).far hm7 (far_row rB7),RdP.none _⟩
 | false =>
  have hb:Hid (∀ W,Calls Tryz.prog 79 #[.string rx,.int .u8 61] W fun e w'=>e = .returned (.bool false)∧w'=W):=Lib.hid fun W=>(HBg.out rx 61 (by omega) (by decide) W).mono fun e w' h=>by rw [HRB.out,h61] at h;exact h
  have hno:=begN_no (s:=rx) (d:=61) (by decide) (by rw [HRB.out];exact h61)
  rw [HRB.out,show (UInt8.ofNat 61:UInt8)=61 from rfl] at hno
  have hRe:Hid (R=(Bare.readParams [] q).map fun x=>(⟨K,false,[⟨Bare.yesI,x.1⟩],[]⟩,x.2)):=Lib.hid (by rw [HRR.out];exact rest_none K hno)
  have hI:=HPs.out rx (by omega)
  rw [HRB.out] at hI
  have HI:=Lib.hid hI
  have HSz:Hid (∀ x r,Bare.readParams [] q=some (x,r)→x.length ≤ 281474976710656):=Lib.hid fun x r h=>by
   have:=(readParams_nil q.length (Nat.le_refl _) h).1
   omega
  clear hI h61 HIn HPs HIt HBg HRR hno HRB
  go_upto_region 10 with (go_at_call 79;with_reducible refine (hb.out _).mono ?_;rintro e w' ⟨rfl,rfl⟩)
  go_upto_region 5 with (go_at_call 79;with_reducible refine (hb.out _).mono ?_;rintro e w' ⟨rfl,rfl⟩)
  go_upto_region 6 with (go_at_call 137;refine (HI.out _).mono ?_;rintro e w4 ⟨h4,hN4⟩;obtain ⟨pa,pl,pc,tr,ok,rfl,hF⟩:=h4.all HSz.out;have rM4:=hN4.heap rM id;have rB4:=hN4.heap rB3 id;have HF:=Lib.hid hF;clear hF h4)
  have hN6:New w4 (w4.alloc (.cells #[.int .u8 6,.int .i64 0,.string ⟨#[]⟩,.bool true,.slice pa pl pc] 85)):=(Mods.refl _ _).alloc _
  have rA:=World.alloc_heap_new w4 (.cells #[.int .u8 6,.int .i64 0,.string ⟨#[]⟩,.bool true,.slice pa pl pc] 85)
  have rM6:=hN6.heap rM4 id
  have rB6:=hN6.heap rB4 id
  have c2:=cell_of_row _ _ 2 _ _ _ rM6
  simp only [gS] at c2
  have f2:=frozen_row (i:=2) rM6
  go_upto_region 13 with fail
  obtain ⟨A,hA⟩:∃ b,w4.heap.size=b:=⟨_,rfl⟩
  obtain ⟨w6,hw6⟩:∃ V,w4.alloc (.cells #[.int .u8 6,.int .i64 0,.string ⟨#[]⟩,.bool true,.slice pa pl pc] 85)=V:=⟨_,rfl⟩
  rw [hw6] at hN6 rA rM6 rB6 ⊢
  rw [hA] at rA ⊢
  clear hw6 hA c2 f2
  have hm6:=setMods w6 M 2 (.slice (some ⟨A,0,none⟩) 1 1)
  have rM7:=setCell_heap (i:=2) rM6 (.slice (some ⟨A,0,none⟩) 1 1)
  simp only [pS] at rM7
  have rB7:=hm6.heap rB6 (by omega)
  obtain ⟨w7,hw7⟩:∃ V,w6.setCell ⟨M,2,none⟩ (.slice (some ⟨A,0,none⟩) 1 1)=V:=⟨_,rfl⟩
  rw [hw7] at hm6 rM7 rB7 ⊢
  clear hw7
  go_wp2_with (first | (refine op_value rfl (run_load_row 44 (.tmp 8) rfl M rfl 44 _ (0,0) _ rM7 Tryz.underlying44 rfl sizeM) ?_) | (refine op_skip rfl (run_store_row 44 (.tmp 2) (.tmp 71) rfl B rfl 44 [.string ⟨#[]⟩,.bool false,.slice none 0 0,.slice none 0 0] [.string kx,.bool false,.slice (some ⟨A,0,none⟩) 1 1,.slice none 0 0] rfl rB7 sizeM rfl (mcs_one _ _ _ _ _ _ _ _)) ?_))
  have hrow:=setRow_heap w7 B _ #[.string kx,.bool false,.slice (some ⟨A,0,none⟩) 1 1,.slice none 0 0] _ _ rB7
  have hm7:=mods_setRow rB7 #[.string kx,.bool false,.slice (some ⟨A,0,none⟩) 1 1,.slice none 0 0]
  refine member_end (by kernel_rfl) rfl rfl rfl hrow ?_
  rw [← HPost.out]
  have hNf:New w (w7.setRow B #[.string kx,.bool false,.slice (some ⟨A,0,none⟩) 1 1,.slice none 0 0]):=((Mods.ofNew ((hNw.trans hN4).trans hN6)).trans hm6).new (fun g hg=>by omega) |>.setRow hBw _
  refine ⟨⟨_,_,_,_,_,_,_,_,_,ok,rfl,?_⟩,hNf⟩
  rw [hRe.out]
  have hF:=HF.out
  cases hin:Bare.readParams [] q with
  | none=>rw [hin] at hF;exact hF
  | some x =>
   obtain ⟨ps,q'⟩:=x
   rw [hin] at hF
   obtain ⟨h1,h2,h4⟩:=hF
   exact ⟨h1,h2,HKX.out.symm,rfl,((RdI.one (x:=⟨Bare.yesI,ps⟩) rA (h4.new hN6)).far hm6 (far_row rM6)).far hm7 (far_row rB7),RdP.none _⟩


noncomputable def reg_causeyref13_putMember_4:Code:=((Tryz.f78.body.bind (regionOf 4)).getD .skip)
theorem putm4 (t:Array Value) (hs:t.size=29) (w:World) {g B k n cap:Nat} {a b:ByteArray} {y:Bool}
  (hq0:t.getD 0 undef = .slice (some ⟨g,0,none⟩) n cap)
  (hq3:t.getD 3 undef = .pointer (some ⟨B,0,none⟩))
  (hq5:t.getD 5 undef = .int .i64 k)
  (c0:w.cell? ⟨g,k * 4,none⟩=some (.string a)) (c1:w.cell? ⟨B,0,none⟩=some (.string b)) (hk:k < n) (hy:(a.toList == b.toList)=y) :
  reg_causeyref13_putMember_4.wp Tryz.prog (Only fun a' W'=>∃ z:Nat→Value,a'=⟨((pz t z [12,13,14,15,16,17,18]).setIfInBounds 19 (.bool y)),[]⟩∧New w W') ⟨t,[]⟩ w:=by
 conv=>arg 2;whnf
 obtain ⟨u,rfl⟩:=lit29 t hs
 have hq0:u 0 = _:=hq0
 have hq3:u 3 = _:=hq3
 have hq5:u 5 = _:=hq5
 rw [hq0,hq3,hq5]
 clear hq0 hq3 hq5 hs
 have hid:decide ((k:Int) < (n:Int))=true:=decide_eq_true (by omega)
 refine wp_region_held (S:=fun W=>New w W) (by kernel_rfl) ?_
 show wpAnyH _ _ _ _ _ 8 _ _ w.drew
 have hN:New w w.drew:=(Mods.refl _ _).drew
 have hS:New w w.drew:=(Mods.refl _ _).drew
 refine tkI 0 (some 12) (.slice (some ⟨g,0,none⟩) n cap) hS ?_
 simp only [pS]
 refine tkI 1 (some 13) (.int .i64 k) hS ?_
 simp only [pS]
 refine tkI 2 (some 14) (.pointer (some ⟨g,k * 4,none⟩)) hS ?_
 simp only [pS]
 refine tkI 3 (some 15) (.pointer (some ⟨g,k * 4,none⟩)) hS ?_
 simp only [pS]
 refine tkA 4 rfl (some 16) (.string a) (.inl ⟨by rfl,fun W hW=>by have q:=hW.cell c0 id;go_simp⟩) hS ?_
 simp only [pS]
 refine tkI 5 (some 17) (.pointer (some ⟨B,0,none⟩)) hS ?_
 simp only [pS]
 refine tkA 6 rfl (some 18) (.string b) (.inl ⟨by rfl,fun W hW=>by have q:=hW.cell c1 id;go_simp⟩) hS ?_
 simp only [pS]
 refine tkA 7 rfl (some 19) (.bool y) (.inl ⟨by rfl,fun W hW=>by go_simp;first | done | exact hy⟩) hS ?_
 simp only [pS]
 refine wpAnyH_done (by kernel_rfl) ?_ _
 exact zc rfl hN
theorem wpList_append_D {ops:Array Oper} {Q:Exit→Act→World→Prop} {rest:List Oper} {o:Oper} {a:Act} {w W:World} (s x:Operand) {base:Nat} {v:Value} {d:List Bare.Mem} {m:Bare.Mem} {ia pa:Option Addr} {il ic pl pc:Nat} (hgd:o.guard=none) (hop:o.op = .call { callee:=.builtin .append,args:=#[s,x],argTypes:=#[36,36] })
  (hs:a.eval s=v) (hx:a.eval x = .slice (some ⟨w.heap.size,0,none⟩) 1 1) (hW:w.alloc (.cells (mcs m (.slice ia il ic) (.slice pa pl pc)).toArray 44)=W) (hown:OwD base w v d) (hi:RdI true w (.slice ia il ic) m.items) (hp:RdP true w (.slice pa pl pc) m.params) (hn:d.length ≤ 2000000) (hbase:base ≤ w.heap.size)
  (h:∀ v' W',OwD base W' v' (d ++ [m])→(∀ (w0:World) (S:Nat→Prop),Mods S w0 w→(∀ g,v.ownBlock=some g→w0.heap.size ≤ g ∨ S g)→Mods S w0 W')→wpList Tryz.prog ops Q rest (a.put o.dst v') W'):wpList Tryz.prog ops Q (o::rest) a W:=by
 refine wpList_plain hgd fun K hK=>?_
 obtain ⟨v',w',hr,ho,hg⟩:=run_append_D hop hs hx hW hown hi hp hn hbase
 unfold Oper.wp
 rw [hr]
 exact hK _ _ (h v' w' ho hg)
theorem mem_cells {W:World} {B:Nat} {m:Bare.Mem} {iv pv:Value} (hr:W.heap[B]? = some (.cells (mcs m iv pv).toArray 44 (0,0))):W.cell? ⟨B,0,none⟩=some (.string (tx m.key))∧W.cell? ⟨B,1,none⟩=some (.bool m.inner)∧W.cell? ⟨B,2,none⟩=some iv∧W.cell? ⟨B,3,none⟩=some pv :=
 ⟨cell_of_row _ _ 0 _ _ _ hr,cell_of_row _ _ 1 _ _ _ hr,cell_of_row _ _ 2 _ _ _ hr,cell_of_row _ _ 3 _ _ _ hr⟩
theorem putMember_r {base:Nat} (v:Value) (d:List Bare.Mem) (m:Bare.Mem) {ia pa:Option Addr} {il ic pl pc:Nat} (w:World) (h:OwD base w v d) (hnd:(d.map (·.key)).Nodup) (hl:d.length ≤ 1000000) (hb:base ≤ w.heap.size) (hI:RdI true w (.slice ia il ic) m.items) (hP:RdP true w (.slice pa pl pc) m.params) :
  Calls Tryz.prog 78 #[v,.agg (mcs m (.slice ia il ic) (.slice pa pl pc)).toArray] w fun e w'=>∃ v',e = .returned v'∧OwD base w' v' (Bare.setM d m)∧Mods (fun g=>v.ownBlock=some g) w w':=by
 have HL:=Lib.hid h
 obtain ⟨ao,cap,rfl⟩:=h.slice
 have hA:New w (w.alloc (.cells (mcs m (.slice ia il ic) (.slice pa pl pc)).toArray 44)):=(Mods.refl _ _).alloc _
 have rB:=World.alloc_heap_new w (.cells (mcs m (.slice ia il ic) (.slice pa pl pc)).toArray 44)
 obtain ⟨n,hn⟩:∃ n,d.length=n:=⟨_,rfl⟩
 have Hn:=Lib.hid hn
 rw [hn] at h HL hl ⊢
 have hLt:=Lib.hid (fun g hg=>(h.lt (g:=g) hg).2)
 have HI:=Lib.hid (hI.new hA)
 have HP:=Lib.hid (hP.new hA)
 clear h hn hI hP
 obtain ⟨Post,hPost⟩:∃ Post:Ending→World→Prop,(fun e w'=>∃ v',e = .returned v'∧OwD base w' v' (Bare.setM d m)∧Mods (fun g=>Value.ownBlock (.slice ao n cap)=some g) w w')=Post:=⟨_,rfl⟩
 have HPost:=Lib.hid hPost
 rw [hPost]
 clear hPost
 obtain ⟨W1,hW1⟩:∃ V,w.alloc (.cells (mcs m (.slice ia il ic) (.slice pa pl pc)).toArray 44)=V:=⟨_,rfl⟩
 have hs1:W1.heap.size=w.heap.size + 1:=by rw [← hW1];simp
 have hW1':w.alloc (.cells #[.string (tx m.key),.bool m.inner,.slice ia il ic,.slice pa pl pc] 44)=W1:=hW1
 rw [hW1] at hA rB HI HP
 obtain ⟨B,hB⟩:∃ b,w.heap.size=b:=⟨_,rfl⟩
 rw [hB] at rB hs1
 have hbB:base ≤ B:=by omega
 have hLB:Hid (∀ g,Value.ownBlock (.slice ao n cap)=some g→g < B):=Lib.hid fun g hg=>by have:=hLt.out g hg;omega
 have HR0:=Lib.hid rB
 unfold mcs
 go_enter Tryz.func78,Tryz.ntmps78
 go_upto_region 2 with fail
 clear hW1 hW1' hB hLt rB
 go_loopw [5] (fun t wr=>∃ k:Nat,k ≤ n∧t = .int .i64 k∧Hid (∀ j,j < k→(d.getD j noM).key ≠ m.key)∧New W1 wr) (fun t _=>n - (intOf t).toNat)
 case atStart=>exact ⟨0,Nat.zero_le _,rfl,Lib.hid fun i hi=>by omega,Mods.refl _ _⟩
 case round =>
  obtain ⟨k,hk,rfl,hbef,hN⟩:=hrel
  have ho:=HL.out.new (hA.trans hN)
  have rB:=hN.heap HR0.out id
  by_cases hlt:k < n
  ·have hkd:decide ((k:Int) < (n:Int))=true:=decide_eq_true (by omega)
   have hoD:=ho
   obtain ⟨iv0,pv0,ho,hq⟩:=ho
   rw [Hn.out] at ho
   obtain ⟨g,og,rfl,-⟩:=(ho.row (by omega)).at.2.2 k hlt
   obtain rfl:og=0:=by
    rcases ho.2.2.2 with ⟨h,_⟩ | ⟨b',cap',cur,h,_⟩
    ·cases h
    ·cases h;rfl
   obtain ⟨b',o',e',hrw⟩:=(ho.row (by omega)).at.2.2 k hlt
   obtain ⟨rfl,rfl⟩:b'=g∧o'=0:=by cases e';exact ⟨rfl,rfl⟩
   rw [Nat.zero_add] at hrw
   obtain ⟨m0,m1,m2,m3⟩:=cells4 hrw
   have hgB:b' < B:=hLB.out b' rfl
   obtain ⟨x,hx⟩:∃ x,d.getD k noM=x:=⟨_,rfl⟩
   have HX:=Lib.hid hx
   have m0:wr.cell? ⟨b',k * 4,none⟩=some (.string (tx x.key)):=by rw [← hx];exact m0
   obtain ⟨q0,q1,q2,q3⟩:=mem_cells rB
   have hey:=eq_tx (tx x.key) (tx m.key)
   rw [bl_tx,bl_tx] at hey
   by_cases heq:x.key=m.key
   ·rw [decide_eq_true heq] at hey
    have hset:=Lib.hid (setM_set (p:=m) hnd (show k < d.length by rw [Hn.out];exact hlt) (by rw [HX.out];exact heq))
    have HO:=Lib.hid hoD
    have HM0:=Lib.hid m0
    have HQ:=Lib.hid q0
    have HTh:Hid (∀ W,New wr W→W.there b' (k * 4) 4):=Lib.hid fun W hN=>(ho.new hN).there hlt
    clear e' hrw m0 m1 m2 m3 ho hq hoD hx heq hbef q0 q1 q2 q3
    go_upto_region 4 with fail
    refine piece (fun _=>_) (putm4 _ rfl wr rfl rfl rfl HM0.out HQ.out hlt hey) ?_
    rintro a' w4 ⟨z,rfl,hN4⟩
    simp only [pS]
    have ho4:=HO.out.new hN4
    have hput:=Lib.hid (OwD.put (m:=m) (i:=k) (by rw [Hn.out];exact ho4) (by rw [Hn.out];exact hlt) (HI.out.new (hN.trans hN4)) (HP.out.new (hN.trans hN4)))
    have hthere:=HTh.out w4 hN4
    have hN:=hN.trans hN4
    obtain ⟨q0,q1,q2,q3⟩:=mem_cells (hN4.heap rB id)
    clear ho4 HTh HO HM0 HQ rB
    go_wp2_with (refine wpList_store_midN rfl rfl 44 (.tmp 23) (.tmp 22) rfl b' (k * 4) (mcs m (.slice ia il ic) (.slice pa pl pc)) rfl rfl hthere sizeM (mcs_one _ _ _ _ _ _ _ _) ?_)
    obtain ⟨W10,hW10⟩:∃ W10,w4.setCells b' (k * 4) (mcs m (.slice ia il ic) (.slice pa pl pc))=W10:=⟨_,rfl⟩
    have hp10:=hput.out
    rw [hW10] at hp10
    have hmg:Mods (fun x=>x=b') w4 W10:=by
     rw [← hW10]
     exact setCells_mods _ _ _ _
    rw [hW10]
    go_wp2_with fail
    rw [← HPost.out,hset.out]
    refine ⟨_,rfl,?_,((Mods.ofNew (hA.trans hN)).trans hmg).mono (fun g hg=>by rw [hg];rfl)⟩
    rw [List.length_set,Hn.out] at hp10
    exact hp10
   ·rw [decide_eq_false heq] at hey
    have hh:Hid (∀ j,j < k + 1→(d.getD j noM).key ≠ m.key):=Lib.hid fun i hi=>by
     by_cases hik:i < k
     ·exact hbef.out i hik
     ·obtain rfl:i=k:=by omega
      rw [HX.out];exact heq
    have HM0:=Lib.hid m0
    have HQ:=Lib.hid q0
    clear e' hrw m0 m1 m2 m3 ho hq hoD hx heq hbef q0 q1 q2 q3 rB
    go_upto_region 4 with fail
    refine piece (fun _=>_) (putm4 _ rfl wr rfl rfl rfl HM0.out HQ.out hlt hey) ?_
    rintro a' w4 ⟨z,rfl,hN4⟩
    simp only [pS]
    clear HM0 HQ
    go_wp2_with fail
    go_roundw
    case rel=>exact ⟨k + 1,by omega,by go_num,hh,hN.trans hN4⟩
    case measure=>simp [intOf];omega
  ·obtain rfl:k=n:=by omega
   have hkd:decide ((k:Int) < (k:Int))=false:=decide_eq_false (by omega)
   have hadd:=setM_add (p:=m) (fun i hi=>hbef.out i (by rw [Hn.out] at hi;exact hi))
   have HO:=Lib.hid ho
   obtain ⟨q0,q1,q2,q3⟩:=mem_cells rB
   have hwb:base ≤ wr.heap.size:=by have:=hN.size;omega
   have HI4:=Lib.hid (HI.out.new hN)
   have HP4:=Lib.hid (HP.out.new hN)
   have hdl:d.length ≤ 2000000:=by rw [Hn.out];omega
   clear hbef ho rB
   go_wp2_with (at_builtin;refine wpList_append_D (w:=wr) (m:=m) (ia:=ia) (il:=il) (ic:=ic) (pa:=pa) (pl:=pl) (pc:=pc) _ _ rfl rfl rfl rfl rfl HO.out HI4.out HP4.out hdl hwb ?_;intro v' W' ho' hm';obtain ⟨a',c',rfl⟩:=ho'.slice)
   go_wp2_with fail
   have el:(d ++ [m]).length=d.length + 1:=by simp
   rw [el] at ho'
   rw [← HPost.out,hadd]
   exact ⟨_,rfl,ho',hm' w _ (Mods.ofNew (hA.trans hN)) (fun g hg=>.inr hg)⟩


theorem readD_bad1 {d:List Bare.Mem} {c:UInt8} {l:Bare.Bs} (h:Bare.readMem (c::l)=none):Bare.readD d (c::l)=none:=by
 rw [Bare.readD.eq_def]
 simp only
 split
 ·rfl
 ·rename_i m r h1
  rw [h] at h1;cases h1
theorem readD_mem {d:List Bare.Mem} {c:UInt8} {l r:Bare.Bs} {m:Bare.Mem} (h:Bare.readMem (c::l)=some (m,r)):Bare.readD d (c::l)=if r.isEmpty then some (Bare.setM d m) else match Bare.skipB [32,9] r with
  | 44::r2=>if (Bare.skipB [32,9] r2).isEmpty then none else Bare.readD (Bare.setM d m) (Bare.skipB [32,9] r2)
  | _=>none:=by
 rw [Bare.readD.eq_def]
 simp only
 split
 ·rename_i h1
  rw [h] at h1;cases h1
 ·rename_i m1 r1 h1
  rw [h] at h1;cases h1
  by_cases he:r.isEmpty=true
  ·rw [if_pos he,if_pos he]
  ·rw [if_neg he,if_neg he]
   split
   ·rename_i r2 h2
    rw [h2]
    rfl
   ·rename_i h2
    split
    ·rename_i r2 h3
     exact absurd h3 (h2 r2)
    ·rfl
def PostR (R:Option (List Bare.Mem)) (n:Nat) (w:World) (e:Ending) (w':World):Prop:=∃ v z,e = .returned (.tuple #[v,.int .i64 z])∧New w w'∧match R with
 | some d=>z=0∧RdD true w' v d∧d.length ≤ n
 | none=>z=130∧v = .slice none 0 0
theorem parse_r13 (s:ByteArray) (w:World) (hs:s.size ≤ 1000000):Calls Tryz.prog 22 #[.string s] w (PostD (bl s) w):=by
 obtain ⟨R,hR⟩:∃ R,Bare.parseD (bl s)=R:=⟨_,rfl⟩
 obtain ⟨S,hS⟩:∃ T,Bare.skipB [32] (bl s)=T:=⟨_,rfl⟩
 obtain ⟨T,hT⟩:∃ T,Bare.trimR 32 S=T:=⟨_,rfl⟩
 have hSl:S.length ≤ s.size:=by rw [← hS,← bl_len];exact Bare.skip_len [32] (bl s)
 have hTl:T.length ≤ S.length:=by rw [← hT];exact trimR_len 32 S
 have HR0:Hid (Bare.readD [] T=R):=Lib.hid (by rw [← hR,← hT,← hS];rfl)
 obtain ⟨Post,hPost⟩:∃ Post:Ending→World→Prop,PostD (bl s) w=Post:=⟨_,rfl⟩
 have HPost:Hid (∀ e w',PostR R s.size w e w'→Post e w'):=Lib.hid fun e w' h=>by
  rw [← hPost]
  unfold PostD
  rw [hR,bl_len]
  exact h
 rw [hPost]
 have hbl0:=fun W=>blanks_r s false W hs
 rw [show blkL false = [32] from rfl,hS] at hbl0
 have HBl:=Lib.hid (fun q h W=>blanks_r q true W h)
 rw [show blkL true = [32,9] from rfl] at HBl
 have HBg:=Lib.hid (fun q d h hd W=>begins_r q d W h hd)
 have HMe:=Lib.hid (fun q h W=>readMember_r q W h)
 have HT:=Lib.hid hT
 obtain ⟨Sx,hSx⟩:∃ x,tx S=x:=⟨_,rfl⟩
 have hSxl:Sx.size=S.length:=by rw [← hSx,tx_size]
 have HSb:Hid (bl Sx=S):=Lib.hid (by rw [← hSx,bl_tx])
 rw [hSx] at hbl0
 have hbl0:=Lib.hid hbl0
 obtain ⟨Tx,hTx⟩:∃ x,tx T=x:=⟨_,rfl⟩
 have hTxl:Tx.size=T.length:=by rw [← hTx,tx_size]
 have HTb:Hid (bl Tx=T):=Lib.hid (by rw [← hTx,bl_tx])
 have HTx:=Lib.hid hTx
 clear hR hS hT hPost hSx hTx
 go_enter Tryz.func22,Tryz.ntmps22
 go_upto_block 0 with (go_at_call 76;refine (hbl0.out _).mono ?_;rintro e w' ⟨rfl,hw'⟩;rw [hw'];clear hw')
 clear hbl0
 go_cut [0] from 10 (fun s0 wx=>s0 = .string Tx∧New w wx)
 case first =>
  go_wp2_with fail
  go_loopw [0] (fun t wr=>∃ q:ByteArray,q.size ≤ s.size∧t = .string q∧Hid (Bare.trimR 32 (bl q)=T)∧New w wr) (fun t _=>match t with | .string q=>q.size | _=>0)
  case atStart=>exact ⟨Sx,by omega,rfl,Lib.hid (by rw [HSb.out];exact HT.out),Mods.refl _ _⟩
  case round =>
   clear HSb HT hSxl hSl
   obtain ⟨q,hq,rfl,HQ,hN⟩:=hrel
   by_cases h0:q.size=0
   ·have hg:decide ((0:Int) < (q.size:Int))=false:=decide_eq_false (by omega)
    have hqT:Hid (q=Tx):=Lib.hid <| by
     have hnil:bl q = []:=List.length_eq_zero_iff.1 (by rw [bl_len];exact h0)
     rw [← HTx.out,← HQ.out,hnil]
     show q=tx []
     rw [← hnil,tx_bl]
    clear HQ
    go_wp2_with fail
    go_meet
    exact ⟨by rw [hqT.out],hN⟩
   ·have hg:decide ((0:Int) < (q.size:Int))=true:=decide_eq_true (by omega)
    obtain ⟨n,hn⟩:∃ n,q.size=n + 1:=⟨q.size - 1,by omega⟩
    have hne:(bl q)=(bl q).take n ++ [gb q n]:=by
     have h1:(bl q).length=n + 1:=by rw [bl_len,hn]
     have h2:(bl q)[n]? = some (gb q n):=gb_get q n (by omega)
     conv=>lhs;rw [← List.take_append_drop n (bl q)]
     congr 1
     have h3:=List.getElem?_eq_some_iff.1 h2
     rw [List.drop_eq_getElem_cons h3.1,h3.2,List.drop_eq_nil_of_le (by omega)]
    have hix:∀ W,(Instr.index 9 (.string q) (.int .i64 (n:Int))).run Tryz.prog W = .ok (.int .u8 ((gb q n).toNat:Nat)) W:=run_idx q n (by omega)
    have hsb:((q.size:Int) - 1)=(n:Int):=by omega
    have hsl:∀ W,(Instr.slice 9 (.string q) none (some (.int .i64 (n:Int))) none).run Tryz.prog W = .ok (.string (tx ((bl q).take n))) W:=run_sl_h q n (by omega)
    have htr:=Bare.trimR_snoc 32 (gb q n) ((bl q).take n)
    rw [← hne] at htr
    obtain ⟨x,hx⟩:∃ x,tx ((bl q).take n)=x:=⟨_,rfl⟩
    have hxs:x.size ≤ n:=by rw [← hx,tx_size,List.length_take];omega
    have hxb:bl x=(bl q).take n:=by rw [← hx,bl_tx]
    rw [hx] at hsl
    rw [← hxb] at htr
    obtain ⟨y,hy⟩:∃ y,(gb q n).toNat=y:=⟨_,rfl⟩
    have hw:IntKind.i64.wrap ((q.size:Int) - 1)=(n:Int):=by rw [hsb];exact IntWalk.i64_in _ ⟨by omega,by omega⟩
    by_cases h32:gb q n=32
    ·have hyd:((y:Int) == 32)=true:=by rw [← hy,h32];rfl
     rw [if_pos h32] at htr
     have HX:Hid (Bare.trimR 32 (bl x)=T):=Lib.hid (by rw [← htr];exact HQ.out)
     rw [hy] at hix
     have hnq:n < q.size:=by omega
     clear htr hne hx hxb hy h32 h0 HQ hn
     go_wp2_with fail
     go_roundw
     case rel=>exact ⟨x,by omega,rfl,HX,hN⟩
     case measure=>simp;omega
    ·have hyd:((y:Int) == 32)=false:=by
      rw [← hy,beq_eq_false_iff_ne]
      intro h
      refine h32 (UInt8.toNat_inj.1 ?_)
      have:(gb q n).toNat=32:=by omega
      rw [this];rfl
     rw [if_neg h32] at htr
     have hqT:Hid (q=Tx):=Lib.hid (by rw [← HTx.out,← HQ.out,htr,tx_bl])
     rw [hy] at hix
     clear htr hne hx hxb hy h32 h0 HQ hn
     go_wp2_with fail
     go_meet
     exact ⟨by rw [hqT.out],hN⟩
 case rest =>
  obtain ⟨rfl,hN0⟩:=hcut
  have hwl:=hN0.size
  have HTb0:=HTb
  have hTm:Tx.size ≤ s.size:=by omega
  have HR1:Hid (Bare.readD [] (bl Tx)=R):=Lib.hid (by rw [HTb.out];exact HR0.out)
  clear HTx HTb HTb0 HR0 hSxl HSb HT hTxl hSl hTl
  go_upto_region 5 with fail
  go_loopw [0,4] (fun t v wr=>∃ (q:ByteArray) (d:List Bare.Mem),t = .string q∧q.size ≤ s.size∧OwD w.heap.size wr v d∧Hid ((d.map (·.key)).Nodup)∧d.length + q.size ≤ s.size∧Hid (Bare.readD d (bl q)=R)∧New w wr) (fun t _ _=>match t with | .string q=>q.size | _=>0)
  case atStart=>exact ⟨Tx,[],rfl,hTm,OwD.nil _ _,Lib.hid List.nodup_nil,by simpa using hTm,HR1,hN0⟩
  case round =>
   clear HR1 hN0 hwl hTm
   obtain ⟨q,d,rfl,hq,ho,HND,hlen,HR,hN⟩:=hrel
   obtain ⟨va,vc,rfl⟩:=ho.slice
   have hdl:d.length ≤ 1000000:=by omega
   have hws:=hN.size
   have HO:=Lib.hid ho
   by_cases h0:q.size=0
   ·have hg:decide ((0:Int) < (q.size:Int))=false:=decide_eq_false (by omega)
    have hnil:bl q = []:=List.length_eq_zero_iff.1 (by rw [bl_len];exact h0)
    have hRR:Hid (R=some d):=Lib.hid (by rw [← HR.out,hnil,Bare.readD.eq_def])
    obtain ⟨n,hn⟩:∃ n,d.length=n:=⟨_,rfl⟩
    have HNn:=Lib.hid hn
    rw [hn] at HO ⊢
    clear HBl HBg HMe hnil HR ho hn
    go_wp2_with fail
    refine HPost.out _ _ ⟨_,_,rfl,hN,?_⟩
    rw [hRR.out]
    exact ⟨rfl,HO.out.reads (by omega),by omega⟩
   ·have hg:decide ((0:Int) < (q.size:Int))=true:=decide_eq_true (by omega)
    obtain ⟨c0,l0,hcl⟩:∃ c l,bl q=c::l:=by
     cases h:bl q with
     | nil=>exact absurd (by rw [← bl_len,h];rfl) h0
     | cons c l=>exact ⟨c,l,rfl⟩
    have hM:=HMe.out q (by omega)
    obtain ⟨n,hn⟩:∃ n,d.length=n:=⟨_,rfl⟩
    have HNn:=Lib.hid hn
    cases hme:Bare.readMem (bl q) with
    | none =>
     have hRR:Hid (R=none):=Lib.hid (by
      rw [← HR.out,hcl]
      rw [hcl] at hme
      exact readD_bad1 hme)
     rw [hme] at hM
     have HM:=Lib.hid hM
     rw [hn]
     clear HBl HBg HMe hM hme hcl HR ho hn
     have h0p:0 < q.size:=by omega
     clear h0
     go_upto_region 7 with (go_at_call 77;refine (HM.out _).mono ?_;rintro e w4 ⟨⟨kx,yb,ia,pa,il,ic,pl,pc,t,ok,rfl,hk⟩,hN4⟩;obtain rfl:ok=false:=hk)
     have hA4:New w4 (w4.alloc (.cells #[.string kx,.bool yb,.slice ia il ic,.slice pa pl pc] 44)):=(Mods.refl _ _).alloc _
     go_wp2_with fail
     refine HPost.out _ _ ⟨_,_,rfl,(hN.trans hN4).trans hA4,?_⟩
     rw [hRR.out]
     exact ⟨rfl,rfl⟩
    | some mr =>
     obtain ⟨m,r⟩:=mr
     have hrl:r.length < q.size:=by rw [← bl_len];exact Bare.readMem_len hme
     have hRD:R=if r.isEmpty then some (Bare.setM d m) else match Bare.skipB [32,9] r with
  | 44::r2=>if (Bare.skipB [32,9] r2).isEmpty then none else Bare.readD (Bare.setM d m) (Bare.skipB [32,9] r2)
  | _=>none:=by
      rw [← HR.out,hcl]
      rw [hcl] at hme
      exact readD_mem hme
     have HRD:=Lib.hid hRD
     rw [hme] at hM
     have HM:=Lib.hid hM
     obtain ⟨y,hy⟩:∃ y,Bare.skipB [32,9] r=y:=⟨_,rfl⟩
     have hyl:y.length ≤ r.length:=by rw [← hy];exact Bare.skip_len _ _
     rw [hy] at HRD
     obtain ⟨rx,hrx⟩:∃ x,tx r=x:=⟨_,rfl⟩
     have hrs:rx.size=r.length:=by rw [← hrx,tx_size]
     have hrb:bl rx=r:=by rw [← hrx,bl_tx]
     have hb1:=HBl.out rx (by omega)
     rw [hrb,hy] at hb1
     obtain ⟨yx,hyx⟩:∃ x,tx y=x:=⟨_,rfl⟩
     have hys:yx.size=y.length:=by rw [← hyx,tx_size]
     have hyb:bl yx=y:=by rw [← hyx,bl_tx]
     have hyr:yx.size ≤ rx.size:=by omega
     have hrq:rx.size < q.size:=by omega
     have hrn0:r = [] ∨ 0 < rx.size:=by
      cases r with
      | nil=>exact .inl rfl
      | cons a b=>exact .inr (by rw [hrs];simp)
     have hrn1:r = []→rx.size=0:=fun h=>by rw [hrs,h];rfl
     have hyc0:y = []→yx.size=0:=fun h=>by rw [hys,h];rfl
     have hyc1:∀ c l,y=c::l→l.length + 1 ≤ yx.size:=fun c l h=>by rw [hys,h];simp
     have HRN0:=Lib.hid hrn0
     have HRN1:=Lib.hid hrn1
     have HYC0:=Lib.hid hyc0
     have HYC1:=Lib.hid hyc1
     clear hrn0 hrn1 hyc0 hyc1
     rw [hyx] at hb1
     have HB1:=Lib.hid hb1
     have HRX:=Lib.hid hrx
     have hsl1:=setM_len d m
     have hnd:=Lib.hid (setM_nodup (p:=m) HND.out)
     clear hRD hM hme hcl HR ho hb1 hrx hyx hrb HMe h0 hrs hys hrl hyl
     go_upto_region 9 with (go_at_call 77;refine (HM.out _).mono ?_;rintro e w4 ⟨⟨kx,yb,ia,pa,il,ic,pl,pc,t,ok,rfl,hk⟩,hN4⟩;obtain ⟨rfl,rfl,rfl,rfl,hI,hP⟩:=hk;rw [HRX.out])
     obtain ⟨w5,M,hW5,hM,rM,hN5,hMs⟩:∃ V M,w4.alloc (.cells #[.string (tx m.key),.bool m.inner,.slice ia il ic,.slice pa pl pc] 44)=V∧w4.heap.size=M∧V.heap[M]? = some (.cells #[.string (tx m.key),.bool m.inner,.slice ia il ic,.slice pa pl pc] 44 (0,0))∧New w4 V∧M + 1=V.heap.size:=⟨_,_,rfl,rfl,World.alloc_heap_new _ _,(Mods.refl _ _).alloc _,by simp⟩
     rw [hW5,hM]
     have k0:=cell_of_row _ _ 0 _ _ _ rM
     have k1:=cell_of_row _ _ 1 _ _ _ rM
     have k2:=cell_of_row _ _ 2 _ _ _ rM
     have k3:=cell_of_row _ _ 3 _ _ _ rM
     simp only [gS] at k0 k1 k2 k3
     have hN5w:=(hN.trans hN4).trans hN5
     have HPut:Hid (Calls Tryz.prog 78 #[.slice va d.length vc,.agg #[.string (tx m.key),.bool m.inner,.slice ia il ic,.slice pa pl pc]] w5 fun e w'=>∃ v',e = .returned v'∧OwD w.heap.size w' v' (Bare.setM d m)∧Mods (fun g=>Value.ownBlock (.slice va d.length vc)=some g) w5 w'):=Lib.hid (putMember_r _ d m w5 (HO.out.new (hN4.trans hN5)) HND.out hdl hN5w.size (hI.new hN5) (hP.new hN5))
     have HLt:=Lib.hid (fun g h=>(HO.out.lt (g:=g) h).1)
     rw [hn] at HPut HLt
     clear hW5 hM HO HM hN4 hN5 hI hP hn rM hMs
     go_upto_region 10 with (go_at_call 78;refine HPut.out.mono ?_;rintro e w6 ⟨v6,rfl,ho6,hm6⟩)
     have hN6:New w w6:=((Mods.ofNew hN5w).trans hm6).new (fun g hg=>HLt.out g hg)
     clear HPut HLt k0 k1 k2 k3 hm6
     go_upto_region 11 with (go_at_call 76;refine (HB1.out _).mono ?_;rintro e w7 ⟨rfl,rfl⟩)
     clear HB1
     cases hyc:y with
     | nil =>
      have hy0:yx.size=0:=HYC0.out hyc
      have e1:((yx.size:Int) == 0)=true:=by rw [hy0];rfl
      have g1:decide ((0:Int) < (yx.size:Int))=false:=decide_eq_false (by omega)
      by_cases hr0:rx.size=0
      ·have g2:decide ((0:Int) < (rx.size:Int))=false:=decide_eq_false (by omega)
       have hrn:r = []:=by
        rcases HRN0.out with h | h
        ·exact h
        ·omega
       have hRf:Hid (Bare.readD (Bare.setM d m) (bl yx)=R):=Lib.hid (by
        rw [HRD.out,if_pos (by rw [hrn];rfl),hyb,hyc,Bare.readD.eq_def])
       clear HRD hyc hy hrn
       go_wp2_with fail
       go_roundw
       case rel=>exact ⟨yx,Bare.setM d m,rfl,by omega,ho6,hnd,by omega,hRf,hN6⟩
       case measure=>simp;omega
      ·have g2:decide ((0:Int) < (rx.size:Int))=true:=decide_eq_true (by omega)
       have hrn:¬ r.isEmpty=true:=fun h=>hr0 (HRN1.out (List.isEmpty_iff.1 h))
       have hRf:Hid (R=none):=Lib.hid (by rw [HRD.out,if_neg hrn,hyc])
       clear HRD hyc hy hrn
       go_wp2_with fail
       refine HPost.out _ _ ⟨_,_,rfl,hN6,?_⟩
       rw [hRf.out]
       exact ⟨rfl,rfl⟩
     | cons c l =>
      have hyl1:=HYC1.out c l hyc
      have e1:((yx.size:Int) == 0)=false:=by rw [beq_eq_false_iff_ne];omega
      have g1:decide ((0:Int) < (yx.size:Int))=true:=decide_eq_true (by omega)
      have g2:decide ((0:Int) < (rx.size:Int))=true:=decide_eq_true (by omega)
      have hrn:¬ r.isEmpty=true:=fun h=>by
       have:=HRN1.out (List.isEmpty_iff.1 h)
       omega
      have hb:=HBg.out yx 44 (by omega) (by decide)
      rw [hyb,hyc,show begN (c::l) 44=decide (c.toNat=44) from rfl] at hb
      by_cases h44:c.toNat=44
      ·rw [decide_eq_true h44] at hb
       have HB:=Lib.hid hb
       obtain rfl:c=44:=UInt8.toNat_inj.1 h44
       have hsl:∀ W,(Instr.slice 9 (.string yx) (some (.int .i64 1)) none none).run Tryz.prog W = .ok (.string (tx ((bl yx).drop 1))) W:=run_sl_l yx 1 (by omega)
       rw [hyb,hyc,show (44::l:Bare.Bs).drop 1=l from rfl] at hsl
       obtain ⟨lx,hlx⟩:∃ x,tx l=x:=⟨_,rfl⟩
       have hls:lx.size=l.length:=by rw [← hlx,tx_size]
       have hlb:bl lx=l:=by rw [← hlx,bl_tx]
       rw [hlx] at hsl
       have hb2:=HBl.out lx (by omega)
       rw [hlb] at hb2
       obtain ⟨z,hz⟩:∃ z,Bare.skipB [32,9] l=z:=⟨_,rfl⟩
       have hzl:z.length ≤ l.length:=by rw [← hz];exact Bare.skip_len _ _
       rw [hz] at hb2
       obtain ⟨zx,hzx⟩:∃ x,tx z=x:=⟨_,rfl⟩
       have hzs:zx.size=z.length:=by rw [← hzx,tx_size]
       have hzb:bl zx=z:=by rw [← hzx,bl_tx]
       have hzx1:zx.size < q.size:=by omega
       rw [hzx] at hb2
       have HB2:=Lib.hid hb2
       have hRf:Hid (R=if z.isEmpty then none else Bare.readD (Bare.setM d m) z):=Lib.hid (by rw [HRD.out,if_neg hrn,hyc,← hz];rfl)
       clear HRD hyc hy hrn hb hb2 hlx hzx hz HBg HBl hlb h44
       by_cases hz0:zx.size=0
       ·have e2:((zx.size:Int) == 0)=true:=by rw [hz0];rfl
        have hRn:Hid (R=none):=Lib.hid (by rw [hRf.out,if_pos (List.isEmpty_iff.2 (List.length_eq_zero_iff.1 (by omega)))])
        clear hRf hzb hyb hzs hls
        go_upto_region 13 with (go_at_call 79;refine (HB.out _).mono ?_;rintro e w8 ⟨rfl,rfl⟩)
        go_wp2_with (go_at_call 76;refine (HB2.out _).mono ?_;rintro e w8 ⟨rfl,rfl⟩)
        refine HPost.out _ _ ⟨_,_,rfl,hN6,?_⟩
        rw [hRn.out]
        exact ⟨rfl,rfl⟩
       ·have e2:((zx.size:Int) == 0)=false:=by rw [beq_eq_false_iff_ne];omega
        have hRn:Hid (Bare.readD (Bare.setM d m) (bl zx)=R):=Lib.hid (by
         rw [hRf.out,if_neg (fun h=>hz0 (by rw [hzs,List.isEmpty_iff.1 h];rfl)),hzb])
        clear hRf hzb hyb hzs hls
        go_upto_region 13 with (go_at_call 79;refine (HB.out _).mono ?_;rintro e w8 ⟨rfl,rfl⟩)
        go_wp2_with (go_at_call 76;refine (HB2.out _).mono ?_;rintro e w8 ⟨rfl,rfl⟩)
        go_roundw
        case rel=>exact ⟨zx,Bare.setM d m,rfl,by omega,ho6,hnd,by omega,hRn,hN6⟩
        case measure=>simp;omega
      ·rw [decide_eq_false h44] at hb
       have HB:=Lib.hid hb
       have hRf:Hid (R=none):=Lib.hid (by
        rw [HRD.out,if_neg hrn,hyc]
        split
        ·rename_i r2 h2
         cases h2
         exact absurd rfl h44
        ·rfl)
       clear HRD hyc hy hrn hb h44 HBl HBg hyb
       go_wp2_with (go_at_call 79;refine (HB.out _).mono ?_;rintro e w8 ⟨rfl,rfl⟩)
       refine HPost.out _ _ ⟨_,_,rfl,hN6,?_⟩
       rw [hRf.out]
       exact ⟨rfl,rfl⟩
end Go.Proofs.YtnknmmbnhoanfaaGreatDoor
