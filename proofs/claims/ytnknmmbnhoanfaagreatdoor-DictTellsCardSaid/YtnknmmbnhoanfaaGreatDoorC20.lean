/- Texts joined. -/
import Derived.Test.YtnknmmbnhoanfaaGreatDoorC19
import Derived.Test.YtnknmmbnhoanfaaGreatDoorC12
import Derived.Test.YtnknmmbnhoanfaaGreatDoorC10
import Derived.Test.YtnknmmbnhoanfaaGreatDoorC14
import Derived.Test.YtnknmmbnhoanfaaGreatDoorC13
set_option linter.unusedSimpArgs false
set_option linter.unusedVariables false
set_option maxHeartbeats 16000000
set_option maxRecDepth 100000
namespace Go.Proofs.YtnknmmbnhoanfaaGreatDoor
open Go.RowKit Go.Shelf Go.Cs
attribute [local go_sem] Oper.semAt_some


theorem RdD.one {τ:Bool} {W:World} {A:Nat} {m:Bare.Mem} {iv pv:Value} {fr:Nat × Nat} (h:W.heap[A]? = some (.cells (mcs m iv pv).toArray 44 fr)) (hi:RdI τ W iv m.items) (hp:RdP τ W pv m.params):RdD τ W (.slice (some ⟨A,0,none⟩) 1 1) [m]:=by
 refine ⟨fun _=>iv,fun _=>pv,⟨by show 1 ≤ _;omega,some ⟨A,0,none⟩,1,rfl,fun i hi=>⟨A,0,rfl,?_⟩⟩,fun _ g hg=>by cases hg;exact ⟨_,_,h⟩,fun i hi'=>?_⟩
 ·obtain rfl:i=0:=by simp at hi;omega
  intro j v hv
  have c:=cell_of_row _ _ j _ _ _ h
  simp only [Nat.zero_mul,Nat.add_zero,Nat.zero_add]
  rw [c,List.getElem?_toArray]
  exact hv
 ·obtain rfl:i=0:=by simp at hi';omega
  exact ⟨hi,hp⟩
theorem OwD.head {base:Nat} {W:World} {oa:Option Addr} {oc:Nat} {x:Bare.Mem} (h:OwD base W (.slice oa 1 oc) [x]):∃ (g:Nat) (ia pa:Option Addr) (ic pc:Nat),oa=some ⟨g,0,none⟩∧W.rangeAt g 0 (mcs x (.slice ia x.items.length ic) (.slice pa x.params.length pc))∧RdI true W (.slice ia x.items.length ic) x.items∧RdP true W (.slice pa x.params.length pc) x.params:=by
 obtain ⟨iv,pv,h1,h2⟩:=h
 obtain ⟨g,og,rfl,hr⟩:=(h1.row (by simp)).at.2.2 0 (by simp)
 obtain rfl:og=0:=by
  rcases h1.2.2.2 with ⟨h,_⟩ | ⟨b',cap',cur,h,_⟩
  ·cases h
  ·cases h;rfl
 obtain ⟨hi,hp⟩:=h2 0 (by simp)
 have e:([x]:List Bare.Mem).getD 0 noM=x:=rfl
 rw [e] at hi hp hr
 obtain ⟨ip,hir,hit,hipp⟩:=hi
 obtain ⟨ja,jc,hj⟩:=hir.slice
 obtain ⟨pa,pc,hp'⟩:=hp.1.slice
 rw [hj,hp'] at hr
 refine ⟨g,ja,pa,jc,pc,rfl,by simpa using hr,?_,by rw [← hp'];exact hp⟩
 rw [← hj]
 exact ⟨ip,hir,hit,hipp⟩
theorem find_end {fn:Func} {R:Ending→World→Prop} {tmps:Array Value} {W:World} {B:Nat} {a b c d v:Value} (hf:fn.results = #[.cell 4 44,.tmp 5]) (hp:tmps.getD 4 undef = .pointer (some ⟨B,0,none⟩)) (hq:tmps.getD 5 undef=v)
  (hg:W.heap[B]? = some (.cells #[a,b,c,d] 44 (0,0))) (hR:R (.returned (.tuple #[.agg #[a,b,c,d],v])) W):bodyPost Tryz.prog fn R .ret ⟨tmps,[]⟩ W :=
 bodyPost_ret (results_row2 (p:=4) (q:=5) hf tmps W B 44 #[a,b,c,d] (0,0) _ hp hg Tryz.underlying44 rfl sizeM hq) rfl hR
def FindR (r:Option Bare.Mem) (e:Ending) (w':World):Prop:=∃ (ia pa:Option Addr) (ic pc:Nat),e = .returned (.tuple #[.agg #[.string (tx (r.getD noM).key),.bool (r.getD noM).inner,.slice ia (r.getD noM).items.length ic,.slice pa (r.getD noM).params.length pc],.bool r.isSome])∧RdI true w' (.slice ia (r.getD noM).items.length ic) (r.getD noM).items∧RdP true w' (.slice pa (r.getD noM).params.length pc) (r.getD noM).params
theorem find_r13 {τ:Bool} (v:Value) (key:ByteArray) (d:List Bare.Mem) (w:World) (h:RdD τ w v d) (hd:d.length ≤ 1000000) (hf:∀ i,i < d.length→FitO (d.getD i noM)) :
  Calls Tryz.prog 26 #[v,.string key] w fun e w'=>FindR (findM d (bl key)) e w'∧New w w':=by
 obtain ⟨iv,pv,hrow,-,hip⟩:=h
 obtain ⟨ao,cap,rfl⟩:=hrow.slice
 have HRow:=Lib.hid hrow
 have HIP:=Lib.hid hip
 have HF:=Lib.hid hf
 obtain ⟨n,hn⟩:∃ n,d.length=n:=⟨_,rfl⟩
 have Hn:=Lib.hid hn
 rw [hn] at HRow HIP HF hd ⊢
 clear hrow hip hf hn
 obtain ⟨R,hR⟩:∃ R,findM d (bl key)=R:=⟨_,rfl⟩
 rw [hR]
 have HR:=Lib.hid hR
 obtain ⟨Post,hPost⟩:∃ Post:Ending→World→Prop,(fun e w'=>FindR R e w'∧New w w')=Post:=⟨_,rfl⟩
 have HPost:=Lib.hid hPost
 rw [hPost]
 clear hPost hR
 go_enter Tryz.func26,Tryz.ntmps26
 go_upto_region 2 with fail
 obtain ⟨w1,B,hW1,hB,rB,hN1,hBs⟩:∃ V M,w.alloc (.cells #[.string ⟨#[]⟩,.bool false,.slice none 0 0,.slice none 0 0] 44)=V∧w.heap.size=M∧V.heap[M]? = some (.cells #[.string ⟨#[]⟩,.bool false,.slice none 0 0,.slice none 0 0] 44 (0,0))∧New w V∧M + 1=V.heap.size:=⟨_,_,rfl,rfl,World.alloc_heap_new _ _,(Mods.refl _ _).alloc _,by simp⟩
 rw [hW1]
 try rw [hB]
 have hBw:w.heap.size ≤ B:=by omega
 have HB0:=Lib.hid rB
 clear hW1 hB hBs rB
 go_loopw [6] (fun t wr=>∃ k:Nat,k ≤ n∧t = .int .i64 k∧Hid (∀ j,j < k→(d.getD j noM).key ≠ bl key)∧New w1 wr) (fun t _=>n - (intOf t).toNat)
 case atStart=>exact ⟨0,Nat.zero_le _,rfl,Lib.hid fun i hi=>by omega,Mods.refl _ _⟩
 case round =>
  obtain ⟨k,hk,rfl,hbef,hN⟩:=hrel
  have hNw:=hN1.trans hN
  have rB:=hN.heap HB0.out id
  by_cases hlt:k < n
  ·have hkd:decide ((k:Int) < (n:Int))=true:=decide_eq_true (by omega)
   obtain ⟨x,hx⟩:∃ x,d.getD k noM=x:=⟨_,rfl⟩
   obtain ⟨gd,od,rfl,hrw⟩:=HRow.out.at.2.2 k hlt
   obtain ⟨q0,q1,q2,q3⟩:=cells4 hrw
   have hIP:=HIP.out k hlt
   have hFt:=HF.out k hlt
   rw [hx] at q0 q1 hIP hFt
   have q0:=hNw.cell q0 id
   have q1:=hNw.cell q1 id
   have q2:=hNw.cell q2 id
   have q3:=hNw.cell q3 id
   have hey:=eq_tx (tx x.key) key
   rw [bl_tx] at hey
   obtain ⟨kx,hkx⟩:∃ y,tx x.key=y:=⟨_,rfl⟩
   obtain ⟨yb,hyb⟩:∃ y,x.inner=y:=⟨_,rfl⟩
   rw [hkx] at q0 hey
   rw [hyb] at q1
   have HX:=Lib.hid hx
   by_cases heq:x.key=bl key
   ·rw [decide_eq_true heq] at hey
    have hRR:Hid (R=some x):=Lib.hid (by
     rw [← HR.out,findM_some (i:=k) (by rw [Hn.out];exact hlt) hbef.out (by rw [HX.out];exact heq),HX.out])
    obtain ⟨hI,hP⟩:=hIP
    obtain ⟨ivk,hik⟩:∃ x,iv k=x:=⟨_,rfl⟩
    obtain ⟨pvk,hpk⟩:∃ x,pv k=x:=⟨_,rfl⟩
    rw [hik] at q2 hI
    rw [hpk] at q3 hP
    obtain ⟨ip,hir,hit,hipp⟩:=hI
    obtain ⟨ja,jc,rfl⟩:=hir.slice
    obtain ⟨pa,pc,rfl⟩:=hP.1.slice
    have HI:=Lib.hid (RdI.new (τ:=τ) (v:=.slice ja x.items.length jc) (L:=x.items) ⟨ip,hir,hit,hipp⟩ hNw)
    have HP:=Lib.hid (hP.new hNw)
    obtain ⟨l,hl⟩:∃ l,x.items.length=l:=⟨_,rfl⟩
    obtain ⟨np,hnp⟩:∃ l,x.params.length=l:=⟨_,rfl⟩
    have HLl:=Lib.hid hl
    have HNp:=Lib.hid hnp
    rw [hl] at HI q2
    rw [hnp] at HP q3
    have HMC:Hid (mcs x (.slice ja l jc) (.slice pa np pc) = [.string kx,.bool yb,.slice ja l jc,.slice pa np pc]):=Lib.hid (by unfold mcs;rw [hkx,hyb])
    have HFt:=Lib.hid hFt
    have HOw:Hid (∀ W A,W.heap[A]? = some (.cells #[.string kx,.bool yb,.slice ja l jc,.slice pa np pc] 44 (0,0))→New wr W→Calls Tryz.prog 85 #[.slice (some ⟨A,0,none⟩) 1 1] W fun e w'=>∃ v',e = .returned v'∧OwD W.heap.size w' v' [x]∧New W w'):=Lib.hid fun W A hA hk=>own_r13 _ [x] W (RdD.one (m:=x) (iv:=.slice ja l jc) (pv:=.slice pa np pc) (by rw [HMC.out];exact hA) (HI.out.new hk) (HP.out.new hk)) (by simp) (fun i hi=>by
     obtain rfl:i=0:=by simp at hi;omega
     exact HFt.out)
    have HKx:=Lib.hid hkx
    have HYb:=Lib.hid hyb
    have HMX:Hid (∀ iv pv,mcs x iv pv = [.string kx,.bool yb,iv,pv]):=Lib.hid fun iv pv=>by unfold mcs;rw [hkx,hyb]
    clear hrw hbef hkx hyb hir hit hipp hP hl hnp heq hFt hx hik hpk
    have hA2:New wr (wr.alloc (.cells #[.string kx,.bool yb,.slice ja l jc,.slice pa np pc] 44)):=(Mods.refl _ _).alloc _
    have r2:=World.alloc_heap_new wr (.cells #[.string kx,.bool yb,.slice ja l jc,.slice pa np pc] 44)
    have HO2:=Lib.hid (HOw.out _ _ r2 hA2)
    clear r2 HOw
    have hid0:decide ((0:Int) < 1)=true:=rfl
    go_upto_region 5 with fail
    go_wp2_with (first | (go_at_call 85;refine HO2.out.mono ?_;rintro e w3 ⟨v3,rfl,ho3,hk3⟩;obtain ⟨oa,oc,rfl⟩:=ho3.slice;obtain ⟨g3,xa,za,xc,zc,rfl,hr3,hI3,hP3⟩:=ho3.head;rw [HMX.out,HLl.out,HNp.out] at hr3;rw [HLl.out] at hI3;rw [HNp.out] at hP3;obtain ⟨e0,e1,e2,e3⟩:=cells4 hr3;have rB3:=(hA2.trans hk3).heap rB id) | (refine op_skip rfl (run_store_row 44 (.tmp 4) (.tmp 27) rfl B rfl 44 [.string ⟨#[]⟩,.bool false,.slice none 0 0,.slice none 0 0] [.string kx,.bool yb,.slice xa l xc,.slice za np zc] rfl rB3 sizeM rfl (mcs_one _ _ _ _ _ _ _ _)) ?_))
    have hrow:=setRow_heap w3 B _ #[.string kx,.bool yb,.slice xa l xc,.slice za np zc] _ _ rB3
    have hm4:=mods_setRow rB3 #[.string kx,.bool yb,.slice xa l xc,.slice za np zc]
    refine find_end (by kernel_rfl) rfl rfl hrow ?_
    rw [← HPost.out]
    have hNf:=((hNw.trans hA2).trans hk3).setRow hBw #[.string kx,.bool yb,.slice xa l xc,.slice za np zc]
    refine ⟨?_,hNf⟩
    rw [hRR.out]
    refine ⟨xa,za,xc,zc,?_,?_,?_⟩
    ·show _=Ending.returned (.tuple #[.agg #[.string (tx x.key),.bool x.inner,.slice xa x.items.length xc,.slice za x.params.length zc],.bool true])
     rw [HKx.out,HYb.out,HLl.out,HNp.out]
     rfl
    ·show RdI true _ (.slice xa x.items.length xc) x.items
     rw [HLl.out]
     exact hI3.far hm4 (far_row rB3)
    ·show RdP true _ (.slice za x.params.length zc) x.params
     rw [HNp.out]
     exact hP3.far hm4 (far_row rB3)
   ·rw [decide_eq_false heq] at hey
    have hh:Hid (∀ j,j < k + 1→(d.getD j noM).key ≠ bl key):=Lib.hid fun i hi=>by
     by_cases hik:i < k
     ·exact hbef.out i hik
     ·obtain rfl:i=k:=by omega
      rw [HX.out];exact heq
    clear hrw hbef hkx hyb hIP hFt heq hx q1 q2 q3 rB
    go_wp2_with fail
    go_roundw
    case rel=>exact ⟨k + 1,by omega,by go_num,hh,hN⟩
    case measure=>simp [intOf];omega
  ·obtain rfl:k=n:=by omega
   have hkd:decide ((k:Int) < (k:Int))=false:=decide_eq_false (by omega)
   have hRR:Hid (R=none):=Lib.hid (by rw [← HR.out,findM_none (fun j hj=>hbef.out j (by rw [Hn.out] at hj;exact hj))])
   clear hbef
   go_wp2_with (refine op_skip rfl (run_store_row 44 (.tmp 4) (.tmp 28) rfl B rfl 44 [.string ⟨#[]⟩,.bool false,.slice none 0 0,.slice none 0 0] [.string ⟨#[]⟩,.bool false,.slice none 0 0,.slice none 0 0] rfl rB sizeM rfl (mcs_one _ _ _ _ _ _ _ _)) ?_)
   have hrow:=setRow_heap wr B _ #[.string ⟨#[]⟩,.bool false,.slice none 0 0,.slice none 0 0] _ _ rB
   refine find_end (by kernel_rfl) rfl rfl hrow ?_
   rw [← HPost.out]
   refine ⟨?_,hNw.setRow hBw _⟩
   rw [hRR.out]
   exact ⟨none,none,0,0,rfl,⟨fun _=>undef,RowR.nil _ _ _ _ _,fun _ g hg=>(by cases hg),fun i hi=>(by simp [noM] at hi)⟩,RdP.none _⟩


theorem postD_any (s:Bare.Bs):∃ (D:List Bare.Mem) (z:Int),∀ w e w',PostD s w e w'→∃ v,e = .returned (.tuple #[v,.int .i64 z])∧RdD true w' v D∧New w w':=by
 unfold PostD
 cases Bare.parseD s with
 | none =>
  refine ⟨[],130,fun w e w' h=>?_⟩
  obtain ⟨v,z,rfl,hN,rfl,rfl⟩:=h
  exact ⟨_,rfl,RdD.nil true _ 0,hN⟩
 | some d =>
  refine ⟨d,0,fun w e w' h=>?_⟩
  obtain ⟨v,z,rfl,hN,rfl,hR,-⟩:=h
  exact ⟨_,rfl,hR,hN⟩
theorem printV_pair (r:Option Bare.Bs):∃ p pe,printV r = .tuple #[.string p,.int .i64 pe]:=by
 unfold printV
 cases r with
 | none=>exact ⟨_,_,rfl⟩
 | some l=>exact ⟨_,_,rfl⟩
theorem OwnM.rd {base:Nat} {W:World} {v:Value} {m:Bare.Mem} (h:OwnM base W v m) (h1:m.items.length ≤ 40) (h2:m.params.length ≤ 40) (h3:∀ i,i < m.items.length→(m.items.getD i Bare.noI).params.length ≤ 40) :
  ∃ (ia pa:Option Addr) (ic pc:Nat),v = .agg #[.string (tx m.key),.bool m.inner,.slice ia m.items.length ic,.slice pa m.params.length pc]∧RdI true W (.slice ia m.items.length ic) m.items∧RdP true W (.slice pa m.params.length pc) m.params:=by
 obtain ⟨ja,pa,jc,pc,ip,rfl,g1,g2,g3⟩:=h
 exact ⟨ja,pa,jc,pc,rfl,⟨ip,g1.row (by omega),fun _=>g1.tag,fun i hi=>(g2 i hi).reads (by have:=h3 i hi;omega)⟩,g3.reads (by omega)⟩
def FindQ (m:Bare.Mem) (y:Bool) (w:World) (e:Ending) (w':World):Prop:=∃ (ia pa:Option Addr) (ic pc:Nat),e = .returned (.tuple #[.agg #[.string (tx m.key),.bool m.inner,.slice ia m.items.length ic,.slice pa m.params.length pc],.bool y])∧RdI true w' (.slice ia m.items.length ic) m.items∧RdP true w' (.slice pa m.params.length pc) m.params∧New w w'
theorem mrow (w:World) (a b c d:Value):∃ V M,w.alloc (.cells #[a,b,c,d] 44)=V∧w.heap.size=M∧(V.cell? ⟨M,0,none⟩=some a∧V.cell? ⟨M,1,none⟩=some b∧V.cell? ⟨M,2,none⟩=some c∧V.cell? ⟨M,3,none⟩=some d)∧New w V:=by
 have h:=World.alloc_heap_new w (.cells #[a,b,c,d] 44)
 exact ⟨_,_,rfl,rfl,⟨cell_of_row _ _ 0 _ _ _ h,cell_of_row _ _ 1 _ _ _ h,cell_of_row _ _ 2 _ _ _ h,cell_of_row _ _ 3 _ _ _ h⟩,(Mods.refl _ _).alloc _⟩
theorem dtells_law (key s:ByteArray) (vd vo:Value) (d o:List Bare.Mem) (w:World) (hd:RdD false w vd d) (ho:RdD false w vo o) (hId:InD d) (hIo:InD o) (hk:key.size ≤ 9223372036854775807) (hs:s.size ≤ 9223372036854775807) (hT:Tab w) :
  Calls Tryz.prog 4 #[.string key,.string s,vd,vo] w fun e w'=>e = .returned (.bool true)∧New w w':=by
 have HWk:=Lib.hid (fun W (hN:New w W)=>wakes_d W (hT.new hN))
 have HTb:=Lib.hid hT
 have HGd:=Lib.hid (fun W (hN:New w W)=>great13 vd d W (hd.new hN) hId.strs)
 have HGo:=Lib.hid (fun W (hN:New w W)=>great13 vo o W (ho.new hN) hIo.strs)
 have HDd:=Lib.hid hd
 have HDo:=Lib.hid ho
 have HKd:=Lib.hid hId.kinds
 obtain ⟨da,dc,rfl⟩:=hd.slice
 obtain ⟨oa,oc,rfl⟩:=ho.slice
 obtain ⟨nd,hnd⟩:∃ n,d.length=n:=⟨_,rfl⟩
 obtain ⟨no,hno⟩:∃ n,o.length=n:=⟨_,rfl⟩
 have HNd:=Lib.hid hnd
 have HNo:=Lib.hid hno
 rw [hnd] at HGd HDd ⊢
 rw [hno] at HGo HDo ⊢
 have hN0:New w w:=Mods.refl _ _
 clear hd ho hId hIo hT hnd hno
 go_enter Tryz.func4,Tryz.ntmps4
 go_upto_region 1 with fail
 by_cases h1:(300:Int) < (key.size:Int)
 ·have hgd:decide ((300:Int) < (key.size:Int))=true:=decide_eq_true h1
  clear h1
  go_wp2_with fail
  refine (HWk.out _ hN0).mono ?_
  rintro e wz ⟨rfl,hkz⟩
  go_wp2_with fail
  go_ret
  exact ⟨rfl,hN0.trans hkz⟩
 have hgd:decide ((300:Int) < (key.size:Int))=false:=decide_eq_false h1
 by_cases h2:(300:Int) < (s.size:Int)
 ·have hgs:decide ((300:Int) < (s.size:Int))=true:=decide_eq_true h2
  clear h1 h2
  go_wp2_with fail
  refine (HWk.out _ hN0).mono ?_
  rintro e wz ⟨rfl,hkz⟩
  go_wp2_with fail
  go_ret
  exact ⟨rfl,hN0.trans hkz⟩
 have hgs:decide ((300:Int) < (s.size:Int))=false:=decide_eq_false h2
 have hs3:s.size ≤ 1000000:=by omega
 clear h1 h2
 go_wp2_with fail
 refine (HGd.out _ hN0).mono ?_
 rintro e w1 ⟨ga,rfl,hN,hga⟩
 cases ga with
 | true =>
  clear hga
  go_wp2_with fail
  refine (HWk.out _ hN).mono ?_
  rintro e wz ⟨rfl,hkz⟩
  go_wp2_with fail
  go_ret
  exact ⟨rfl,hN.trans hkz⟩
 | false =>
 obtain ⟨a1,a2⟩:=hga rfl
 clear hga hN0
 go_wp2_with fail
 refine (HGo.out _ hN).mono ?_
 rintro e w2 ⟨gb',rfl,hk2,hgb⟩
 replace hN:=hN.trans hk2
 cases gb' with
 | true =>
  clear hgb hk2
  go_wp2_with fail
  refine (HWk.out _ hN).mono ?_
  rintro e wz ⟨rfl,hkz⟩
  go_wp2_with fail
  go_ret
  exact ⟨rfl,hN.trans hkz⟩
 | false =>
 obtain ⟨b1,b2⟩:=hgb rfl
 rw [← HNd.out] at a1 a2
 rw [← HNo.out] at b1 b2
 obtain ⟨pra,-⟩:=small_pr HKd.out a1 a2
 have hla:=(small_parts a1 a2).1
 have hfit:∀ m ∈ d,m.items.length ≤ 40∧m.params.length ≤ 40∧∀ i,i < m.items.length→(m.items.getD i Bare.noI).params.length ≤ 40:=fun m hm=>by
  obtain ⟨-,h1,h2,-,h3⟩:=(small_parts a1 a2).2 m hm
  exact ⟨h1,h2,fun i hi=>(h3 _ (getD_mem hi)).2.1⟩
 have hfm:((findM d (bl key)).getD noM).items.length ≤ 40∧((findM d (bl key)).getD noM).params.length ≤ 40∧∀ i,i < ((findM d (bl key)).getD noM).items.length→(((findM d (bl key)).getD noM).items.getD i Bare.noI).params.length ≤ 40:=by
  cases hf:findM d (bl key) with
  | none=>exact ⟨by decide,by decide,fun i hi=>absurd hi (by simp [noM])⟩
  | some m=>exact hfit m (List.mem_of_find?_eq_some hf)
 obtain ⟨D,z,hpd⟩:=postD_any (bl s)
 have HA:=Lib.hid (fun W (hN:New w W)=>(parse_d s W hs3 (HTb.out.new hN)).mono fun e w' h=>hpd _ _ _ h)
 have HB:=Lib.hid (fun W=>(parse_r13 s W hs3).mono fun e w' h=>hpd _ _ _ h)
 have HP1:=Lib.hid (fun W (hN:New w W)=>print_d _ d W (HDd.out.new hN) pra (HTb.out.new hN))
 have HP2:=Lib.hid (fun W (hN:New w W)=>print_r13 _ d W (HDd.out.new hN) pra)
 obtain ⟨t,te,hpv⟩:=printV_pair (Bare.printD d)
 rw [hpv] at HP1 HP2
 have HF1:Hid (∀ W,New w W→Calls Tryz.prog 25 #[.slice da nd dc,.string key] W (FindQ ((findM d (bl key)).getD noM) (findM d (bl key)).isSome W)):=Lib.hid fun W hN=>(find_any _ key d W (HDd.out.new hN) (fun m hm=>by obtain ⟨a,b,c⟩:=hfit m hm;exact ⟨by omega,by omega,fun j hj=>by have:=c j hj;omega⟩)).mono fun e w' h=>by
  obtain ⟨v',rfl,hO,hN'⟩:=h
  obtain ⟨ia,pa,ic,pc,rfl,hI,hP⟩:=hO.rd hfm.1 hfm.2.1 hfm.2.2
  exact ⟨ia,pa,ic,pc,rfl,hI,hP,hN'⟩
 have HF2:Hid (∀ W,New w W→Calls Tryz.prog 26 #[.slice da nd dc,.string key] W (FindQ ((findM d (bl key)).getD noM) (findM d (bl key)).isSome W)):=Lib.hid fun W hN=>(find_r13 _ key d W (HDd.out.new hN) (by omega) (fun i hi=>by obtain ⟨a,b,c⟩:=hfit _ (getD_mem (d:=noM) hi);exact ⟨by omega,by omega,fun j hj=>by have:=c j hj;omega⟩)).mono fun e w' h=>by
  obtain ⟨⟨ia,pa,ic,pc,rfl,hI,hP⟩,hN'⟩:=h
  exact ⟨ia,pa,ic,pc,rfl,hI,hP,hN'⟩
 have HK1:=Lib.hid (fun W=>key_any key W hk)
 have HK2:Hid (∀ W:World,Calls Tryz.prog 30 #[.string key] W fun e w'=>e = .returned (.bool (Bare.keyB (bl key)))∧New W w'):=Lib.hid fun W=>(key_r13 key W hk).mono fun e w' h=>⟨h.1,by rw [h.2];exact Mods.refl _ _⟩
 have HR1:=Lib.hid (fun W (hN:New w W)=>right_d _ d W (HDd.out.new hN) (fun m hm=>(pra.2 m hm).1))
 have HR2:=Lib.hid (fun W (hN:New w W)=>right_r13 _ d W (HDd.out.new hN) (by omega) (fun m hm=>memS_pr (pra.2 m hm)))
 have HS1:=Lib.hid (fun W (hN:New w W)=>same_d _ _ d o W (HDd.out.new hN) (HDo.out.new hN))
 have HS2:=Lib.hid (fun W (hN:New w W)=>rsame_d _ _ d o W (HDd.out.new hN) (HDo.out.new hN))
 obtain ⟨kb,hkb⟩:∃ x,Bare.keyB (bl key)=x:=⟨_,rfl⟩
 obtain ⟨rb,hrb⟩:∃ x,Bare.rightD d=x:=⟨_,rfl⟩
 obtain ⟨sb,hsb⟩:∃ x,decide (d=o)=x:=⟨_,rfl⟩
 obtain ⟨m,hm⟩:∃ x,(findM d (bl key)).getD noM=x:=⟨_,rfl⟩
 obtain ⟨fy,hfy⟩:∃ x,(findM d (bl key)).isSome=x:=⟨_,rfl⟩
 rw [hkb] at HK1 HK2
 rw [hrb] at HR1 HR2
 rw [hsb] at HS1 HS2
 rw [hm,hfy] at HF1 HF2
 obtain ⟨q,hq⟩:∃ x,tx m.key=x:=⟨_,rfl⟩
 obtain ⟨ib,hib⟩:∃ x,m.inner=x:=⟨_,rfl⟩
 obtain ⟨mi,hmi⟩:∃ x,m.items.length=x:=⟨_,rfl⟩
 obtain ⟨mp,hmp⟩:∃ x,m.params.length=x:=⟨_,rfl⟩
 unfold FindQ at HF1 HF2
 rw [hq,hib,hmi,hmp] at HF1 HF2
 have HMM:Hid (∀ (ia pa ja qa:Option Addr) (ic pc jc qc:Nat) W,RdI true W (.slice ia mi ic) m.items→RdP true W (.slice pa mp pc) m.params→RdI true W (.slice ja mi jc) m.items→RdP true W (.slice qa mp qc) m.params→Calls Tryz.prog 28 #[.agg #[.string q,.bool ib,.slice ia mi ic,.slice pa mp pc],.agg #[.string q,.bool ib,.slice ja mi jc,.slice qa mp qc]] W fun e w'=>e = .returned (.bool true)∧New W w'):=Lib.hid fun ia pa ja qa ic pc jc qc W i1 i2 i3 i4=>by
  have h:=samem_r m m _ _ _ _ W i1 i2 i3 i4
  unfold mcs at h
  rw [hq,hib,decide_eq_true rfl] at h
  exact h
 have HDD:Hid (∀ (va vb:Value) W,RdD true W va D→RdD true W vb D→Calls Tryz.prog 27 #[va,vb] W fun e w'=>e = .returned (.bool true)∧New W w'):=Lib.hid fun va vb W i1 i2=>by
  have h:=rsame_d va vb D D W i1 i2
  rw [decide_eq_true rfl] at h
  exact h
 clear a1 a2 b1 b2 pra hla hfit hfm hpd hpv hkb hrb hsb hm hfy hq hib hmi hmp hs3 hk hs hk2 HGd HGo HDd HDo HKd HNd HNo HTb
 go_wp2_with fail
 refine (HA.out _ hN).mono ?_
 rintro e w3 ⟨va,rfl,hA,hk⟩
 obtain ⟨aa,ac,rfl⟩:=hA.slice
 have HRA:=Lib.hid hA
 replace hN:=hN.trans hk
 clear hk HA hA
 go_wp2_with fail
 refine (HB.out _).mono ?_
 rintro e w4 ⟨vb,rfl,hB,hk⟩
 obtain ⟨ba,bc,rfl⟩:=hB.slice
 replace HRA:=Lib.hid (HRA.out.new hk)
 have HRB:=Lib.hid hB
 replace hN:=hN.trans hk
 obtain ⟨nD,hnD⟩:∃ x,D.length=x:=⟨_,rfl⟩
 rw [hnD] at HRA HRB ⊢
 clear hk HB hB hnD
 go_wp2_with fail
 refine (HP1.out _ hN).mono ?_
 rintro e w5 ⟨rfl,hk⟩
 replace HRA:=Lib.hid (HRA.out.new hk)
 replace HRB:=Lib.hid (HRB.out.new hk)
 replace hN:=hN.trans hk
 clear hk HP1
 go_wp2_with fail
 refine (HP2.out _ hN).mono ?_
 rintro e w6 ⟨rfl,hk⟩
 replace HRA:=Lib.hid (HRA.out.new hk)
 replace HRB:=Lib.hid (HRB.out.new hk)
 replace hN:=hN.trans hk
 clear hk HP2
 go_wp2_with fail
 refine (HF1.out _ hN).mono ?_
 rintro e w7 ⟨ia,pa,ic,pc,rfl,hI,hP,hk⟩
 go_upto_region 8 with fail
 obtain ⟨w8,X,hW8,hX,⟨x0,x1,x2,x3⟩,hk8⟩:=mrow w7 (.string q) (.bool ib) (.slice ia mi ic) (.slice pa mp pc)
 rw [hW8,hX]
 have hkk:=hk.trans hk8
 have HI1:=Lib.hid (And.intro (hI.new hk8) (hP.new hk8))
 replace HRA:=Lib.hid (HRA.out.new hkk)
 replace HRB:=Lib.hid (HRB.out.new hkk)
 replace hN:=hN.trans hkk
 clear hk hk8 hkk hW8 hX HF1 hI hP
 go_wp2_with fail
 refine (HF2.out _ hN).mono ?_
 rintro e w9 ⟨ja,qa,jc,qc,rfl,hI,hP,hk⟩
 go_upto_region 9 with fail
 obtain ⟨w10,Y,hW10,hY,⟨y0,y1,y2,y3⟩,hk10⟩:=mrow w9 (.string q) (.bool ib) (.slice ja mi jc) (.slice qa mp qc)
 rw [hW10,hY]
 have hkk:=hk.trans hk10
 have HI2:=Lib.hid (And.intro (hI.new hk10) (hP.new hk10))
 replace HI1:=Lib.hid (And.intro (HI1.out.1.new hkk) (HI1.out.2.new hkk))
 replace HRA:=Lib.hid (HRA.out.new hkk)
 replace HRB:=Lib.hid (HRB.out.new hkk)
 replace hN:=hN.trans hkk
 replace x0:=hkk.cell x0 id
 replace x1:=hkk.cell x1 id
 replace x2:=hkk.cell x2 id
 replace x3:=hkk.cell x3 id
 clear hk hk10 hkk hW10 hY HF2 hI hP
 go_wp2_with fail
 refine (HDD.out _ _ _ HRA.out HRB.out).mono ?_
 rintro e w11 ⟨rfl,hk⟩
 replace HI1:=Lib.hid (And.intro (HI1.out.1.new hk) (HI1.out.2.new hk))
 replace HI2:=Lib.hid (And.intro (HI2.out.1.new hk) (HI2.out.2.new hk))
 replace hN:=hN.trans hk
 replace x0:=hk.cell x0 id
 replace x1:=hk.cell x1 id
 replace x2:=hk.cell x2 id
 replace x3:=hk.cell x3 id
 replace y0:=hk.cell y0 id
 replace y1:=hk.cell y1 id
 replace y2:=hk.cell y2 id
 replace y3:=hk.cell y3 id
 clear hk HDD HRA HRB
 go_wp2_with fail
 refine (HMM.out _ _ _ _ _ _ _ _ _ HI1.out.1 HI1.out.2 HI2.out.1 HI2.out.2).mono ?_
 rintro e w12 ⟨rfl,hk⟩
 replace hN:=hN.trans hk
 clear hk HMM HI1 HI2 x0 x1 x2 x3 y0 y1 y2 y3
 go_wp2_with fail
 refine (HK1.out _).mono ?_
 rintro e w13 ⟨rfl,hk⟩
 replace hN:=hN.trans hk
 clear hk HK1
 go_wp2_with fail
 refine (HK2.out _).mono ?_
 rintro e w14 ⟨rfl,hk⟩
 replace hN:=hN.trans hk
 clear hk HK2
 go_wp2_with fail
 refine (HR1.out _ hN).mono ?_
 rintro e w15 ⟨rfl,hk⟩
 replace hN:=hN.trans hk
 clear hk HR1
 go_wp2_with fail
 refine (HR2.out _ hN).mono ?_
 rintro e w16 ⟨rfl,hk⟩
 replace hN:=hN.trans hk
 clear hk HR2
 go_wp2_with fail
 refine (HS1.out _ hN).mono ?_
 rintro e w17 ⟨rfl,hk⟩
 replace hN:=hN.trans hk
 clear hk HS1
 go_wp2_with fail
 refine (HS2.out _ hN).mono ?_
 rintro e w18 ⟨rfl,hk⟩
 replace hN:=hN.trans hk
 clear hk HS2
 go_wp2_with fail
 refine (HWk.out _ hN).mono ?_
 rintro e w19 ⟨rfl,hk⟩
 go_wp2_with fail
 go_ret
 exact ⟨rfl,hN.trans hk⟩
end Go.Proofs.YtnknmmbnhoanfaaGreatDoor
