/- Texts joined. -/
import Derived.Test.YtnknmmbnhoanfaaGreatDoorH18
import Derived.Test.YtnknmmbnhoanfaaGreatDoorH11
import Derived.Test.YtnknmmbnhoanfaaGreatDoorH05
import Derived.Deep.CutBlock
import Derived.Deep.DeepCutAuto
set_option linter.unusedSimpArgs false
set_option linter.unusedVariables false
set_option maxHeartbeats 16000000
set_option maxRecDepth 100000
namespace Go.Proofs.YtnknmmbnhoanfaaGreatDoor
open Go.RowKit Go.Shelf Go.Cs
attribute [local go_sem] Oper.semAt_some


theorem RdD.one {τ:Bool} {W:World} {A:Nat} {m:Bare.Mem} {iv pv:Value} {fr:Nat × Nat} (h:W.heap[A]? = some (.cells (mcs m iv pv).toArray 44 fr)) (hi:RdI τ W iv m.items) (hp:RdP τ W pv m.params):RdD τ W (.slice (some ⟨A,0,none⟩) 1 1) [m]:=by
 refine ⟨fun _=>iv,fun _=>pv,⟨by show 1 ≤ _;omega,some ⟨A,0,none⟩,1,rfl,fun i hi=>⟨A,0,rfl,?_⟩⟩,fun _ g hg=>by cases hg;exact ⟨_,_,h⟩,fun i hi'=>?_⟩
 ·obtain rfl:i=0:=by simp at hi;omega
  intro j v hv
  have c:=cell_of_row _ _ j _ _ _ h
  simp only [Nat.zero_mul,Nat.add_zero,Nat.zero_add]
  rw [c,List.getElem?_toArray]
  exact hv
 ·obtain rfl:i=0:=by simp at hi';omega
  exact ⟨hi,hp⟩
theorem OwD.head {base:Nat} {W:World} {oa:Option Addr} {oc:Nat} {x:Bare.Mem} (h:OwD base W (.slice oa 1 oc) [x]):∃ (g:Nat) (ia pa:Option Addr) (ic pc:Nat),oa=some ⟨g,0,none⟩∧W.rangeAt g 0 (mcs x (.slice ia x.items.length ic) (.slice pa x.params.length pc))∧RdI true W (.slice ia x.items.length ic) x.items∧RdP true W (.slice pa x.params.length pc) x.params:=by
 obtain ⟨iv,pv,h1,h2⟩:=h
 obtain ⟨g,og,rfl,hr⟩:=(h1.row (by simp)).at.2.2 0 (by simp)
 obtain rfl:og=0:=by
  rcases h1.2.2.2 with ⟨h,_⟩ | ⟨b',cap',cur,h,_⟩
  ·cases h
  ·cases h;rfl
 obtain ⟨hi,hp⟩:=h2 0 (by simp)
 have e:([x]:List Bare.Mem).getD 0 noM=x:=rfl
 rw [e] at hi hp hr
 obtain ⟨ip,hir,hit,hipp⟩:=hi
 obtain ⟨ja,jc,hj⟩:=hir.slice
 obtain ⟨pa,pc,hp'⟩:=hp.1.slice
 rw [hj,hp'] at hr
 refine ⟨g,ja,pa,jc,pc,rfl,by simpa using hr,?_,by rw [← hp'];exact hp⟩
 rw [← hj]
 exact ⟨ip,hir,hit,hipp⟩
theorem find_end {fn:Func} {R:Ending→World→Prop} {tmps:Array Value} {W:World} {B:Nat} {a b c d v:Value} (hf:fn.results = #[.cell 4 44,.tmp 5]) (hp:tmps.getD 4 undef = .pointer (some ⟨B,0,none⟩)) (hq:tmps.getD 5 undef=v)
  (hg:W.heap[B]? = some (.cells #[a,b,c,d] 44 (0,0))) (hR:R (.returned (.tuple #[.agg #[a,b,c,d],v])) W):bodyPost Tryz.prog fn R .ret ⟨tmps,[]⟩ W :=
 bodyPost_ret (results_row2 (p:=4) (q:=5) hf tmps W B 44 #[a,b,c,d] (0,0) _ hp hg Tryz.underlying44 rfl sizeM hq) rfl hR
def FindR (r:Option Bare.Mem) (e:Ending) (w':World):Prop:=∃ (ia pa:Option Addr) (ic pc:Nat),e = .returned (.tuple #[.agg #[.string (tx (r.getD noM).key),.bool (r.getD noM).inner,.slice ia (r.getD noM).items.length ic,.slice pa (r.getD noM).params.length pc],.bool r.isSome])∧RdI true w' (.slice ia (r.getD noM).items.length ic) (r.getD noM).items∧RdP true w' (.slice pa (r.getD noM).params.length pc) (r.getD noM).params
theorem find_r13 {τ:Bool} (v:Value) (key:ByteArray) (d:List Bare.Mem) (w:World) (h:RdD τ w v d) (hd:d.length ≤ 1000000) (hf:∀ i,i < d.length→FitO (d.getD i noM)) :
  Calls Tryz.prog 26 #[v,.string key] w fun e w'=>FindR (findM d (bl key)) e w'∧New w w':=by
 obtain ⟨iv,pv,hrow,-,hip⟩:=h
 obtain ⟨ao,cap,rfl⟩:=hrow.slice
 have HRow:=Lib.hid hrow
 have HIP:=Lib.hid hip
 have HF:=Lib.hid hf
 obtain ⟨n,hn⟩:∃ n,d.length=n:=⟨_,rfl⟩
 have Hn:=Lib.hid hn
 rw [hn] at HRow HIP HF hd ⊢
 clear hrow hip hf hn
 obtain ⟨R,hR⟩:∃ R,findM d (bl key)=R:=⟨_,rfl⟩
 rw [hR]
 have HR:=Lib.hid hR
 obtain ⟨Post,hPost⟩:∃ Post:Ending→World→Prop,(fun e w'=>FindR R e w'∧New w w')=Post:=⟨_,rfl⟩
 have HPost:=Lib.hid hPost
 rw [hPost]
 clear hPost hR
 go_enter Tryz.func26,Tryz.ntmps26
 go_upto_region 2 with fail
 obtain ⟨w1,B,hW1,hB,rB,hN1,hBs⟩:∃ V M,w.alloc (.cells #[.string ⟨#[]⟩,.bool false,.slice none 0 0,.slice none 0 0] 44)=V∧w.heap.size=M∧V.heap[M]? = some (.cells #[.string ⟨#[]⟩,.bool false,.slice none 0 0,.slice none 0 0] 44 (0,0))∧New w V∧M + 1=V.heap.size:=⟨_,_,rfl,rfl,World.alloc_heap_new _ _,(Mods.refl _ _).alloc _,by simp⟩
 rw [hW1]
 try rw [hB]
 have hBw:w.heap.size ≤ B:=by omega
 have HB0:=Lib.hid rB
 clear hW1 hB hBs rB
 go_loopw [6] (fun t wr=>∃ k:Nat,k ≤ n∧t = .int .i64 k∧Hid (∀ j,j < k→(d.getD j noM).key ≠ bl key)∧New w1 wr) (fun t _=>n - (intOf t).toNat)
 case atStart=>exact ⟨0,Nat.zero_le _,rfl,Lib.hid fun i hi=>by omega,Mods.refl _ _⟩
 case round =>
  obtain ⟨k,hk,rfl,hbef,hN⟩:=hrel
  have hNw:=hN1.trans hN
  have rB:=hN.heap HB0.out id
  by_cases hlt:k < n
  ·have hkd:decide ((k:Int) < (n:Int))=true:=decide_eq_true (by omega)
   obtain ⟨x,hx⟩:∃ x,d.getD k noM=x:=⟨_,rfl⟩
   obtain ⟨gd,od,rfl,hrw⟩:=HRow.out.at.2.2 k hlt
   obtain ⟨q0,q1,q2,q3⟩:=cells4 hrw
   have hIP:=HIP.out k hlt
   have hFt:=HF.out k hlt
   rw [hx] at q0 q1 hIP hFt
   have q0:=hNw.cell q0 id
   have q1:=hNw.cell q1 id
   have q2:=hNw.cell q2 id
   have q3:=hNw.cell q3 id
   have hey:=eq_tx (tx x.key) key
   rw [bl_tx] at hey
   obtain ⟨kx,hkx⟩:∃ y,tx x.key=y:=⟨_,rfl⟩
   obtain ⟨yb,hyb⟩:∃ y,x.inner=y:=⟨_,rfl⟩
   rw [hkx] at q0 hey
   rw [hyb] at q1
   have HX:=Lib.hid hx
   by_cases heq:x.key=bl key
   ·rw [decide_eq_true heq] at hey
    have hRR:Hid (R=some x):=Lib.hid (by
     rw [← HR.out,findM_some (i:=k) (by rw [Hn.out];exact hlt) hbef.out (by rw [HX.out];exact heq),HX.out])
    obtain ⟨hI,hP⟩:=hIP
    obtain ⟨ivk,hik⟩:∃ x,iv k=x:=⟨_,rfl⟩
    obtain ⟨pvk,hpk⟩:∃ x,pv k=x:=⟨_,rfl⟩
    rw [hik] at q2 hI
    rw [hpk] at q3 hP
    obtain ⟨ip,hir,hit,hipp⟩:=hI
    obtain ⟨ja,jc,rfl⟩:=hir.slice
    obtain ⟨pa,pc,rfl⟩:=hP.1.slice
    have HI:=Lib.hid (RdI.new (τ:=τ) (v:=.slice ja x.items.length jc) (L:=x.items) ⟨ip,hir,hit,hipp⟩ hNw)
    have HP:=Lib.hid (hP.new hNw)
    obtain ⟨l,hl⟩:∃ l,x.items.length=l:=⟨_,rfl⟩
    obtain ⟨np,hnp⟩:∃ l,x.params.length=l:=⟨_,rfl⟩
    have HLl:=Lib.hid hl
    have HNp:=Lib.hid hnp
    rw [hl] at HI q2
    rw [hnp] at HP q3
    have HMC:Hid (mcs x (.slice ja l jc) (.slice pa np pc) = [.string kx,.bool yb,.slice ja l jc,.slice pa np pc]):=Lib.hid (by unfold mcs;rw [hkx,hyb])
    have HFt:=Lib.hid hFt
    have HOw:Hid (∀ W A,W.heap[A]? = some (.cells #[.string kx,.bool yb,.slice ja l jc,.slice pa np pc] 44 (0,0))→New wr W→Calls Tryz.prog 85 #[.slice (some ⟨A,0,none⟩) 1 1] W fun e w'=>∃ v',e = .returned v'∧OwD W.heap.size w' v' [x]∧New W w'):=Lib.hid fun W A hA hk=>own_r13 _ [x] W (RdD.one (m:=x) (iv:=.slice ja l jc) (pv:=.slice pa np pc) (by rw [HMC.out];exact hA) (HI.out.new hk) (HP.out.new hk)) (by simp) (fun i hi=>by
     obtain rfl:i=0:=by simp at hi;omega
     exact HFt.out)
    have HKx:=Lib.hid hkx
    have HYb:=Lib.hid hyb
    have HMX:Hid (∀ iv pv,mcs x iv pv = [.string kx,.bool yb,iv,pv]):=Lib.hid fun iv pv=>by unfold mcs;rw [hkx,hyb]
    clear hrw hbef hkx hyb hir hit hipp hP hl hnp heq hFt hx hik hpk
    have hA2:New wr (wr.alloc (.cells #[.string kx,.bool yb,.slice ja l jc,.slice pa np pc] 44)):=(Mods.refl _ _).alloc _
    have r2:=World.alloc_heap_new wr (.cells #[.string kx,.bool yb,.slice ja l jc,.slice pa np pc] 44)
    have HO2:=Lib.hid (HOw.out _ _ r2 hA2)
    clear r2 HOw
    have hid0:decide ((0:Int) < 1)=true:=rfl
    go_upto_region 5 with fail
    go_wp2_with (first | (go_at_call 85;refine HO2.out.mono ?_;rintro e w3 ⟨v3,rfl,ho3,hk3⟩;obtain ⟨oa,oc,rfl⟩:=ho3.slice;obtain ⟨g3,xa,za,xc,zc,rfl,hr3,hI3,hP3⟩:=ho3.head;rw [HMX.out,HLl.out,HNp.out] at hr3;rw [HLl.out] at hI3;rw [HNp.out] at hP3;obtain ⟨e0,e1,e2,e3⟩:=cells4 hr3;have rB3:=(hA2.trans hk3).heap rB id) | (refine op_skip rfl (run_store_row 44 (.tmp 4) (.tmp 27) rfl B rfl 44 [.string ⟨#[]⟩,.bool false,.slice none 0 0,.slice none 0 0] [.string kx,.bool yb,.slice xa l xc,.slice za np zc] rfl rB3 sizeM rfl (mcs_one _ _ _ _ _ _ _ _)) ?_))
    have hrow:=setRow_heap w3 B _ #[.string kx,.bool yb,.slice xa l xc,.slice za np zc] _ _ rB3
    have hm4:=mods_setRow rB3 #[.string kx,.bool yb,.slice xa l xc,.slice za np zc]
    refine find_end (by kernel_rfl) rfl rfl hrow ?_
    rw [← HPost.out]
    have hNf:=((hNw.trans hA2).trans hk3).setRow hBw #[.string kx,.bool yb,.slice xa l xc,.slice za np zc]
    refine ⟨?_,hNf⟩
    rw [hRR.out]
    refine ⟨xa,za,xc,zc,?_,?_,?_⟩
    ·show _=Ending.returned (.tuple #[.agg #[.string (tx x.key),.bool x.inner,.slice xa x.items.length xc,.slice za x.params.length zc],.bool true])
     rw [HKx.out,HYb.out,HLl.out,HNp.out]
     rfl
    ·show RdI true _ (.slice xa x.items.length xc) x.items
     rw [HLl.out]
     exact hI3.far hm4 (far_row rB3)
    ·show RdP true _ (.slice za x.params.length zc) x.params
     rw [HNp.out]
     exact hP3.far hm4 (far_row rB3)
   ·rw [decide_eq_false heq] at hey
    have hh:Hid (∀ j,j < k + 1→(d.getD j noM).key ≠ bl key):=Lib.hid fun i hi=>by
     by_cases hik:i < k
     ·exact hbef.out i hik
     ·obtain rfl:i=k:=by omega
      rw [HX.out];exact heq
    clear hrw hbef hkx hyb hIP hFt heq hx q1 q2 q3 rB
    go_wp2_with fail
    go_roundw
    case rel=>exact ⟨k + 1,by omega,by go_num,hh,hN⟩
    case measure=>simp [intOf];omega
  ·obtain rfl:k=n:=by omega
   have hkd:decide ((k:Int) < (k:Int))=false:=decide_eq_false (by omega)
   have hRR:Hid (R=none):=Lib.hid (by rw [← HR.out,findM_none (fun j hj=>hbef.out j (by rw [Hn.out] at hj;exact hj))])
   clear hbef
   go_wp2_with (refine op_skip rfl (run_store_row 44 (.tmp 4) (.tmp 28) rfl B rfl 44 [.string ⟨#[]⟩,.bool false,.slice none 0 0,.slice none 0 0] [.string ⟨#[]⟩,.bool false,.slice none 0 0,.slice none 0 0] rfl rB sizeM rfl (mcs_one _ _ _ _ _ _ _ _)) ?_)
   have hrow:=setRow_heap wr B _ #[.string ⟨#[]⟩,.bool false,.slice none 0 0,.slice none 0 0] _ _ rB
   refine find_end (by kernel_rfl) rfl rfl hrow ?_
   rw [← HPost.out]
   refine ⟨?_,hNw.setRow hBw _⟩
   rw [hRR.out]
   exact ⟨none,none,0,0,rfl,⟨fun _=>undef,RowR.nil _ _ _ _ _,fun _ g hg=>(by cases hg),fun i hi=>(by simp [noM] at hi)⟩,RdP.none _⟩


theorem heard_find (d:List Bare.Mem) (k:Bare.Bs):Bare.heard d k=match findM d k with
 | some m=>if m.inner=false∧m.items.length=1 then some (m.items.headD Bare.noI).bare else none
 | none=>none:=rfl
theorem sizeBa:(Tryz.prog.info? 23).map (·.size)=some 4:=by kernel_rfl
theorem ba_one (k n:Int) (t:ByteArray) (y:Bool):∀ u ∈ ([.int .u8 k,.int .i64 n,.string t,.bool y]:List Value),u.oneCell'=true:=by
 intro u hu
 simp only [List.mem_cons,List.not_mem_nil,or_false] at hu
 rcases hu with rfl | rfl | rfl | rfl <;> rfl
theorem bare_end {fn:Func} {R:Ending→World→Prop} {tmps:Array Value} {W:World} {B:Nat} {a b c d v:Value} (hf:fn.results = #[.cell 4 23,.tmp 5]) (hp:tmps.getD 4 undef = .pointer (some ⟨B,0,none⟩)) (hq:tmps.getD 5 undef=v)
  (hg:W.heap[B]? = some (.cells #[a,b,c,d] 23 (0,0))) (hR:R (.returned (.tuple #[.agg #[a,b,c,d],v])) W):bodyPost Tryz.prog fn R .ret ⟨tmps,[]⟩ W :=
 bodyPost_ret (results_row2 (p:=4) (q:=5) hf tmps W B 23 #[a,b,c,d] (0,0) _ hp hg Tryz.underlying23 rfl sizeBa hq) rfl hR
def heardV (r:Option Bare.It):Value:=.tuple #[.agg #[.int .u8 (r.getD noIt).kind,.int .i64 (r.getD noIt).int,.string (tx (r.getD noIt).text),.bool (r.getD noIt).yes],.bool r.isSome]
theorem bare_r14 {τ:Bool} (v:Value) (key:ByteArray) (d:List Bare.Mem) (w:World) (h:RdD τ w v d) (hd:d.length ≤ 1000000) (hf:∀ i,i < d.length→FitO (d.getD i noM)) :
  Calls Tryz.prog 104 #[v,.string key] w fun e w'=>e = .returned (heardV (Bare.heard d (bl key)))∧New w w':=by
 have HFn:=Lib.hid (fun W (hN:New w W)=>find_r13 v key d W (h.new hN) hd hf)
 obtain ⟨V,hV⟩:∃ V,heardV (Bare.heard d (bl key))=V:=⟨_,rfl⟩
 have HV:=Lib.hid hV
 rw [hV]
 obtain ⟨Post,hPost⟩:∃ Post:Ending→World→Prop,(fun e w'=>e = .returned V∧New w w')=Post:=⟨_,rfl⟩
 have HPost:=Lib.hid hPost
 rw [hPost]
 obtain ⟨ao,cap,rfl⟩:∃ ao cap,v = .slice ao d.length cap:=by obtain ⟨_,_,h1,_⟩:=h;exact h1.slice
 obtain ⟨n,hn⟩:∃ n,d.length=n:=⟨_,rfl⟩
 rw [hn] at HFn ⊢
 clear hPost hV h hf hd hn
 go_enter Tryz.func104,Tryz.ntmps104
 go_upto_region 1 with fail
 obtain ⟨w1,B,hW1,hB,rB,hN1⟩:∃ V M,w.alloc (.cells #[.int .u8 0,.int .i64 0,.string ⟨#[]⟩,.bool false] 23)=V∧w.heap.size=M∧V.heap[M]? = some (.cells #[.int .u8 0,.int .i64 0,.string ⟨#[]⟩,.bool false] 23 (0,0))∧New w V:=⟨_,_,rfl,rfl,World.alloc_heap_new _ _,(Mods.refl _ _).alloc _⟩
 rw [hW1,hB]
 have hBw:w.heap.size ≤ B:=by omega
 clear hW1 hB
 have HF1:=HFn.out _ hN1
 rw [heard_find] at HV
 cases hfi:findM d (bl key) with
 | none =>
  rw [hfi] at HF1 HV
  have HF1:Hid (Calls Tryz.prog 26 #[.slice ao n cap,.string key] w1 fun e w'=>(∃ (ia pa:Option Addr) (ic pc:Nat),e = .returned (.tuple #[.agg #[.string ⟨#[]⟩,.bool false,.slice ia 0 ic,.slice pa 0 pc],.bool false]))∧New w1 w'):=Lib.hid (HF1.mono fun e w' h=>by
   obtain ⟨⟨ia,pa,ic,pc,he,-⟩,hN⟩:=h
   exact ⟨⟨ia,pa,ic,pc,he⟩,hN⟩)
  clear HFn hfi
  go_upto_region 2 with (go_at_call 26;refine HF1.out.mono ?_;rintro e w2 ⟨⟨ia,pa,ic,pc,rfl⟩,hN2⟩)
  obtain ⟨w3,M,hW3,hM,rM,hN3⟩:∃ V M,w2.alloc (.cells #[.string ⟨#[]⟩,.bool false,.slice ia 0 ic,.slice pa 0 pc] 44)=V∧w2.heap.size=M∧V.heap[M]? = some (.cells #[.string ⟨#[]⟩,.bool false,.slice ia 0 ic,.slice pa 0 pc] 44 (0,0))∧New w2 V:=⟨_,_,rfl,rfl,World.alloc_heap_new _ _,(Mods.refl _ _).alloc _⟩
  rw [hW3,hM]
  have rB3:=(hN2.trans hN3).heap rB id
  have c1:=cell_of_row _ _ 1 _ _ _ rM
  have c2:=cell_of_row _ _ 2 _ _ _ rM
  simp only [gS] at c1 c2
  clear hW3 hM HF1
  go_wp2_with (refine op_skip rfl (run_store_row 23 (.tmp 4) (.tmp 26) rfl B rfl 23 [.int .u8 0,.int .i64 0,.string ⟨#[]⟩,.bool false] [.int .u8 0,.int .i64 0,.string ⟨#[]⟩,.bool false] rfl rB3 sizeBa rfl (ba_one _ _ _ _)) ?_)
  have hrow:=setRow_heap w3 B _ #[.int .u8 0,.int .i64 0,.string ⟨#[]⟩,.bool false] _ _ rB3
  refine bare_end (by kernel_rfl) rfl rfl hrow ?_
  rw [← HPost.out]
  exact ⟨by rw [← HV.out];rfl,((hN1.trans hN2).trans hN3).setRow hBw _⟩
 | some m =>
  rw [hfi] at HF1 HV
  have HV:Hid (heardV (if m.inner=false∧m.items.length=1 then some (m.items.headD Bare.noI).bare else none)=V):=Lib.hid HV.out
  obtain ⟨kx,hkx⟩:∃ y,tx m.key=y:=⟨_,rfl⟩
  obtain ⟨yb,hyb⟩:∃ y,m.inner=y:=⟨_,rfl⟩
  obtain ⟨l,hl⟩:∃ y,m.items.length=y:=⟨_,rfl⟩
  obtain ⟨np,hnp⟩:∃ y,m.params.length=y:=⟨_,rfl⟩
  rw [hyb,hl] at HV
  have HF1:Hid (Calls Tryz.prog 26 #[.slice ao n cap,.string key] w1 fun e w'=>(∃ (ia pa:Option Addr) (ic pc:Nat),e = .returned (.tuple #[.agg #[.string kx,.bool yb,.slice ia l ic,.slice pa np pc],.bool true])∧RdI true w' (.slice ia l ic) m.items)∧New w1 w'):=Lib.hid (HF1.mono fun e w' h=>by
   obtain ⟨⟨ia,pa,ic,pc,he,hi,hp⟩,hN⟩:=h
   rw [← hkx,← hyb,← hl,← hnp]
   exact ⟨⟨ia,pa,ic,pc,he,hi⟩,hN⟩)
  have HL:=Lib.hid hl
  clear HFn hfi hkx hyb hl hnp
  go_upto_region 2 with (go_at_call 26;refine HF1.out.mono ?_;rintro e w2 ⟨⟨ia,pa,ic,pc,rfl,hI⟩,hN2⟩)
  obtain ⟨w3,M,hW3,hM,rM,hN3⟩:∃ V M,w2.alloc (.cells #[.string kx,.bool yb,.slice ia l ic,.slice pa np pc] 44)=V∧w2.heap.size=M∧V.heap[M]? = some (.cells #[.string kx,.bool yb,.slice ia l ic,.slice pa np pc] 44 (0,0))∧New w2 V:=⟨_,_,rfl,rfl,World.alloc_heap_new _ _,(Mods.refl _ _).alloc _⟩
  rw [hW3,hM]
  have rB3:=(hN2.trans hN3).heap rB id
  have HI:=Lib.hid (hI.new hN3)
  have c1:=cell_of_row _ _ 1 _ _ _ rM
  have c2:=cell_of_row _ _ 2 _ _ _ rM
  simp only [gS] at c1 c2
  clear hW3 hM HF1 hI
  by_cases hgood:yb=false∧l=1
  ·obtain ⟨rfl,rfl⟩:=hgood
   rw [if_pos ⟨rfl,rfl⟩] at HV
   obtain ⟨x,hx⟩:∃ x,m.items = [x]:=List.length_eq_one_iff.1 HL.out
   rw [hx] at HV HI
   obtain ⟨ip,hir,-,-⟩:=HI.out
   obtain ⟨g,og,rfl,hrw⟩:=hir.at.2.2 0 (by decide)
   rw [show (0:Nat) * 5=0 from rfl,Nat.add_zero] at hrw
   obtain ⟨d0,d1,d2,d3,d4⟩:=cells5 hrw
   have d0:w3.cell? ⟨g,og,none⟩=some (.int .u8 x.bare.kind):=d0
   have d1:w3.cell? ⟨g,og + 1,none⟩=some (.int .i64 x.bare.int):=d1
   have d2:w3.cell? ⟨g,og + 2,none⟩=some (.string (tx x.bare.text)):=d2
   have d3:w3.cell? ⟨g,og + 3,none⟩=some (.bool x.bare.yes):=d3
   have HV:Hid (.tuple #[.agg #[.int .u8 x.bare.kind,.int .i64 x.bare.int,.string (tx x.bare.text),.bool x.bare.yes],.bool true]=V):=Lib.hid HV.out
   clear d4 hrw hir hx HI HL
   go_wp2_with (refine op_skip rfl (run_store_row 23 (.tmp 4) (.tmp 31) rfl B rfl 23 [.int .u8 0,.int .i64 0,.string ⟨#[]⟩,.bool false] [.int .u8 x.bare.kind,.int .i64 x.bare.int,.string (tx x.bare.text),.bool x.bare.yes] rfl rB3 sizeBa rfl (ba_one _ _ _ _)) ?_)
   have hrow:=setRow_heap w3 B _ #[.int .u8 x.bare.kind,.int .i64 x.bare.int,.string (tx x.bare.text),.bool x.bare.yes] _ _ rB3
   refine bare_end (by kernel_rfl) rfl rfl hrow ?_
   rw [← HPost.out]
   exact ⟨by rw [← HV.out];rfl,((hN1.trans hN2).trans hN3).setRow hBw _⟩
  ·rw [if_neg hgood] at HV
   have hneq:yb=false→((l:Int) != 1)=true:=fun h=>by
    have:l ≠ 1:=fun e=>hgood ⟨h,e⟩
    rw [bne_iff_ne];omega
   cases yb with
   | true =>
    clear hgood hneq HI HL
    go_wp2_with (refine op_skip rfl (run_store_row 23 (.tmp 4) (.tmp 26) rfl B rfl 23 [.int .u8 0,.int .i64 0,.string ⟨#[]⟩,.bool false] [.int .u8 0,.int .i64 0,.string ⟨#[]⟩,.bool false] rfl rB3 sizeBa rfl (ba_one _ _ _ _)) ?_)
    have hrow:=setRow_heap w3 B _ #[.int .u8 0,.int .i64 0,.string ⟨#[]⟩,.bool false] _ _ rB3
    refine bare_end (by kernel_rfl) rfl rfl hrow ?_
    rw [← HPost.out]
    exact ⟨by rw [← HV.out];rfl,((hN1.trans hN2).trans hN3).setRow hBw _⟩
   | false =>
    have hne:=hneq rfl
    clear hgood hneq HI HL
    go_wp2_with (refine op_skip rfl (run_store_row 23 (.tmp 4) (.tmp 26) rfl B rfl 23 [.int .u8 0,.int .i64 0,.string ⟨#[]⟩,.bool false] [.int .u8 0,.int .i64 0,.string ⟨#[]⟩,.bool false] rfl rB3 sizeBa rfl (ba_one _ _ _ _)) ?_)
    have hrow:=setRow_heap w3 B _ #[.int .u8 0,.int .i64 0,.string ⟨#[]⟩,.bool false] _ _ rB3
    refine bare_end (by kernel_rfl) rfl rfl hrow ?_
    rw [← HPost.out]
    exact ⟨by rw [← HV.out];rfl,((hN1.trans hN2).trans hN3).setRow hBw _⟩


theorem first_r14 (w:World):Calls Tryz.prog 100 #[] w fun e w'=>e = .returned (prV 3 false)∧New w w':=by
 unfold prV
 go_enter Tryz.func100,Tryz.ntmps100
 go_upto_region 1 with fail
 have hA:New w (w.alloc (.cells #[.int .u8 0,.bool false] 51)):=(Mods.refl _ _).alloc _
 have r0:=World.alloc_heap_new w (.cells #[.int .u8 0,.bool false] 51)
 obtain ⟨W,hW⟩:∃ W,w.alloc (.cells #[.int .u8 0,.bool false] 51)=W:=⟨_,rfl⟩
 obtain ⟨R,hR⟩:∃ R,w.heap.size=R:=⟨_,rfl⟩
 have hwR:w.heap.size ≤ R:=by omega
 rw [hW] at hA r0 ⊢
 rw [hR] at r0 ⊢
 clear hW hR
 go_wp2_with (refine op_skip rfl (run_store_row 51 (.tmp 0) (.tmp 1) rfl R rfl 51 [.int .u8 0,.bool false] [.int .u8 3,.bool false] rfl r0 sizePr rfl (by decide)) ?_)
 have hrow:=setRow_heap W R _ #[.int .u8 3,.bool false] _ _ r0
 refine bodyPost_ret (v:=.agg #[.int .u8 3,.bool false]) (results_cell_row rfl _ _ R 51 _ (0,0) _ rfl hrow Tryz.underlying51 rfl sizePr) rfl ?_
 exact ⟨rfl,hA.setRow hwR _⟩
def okU (b:Bare.It) (y:Bool):Bool:=y && decide (b.kind=1) && decide (0 ≤ b.int) && decide (b.int ≤ 7)
def okB (b:Bare.It) (y:Bool):Bool:=y && decide (b.kind=6)
theorem urg_ok (d:List Bare.Mem):Bare.urgOf d=if okU ((Bare.heard d [117]).getD noIt) (Bare.heard d [117]).isSome=true then ((Bare.heard d [117]).getD noIt).int else 3:=by
 unfold Bare.urgOf okU
 cases Bare.heard d [117] with
 | none=>rfl
 | some b=>simp [and_assoc]
theorem inc_ok (d:List Bare.Mem):Bare.incOf d=if okB ((Bare.heard d [105]).getD noIt) (Bare.heard d [105]).isSome=true then ((Bare.heard d [105]).getD noIt).yes else false:=by
 unfold Bare.incOf okB
 cases Bare.heard d [105] with
 | none=>rfl
 | some b =>
  by_cases h:b.kind=6 <;> simp [h]
theorem ba_row (w:World) (k n:Int) (t:ByteArray) (y:Bool):∃ V M,w.alloc (.cells #[.int .u8 k,.int .i64 n,.string t,.bool y] 23)=V∧w.heap.size=M∧V.heap[M]? = some (.cells #[.int .u8 k,.int .i64 n,.string t,.bool y] 23 (0,0))∧New w V:=⟨_,_,rfl,rfl,World.alloc_heap_new _ _,(Mods.refl _ _).alloc _⟩
theorem prq_cells {W:World} {B:Nat} {u:Int} {i:Bool} (hr:W.heap[B]? = some (.cells #[.int .u8 u,.bool i] 51 (0,0))):W.cell? ⟨B,0,none⟩=some (.int .u8 u)∧W.cell? ⟨B,1,none⟩=some (.bool i) :=
 ⟨cell_of_row _ _ 0 _ _ _ hr,cell_of_row _ _ 1 _ _ _ hr⟩
theorem prow (w:World) (u:Int) (i:Bool):∃ V P,w.alloc (.cells #[.int .u8 u,.bool i] 51)=V∧w.heap.size=P∧V.heap[P]? = some (.cells #[.int .u8 u,.bool i] 51 (0,0))∧New w V∧w.heap.size ≤ P:=⟨_,_,rfl,rfl,World.alloc_heap_new _ _,(Mods.refl _ _).alloc _,Nat.le_refl _⟩
theorem of_r14 {τ:Bool} (v:Value) (d:List Bare.Mem) (w:World) (h:RdD τ w v d) (hd:d.length ≤ 1000000) (hf:∀ i,i < d.length→FitO (d.getD i noM)) :
  Calls Tryz.prog 41 #[v] w fun e w'=>e = .returned (prV (Bare.urgOf d) (Bare.incOf d))∧New w w':=by
 have HU:=Lib.hid (fun W (hN:New w W)=>bare_r14 v ⟨#[117]⟩ d W (h.new hN) hd hf)
 have HI:=Lib.hid (fun W (hN:New w W)=>bare_r14 v ⟨#[105]⟩ d W (h.new hN) hd hf)
 rw [show bl ⟨#[117]⟩ = [117] from rfl] at HU
 rw [show bl ⟨#[105]⟩ = [105] from rfl] at HI
 have hu:=urg_ok d
 have hi:=inc_ok d
 unfold heardV at HU HI
 obtain ⟨b,hb⟩:∃ b,(Bare.heard d [117]).getD noIt=b:=⟨_,rfl⟩
 obtain ⟨y,hy⟩:∃ b,(Bare.heard d [117]).isSome=b:=⟨_,rfl⟩
 obtain ⟨c,hc⟩:∃ b,(Bare.heard d [105]).getD noIt=b:=⟨_,rfl⟩
 obtain ⟨z,hz⟩:∃ b,(Bare.heard d [105]).isSome=b:=⟨_,rfl⟩
 rw [hb,hy] at HU hu
 rw [hc,hz] at HI hi
 obtain ⟨uu,huu⟩:∃ b,Bare.urgOf d=b:=⟨_,rfl⟩
 obtain ⟨ii,hii⟩:∃ b,Bare.incOf d=b:=⟨_,rfl⟩
 rw [huu] at hu ⊢
 rw [hii] at hi ⊢
 have Hu:=Lib.hid hu
 have Hi:=Lib.hid hi
 obtain ⟨ao,cap,rfl⟩:∃ ao cap,v = .slice ao d.length cap:=by obtain ⟨_,_,h1,_⟩:=h;exact h1.slice
 obtain ⟨n,hn⟩:∃ n,d.length=n:=⟨_,rfl⟩
 rw [hn] at HU HI ⊢
 obtain ⟨bk,hbk⟩:∃ x,b.kind=x:=⟨_,rfl⟩
 obtain ⟨bn,hbn⟩:∃ x,b.int=x:=⟨_,rfl⟩
 obtain ⟨bt,hbt⟩:∃ x,tx b.text=x:=⟨_,rfl⟩
 obtain ⟨by',hby⟩:∃ x,b.yes=x:=⟨_,rfl⟩
 obtain ⟨ck,hck⟩:∃ x,c.kind=x:=⟨_,rfl⟩
 obtain ⟨cn,hcn⟩:∃ x,c.int=x:=⟨_,rfl⟩
 obtain ⟨ct,hct⟩:∃ x,tx c.text=x:=⟨_,rfl⟩
 obtain ⟨cy,hcy⟩:∃ x,c.yes=x:=⟨_,rfl⟩
 rw [hbk,hbn,hbt,hby] at HU
 rw [hck,hcn,hct,hcy] at HI
 unfold okU at Hu
 unfold okB at Hi
 rw [hbk,hbn] at Hu
 rw [hck,hcy] at Hi
 obtain ⟨c1,hc1⟩:∃ x,(y && decide (bk=1) && decide (0 ≤ bn) && decide (bn ≤ 7))=x:=⟨_,rfl⟩
 obtain ⟨c2,hc2⟩:∃ x,(z && decide (ck=6))=x:=⟨_,rfl⟩
 rw [hc1] at Hu
 rw [hc2] at Hi
 have HC1:=Lib.hid hc1
 have HC2:=Lib.hid hc2
 clear h hf hd hu hi hb hy hc hz huu hii hn hbk hbn hbt hby hck hcn hct hcy hc1 hc2
 unfold prV
 go_enter Tryz.func41,Tryz.ntmps41
 go_upto_region 1 with fail
 obtain ⟨w1,P,hW1,hP,rP,hN1,hwP⟩:=prow w 0 false
 rw [hW1,hP]
 clear hW1 hP
 go_upto_region 2 with (go_at_call 100;refine (first_r14 _).mono ?_;rintro e w2 ⟨rfl,hN2⟩;unfold prV)
 obtain ⟨w3,Q,hW3,hQ,rQ,hN3,hwQ⟩:=prow w2 3 false
 rw [hW3,hQ]
 have hPl:=(Array.getElem?_eq_some_iff.1 rP).1
 have hPQ:¬ P=Q:=by have:=hN2.size;omega
 have hwQ':w.heap.size ≤ Q:=by have:=hN2.size;have:=hN1.size;omega
 have hN:=(hN1.trans hN2).trans hN3
 replace rP:=(hN2.trans hN3).heap rP id
 clear hW3 hQ hN1 hN2 hN3 hPl hwQ
 go_upto_region 3 with (go_at_call 104;refine (HU.out _ hN).mono ?_;rintro e w4 ⟨rfl,hk⟩)
 obtain ⟨w5,U,hW5,hU,rU,hk5⟩:=ba_row w4 bk bn bt by'
 rw [hW5,hU]
 have hkk:=hk.trans hk5
 replace hN:=hN.trans hkk
 replace rP:=hkk.heap rP id
 replace rQ:=hkk.heap rQ id
 clear hW5 hU hk hk5 hkk HU
 obtain ⟨u0,u1⟩:w5.cell? ⟨U,0,none⟩=some (.int .u8 bk)∧w5.cell? ⟨U,1,none⟩=some (.int .i64 bn):=⟨cell_of_row _ _ 0 _ _ _ rU,cell_of_row _ _ 1 _ _ _ rU⟩
 go_cut [29] from 14 (fun s29 wx=>s29 = .bool c1∧New w5 wx)
 case first =>
  cases y with
  | false =>
   have hh:c1=false:=by rw [← HC1.out];rfl
   subst hh
   go_wp2_with fail
   go_meet
   exact ⟨rfl,Mods.refl _ _⟩
  | true =>
   by_cases h1:bk=1
   ·have e1:(bk == 1)=true:=by rw [beq_iff_eq];exact h1
    by_cases h2:0 ≤ bn
    ·have e2:decide (0 ≤ bn)=true:=decide_eq_true h2
     by_cases h3:bn ≤ 7
     ·have e3:decide (bn ≤ 7)=true:=decide_eq_true h3
      have hh:c1=true:=by rw [← HC1.out,decide_eq_true h1,e2,e3];rfl
      subst hh
      clear h1
      go_wp2_with fail
      go_meet
      exact ⟨rfl,Mods.refl _ _⟩
     ·have e3:decide (bn ≤ 7)=false:=decide_eq_false h3
      have hh:c1=false:=by rw [← HC1.out,e3];simp
      subst hh
      clear h1
      go_wp2_with fail
      go_meet
      exact ⟨rfl,Mods.refl _ _⟩
    ·have e2:decide (0 ≤ bn)=false:=decide_eq_false h2
     have hh:c1=false:=by rw [← HC1.out,e2];simp
     subst hh
     clear h1
     go_wp2_with fail
     go_meet
     exact ⟨rfl,Mods.refl _ _⟩
   ·have e1:(bk == 1)=false:=by rw [beq_eq_false_iff_ne];exact h1
    have hh:c1=false:=by rw [← HC1.out,decide_eq_false h1];simp
    subst hh
    go_wp2_with fail
    go_meet
    exact ⟨rfl,Mods.refl _ _⟩
 case rest =>
  obtain ⟨rfl,hk⟩:=hcut
  clear u0 u1
  replace hN:=hN.trans hk
  replace rP:=hk.heap rP id
  replace rQ:=hk.heap rQ id
  replace rU:=hk.heap rU id
  clear hk
  cases c1 with
  | true =>
   have hc:=HC1.out
   simp only [Bool.and_eq_true,decide_eq_true_eq] at hc
   have hn0:0 ≤ bn:=hc.1.2
   have hn7:bn ≤ 7:=hc.2
   have huv:uu=bn:=by rw [Hu.out];rfl
   have u1:=cell_of_row _ _ 1 _ _ _ rU
   simp only [gS] at u1
   have q0:=cell_of_row _ _ 0 _ _ _ rQ
   simp only [gS] at q0
   have f0:=frozen_row (i:=0) rQ
   have hwr:IntKind.u8.wrap bn=bn:=IntWalk.u8_in _ ⟨by omega,by omega⟩
   have hHuv:=Lib.hid huv
   clear hc huv
   go_upto_region 5 with fail
   have hm:=setMods wc Q 0 (.int .u8 bn)
   have rQ2:=setCell_heap (i:=0) rQ (.int .u8 bn)
   simp only [pS] at rQ2
   have rP2:=hm.heap rP hPQ
   obtain ⟨wz,hwz⟩:∃ V,wc.setCell ⟨Q,0,none⟩ (.int .u8 bn)=V:=⟨_,rfl⟩
   rw [hwz] at hm rQ2 rP2 ⊢
   replace hN:New w wz:=((Mods.ofNew hN).trans hm).new (fun g hg=>by omega)
   replace rQ:=rQ2
   replace rP:=rP2
   clear hwz q0 f0 u1 hm rQ2 rP2 rU hwr
   have huv:=Lib.hid hHuv.out
   go_upto_region 6 with (go_at_call 104;refine (HI.out _ hN).mono ?_;rintro e w8 ⟨rfl,hk⟩)
   obtain ⟨w9,X,hW9,hX,rX,hk9⟩:=ba_row w8 ck cn ct cy
   rw [hW9,hX]
   have hkk:=hk.trans hk9
   replace hN:=hN.trans hkk
   replace rP:=hkk.heap rP id
   replace rQ:=hkk.heap rQ id
   clear hW9 hX hk hk9 hkk HI
   obtain ⟨x0,x3⟩:w9.cell? ⟨X,0,none⟩=some (.int .u8 ck)∧w9.cell? ⟨X,3,none⟩=some (.bool cy):=⟨cell_of_row _ _ 0 _ _ _ rX,cell_of_row _ _ 3 _ _ _ rX⟩
   go_cut [44] from 39 (fun s44 wx=>s44 = .bool c2∧New w9 wx)
   case first =>
    cases z with
    | false =>
     have hh:c2=false:=by rw [← HC2.out];rfl
     subst hh
     go_wp2_with fail
     go_meet
     exact ⟨rfl,Mods.refl _ _⟩
    | true =>
     by_cases h1:ck=6
     ·have e1:(ck == 6)=true:=by rw [beq_iff_eq];exact h1
      have hh:c2=true:=by rw [← HC2.out,decide_eq_true h1];rfl
      subst hh
      clear h1
      go_wp2_with fail
      go_meet
      exact ⟨rfl,Mods.refl _ _⟩
     ·have e1:(ck == 6)=false:=by rw [beq_eq_false_iff_ne];exact h1
      have hh:c2=false:=by rw [← HC2.out,decide_eq_false h1];rfl
      subst hh
      clear h1
      go_wp2_with fail
      go_meet
      exact ⟨rfl,Mods.refl _ _⟩
   case rest =>
    obtain ⟨rfl,hk⟩:=hcut
    clear x0 x3
    replace hN:=hN.trans hk
    replace rP:=hk.heap rP id
    replace rQ:=hk.heap rQ id
    replace rX:=hk.heap rX id
    have x3:=cell_of_row _ _ 3 _ _ _ rX
    simp only [gS] at x3
    clear hk
    cases c2 with
    | true =>
     have q1:=cell_of_row _ _ 1 _ _ _ rQ
     simp only [gS] at q1
     have f1:=frozen_row (i:=1) rQ
     have hii:ii=cy:=by rw [Hi.out];rfl
     go_upto_region 8 with fail
     have hm:=setMods wc Q 1 (.bool cy)
     have rQ2:=setCell_heap (i:=1) rQ (.bool cy)
     simp only [pS] at rQ2
     have rP2:=hm.heap rP hPQ
     obtain ⟨wz,hwz⟩:∃ V,wc.setCell ⟨Q,1,none⟩ (.bool cy)=V:=⟨_,rfl⟩
     rw [hwz] at hm rQ2 rP2 ⊢
     have hN2:New w wz:=((Mods.ofNew hN).trans hm).new (fun g hg=>by omega)
     clear hwz q1 f1 x3 hm
     obtain ⟨q0,q1⟩:=prq_cells rQ2
     go_wp2_with (refine op_skip rfl (run_store_row 51 (.tmp 2) (.tmp 48) rfl P rfl 51 [.int .u8 0,.bool false] [.int .u8 bn,.bool cy] rfl rP2 sizePr rfl (by simp [Value.oneCell'])) ?_)
     have hrow:=setRow_heap wz P _ #[.int .u8 bn,.bool cy] _ _ rP2
     refine bodyPost_ret (v:=.agg #[.int .u8 bn,.bool cy]) (results_cell_row rfl _ _ P 51 _ (0,0) _ rfl hrow Tryz.underlying51 rfl sizePr) rfl ?_
     exact ⟨by first | rw [hii,huv.out] | rw [huv.out],hN2.setRow hwP _⟩
    | false =>
     have hii:ii=false:=by rw [Hi.out];rfl
     clear x3
     obtain ⟨q0,q1⟩:=prq_cells rQ
     go_wp2_with (refine op_skip rfl (run_store_row 51 (.tmp 2) (.tmp 48) rfl P rfl 51 [.int .u8 0,.bool false] [.int .u8 bn,.bool false] rfl rP sizePr rfl (by simp [Value.oneCell'])) ?_)
     have hrow:=setRow_heap wc P _ #[.int .u8 bn,.bool false] _ _ rP
     refine bodyPost_ret (v:=.agg #[.int .u8 bn,.bool false]) (results_cell_row rfl _ _ P 51 _ (0,0) _ rfl hrow Tryz.underlying51 rfl sizePr) rfl ?_
     exact ⟨by first | rw [hii,huv.out] | rw [huv.out],hN.setRow hwP _⟩
  | false =>
   have huv:Hid (uu=3):=Lib.hid (by rw [Hu.out];rfl)
   go_upto_region 6 with (go_at_call 104;refine (HI.out _ hN).mono ?_;rintro e w8 ⟨rfl,hk⟩)
   obtain ⟨w9,X,hW9,hX,rX,hk9⟩:=ba_row w8 ck cn ct cy
   rw [hW9,hX]
   have hkk:=hk.trans hk9
   replace hN:=hN.trans hkk
   replace rP:=hkk.heap rP id
   replace rQ:=hkk.heap rQ id
   clear hW9 hX hk hk9 hkk HI
   obtain ⟨x0,x3⟩:w9.cell? ⟨X,0,none⟩=some (.int .u8 ck)∧w9.cell? ⟨X,3,none⟩=some (.bool cy):=⟨cell_of_row _ _ 0 _ _ _ rX,cell_of_row _ _ 3 _ _ _ rX⟩
   go_cut [44] from 39 (fun s44 wx=>s44 = .bool c2∧New w9 wx)
   case first =>
    cases z with
    | false =>
     have hh:c2=false:=by rw [← HC2.out];rfl
     subst hh
     go_wp2_with fail
     go_meet
     exact ⟨rfl,Mods.refl _ _⟩
    | true =>
     by_cases h1:ck=6
     ·have e1:(ck == 6)=true:=by rw [beq_iff_eq];exact h1
      have hh:c2=true:=by rw [← HC2.out,decide_eq_true h1];rfl
      subst hh
      clear h1
      go_wp2_with fail
      go_meet
      exact ⟨rfl,Mods.refl _ _⟩
     ·have e1:(ck == 6)=false:=by rw [beq_eq_false_iff_ne];exact h1
      have hh:c2=false:=by rw [← HC2.out,decide_eq_false h1];rfl
      subst hh
      clear h1
      go_wp2_with fail
      go_meet
      exact ⟨rfl,Mods.refl _ _⟩
   case rest =>
    obtain ⟨rfl,hk⟩:=hcut
    clear x0 x3
    replace hN:=hN.trans hk
    replace rP:=hk.heap rP id
    replace rQ:=hk.heap rQ id
    replace rX:=hk.heap rX id
    have x3:=cell_of_row _ _ 3 _ _ _ rX
    simp only [gS] at x3
    clear hk
    cases c2 with
    | true =>
     have q1:=cell_of_row _ _ 1 _ _ _ rQ
     simp only [gS] at q1
     have f1:=frozen_row (i:=1) rQ
     have hii:ii=cy:=by rw [Hi.out];rfl
     go_upto_region 8 with fail
     have hm:=setMods wc Q 1 (.bool cy)
     have rQ2:=setCell_heap (i:=1) rQ (.bool cy)
     simp only [pS] at rQ2
     have rP2:=hm.heap rP hPQ
     obtain ⟨wz,hwz⟩:∃ V,wc.setCell ⟨Q,1,none⟩ (.bool cy)=V:=⟨_,rfl⟩
     rw [hwz] at hm rQ2 rP2 ⊢
     have hN2:New w wz:=((Mods.ofNew hN).trans hm).new (fun g hg=>by omega)
     clear hwz q1 f1 x3 hm
     obtain ⟨q0,q1⟩:=prq_cells rQ2
     go_wp2_with (refine op_skip rfl (run_store_row 51 (.tmp 2) (.tmp 48) rfl P rfl 51 [.int .u8 0,.bool false] [.int .u8 3,.bool cy] rfl rP2 sizePr rfl (by simp [Value.oneCell'])) ?_)
     have hrow:=setRow_heap wz P _ #[.int .u8 3,.bool cy] _ _ rP2
     refine bodyPost_ret (v:=.agg #[.int .u8 3,.bool cy]) (results_cell_row rfl _ _ P 51 _ (0,0) _ rfl hrow Tryz.underlying51 rfl sizePr) rfl ?_
     exact ⟨by first | rw [hii,huv.out] | rw [huv.out],hN2.setRow hwP _⟩
    | false =>
     have hii:ii=false:=by rw [Hi.out];rfl
     clear x3
     obtain ⟨q0,q1⟩:=prq_cells rQ
     go_wp2_with (refine op_skip rfl (run_store_row 51 (.tmp 2) (.tmp 48) rfl P rfl 51 [.int .u8 0,.bool false] [.int .u8 3,.bool false] rfl rP sizePr rfl (by simp [Value.oneCell'])) ?_)
     have hrow:=setRow_heap wc P _ #[.int .u8 3,.bool false] _ _ rP
     refine bodyPost_ret (v:=.agg #[.int .u8 3,.bool false]) (results_cell_row rfl _ _ P 51 _ (0,0) _ rfl hrow Tryz.underlying51 rfl sizePr) rfl ?_
     exact ⟨by first | rw [hii,huv.out] | rw [huv.out],hN.setRow hwP _⟩


theorem fitO_of_sz {d:List Bare.Mem} (h:SzD 1000000 d):∀ i,i < d.length→FitO (d.getD i noM):=fun i hi=>by
 obtain ⟨-,h2,h3,h4⟩:=h.2 (d.getD i noM) (getD_mem (d:=noM) hi)
 refine ⟨by omega,by have:=h3.1;omega,fun j hj=>?_⟩
 have:=(h4 _ (getD_mem (d:=Bare.noI) hj)).2.1
 omega
theorem read_r14 (s:ByteArray) (w:World) (hs:s.size ≤ 1000000) :
  Calls Tryz.prog 37 #[.string s] w fun e w'=>(e=match Bare.parseD (bl s) with
   | some d=>.returned (.tuple #[prV (Bare.urgOf d) (Bare.incOf d),.bool true])
   | none=>.returned (.tuple #[prV 3 false,.bool false]))∧New w w':=by
 have hN0:New w (w.alloc (.cells #[.int .u8 0,.bool false] 51)):=(Mods.refl _ _).alloc _
 have r0:=World.alloc_heap_new w (.cells #[.int .u8 0,.bool false] 51)
 have H1:=Lib.hid (fun W (hN:New w W)=>parse_r13 s W hs)
 have hsz:(bl s).length=s.size:=bl_len s
 obtain ⟨E,hE⟩:∃ E:Ending,(match Bare.parseD (bl s) with
   | some d=>.returned (.tuple #[prV (Bare.urgOf d) (Bare.incOf d),.bool true])
   | none=>.returned (.tuple #[prV 3 false,.bool false]))=E:=⟨_,rfl⟩
 rw [hE]
 have HE:=Lib.hid hE
 clear hE
 go_enter Tryz.func37,Tryz.ntmps37
 go_upto_region 1 with fail
 obtain ⟨w1,hw1⟩:∃ W,w.alloc (.cells #[.int .u8 0,.bool false] 51)=W:=⟨_,rfl⟩
 obtain ⟨R,hR⟩:∃ b,w.heap.size=b:=⟨_,rfl⟩
 have hwR:w.heap.size ≤ R:=by omega
 rw [hw1] at hN0 r0 ⊢
 rw [hR] at r0 ⊢
 clear hw1 hR
 cases hp:Bare.parseD (bl s) with
 | none =>
  have H1:=Lib.hid (fun W (hN:New w W)=>(H1.out W hN).mono (R':=fun e w'=>e = .returned (.tuple #[.slice none 0 0,.int .i64 130])∧New W w') (by
   rintro e w' ⟨v,z,rfl,hN',h⟩
   rw [hp] at h
   obtain ⟨rfl,rfl⟩:=h
   exact ⟨rfl,hN'⟩))
  have HE':Hid (E = .returned (.tuple #[prV 3 false,.bool false])):=Lib.hid (by have:=HE.out;rw [hp] at this;exact this.symm)
  clear hp
  go_wp2_with fail
  refine (H1.out _ hN0).mono ?_
  rintro e w2 ⟨rfl,hN2⟩
  replace hN0:=hN0.trans hN2
  replace r0:=hN2.heap r0 id
  go_wp2_with fail
  refine (first_r14 _).mono ?_
  rintro e w3 ⟨rfl,hN3⟩
  unfold prV
  replace hN0:=hN0.trans hN3
  replace r0:=hN3.heap r0 id
  go_wp2_with (refine op_skip rfl (run_store_row 51 (.tmp 2) (.tmp 13) rfl R rfl 51 [.int .u8 0,.bool false] [.int .u8 3,.bool false] rfl r0 sizePr rfl (by decide)) ?_)
  have hrow:=setRow_heap w3 R _ #[.int .u8 3,.bool false] _ _ r0
  refine bodyPost_ret (v:=.tuple #[.agg #[.int .u8 3,.bool false],.bool false]) (results_row2 rfl _ _ R 51 _ (0,0) _ rfl hrow Tryz.underlying51 rfl sizePr rfl) rfl ?_
  exact ⟨HE'.out.symm,hN0.setRow hwR _⟩
 | some d =>
  have hbl:(bl s).length ≤ 1000000:=by omega
  have hsd:=parse_sz (by decide) hbl hp
  have H1:=Lib.hid (fun W (hN:New w W)=>(H1.out W hN).mono (R':=fun e w'=>∃ v,e = .returned (.tuple #[v,.int .i64 0])∧RdD true w' v d∧New W w') (by
   rintro e w' ⟨v,z,rfl,hN',h⟩
   rw [hp] at h
   obtain ⟨rfl,h,-⟩:=h
   exact ⟨v,rfl,h,hN'⟩))
  have HO:=Lib.hid (fun v W (h:RdD true W v d)=>of_r14 v d W h (by have:=hsd.1;omega) (fitO_of_sz hsd))
  have HE':Hid (E = .returned (.tuple #[prV (Bare.urgOf d) (Bare.incOf d),.bool true])):=Lib.hid (by have:=HE.out;rw [hp] at this;exact this.symm)
  clear hp hsd
  obtain ⟨u,hu⟩:∃ u,Bare.urgOf d=u:=⟨_,rfl⟩
  obtain ⟨i,hi'⟩:∃ u,Bare.incOf d=u:=⟨_,rfl⟩
  rw [hu,hi'] at HO
  rw [hu,hi'] at HE'
  clear hu hi'
  go_wp2_with fail
  refine (H1.out _ hN0).mono ?_
  rintro e w2 ⟨v,rfl,hv,hN2⟩
  replace hN0:=hN0.trans hN2
  replace r0:=hN2.heap r0 id
  go_wp2_with fail
  refine (HO.out v _ hv).mono ?_
  rintro e w3 ⟨rfl,hN3⟩
  unfold prV
  replace hN0:=hN0.trans hN3
  replace r0:=hN3.heap r0 id
  go_wp2_with (refine op_skip rfl (run_store_row 51 (.tmp 2) (.tmp 15) rfl R rfl 51 [.int .u8 0,.bool false] [.int .u8 u,.bool i] rfl r0 sizePr rfl (by simp [Value.oneCell'])) ?_)
  have hrow:=setRow_heap w3 R _ #[.int .u8 u,.bool i] _ _ r0
  refine bodyPost_ret (v:=.tuple #[.agg #[.int .u8 u,.bool i],.bool true]) (results_row2 rfl _ _ R 51 _ (0,0) _ rfl hrow Tryz.underlying51 rfl sizePr rfl) rfl ?_
  exact ⟨HE'.out.symm,hN0.setRow hwR _⟩
end Go.Proofs.YtnknmmbnhoanfaaGreatDoor
namespace Go.Proofs.YtnknmmbnhoanfaaGreatDoor
open Go.RowKit Go.Shelf Go.Cs Go.ChangeShapes Go.WideShapes Go.ChangeAt Go.WideMaps Go.WideElems Go.ChangeMaps

section
variable {H:Type} {enc:TypeId × Value→H} {w:World} {base:Nat} {spare:Nat→Bool} {held:Bool} {fuel:Nat}
theorem open_pr {cs:List Value} {x:DataW H × List MemPlace} (h:DataW.trod enc Tryz.prog w base spare held fuel 51 cs=some x) :
  ∃ (u:Nat) (i:Bool),cs = [.int .u8 u,.bool i]∧u < 256:=by
 obtain ⟨xs,n,rfl,rfl,hl,hn,hf⟩:=DataW.trod_struct Tryz.underlying51 h
 have cQ:Tryz.prog.cellsOf 51=2:=by kernel_rfl
 have c5:Tryz.prog.cellsOf 5=1:=by kernel_rfl
 have c4:Tryz.prog.cellsOf 4=1:=by kernel_rfl
 rw [cQ] at hl
 have hn:xs.length=2:=hn
 obtain ⟨a0,a1,rfl⟩:=len_two hl
 obtain ⟨x0,x1,rfl⟩:=len_two hn
 have g0:DataW.trod enc Tryz.prog w base spare held n 5 [a0]=some x0:=by
  have:(([a0,a1]:List Value).drop 0).take (Tryz.prog.cellsOf 5) = [a0]:=by rw [c5];rfl
  rw [← this];exact hf 0 _ rfl
 have g1:DataW.trod enc Tryz.prog w base spare held n 4 [a1]=some x1:=by
  have:(([a0,a1]:List Value).drop 1).take (Tryz.prog.cellsOf 4) = [a1]:=by rw [c4];rfl
  rw [← this];exact hf 1 _ rfl
 obtain ⟨n0,e0,y0,w0⟩:=DataW.trod_int Tryz.underlying5 g0
 obtain ⟨y1,e1,y1'⟩:=DataW.trod_bool Tryz.underlying4 g1
 cases e0
 cases e1
 have:=byte_of_wf w0
 exact ⟨n0.toNat,y1,by rw [Int.toNat_of_nonneg this.1],by omega⟩
end
end Go.Proofs.YtnknmmbnhoanfaaGreatDoor
namespace Go.Proofs.YtnknmmbnhoanfaaGreatDoor
open Go.RowKit Go.Shelf Go.Cs
attribute [local go_sem] Oper.semAt_some


theorem lit89 (t:Array Value) (h:t.size=89):∃ u:Nat→Value,t=(u 0::u 1::u 2::u 3::u 4::u 5::u 6::u 7::u 8::u 9::u 10::u 11::u 12::u 13::u 14::u 15::u 16::u 17::u 18::u 19::u 20::u 21::u 22::u 23::u 24::u 25::u 26::u 27::u 28::u 29::u 30::u 31::u 32::u 33::u 34::u 35::u 36::u 37::u 38::u 39::u 40::u 41::u 42::u 43::u 44::u 45::u 46::u 47::u 48::u 49::u 50::u 51::u 52::u 53::u 54::u 55::u 56::u 57::u 58::u 59::u 60::u 61::u 62::u 63::u 64::u 65::u 66::u 67::u 68::u 69::u 70::u 71::u 72::u 73::u 74::u 75::u 76::u 77::u 78::u 79::u 80::u 81::u 82::u 83::u 84::u 85::u 86::u 87::u 88::([]:List Value)).toArray:=⟨fun i=>t.getD i undef,range_lit t 89 h⟩
noncomputable def reg_causeylaw14_UrgentTells_7:Code:=((Tryz.f5.body.bind (regionOf 7)).getD .skip)
theorem utells7 (t:Array Value) (hs:t.size=89) (w:World) {P Q X Y nd dc:Nat} {da:Option Addr} {a b ru pe ou:Int} {px:ByteArray} {ai bi ri ry oi rt lt:Bool}
  (hq2:t.getD 2 undef = .slice da nd dc)
  (hq4:t.getD 4 undef = .pointer (some ⟨P,0,none⟩))
  (hq5:t.getD 5 undef = .pointer (some ⟨Q,0,none⟩))
  (hq9:t.getD 9 undef = .pointer (some ⟨X,0,none⟩))
  (hq10:t.getD 10 undef = .bool ry)
  (hq11:t.getD 11 undef = .pointer (some ⟨Y,0,none⟩))
  (hq12:t.getD 12 undef = .bool ry)
  (hq13:t.getD 13 undef = .string px)
  (hq14:t.getD 14 undef = .int .i64 pe)
  (hq15:t.getD 15 undef = .string px)
  (hq16:t.getD 16 undef = .int .i64 pe)
  (c0:w.cell? ⟨P,0,none⟩=some (.int .u8 a)) (c1:w.cell? ⟨P,1,none⟩=some (.bool ai)) (d0:w.cell? ⟨Q,0,none⟩=some (.int .u8 b)) (d1:w.cell? ⟨Q,1,none⟩=some (.bool bi)) (g0:w.cell? ⟨X,0,none⟩=some (.int .u8 ru)) (g1:w.cell? ⟨X,1,none⟩=some (.bool ri)) (e0:w.cell? ⟨Y,0,none⟩=some (.int .u8 ru)) (e1:w.cell? ⟨Y,1,none⟩=some (.bool ri))
  (HO1:Hid (∀ W,New w W→Calls Tryz.prog 40 #[.slice da nd dc] W fun e w'=>e = .returned (.agg #[.int .u8 ou,.bool oi])∧New W w')) (HO2:Hid (∀ W,New w W→Calls Tryz.prog 41 #[.slice da nd dc] W fun e w'=>e = .returned (.agg #[.int .u8 ou,.bool oi])∧New W w')) (HR1:Hid (∀ W:World,Calls Tryz.prog 42 #[.agg #[.int .u8 a,.bool ai]] W fun e w'=>e = .returned (.bool rt)∧New W w')) (HR2:Hid (∀ W:World,Calls Tryz.prog 43 #[.agg #[.int .u8 a,.bool ai]] W fun e w'=>e = .returned (.bool rt)∧New W w')) (HL1:Hid (∀ W:World,Calls Tryz.prog 44 #[.agg #[.int .u8 a,.bool ai],.agg #[.int .u8 b,.bool bi]] W fun e w'=>e = .returned (.bool lt)∧New W w')) (HL2:Hid (∀ W:World,Calls Tryz.prog 45 #[.agg #[.int .u8 a,.bool ai],.agg #[.int .u8 b,.bool bi]] W fun e w'=>e = .returned (.bool lt)∧New W w')) (HW:Hid (∀ W,New w W→Calls Tryz.prog 35 #[] W fun e w'=>e = .returned (.bool true)∧New W w')) :
  reg_causeylaw14_UrgentTells_7.wp Tryz.prog (Only fun a' W'=>∃ z:Nat→Value,a'=⟨((pz t z [45,46,47,48,49,50,51,52,53,54,55,56,57,58,59,60,61,62,63,64,65,66,67,68,69,70,71,72,73,74,75,76,77,78,79,80,81,82,83,84,85,86,87,88]).setIfInBounds 8 (.bool true)),[]⟩∧New w W') ⟨t,[]⟩ w:=by
 conv=>arg 2;whnf
 obtain ⟨u,rfl⟩:=lit89 t hs
 have hq2:u 2 = _:=hq2
 have hq4:u 4 = _:=hq4
 have hq5:u 5 = _:=hq5
 have hq9:u 9 = _:=hq9
 have hq10:u 10 = _:=hq10
 have hq11:u 11 = _:=hq11
 have hq12:u 12 = _:=hq12
 have hq13:u 13 = _:=hq13
 have hq14:u 14 = _:=hq14
 have hq15:u 15 = _:=hq15
 have hq16:u 16 = _:=hq16
 rw [hq2,hq4,hq5,hq9,hq10,hq11,hq12,hq13,hq14,hq15,hq16]
 clear hq2 hq4 hq5 hq9 hq10 hq11 hq12 hq13 hq14 hq15 hq16 hs
 refine wp_region_held (S:=fun W=>New w W) (by kernel_rfl) ?_
 show wpAnyH _ _ _ _ _ 45 _ _ w.drew
 have hN:New w w.drew:=(Mods.refl _ _).drew
 have hS:New w w.drew:=(Mods.refl _ _).drew
 refine tkA 0 rfl (some 45) (.agg #[.int .u8 ru,.bool ri]) (.inl ⟨by rfl,fun W hW=>by have q0:=hW.cell g0 id;have q1:=hW.cell g1 id;go_simp⟩) hS ?_
 simp only [pS]
 refine tkA 1 rfl (some 46) (.agg #[.int .u8 ru,.bool ri]) (.inl ⟨by rfl,fun W hW=>by have q0:=hW.cell e0 id;have q1:=hW.cell e1 id;go_simp⟩) hS ?_
 simp only [pS]
 refine tkA 2 rfl (some 47) (.bool true) (.inl ⟨by rfl,fun W hW=>by have hz:(binOp .eql 51 (.agg #[.int .u8 ru,.bool ri]) (.agg #[.int .u8 ru,.bool ri])).run Tryz.prog W = .ok (.bool true) W:=(by rw [binop_pr];simp);go_simp⟩) hS ?_
 simp only [pS]
 refine tkI 3 (some 48) (.bool true) hS ?_
 simp only [pS]
 refine tkI 4 (some 49) (.bool ry) hS ?_
 simp only [pS]
 refine tkI 5 (some 50) (.bool ry) hS ?_
 simp only [pS]
 refine tkI 6 (some 51) (.bool true) hS ?_
 simp only [pS]
 refine tkI 7 (some 52) (.bool true) hS ?_
 simp only [pS]
 refine tkI 8 (some 53) (.bool true) hS ?_
 simp only [pS]
 refine tkI 9 (some 54) (.string px) hS ?_
 simp only [pS]
 refine tkI 10 (some 55) (.string px) hS ?_
 simp only [pS]
 refine tkI 11 (some 56) (.bool true) hS ?_
 simp only [pS]
 refine tkI 12 (some 57) (.bool true) hS ?_
 simp only [pS]
 refine tkI 13 (some 58) (.bool true) hS ?_
 simp only [pS]
 refine tkI 14 (some 59) (.int .i64 pe) hS ?_
 simp only [pS]
 refine tkI 15 (some 60) (.int .i64 pe) hS ?_
 simp only [pS]
 refine tkI 16 (some 61) (.bool true) hS ?_
 simp only [pS]
 refine tkI 17 (some 62) (.bool true) hS ?_
 simp only [pS]
 refine tkI 18 (some 63) (.bool true) hS ?_
 simp only [pS]
 refine tkI 19 (some 64) (.slice da nd dc) hS ?_
 simp only [pS]
 refine tkI 21 (some 66) (.slice da nd dc) hS ?_
 simp only [pS]
 refine tkO 20 ?_
 refine opH_call (some 65) rfl (by rfl) rfl 40 #[.slice da nd dc] (by go_simp) ((HO1.out _ hN).mono ?_)
 rintro e w20 ⟨rfl,hk'⟩
 have hk:=hk'
 have hS:=hS.trans hk
 have hN:=hN.trans hk
 clear hk
 refine ⟨_,rfl,hS,?_⟩
 simp only [pS]
 refine tkO 22 ?_
 refine opH_call (some 67) rfl (by rfl) rfl 41 #[.slice da nd dc] (by go_simp) ((HO2.out _ hN).mono ?_)
 rintro e w22 ⟨rfl,hk'⟩
 have hk:=hk'
 have hS:=hS.trans hk
 have hN:=hN.trans hk
 clear hk
 refine ⟨_,rfl,hS,?_⟩
 simp only [pS]
 refine tkA 23 rfl (some 68) (.bool true) (.inl ⟨by rfl,fun W hW=>by have hz:(binOp .eql 51 (.agg #[.int .u8 ou,.bool oi]) (.agg #[.int .u8 ou,.bool oi])).run Tryz.prog W = .ok (.bool true) W:=(by rw [binop_pr];simp);go_simp⟩) hS ?_
 simp only [pS]
 refine tkI 24 (some 69) (.bool true) hS ?_
 simp only [pS]
 refine tkI 25 (some 70) (.bool true) hS ?_
 simp only [pS]
 refine tkA 26 rfl (some 71) (.agg #[.int .u8 a,.bool ai]) (.inl ⟨by rfl,fun W hW=>by have q0:=hW.cell c0 id;have q1:=hW.cell c1 id;go_simp⟩) hS ?_
 simp only [pS]
 refine tkA 28 rfl (some 73) (.agg #[.int .u8 a,.bool ai]) (.inl ⟨by rfl,fun W hW=>by have q0:=hW.cell c0 id;have q1:=hW.cell c1 id;go_simp⟩) hS ?_
 simp only [pS]
 refine tkO 27 ?_
 refine opH_call (some 72) rfl (by rfl) rfl 42 #[.agg #[.int .u8 a,.bool ai]] (by go_simp) ((HR1.out _).mono ?_)
 rintro e w27 ⟨rfl,hk'⟩
 have hk:=hk'
 have hS:=hS.trans hk
 have hN:=hN.trans hk
 clear hk
 refine ⟨_,rfl,hS,?_⟩
 simp only [pS]
 refine tkO 29 ?_
 refine opH_call (some 74) rfl (by rfl) rfl 43 #[.agg #[.int .u8 a,.bool ai]] (by go_simp) ((HR2.out _).mono ?_)
 rintro e w29 ⟨rfl,hk'⟩
 have hk:=hk'
 have hS:=hS.trans hk
 have hN:=hN.trans hk
 clear hk
 refine ⟨_,rfl,hS,?_⟩
 simp only [pS]
 refine tkI 30 (some 75) (.bool true) hS ?_
 simp only [pS]
 refine tkI 31 (some 76) (.bool true) hS ?_
 simp only [pS]
 refine tkI 32 (some 77) (.bool true) hS ?_
 simp only [pS]
 refine tkA 33 rfl (some 78) (.agg #[.int .u8 a,.bool ai]) (.inl ⟨by rfl,fun W hW=>by have q0:=hW.cell c0 id;have q1:=hW.cell c1 id;go_simp⟩) hS ?_
 simp only [pS]
 refine tkA 34 rfl (some 79) (.agg #[.int .u8 b,.bool bi]) (.inl ⟨by rfl,fun W hW=>by have q0:=hW.cell d0 id;have q1:=hW.cell d1 id;go_simp⟩) hS ?_
 simp only [pS]
 refine tkA 36 rfl (some 81) (.agg #[.int .u8 a,.bool ai]) (.inl ⟨by rfl,fun W hW=>by have q0:=hW.cell c0 id;have q1:=hW.cell c1 id;go_simp⟩) hS ?_
 simp only [pS]
 refine tkA 37 rfl (some 82) (.agg #[.int .u8 b,.bool bi]) (.inl ⟨by rfl,fun W hW=>by have q0:=hW.cell d0 id;have q1:=hW.cell d1 id;go_simp⟩) hS ?_
 simp only [pS]
 refine tkO 35 ?_
 refine opH_call (some 80) rfl (by rfl) rfl 44 #[.agg #[.int .u8 a,.bool ai],.agg #[.int .u8 b,.bool bi]] (by go_simp) ((HL1.out _).mono ?_)
 rintro e w35 ⟨rfl,hk'⟩
 have hk:=hk'
 have hS:=hS.trans hk
 have hN:=hN.trans hk
 clear hk
 refine ⟨_,rfl,hS,?_⟩
 simp only [pS]
 refine tkO 38 ?_
 refine opH_call (some 83) rfl (by rfl) rfl 45 #[.agg #[.int .u8 a,.bool ai],.agg #[.int .u8 b,.bool bi]] (by go_simp) ((HL2.out _).mono ?_)
 rintro e w38 ⟨rfl,hk'⟩
 have hk:=hk'
 have hS:=hS.trans hk
 have hN:=hN.trans hk
 clear hk
 refine ⟨_,rfl,hS,?_⟩
 simp only [pS]
 refine tkI 39 (some 84) (.bool true) hS ?_
 simp only [pS]
 refine tkI 40 (some 85) (.bool true) hS ?_
 simp only [pS]
 refine tkI 41 (some 86) (.bool true) hS ?_
 simp only [pS]
 refine tkO 42 ?_
 refine opH_call (some 87) rfl (by rfl) rfl 35 #[] (by go_simp) ((HW.out _ hN).mono ?_)
 rintro e w42 ⟨rfl,hk'⟩
 have hk:=hk'
 have hS:=hS.trans hk
 have hN:=hN.trans hk
 clear hk
 refine ⟨_,rfl,hS,?_⟩
 simp only [pS]
 refine tkI 43 (some 88) (.bool true) hS ?_
 simp only [pS]
 refine tkI 44 (some 8) (.bool true) hS ?_
 simp only [pS]
 refine wpAnyH_done (by kernel_rfl) ?_ _
 exact zc rfl hN
theorem read_two (s:Bare.Bs):∃ (u:Int) (i y:Bool),(match Bare.parseD s with
   | some d=>Ending.returned (.tuple #[prV (Bare.urgOf d) (Bare.incOf d),.bool true])
   | none=>.returned (.tuple #[prV 3 false,.bool false])) = .returned (.tuple #[.agg #[.int .u8 u,.bool i],.bool y]):=by
 cases Bare.parseD s with
 | none=>exact ⟨_,_,_,rfl⟩
 | some d=>exact ⟨_,_,_,rfl⟩
theorem printV_pr (r:Option Bare.Bs):∃ p pe,printV r = .tuple #[.string p,.int .i64 pe]:=by
 unfold printV
 cases r with
 | none=>exact ⟨_,_,rfl⟩
 | some l=>exact ⟨_,_,rfl⟩
theorem prow2 (w:World) (u v:Int) (i j:Bool):∃ V P Q,(w.alloc (.cells #[.int .u8 u,.bool i] 51)).alloc (.cells #[.int .u8 v,.bool j] 51)=V∧w.heap.size=P∧P + 1=Q∧V.heap[P]? = some (.cells #[.int .u8 u,.bool i] 51 (0,0))∧V.heap[Q]? = some (.cells #[.int .u8 v,.bool j] 51 (0,0))∧New w V:=by
 refine ⟨_,_,_,rfl,rfl,rfl,?_,?_,((Mods.refl _ _).alloc _).alloc _⟩
 ·exact ((Mods.refl (fun _=>False) _).alloc (.cells #[.int .u8 v,.bool j] 51)).heap (World.alloc_heap_new w (.cells #[.int .u8 u,.bool i] 51)) id
 ·have:=World.alloc_heap_new (w.alloc (.cells #[.int .u8 u,.bool i] 51)) (.cells #[.int .u8 v,.bool j] 51)
  rw [World.size_alloc] at this
  exact this
theorem utells_law (a b:Nat) (ai bi:Bool) (vd:Value) (d:List Bare.Mem) (s:ByteArray) (w:World) (ha:a < 256) (hb:b < 256) (hd:RdD false w vd d) (hI:InD d) (hs:s.size ≤ 9223372036854775807) (hT:Tab w) :
  Calls Tryz.prog 5 #[.agg #[.int .u8 a,.bool ai],.agg #[.int .u8 b,.bool bi],vd,.string s] w fun e w'=>e = .returned (.bool true)∧New w w':=by
 have HWk:=Lib.hid (fun W (hN:New w W)=>wakes_u W (hT.new hN))
 have HGr:=Lib.hid (fun W (hN:New w W)=>great14 vd d W (hd.new hN))
 have hItI:∀ b,Bare.heard d [117]=some b→ItI b:=fun b hh=>by
  unfold Bare.heard at hh
  split at hh
  ·rename_i m hm
   split at hh
   ·rename_i hc
    cases hh
    refine (((hI.2 m (List.mem_of_find?_eq_some hm)).2.2.1 _ ?_).1.2.1:ItI _)
    cases hl:m.items with
    | nil=>rw [hl] at hc;exact absurd hc.2 (by decide)
    | cons x r=>simp
   ·cases hh
  ·cases hh
 have HO1:=Lib.hid (fun W (hN:New w W)=>of_any vd d W (hd.new hN) hI.fits hItI)
 have HO2:=Lib.hid (fun (h1:d.length ≤ 40) (h2:∀ i,i < d.length→(d.getD i noM).items.length ≤ 40) W (hN:New w W)=>of_r14 vd d W (hd.new hN) (by omega) (fun i hi=>by
  obtain ⟨-,f2,f3⟩:=hI.fits _ (getD_mem (d:=noM) hi)
  exact ⟨by have:=h2 i hi;omega,f2,f3⟩))
 have HR1:=Lib.hid (fun W=>right_pr a ai ha W)
 have HR2:=Lib.hid (fun W=>right_pr14 a ai W)
 have HL1:=Lib.hid (fun W=>less_pr a b ai bi W)
 have HL2:=Lib.hid (fun W=>less_pr14 a b ai bi W)
 have HP1:=Lib.hid (fun W (hN:New w W)=>print_u a ai ha W (hT.new hN))
 have HP2:=Lib.hid (fun W=>print_u14 a ai ha W)
 obtain ⟨px,pe,hpv⟩:=printV_pr (prioT a ai)
 rw [hpv] at HP1 HP2
 obtain ⟨ru,ri,ry,hrd⟩:=read_two (bl s)
 have HD1:=Lib.hid (fun (h:s.size ≤ 1000000) W (hN:New w W)=>(read_u s W h (hT.new hN)).mono (R':=fun e w'=>e = .returned (.tuple #[.agg #[.int .u8 ru,.bool ri],.bool ry])∧New W w') fun e w' h=>⟨h.1.trans hrd,h.2⟩)
 have HD2:=Lib.hid (fun (h:s.size ≤ 1000000) W=>(read_r14 s W h).mono (R':=fun e w'=>e = .returned (.tuple #[.agg #[.int .u8 ru,.bool ri],.bool ry])∧New W w') fun e w' h=>⟨h.1.trans hrd,h.2⟩)
 unfold prV at HO1 HO2 HR1 HR2 HL1 HL2 HP1 HP2
 obtain ⟨ou,hou⟩:∃ x,Bare.urgOf d=x:=⟨_,rfl⟩
 obtain ⟨oi,hoi⟩:∃ x,Bare.incOf d=x:=⟨_,rfl⟩
 obtain ⟨rt,hrt⟩:∃ x,decide (a ≤ 7)=x:=⟨_,rfl⟩
 obtain ⟨lt,hlt⟩:∃ x,decide (a < b)=x:=⟨_,rfl⟩
 rw [hou,hoi] at HO1 HO2
 rw [hrt] at HR1 HR2
 rw [hlt] at HL1 HL2
 obtain ⟨da,dc,rfl⟩:=hd.slice
 obtain ⟨nd,hnd⟩:∃ n,d.length=n:=⟨_,rfl⟩
 rw [hnd] at HGr HO1 HO2 ⊢
 clear hd hI hItI hT hpv hrd hou hoi hrt hlt ha hb hnd
 go_enter Tryz.func5,Tryz.ntmps5
 go_upto_region 1 with fail
 obtain ⟨w1,P,Q,hW1,hP,hQ,rP,rQ,hN⟩:=prow2 w a b ai bi
 simp only [hW1,hP,hQ]
 clear hW1 hP hQ
 go_wp2_with fail
 refine (HGr.out _ hN).mono ?_
 rintro e w2 ⟨g,rfl,hk,hg⟩
 replace hN:=hN.trans hk
 replace rP:=hk.heap rP id
 replace rQ:=hk.heap rQ id
 clear hk HGr
 cases g with
 | true =>
  clear hg
  go_wp2_with fail
  refine (HWk.out _ hN).mono ?_
  rintro e wz ⟨rfl,hkz⟩
  go_wp2_with fail
  go_ret
  exact ⟨rfl,hN.trans hkz⟩
 | false =>
 obtain ⟨g1,g2⟩:=hg rfl
 have HO2:=Lib.hid (HO2.out g1 g2)
 clear hg g1 g2
 by_cases h2k:(2000:Int) < (s.size:Int)
 ·have hgd:decide ((2000:Int) < (s.size:Int))=true:=decide_eq_true h2k
  clear HD1 HD2
  go_wp2_with fail
  refine (HWk.out _ hN).mono ?_
  rintro e wz ⟨rfl,hkz⟩
  go_wp2_with fail
  go_ret
  exact ⟨rfl,hN.trans hkz⟩
 have hgd:decide ((2000:Int) < (s.size:Int))=false:=decide_eq_false h2k
 have hs2:s.size ≤ 1000000:=by omega
 have HD1:=Lib.hid (HD1.out hs2)
 have HD2:=Lib.hid (HD2.out hs2)
 go_upto_region 3 with fail
 clear hgd h2k hs2
 go_upto_region 4 with (go_at_call 36;refine (HD1.out _ hN).mono ?_;rintro e w3 ⟨rfl,hk⟩)
 obtain ⟨w4,X,hW4,hX,rX,hk4,-⟩:=prow w3 ru ri
 rw [hW4,hX]
 have hkk:=hk.trans hk4
 replace hN:=hN.trans hkk
 replace rP:=hkk.heap rP id
 replace rQ:=hkk.heap rQ id
 clear hW4 hX hk hk4 hkk HD1
 go_upto_region 5 with (go_at_call 37;refine (HD2.out _).mono ?_;rintro e w5 ⟨rfl,hk⟩)
 obtain ⟨w6,Y,hW6,hY,rY,hk6,-⟩:=prow w5 ru ri
 rw [hW6,hY]
 have hkk:=hk.trans hk6
 replace hN:=hN.trans hkk
 replace rP:=hkk.heap rP id
 replace rQ:=hkk.heap rQ id
 replace rX:=hkk.heap rX id
 clear hW6 hY hk hk6 hkk HD2
 obtain ⟨c0,c1⟩:=prq_cells rP
 go_upto_region 6 with (go_at_call 38;refine (HP1.out _ hN).mono ?_;rintro e w7 ⟨rfl,hk⟩)
 replace hN:=hN.trans hk
 replace rP:=hk.heap rP id
 replace rQ:=hk.heap rQ id
 replace rX:=hk.heap rX id
 replace rY:=hk.heap rY id
 clear c0 c1 hk HP1
 obtain ⟨c0,c1⟩:=prq_cells rP
 go_upto_region 7 with (go_at_call 39;refine (HP2.out _).mono ?_;rintro e w8 ⟨rfl,hk⟩)
 replace hN:=hN.trans hk
 replace rP:=hk.heap rP id
 replace rQ:=hk.heap rQ id
 replace rX:=hk.heap rX id
 replace rY:=hk.heap rY id
 clear c0 c1 hk HP2
 obtain ⟨c0,c1⟩:=prq_cells rP
 obtain ⟨d0,d1⟩:=prq_cells rQ
 obtain ⟨g0,g1⟩:=prq_cells rX
 obtain ⟨e0,e1⟩:=prq_cells rY
 have HA1:Hid (∀ W,New w8 W→Calls Tryz.prog 40 #[.slice da nd dc] W fun e w'=>e = .returned (.agg #[.int .u8 ou,.bool oi])∧New W w'):=Lib.hid fun W hW=>HO1.out W (hN.trans hW)
 have HA2:Hid (∀ W,New w8 W→Calls Tryz.prog 41 #[.slice da nd dc] W fun e w'=>e = .returned (.agg #[.int .u8 ou,.bool oi])∧New W w'):=Lib.hid fun W hW=>HO2.out W (hN.trans hW)
 have HW2:Hid (∀ W,New w8 W→Calls Tryz.prog 35 #[] W fun e w'=>e = .returned (.bool true)∧New W w'):=Lib.hid fun W hW=>HWk.out W (hN.trans hW)
 refine piece (fun _=>_) (utells7 _ rfl w8 rfl rfl rfl rfl rfl rfl rfl rfl rfl rfl rfl c0 c1 d0 d1 g0 g1 e0 e1 HA1 HA2 HR1 HR2 HL1 HL2 HW2) ?_
 rintro a' w9 ⟨z,rfl,hN9⟩
 simp only [pS]
 go_wp2_with fail
 go_ret
 exact ⟨rfl,hN.trans hN9⟩
end Go.Proofs.YtnknmmbnhoanfaaGreatDoor
