/- Texts joined. -/
import Derived.Test.YtnknmmbnhoanfaaGreatDoorH17
import Derived.Test.YtnknmmbnhoanfaaGreatDoorH10
import Derived.Test.YtnknmmbnhoanfaaGreatDoorH16
import Derived.Test.YtnknmmbnhoanfaaGreatDoorH14
import Derived.Test.YtnknmmbnhoanfaaGreatDoorH13
import Derived.Test.YtnknmmbnhoanfaaGreatDoorH07
import Derived.Test.YtnknmmbnhoanfaaGreatDoorH04
import Derived.Test.YtnknmmbnhoanfaaGreatDoorH03
set_option linter.unusedSimpArgs false
set_option linter.unusedVariables false
set_option maxHeartbeats 16000000
set_option maxRecDepth 100000
namespace Go.Proofs.YtnknmmbnhoanfaaGreatDoor
open Go.RowKit Go.Shelf Go.Cs
attribute [local go_sem] Oper.semAt_some


theorem run_spread_P {o:Oper} {a:Act} {w W:World} {s x:Operand} {ao:Option Addr} {n cap:Nat} {f:Nat→List Value} (hop:o.op = .call { callee:=.builtin .append,args:=#[s,x],argTypes:=#[42,42] })
  (hs:a.eval s = .slice (some ⟨w.heap.size,0,none⟩) 0 0) (hx:a.eval x = .slice ao n cap) (hW:w.alloc (.cells #[] 83)=W) (hf:∀ i,(f i).length=5) (h1:∀ i,i < n→∀ u ∈ f i,u.oneCell'=true) (hv:RowR w (.slice ao n cap) n 5 f) (hn:n ≤ 2513169434880) :
  ∃ v' W',(execOp a.eval o).run Tryz.prog W = .ok (.value v') W'∧OwP w.heap.size W' v' n f∧New w W':=by
 obtain ⟨i0,hi,hz0,hz1,hz2⟩:=info_parts infoP
 obtain ⟨g1,g2⟩:=hv.cells (by decide) hf
 have hfl:=flatF_len hf n
 have hone:=flatF_one h1
 have hown:W.ownsRow w.heap.size 83 5 (.slice (some ⟨w.heap.size,0,none⟩) 0 0) 0 []:=by
  rw [← hW];exact World.ownsRow_made w #[] 0 (Nat.le_refl _) (Nat.zero_le _) rfl
 have hbase:w.heap.size ≤ W.heap.size:=by rw [← hW];simp
 cases ao with
 | none =>
  obtain rfl:n=0:=g1 rfl
  have hr:(Builtin.append_ #[42,42] o.type #[.slice (some ⟨w.heap.size,0,none⟩) 0 0,.slice none 0 cap]).run Tryz.prog W = .ok (.slice (some ⟨w.heap.size,0,none⟩) 0 0) W:=by
   simp [Builtin.append_,run_underlying Tryz.underlying42,sizeOf,typeInfo,hi,Builtin.lenOf,Builtin.firstCells,storeCells]
  refine ⟨_,W,?_,⟨hf,h1,hown⟩,by rw [← hW];exact (Mods.refl _ _).alloc _⟩
  simp [execOp,hop,resolve,invoke,builtin,hs,hx,hr,Result.andThen]
 | some b =>
  obtain ⟨v',w',hr,ho,hg,-⟩:=run_append_own (P:=Tryz.prog) W w.heap.size 42 o.type 83 i0 _ 5 56 Tryz.underlying42 hi hz0 hz1 hz2 rfl (by decide) _ 0 [] hown b n cap (flatF n f) hfl (fun j u hj=>by rw [← hW];exact Lib.cell?_alloc_some _ (g2 b rfl j u hj)) hone (by unfold maxLen;omega) (by omega) hbase
  refine ⟨v',w',?_,⟨hf,h1,?_⟩,?_⟩
  ·simp [execOp,hop,resolve,invoke,builtin,hs,hx,hr,Result.andThen]
  ·simpa using ho
  ·have hA:New w W:=by rw [← hW];exact (Mods.refl _ _).alloc _
   exact hA.grown hg (by intro k hk;simp [Value.ownBlock] at hk;exact .inl (by omega))
theorem wpOp_spread_P {ops:Array Oper} {Q:Exit→Act→World→Prop} {i:Nat} {o:Oper} (d:Option Tmp) {a:Act} {w W:World} {K:Act→World→Prop} (hi:ops[i]? = some o) (hw:Region.wanted o (yielded ops a.tmps)=true) (hd:o.dst=d) (s x:Operand) {ao:Option Addr} {n cap:Nat} {f:Nat→List Value} (hop:o.op = .call { callee:=.builtin .append,args:=#[s,x],argTypes:=#[42,42] })
  (hs:a.eval s = .slice (some ⟨w.heap.size,0,none⟩) 0 0) (hx:a.eval x = .slice ao n cap) (hW:w.alloc (.cells #[] 83)=W) (hf:∀ i,(f i).length=5) (h1:∀ i,i < n→∀ u ∈ f i,u.oneCell'=true) (hv:RowR w (.slice ao n cap) n 5 f) (hn:n ≤ 2513169434880)
  (h:∀ v' W',OwP w.heap.size W' v' n f→New w W'→K (a.put d v') W'):wpOp Tryz.prog ops Q i K a W:=by
 obtain ⟨v',w',hr,ho,hg⟩:=run_spread_P hop hs hx hW hf h1 hv hn
 exact opH_value d hi hw hd hr (h v' w' ho hg)
theorem wpOp_append_It {ops:Array Oper} {Q:Exit→Act→World→Prop} {i:Nat} {o:Oper} (d:Option Tmp) {a:Act} {w W:World} {K:Act→World→Prop} (hi:ops[i]? = some o) (hw:Region.wanted o (yielded ops a.tmps)=true) (hd:o.dst=d) (s x:Operand) {base:Nat} {v:Value} {L:List Bare.Itm} {y:Bare.Itm} {ya:Option Addr} {yl yc:Nat} (hop:o.op = .call { callee:=.builtin .append,args:=#[s,x],argTypes:=#[41,41] })
  (hs:a.eval s=v) (hx:a.eval x = .slice (some ⟨w.heap.size,0,none⟩) 1 1) (hW:w.alloc (.cells (ics y (.slice ya yl yc)).toArray 85)=W) (hown:OwIt base w v L) (hy:RdP true w (.slice ya yl yc) y.params) (hn:L.length ≤ 2000000) (hbase:base ≤ w.heap.size)
  (h:∀ v' W',OwIt base W' v' (L ++ [y])→(∀ (w0:World) (S:Nat→Prop),Mods S w0 w→(∀ g,v.ownBlock=some g→w0.heap.size ≤ g ∨ S g)→Mods S w0 W')→K (a.put d v') W'):wpOp Tryz.prog ops Q i K a W:=by
 obtain ⟨v',w',hr,ho,hg⟩:=run_append_It hop hs hx hW hown hy hn hbase
 exact opH_value d hi hw hd hr (h v' w' ho hg)
theorem lit55 (t:Array Value) (h:t.size=55):∃ u:Nat→Value,t=(u 0::u 1::u 2::u 3::u 4::u 5::u 6::u 7::u 8::u 9::u 10::u 11::u 12::u 13::u 14::u 15::u 16::u 17::u 18::u 19::u 20::u 21::u 22::u 23::u 24::u 25::u 26::u 27::u 28::u 29::u 30::u 31::u 32::u 33::u 34::u 35::u 36::u 37::u 38::u 39::u 40::u 41::u 42::u 43::u 44::u 45::u 46::u 47::u 48::u 49::u 50::u 51::u 52::u 53::u 54::([]:List Value)).toArray:=⟨fun i=>t.getD i undef,range_lit t 55 h⟩
noncomputable def reg_causeyref13_Own_10:Code:=((Tryz.f85.body.bind (regionOf 10)).getD .skip)
theorem own10r (t:Array Value) (hs:t.size=55) (w:World) {base B g o n m ic pc k oc:Nat} {oa pa:Option Addr} {L:List Bare.Itm} {y:Bare.Itm}
  (hq5:t.getD 5 undef = .pointer (some ⟨B,0,none⟩))
  (hq6:t.getD 6 undef = .slice oa k oc)
  (hq7:t.getD 7 undef = .int .i64 k)
  (c2:w.cell? ⟨B,2,none⟩=some (.slice (some ⟨g,o,none⟩) n ic)) (d0:w.cell? ⟨g,o + k * 5,none⟩=some (.int .u8 y.bare.kind)) (d1:w.cell? ⟨g,o + k * 5 + 1,none⟩=some (.int .i64 y.bare.int)) (d2:w.cell? ⟨g,o + k * 5 + 2,none⟩=some (.string (tx y.bare.text))) (d3:w.cell? ⟨g,o + k * 5 + 3,none⟩=some (.bool y.bare.yes)) (d4:w.cell? ⟨g,o + k * 5 + 4,none⟩=some (.slice pa m pc)) (hi:k < n) (hv:RowR w (.slice pa m pc) m 5 (pf y.params)) (hm:y.params.length=m) (hmb:m ≤ 2513169434880) (hO:OwIt base w (.slice oa k oc) L) (hL:L.length=k) (hkl:k ≤ 2000000) (hbase:base ≤ w.heap.size) (hnB:¬ (Value.slice oa k oc).ownBlock=some B) (hng:¬ (Value.slice oa k oc).ownBlock=some g) :
  reg_causeyref13_Own_10.wp Tryz.prog (Only fun a' W'=>∃ z:Nat→Value,∃ v',a'=⟨((pz t z [25,26,27,28,29,30,31,32,33,34,35,36,37,38,39,40,41,42]).setIfInBounds 6 (v')),[]⟩∧OwIt base W' v' (L ++ [y])∧Mods (fun b=>(Value.slice oa k oc).ownBlock=some b) w W') ⟨t,[]⟩ w:=by
 conv=>arg 2;whnf
 obtain ⟨u,rfl⟩:=lit55 t hs
 have hq5:u 5 = _:=hq5
 have hq6:u 6 = _:=hq6
 have hq7:u 7 = _:=hq7
 rw [hq5,hq6,hq7]
 clear hq5 hq6 hq7 hs
 have hid:decide ((k:Int) < (n:Int))=true:=decide_eq_true (by omega)
 refine wp_region_held (S:=fun W=>Mods (fun b=>(Value.slice oa k oc).ownBlock=some b) w W) (by kernel_rfl) ?_
 show wpAnyH _ _ _ _ _ 19 _ _ w.drew
 have hN:New w w.drew:=(Mods.refl _ _).drew
 have hS:Mods (fun b=>(Value.slice oa k oc).ownBlock=some b) w w.drew:=(Mods.refl _ _).drew
 refine tkI 0 (some 25) (.slice oa k oc) hS ?_
 simp only [pS]
 refine tkI 1 (some 26) (.pointer (some ⟨B,2,none⟩)) hS ?_
 simp only [pS]
 refine tkA 2 rfl (some 27) (.slice (some ⟨g,o,none⟩) n ic) (.inl ⟨by rfl,fun W hW=>by have q:=hW.cell c2 hnB;go_simp⟩) hS ?_
 simp only [pS]
 refine tkI 3 (some 28) (.int .i64 k) hS ?_
 simp only [pS]
 refine tkI 4 (some 29) (.pointer (some ⟨g,o + k * 5,none⟩)) hS ?_
 simp only [pS]
 refine tkI 5 (some 30) (.pointer (some ⟨g,o + k * 5,none⟩)) hS ?_
 simp only [pS]
 refine tkA 6 rfl (some 31) (.agg #[.int .u8 y.bare.kind,.int .i64 y.bare.int,.string (tx y.bare.text),.bool y.bare.yes]) (.inl ⟨by rfl,fun W hW=>by have q0:=hW.cell d0 hng;have q1:=hW.cell d1 hng;have q2:=hW.cell d2 hng;have q3:=hW.cell d3 hng;go_simp⟩) hS ?_
 simp only [pS]
 refine tkI 8 (some 33) (.pointer (some ⟨B,2,none⟩)) hS ?_
 simp only [pS]
 refine tkA 9 rfl (some 34) (.slice (some ⟨g,o,none⟩) n ic) (.inl ⟨by rfl,fun W hW=>by have q:=hW.cell c2 hnB;go_simp⟩) hS ?_
 simp only [pS]
 refine tkI 10 (some 35) (.int .i64 k) hS ?_
 simp only [pS]
 refine tkI 11 (some 36) (.pointer (some ⟨g,o + k * 5,none⟩)) hS ?_
 simp only [pS]
 refine tkI 12 (some 37) (.pointer (some ⟨g,o + k * 5 + 4,none⟩)) hS ?_
 simp only [pS]
 refine tkA 13 rfl (some 38) (.slice pa m pc) (.inl ⟨by rfl,fun W hW=>by have q:=hW.cell d4 hng;go_simp⟩) hS ?_
 simp only [pS]
 refine tkO 7 ?_
 have hA7:New w.drew (w.drew.alloc (.cells #[] 83)):=(Mods.refl _ _).alloc _
 refine opH_value (some 32) (w':=w.drew.alloc (.cells #[] 83)) (v:=.slice (some ⟨w.drew.heap.size,0,none⟩) 0 0) rfl (by rfl) rfl (by go_simp) ?_
 refine ⟨hS.trans (Mods.ofNew hA7),?_⟩
 simp only [pS]
 refine tkO 14 ?_
 refine wpOp_spread_P (w:=w.drew) (f:=pf y.params) (ao:=pa) (n:=m) (cap:=pc) (some 39) rfl (by rfl) rfl (.tmp 32) (.tmp 38) rfl rfl rfl rfl (pf_len _) (fun i _=>pcs_one _) (hv.new hN) hmb ?_
 intro v14 w14 ho14 hk14
 obtain ⟨qa,qc,rfl⟩:=ho14.slice
 refine ⟨hS.trans (Mods.ofNew hk14),?_⟩
 have hN:=hN.trans hk14
 have hS:Mods (fun b=>(Value.slice oa k oc).ownBlock=some b) w w14:=Mods.ofNew hN
 simp only [pS]
 refine tkI 15 (some 40) (.agg #[.int .u8 y.bare.kind,.int .i64 y.bare.int,.string (tx y.bare.text),.bool y.bare.yes,.slice qa m qc]) hS ?_
 simp only [pS]
 refine tkO 16 ?_
 obtain ⟨w16,hw16⟩:∃ V,w14.alloc (.cells #[.int .u8 y.bare.kind,.int .i64 y.bare.int,.string (tx y.bare.text),.bool y.bare.yes,.slice qa m qc] 85)=V:=⟨_,rfl⟩
 refine opH_value (some 41) (w':=w14.alloc (.cells #[.int .u8 y.bare.kind,.int .i64 y.bare.int,.string (tx y.bare.text),.bool y.bare.yes,.slice qa m qc] 85)) (v:=.slice (some ⟨w14.heap.size,0,none⟩) 1 1) rfl (by rfl) rfl (by go_simp) ?_
 refine ⟨hS.trans (Mods.ofNew ((Mods.refl _ _).alloc _)),?_⟩
 simp only [pS]
 refine tkO 17 ?_
 have hy14:RdP true w14 (.slice qa m qc) y.params:=by rw [← hm] at ho14 ⊢;exact ho14.rdP (by omega)
 refine wpOp_append_It (w:=w14) (y:=y) (ya:=qa) (yl:=m) (yc:=qc) (L:=L) (base:=base) (some 42) rfl (by rfl) rfl (.tmp 25) (.tmp 41) rfl rfl rfl rfl (by rw [← hL] at hO ⊢;exact hO.new hN) hy14 (by omega) (Nat.le_trans hbase hN.size) ?_
 intro v17 w17 ho17 hm17
 have hS:Mods (fun b=>(Value.slice oa k oc).ownBlock=some b) w w17:=hm17 w _ (Mods.ofNew hN) (fun g hg=>.inr hg)
 refine ⟨hS,?_⟩
 simp only [pS]
 refine tkI 18 (some 6) (v17) hS ?_
 simp only [pS]
 refine wpAnyH_done (by kernel_rfl) ?_ _
 exact zc1 v17 rfl ⟨ho17,hS⟩


theorem wpList_spread_P {ops:Array Oper} {Q:Exit→Act→World→Prop} {rest:List Oper} {o:Oper} {a:Act} {w W:World} (s x:Operand) {ao:Option Addr} {n cap:Nat} {f:Nat→List Value} (hgd:o.guard=none) (hop:o.op = .call { callee:=.builtin .append,args:=#[s,x],argTypes:=#[42,42] })
  (hs:a.eval s = .slice (some ⟨w.heap.size,0,none⟩) 0 0) (hx:a.eval x = .slice ao n cap) (hW:w.alloc (.cells #[] 83)=W) (hf:∀ i,(f i).length=5) (h1:∀ i,i < n→∀ u ∈ f i,u.oneCell'=true) (hv:RowR w (.slice ao n cap) n 5 f) (hn:n ≤ 2513169434880)
  (h:∀ v' W',OwP w.heap.size W' v' n f→New w W'→wpList Tryz.prog ops Q rest (a.put o.dst v') W'):wpList Tryz.prog ops Q (o::rest) a W:=by
 refine wpList_plain hgd fun K hK=>?_
 obtain ⟨v',w',hr,ho,hg⟩:=run_spread_P hop hs hx hW hf h1 hv hn
 unfold Oper.wp
 rw [hr]
 exact hK _ _ (h v' w' ho hg)
theorem cell_lt {W:World} {b o:Nat} {v:Value} (h:W.cell? ⟨b,o,none⟩=some v):b < W.heap.size:=by
 rcases Nat.lt_or_ge b W.heap.size with h' | h'
 ·exact h'
 ·have:W.heap[b]? = none:=Array.getElem?_eq_none h'
  simp [World.cell?,this] at h
theorem take_snoc {α:Type} (l:List α) (k:Nat) (x:α) (h:k < l.length):l.take (k + 1)=l.take k ++ [l.getD k x]:=by
 rw [List.take_add_one,List.getElem?_eq_getElem h]
 simp [List.getD,h]
def FitO (m:Bare.Mem):Prop:=m.items.length ≤ 1000000∧m.params.length ≤ 2513169434880∧∀ j,j < m.items.length→(m.items.getD j Bare.noI).params.length ≤ 2513169434880
theorem own_r13 {τ:Bool} (v:Value) (d:List Bare.Mem) (w:World) (h:RdD τ w v d) (hd:d.length ≤ 1000000) (hf:∀ i,i < d.length→FitO (d.getD i noM)) :
  Calls Tryz.prog 85 #[v] w fun e w'=>∃ v',e = .returned v'∧OwD w.heap.size w' v' d∧New w w':=by
 obtain ⟨iv,pv,hrow,-,hip⟩:=h
 obtain ⟨ao,cap,rfl⟩:=hrow.slice
 have HRow:=Lib.hid hrow
 have HIP:=Lib.hid hip
 have HF:=Lib.hid hf
 obtain ⟨n,hn⟩:∃ n,d.length=n:=⟨_,rfl⟩
 have Hn:=Lib.hid hn
 rw [hn] at HRow HIP HF hd ⊢
 clear hrow hip hf hn
 have hN0:New w w:=Mods.refl _ _
 obtain ⟨Post,hPost⟩:∃ Post:Ending→World→Prop,(fun e w'=>∃ v',e = .returned v'∧OwD w.heap.size w' v' d∧New w w')=Post:=⟨_,rfl⟩
 have HPost:=Lib.hid hPost
 rw [hPost]
 clear hPost
 go_enter Tryz.func85,Tryz.ntmps85
 go_upto_region 3 with fail
 go_loopw [3,4] (fun v t wr=>∃ (k:Nat) (oa:Option Addr) (oc:Nat),k ≤ n∧t = .int .i64 k∧v = .slice oa k oc∧Hid (OwD w.heap.size wr (.slice oa k oc) (d.take k))∧New w wr) (fun _ t _=>n - (intOf t).toNat)
 case atStart=>exact ⟨0,none,0,Nat.zero_le _,rfl,rfl,Lib.hid (OwD.nil _ _),hN0⟩
 case round =>
  clear hN0
  obtain ⟨k,oa,oc,hk,rfl,rfl,HO,hN⟩:=hrel
  by_cases hlt:k < n
  ·have hkd:decide ((k:Int) < (n:Int))=true:=decide_eq_true (by omega)
   obtain ⟨m,hm⟩:∃ m,d.getD k noM=m:=⟨_,rfl⟩
   obtain ⟨gd,od,rfl,hrw⟩:=HRow.out.at.2.2 k hlt
   obtain ⟨q0,q1,q2,q3⟩:=cells4 hrw
   have hIP:=HIP.out k hlt
   have hFt:=HF.out k hlt
   have hsn:=take_snoc d k noM (by rw [Hn.out];exact hlt)
   rw [hm] at q0 q1 hIP hFt hsn
   obtain ⟨hI,hP⟩:=hIP
   obtain ⟨ivk,hik⟩:∃ x,iv k=x:=⟨_,rfl⟩
   obtain ⟨pvk,hpk⟩:∃ x,pv k=x:=⟨_,rfl⟩
   rw [hik] at q2 hI
   rw [hpk] at q3 hP
   obtain ⟨ip,hir,-,hipp⟩:=hI
   obtain ⟨ja,jc,rfl⟩:=hir.slice
   obtain ⟨pa,pc,rfl⟩:=hP.1.slice
   obtain ⟨l,hl⟩:∃ l,m.items.length=l:=⟨_,rfl⟩
   obtain ⟨np,hnp⟩:∃ l,m.params.length=l:=⟨_,rfl⟩
   have HSn:=Lib.hid hsn
   have HIr:=Lib.hid hir
   have HIpp:=Lib.hid hipp
   have HP:=Lib.hid hP.1
   have HFt:=Lib.hid hFt
   have HLl:=Lib.hid hl
   have HNp:=Lib.hid hnp
   rw [hl] at HIr HIpp q2
   rw [hnp] at HP q3
   obtain ⟨kx,hkx⟩:∃ x,tx m.key=x:=⟨_,rfl⟩
   obtain ⟨yb,hyb⟩:∃ x,m.inner=x:=⟨_,rfl⟩
   have HKx:=Lib.hid hkx
   have HYb:=Lib.hid hyb
   have q0:w.cell? ⟨gd,od + k * 4,none⟩=some (.string (tx m.key)):=q0
   have q1:w.cell? ⟨gd,od + k * 4 + 1,none⟩=some (.bool m.inner):=q1
   rw [hkx] at q0
   rw [hyb] at q1
   have q0:=hN.cell q0 id
   have q1:=hN.cell q1 id
   have q2:=hN.cell q2 id
   have q3:=hN.cell q3 id
   clear hrw hsn hir hipp hP hFt hl hnp hkx hyb hm hik hpk
   go_upto_region 6 with fail
   obtain ⟨w1,M,hW1,hM,rM,hN1,hMs⟩:∃ V M,wr.alloc (.cells #[.string kx,.bool yb,.slice ja l jc,.slice pa np pc] 44)=V∧wr.heap.size=M∧V.heap[M]? = some (.cells #[.string kx,.bool yb,.slice ja l jc,.slice pa np pc] 44 (0,0))∧New wr V∧M + 1=V.heap.size:=⟨_,_,rfl,rfl,World.alloc_heap_new _ _,(Mods.refl _ _).alloc _,by simp⟩
   rw [hW1,hM]
   have HO1:=Lib.hid (HO.out.new hN1)
   have hNw:=hN.trans hN1
   have hwM:w.heap.size ≤ M:=by have:=hN.size;omega
   have hOl:Hid (∀ g,Value.ownBlock (.slice oa k oc)=some g→g < M):=Lib.hid fun g hg=>by have:=(HO.out.lt hg).2;omega
   have hMs':M + 1 ≤ w1.heap.size:=by omega
   have hMs2:w1.heap.size ≤ M + 1:=by omega
   clear hW1 hM q0 q1 q2 q3 HO hN1 hMs hN
   go_upto_region 8 with fail
   have HRM0:=Lib.hid rM
   clear rM
   go_loopw [6,7] (fun v t wr=>∃ (j:Nat) (oa:Option Addr) (oc:Nat),j ≤ l∧t = .int .i64 j∧v = .slice oa j oc∧Hid (OwIt (M + 1) wr (.slice oa j oc) (m.items.take j))∧New w1 wr) (fun _ t _=>l - (intOf t).toNat)
   case atStart=>exact ⟨0,none,0,Nat.zero_le _,rfl,rfl,Lib.hid (OwIt.nil _ _),Mods.refl _ _⟩
   case round =>
    obtain ⟨j,ia,ic,hj,rfl,rfl,HIt,hNj⟩:=hrel
    have rM:=hNj.heap HRM0.out id
    have c2:=cell_of_row _ _ 2 _ _ _ rM
    simp only [gS] at c2
    by_cases hjl:j < l
    ·have hjd:decide ((j:Int) < (l:Int))=true:=decide_eq_true (by omega)
     obtain ⟨y,hy⟩:∃ y,m.items.getD j Bare.noI=y:=⟨_,rfl⟩
     obtain ⟨g,og,rfl,hrw⟩:=HIr.out.at.2.2 j hjl
     have hpp:=HIpp.out j hjl
     have hfj:=HFt.out.2.2 j (by rw [HLl.out];exact hjl)
     have hsj:=take_snoc m.items j Bare.noI (by rw [HLl.out];exact hjl)
     rw [hy] at hrw hpp hfj hsj
     obtain ⟨qa,qc,hq⟩:=hpp.1.slice
     rw [hq] at hrw hpp
     obtain ⟨d0,d1,d2,d3,d4⟩:=cells5 hrw
     have hgw:=cell_lt d0
     have hNx:=hNw.trans hNj
     have d0:=hNx.cell d0 id
     have d1:=hNx.cell d1 id
     have d2:=hNx.cell d2 id
     have d3:=hNx.cell d3 id
     have d4:=hNx.cell d4 id
     have hv:=hpp.1.new hNx
     have hOB:∀ b,Value.ownBlock (.slice ia j ic)=some b→M + 1 ≤ b:=fun b hb=>(HIt.out.lt hb).1
     have hnB:¬ Value.ownBlock (.slice ia j ic)=some M:=fun e=>by have:=hOB _ e;omega
     have hng:¬ Value.ownBlock (.slice ia j ic)=some g:=fun e=>by have:=hOB _ e;omega
     have hjj:(m.items.take j).length=j:=by rw [List.length_take,HLl.out];omega
     have hbs:M + 1 ≤ wr.heap.size:=by have:=hNj.size;omega
     have hil:=HFt.out.1
     rw [HLl.out] at hil
     obtain ⟨mq,hmq⟩:∃ q,y.params.length=q:=⟨_,rfl⟩
     have HPc:=fun t hs h1 h2 h3=>own10r t hs wr (y:=y) (L:=m.items.take j) (base:=M + 1) (m:=mq) h1 h2 h3 c2 d0 d1 d2 d3 (by rw [← hmq];exact d4) hjl (by rw [← hmq];exact hv) hmq (by rw [← hmq];exact hfj) HIt.out hjj (by omega) hbs hnB hng
     have HPc:=Lib.hid HPc
     have HSj:=Lib.hid hsj
     have hOB:=Lib.hid hOB
     clear hrw hpp hfj hsj hv d0 d1 d2 d3 d4 hq hmq hy hjj hnB hng
     go_upto_region 10 with fail
     clear c2 rM
     refine piece (fun _=>_) (HPc.out _ rfl rfl rfl rfl) ?_
     rintro a' w4 ⟨z,v4,rfl,ho4,hm4⟩
     simp only [pS]
     rw [← HSj.out] at ho4
     obtain ⟨xa,xc,rfl⟩:=ho4.slice
     have hj1:(m.items.take (j + 1)).length=j + 1:=by rw [List.length_take,HLl.out];omega
     rw [hj1] at ho4 ⊢
     have hN4:New w1 w4:=((Mods.ofNew hNj).trans hm4).new (fun b hb=>by
      have h1:M + 1 ≤ b:=hOB.out b hb
      omega)
     clear hj1 HPc HIt
     go_wp2_with fail
     go_roundw
     case rel=>exact ⟨j + 1,xa,xc,by omega,by go_num,rfl,Lib.hid ho4,hN4⟩
     case measure=>simp [intOf];omega
    ·obtain rfl:j=l:=by omega
     have hjd:decide ((j:Int) < (j:Int))=false:=decide_eq_false (by omega)
     have htk:m.items.take j=m.items:=List.take_of_length_le (by rw [HLl.out];exact Nat.le_refl _)
     have HX:=HIt.out
     rw [htk] at HX
     have hil:=HFt.out.1
     rw [HLl.out] at hil
     have HRi:=HX.reads (by rw [HLl.out];omega)
     have HRi:=Lib.hid HRi
     have HPp:=Lib.hid (HP.out.new (hNw.trans hNj))
     have f2:=frozen_row (i:=2) rM
     have hwx:=hNj.size
     have HO2:=Lib.hid (HO1.out.new hNj)
     have hNx:=hNw.trans hNj
     clear HX htk HIt HIr HIpp HO1
     go_upto_region 12 with fail
     have hm5:=setMods wr M 2 (.slice ia j ic)
     have rM5:=setCell_heap (i:=2) rM (.slice ia j ic)
     simp only [pS] at rM5
     obtain ⟨w5,hw5⟩:∃ V,wr.setCell ⟨M,2,none⟩ (.slice ia j ic)=V:=⟨_,rfl⟩
     rw [hw5] at hm5 rM5 ⊢
     clear hw5 c2 f2
     have hN5:New w w5:=((Mods.ofNew hNx).trans hm5).new (fun b hb=>by omega)
     have HRi5:=Lib.hid (HRi.out.far hm5 (far_row rM))
     have hPp5:RowR w5 (.slice pa np pc) np 5 (fun i=>pcs (m.params.getD i noP)):=HP.out.new hN5
     have HPp5:=Lib.hid hPp5
     have HO5:Hid (OwD w.heap.size w5 (.slice oa k oc) (d.take k)):=Lib.hid (HO2.out.mods hm5 (fun g hg e=>by have:=hOl.out g hg;omega) (far_row rM))
     have hs5:=hm5.size
     have HNpl:m.params.length ≤ 2513169434880:=HFt.out.2.1
     rw [HNp.out] at HNpl
     have hk5:(d.take k).length ≤ 2000000:=by rw [List.length_take];omega
     clear HRi HPp HO2 hPp5 hm5 rM HRM0 HP
     have hA5:New w5 (w5.alloc (.cells #[] 83)):=(Mods.refl _ _).alloc _
     have r5':=hA5.heap rM5 id
     have c3:=cell_of_row _ _ 3 _ _ _ r5'
     simp only [gS] at c3
     go_upto_region 13 with (at_builtin;refine wpList_spread_P (w:=w5) (f:=fun i=>pcs (m.params.getD i noP)) _ _ rfl rfl rfl rfl rfl (fun _=>rfl) (fun i _=>pcs_one _) HPp5.out HNpl ?_;intro v6 w6 ho6 hk6;obtain ⟨za,zc,rfl⟩:=ho6.slice;have rM6:=hk6.heap rM5 id;have c36:=cell_of_row _ _ 3 _ _ _ rM6;simp only [gS] at c36;have f36:=frozen_row (i:=3) rM6)
     have hm7:=setMods w6 M 3 (.slice za np zc)
     have rM7:=setCell_heap (i:=3) rM6 (.slice za np zc)
     simp only [pS] at rM7
     obtain ⟨w7,hw7⟩:∃ V,w6.setCell ⟨M,3,none⟩ (.slice za np zc)=V:=⟨_,rfl⟩
     rw [hw7] at hm7 rM7 ⊢
     clear hw7 c3 c36 f36
     have hN6:=hN5.trans hk6
     have hN7:New w w7:=((Mods.ofNew hN6).trans hm7).new (fun b hb=>by omega)
     have HRi7:=Lib.hid ((HRi5.out.new hk6).far hm7 (far_row rM6))
     have ho6':OwP w5.heap.size w6 (.slice za np zc) m.params.length (pf m.params):=by rw [HNp.out];exact ho6
     have HPp7:Hid (RdP true w7 (.slice za np zc) m.params):=Lib.hid (by
      have h1:=ho6'.rdP (by rw [HNp.out];omega)
      exact h1.far hm7 (far_row rM6))
     have HO7:Hid (OwD w.heap.size w7 (.slice oa k oc) (d.take k)):=Lib.hid ((HO5.out.new hk6).mods hm7 (fun g hg e=>by have:=hOl.out g hg;omega) (far_row rM6))
     have hs7:=hm7.size
     have hs6:=hk6.size
     have k0:=cell_of_row _ _ 0 _ _ _ rM7
     have k1:=cell_of_row _ _ 1 _ _ _ rM7
     have k2:=cell_of_row _ _ 2 _ _ _ rM7
     have k3:=cell_of_row _ _ 3 _ _ _ rM7
     simp only [gS] at k0 k1 k2 k3
     have hmc:mcs m (.slice ia j ic) (.slice za np zc) = [.string kx,.bool yb,.slice ia j ic,.slice za np zc]:=by unfold mcs;rw [HKx.out,HYb.out]
     have hb7:w.heap.size ≤ w7.heap.size:=by omega
     have hOl':Hid (∀ g,Value.ownBlock (.slice oa k oc)=some g→w.heap.size ≤ g ∨ False):=Lib.hid fun g hg=>.inl (by have:=(HO7.out.lt hg).1;omega)
     clear rM5 r5' rM6 rM7 ho6 ho6' HRi5 HPp5 HO5 hA5
     have HMC:=Lib.hid hmc
     clear hmc
     go_wp2_with (at_builtin;refine wpList_append_D (w:=w7) (m:=m) (ia:=ia) (il:=j) (ic:=ic) (pa:=za) (pl:=np) (pc:=zc) _ _ rfl rfl rfl rfl (by rw [HMC.out]) HO7.out HRi7.out HPp7.out hk5 hb7 ?_;intro v8 w8 ho8 hm8;obtain ⟨ya,yc,rfl⟩:=ho8.slice)
     have hN8:New w w8:=hm8 w (fun _=>False) hN7 hOl'.out
     have el:(d.take k ++ [m]).length=k + 1:=by rw [List.length_append,List.length_take,Hn.out];simp;omega
     rw [el,← HSn.out] at ho8
     have hmin:min k d.length + 1=k + 1:=by rw [Hn.out];omega
     go_roundw
     case rel=>exact ⟨k + 1,ya,yc,by omega,by go_num,by rw [hmin],Lib.hid ho8,hN8⟩
     case measure=>simp [intOf];omega
  ·obtain rfl:k=n:=by omega
   have hkd:decide ((k:Int) < (k:Int))=false:=decide_eq_false (by omega)
   have htk:d.take k=d:=List.take_of_length_le (by rw [Hn.out];exact Nat.le_refl _)
   have HX:=HO.out
   rw [htk] at HX
   have HX:=Lib.hid HX
   clear htk HO
   go_wp2_with fail
   rw [← HPost.out]
   exact ⟨_,rfl,HX.out,hN⟩


def MemS (m:Bare.Mem):Prop:=m.key.length ≤ 100000000∧ParS m.params∧m.items.length ≤ 1000000∧∀ x ∈ m.items,x.bare.text.length ≤ 100000000∧ParS x.params
theorem mfacts {W:World} {B:Nat} {a b c d:Value} (h:W.heap[B]? = some (.cells #[a,b,c,d] 44 (0,0))):W.cell? ⟨B,0,none⟩=some a∧W.cell? ⟨B,1,none⟩=some b∧W.cell? ⟨B,2,none⟩=some c∧W.cell? ⟨B,3,none⟩=some d :=
 ⟨cell_of_row _ _ 0 _ _ _ h,cell_of_row _ _ 1 _ _ _ h,cell_of_row _ _ 2 _ _ _ h,cell_of_row _ _ 3 _ _ _ h⟩
theorem member_r13 {τ:Bool} (m:Bare.Mem) (iv pv:Value) (w:World) (hI:RdI τ w iv m.items) (hP:RdP τ w pv m.params) (hs:MemS m) :
  Calls Tryz.prog 93 #[.agg (mcs m iv pv).toArray] w fun e w'=>e = .returned (.bool (Bare.keyB m.key && Bare.memB m))∧New w w':=by
 obtain ⟨hs1,hs2,hs3,hs4⟩:=hs
 have HP:=Lib.hid (fun W (hN:New w W)=>params_r13 pv m.params W (hP.new hN) hs2)
 have HK:=Lib.hid (fun W=>key_r13 (tx m.key) W (by rw [tx_size];omega))
 rw [bl_tx] at HK
 obtain ⟨pi,hIr,-,hIp⟩:=hI
 obtain ⟨ia,ic,rfl⟩:=hIr.slice
 obtain ⟨pa,pc,rfl⟩:=hP.slice
 have HI:=Lib.hid hIr
 have HQ:=Lib.hid (fun W (hN:New w W) i (hi:i < m.items.length)=>params_r13 (pi i) (m.items.getD i Bare.noI).params W ((hIp i hi).new hN) (hs4 _ (getD_mem hi)).2)
 have HR:=Lib.hid (fun W i (hi:i < m.items.length)=>right_r (m.items.getD i Bare.noI).bare (hs4 _ (getD_mem hi)).1 W)
 have HSl:=Lib.hid (fun i (hi:i < m.items.length)=>(hIp i hi).slice)
 obtain ⟨ni,hni⟩:∃ n,m.items.length=n:=⟨_,rfl⟩
 obtain ⟨np,hnp⟩:∃ n,m.params.length=n:=⟨_,rfl⟩
 have HNi:=Lib.hid hni
 have hni6:ni ≤ 1000000:=by omega
 have HMem:Hid (Bare.memB m=((m.inner || (decide (ni=1) && decide (np=0))) && (Bare.paramsB m.params && m.items.all Bare.itemB))):=Lib.hid (by
  unfold Bare.memB
  rw [hni,← hnp]
  congr 3
  cases m.params <;> rfl)
 unfold mcs at *
 rw [hni] at HI HQ HR HSl ⊢
 rw [hnp] at HP ⊢
 obtain ⟨kx,hkx⟩:∃ s,tx m.key=s:=⟨_,rfl⟩
 obtain ⟨inn,hinn⟩:∃ b,m.inner=b:=⟨_,rfl⟩
 obtain ⟨kb,hkb⟩:∃ b,Bare.keyB m.key=b:=⟨_,rfl⟩
 obtain ⟨pb,hpb⟩:∃ b,Bare.paramsB m.params=b:=⟨_,rfl⟩
 rw [hkx] at HK ⊢
 rw [hinn,hpb] at HMem
 rw [hkb] at HK ⊢
 rw [hinn]
 rw [hpb] at HP
 obtain ⟨r,hr⟩:∃ r,(kb && Bare.memB m)=r:=⟨_,rfl⟩
 have HRr:=Lib.hid hr
 rw [hr]
 clear hs1 hs2 hs3 hs4 hIr hIp hP hni hnp hkx hinn hkb hpb hr
 go_enter Tryz.func93,Tryz.ntmps93
 obtain ⟨W1,B,hW1,hB,rB,hN⟩:∃ V X,w.alloc (.cells #[.string kx,.bool inn,.slice ia ni ic,.slice pa np pc] 44)=V∧w.heap.size=X∧V.heap[X]? = some (.cells #[.string kx,.bool inn,.slice ia ni ic,.slice pa np pc] 44 (0,0))∧New w V:=⟨_,_,rfl,rfl,World.alloc_heap_new _ _,(Mods.refl _ _).alloc _⟩
 go_upto_region 1 with fail
 clear hW1 hB
 go_cut [30] from 4 (fun a wx=>∃ bb,a = .bool bb∧Hid (bb=true→r=false)∧Hid (bb=false→m.items.all Bare.itemB=r)∧New W1 wx)
 case first =>
  obtain ⟨c0,c1,c2,c3⟩:=mfacts rB
  go_wp2_with fail
  refine (HK.out _).mono ?_
  rintro e w1 ⟨rfl,hw1⟩
  obtain rfl:=hw1.symm
  clear hw1
  cases kb with
  | false =>
   have HF:Hid (false=r):=Lib.hid (by rw [← HRr.out];rfl)
   go_wp2_with fail
   go_meet
   exact ⟨true,rfl,Lib.hid (fun _=>HF.out.symm),Lib.hid (fun h=>by cases h),Mods.refl _ _⟩
  | true =>
  go_wp2_with fail
  refine (HP.out _ hN).mono ?_
  rintro e w2 ⟨rfl,hk⟩
  replace rB:=hk.heap rB id
  clear c0 c1 c2 c3 HK HP
  obtain ⟨c0,c1,c2,c3⟩:=mfacts rB
  cases pb with
  | false =>
   have HF:Hid (false=r):=Lib.hid (by rw [← HRr.out];rw [HMem.out];simp)
   go_wp2_with fail
   go_meet
   exact ⟨true,rfl,Lib.hid (fun _=>HF.out.symm),Lib.hid (fun h=>by cases h),hk⟩
  | true =>
  have hnb:Hid (inn=false→¬ (ni=1∧np=0)→r=false):=Lib.hid (by
   rintro rfl h
   rw [← HRr.out,HMem.out]
   have:(decide (ni=1) && decide (np=0))=false:=by
    rw [Bool.and_eq_false_iff,decide_eq_false_iff_not,decide_eq_false_iff_not]
    omega
   rw [this];rfl)
  have hgo:Hid ((inn=true ∨ (ni=1∧np=0))→m.items.all Bare.itemB=r):=Lib.hid (by
   intro h
   rw [← HRr.out,HMem.out]
   have:(inn || (decide (ni=1) && decide (np=0)))=true:=by
    rcases h with rfl | ⟨rfl,rfl⟩
    ·rfl
    ·simp
   rw [this];simp)
  cases inn with
  | true =>
   have HF:=Lib.hid (hgo.out (.inl rfl))
   go_wp2_with fail
   go_meet
   exact ⟨false,rfl,Lib.hid (fun h=>by cases h),Lib.hid (fun _=>HF.out),hk⟩
  | false =>
   by_cases h1:ni=1
   ·have hd1:((ni:Int) != 1)=false:=by simp [h1]
    by_cases h2:0 < np
    ·have HF:=Lib.hid (hnb.out rfl (by omega))
     have hd2:decide ((0:Int) < (np:Int))=true:=decide_eq_true (by omega)
     clear h1 hnb hgo
     go_wp2_with fail
     go_meet
     exact ⟨true,rfl,Lib.hid (fun _=>HF.out),Lib.hid (fun h=>by cases h),hk⟩
    ·have HF:=Lib.hid (hgo.out (.inr ⟨h1,by omega⟩))
     have hd2:decide ((0:Int) < (np:Int))=false:=decide_eq_false (by omega)
     clear h1 hnb hgo
     go_wp2_with fail
     go_meet
     exact ⟨false,rfl,Lib.hid (fun h=>by cases h),Lib.hid (fun _=>HF.out),hk⟩
   ·have hd1:((ni:Int) != 1)=true:=by simp;omega
    have HF:=Lib.hid (hnb.out rfl (by omega))
    clear h1 hnb hgo
    go_wp2_with fail
    go_meet
    exact ⟨true,rfl,Lib.hid (fun _=>HF.out),Lib.hid (fun h=>by cases h),hk⟩
 case rest =>
  obtain ⟨bb,rfl,HT,HFl,hk⟩:=hcut
  replace hN:=hN.trans hk
  replace rB:=hk.heap rB id
  cases bb with
  | true =>
   obtain rfl:=HT.out rfl
   clear HT HFl
   go_wp2_with fail
   go_ret
   exact ⟨rfl,hN⟩
  | false =>
  have HA:=Lib.hid (HFl.out rfl)
  have HB:=Lib.hid rB
  clear HT HFl rB hk HK HP
  go_upto_region 4 with fail
  go_loopw [3] (fun t wr=>∃ i:Nat,i ≤ ni∧t = .int .i64 i∧Hid (∀ j,j < i→Bare.itemB (m.items.getD j Bare.noI)=true)∧New wc wr) (fun t _=>ni - (intOf t).toNat)
  case atStart=>exact ⟨0,Nat.zero_le _,rfl,Lib.hid (fun j hj=>by omega),Mods.refl _ _⟩
  case round =>
   obtain ⟨i,hi,rfl,HBf,hNr⟩:=hrel
   have rB:=hNr.heap HB.out id
   obtain ⟨-,-,c2,-⟩:=mfacts rB
   by_cases hlt:i < ni
   ·have hid:decide ((i:Int) < (ni:Int))=true:=decide_eq_true (by omega)
    have hiL:i < m.items.length:=by rw [HNi.out];exact hlt
    have hro:=RowR.new HI.out (hN.trans hNr)
    obtain ⟨b,o,rfl,hrow⟩:=hro.at.2.2 i hlt
    obtain ⟨qa,qc,hq⟩:=HSl.out i hlt
    have HQi:=Lib.hid (fun W hN=>HQ.out W hN i hlt)
    have HRi:=Lib.hid (fun W=>HR.out W i hlt)
    obtain ⟨x,hx⟩:∃ x,m.items.getD i Bare.noI=x:=⟨_,rfl⟩
    rw [hq] at HQi
    rw [hx] at HQi HRi
    have hrow:wr.rangeAt b (o + i * 5) (ics x (.slice qa x.params.length qc)):=by rw [← hx,← hq];exact hrow
    have q0:wr.cell? ⟨b,o + i * 5,none⟩=some (.int .u8 x.bare.kind):=hrow 0 _ rfl
    have q1:wr.cell? ⟨b,o + i * 5 + 1,none⟩=some (.int .i64 x.bare.int):=hrow 1 _ rfl
    have q2:wr.cell? ⟨b,o + i * 5 + 2,none⟩=some (.string (tx x.bare.text)):=hrow 2 _ rfl
    have q3:wr.cell? ⟨b,o + i * 5 + 3,none⟩=some (.bool x.bare.yes):=hrow 3 _ rfl
    have q4:wr.cell? ⟨b,o + i * 5 + 4,none⟩=some (.slice qa x.params.length qc):=hrow 4 _ rfl
    unfold bv bcs at HRi
    obtain ⟨pl,hpl⟩:∃ n,x.params.length=n:=⟨_,rfl⟩
    obtain ⟨tt,htt⟩:∃ s,tx x.bare.text=s:=⟨_,rfl⟩
    obtain ⟨rb,hrb⟩:∃ v,Bare.rightI x.bare=v:=⟨_,rfl⟩
    obtain ⟨pb2,hpb2⟩:∃ v,Bare.paramsB x.params=v:=⟨_,rfl⟩
    rw [htt] at q2 HRi
    rw [hpl] at q4 HQi
    rw [hrb] at HRi
    rw [hpb2] at HQi
    have HIt:Hid (Bare.itemB (m.items.getD i Bare.noI)=(rb && pb2)):=Lib.hid (by rw [hx];unfold Bare.itemB;rw [hrb,hpb2])
    clear hrow hro hq hx hpl htt hrb hpb2
    go_wp2_with fail
    refine (HRi.out _).mono ?_
    rintro e w3 ⟨rfl,hk3⟩
    have q4':=hk3.cell q4 id
    have c2':=hk3.cell c2 id
    have hNw3:=(hN.trans hNr).trans hk3
    have hNc3:=hNr.trans hk3
    clear q0 q1 q2 q3 q4 c2 rB
    cases rb with
    | false =>
     obtain rfl:false=r:=by
      rw [← HA.out,eq_comm,List.all_eq_false]
      exact ⟨_,getD_mem hiL,by rw [HIt.out];simp⟩
     clear HBf
     go_wp2_with fail
     go_ret
     exact ⟨rfl,hNw3⟩
    | true =>
    go_wp2_with fail
    refine (HQi.out _ hNw3).mono ?_
    rintro e w4 ⟨rfl,hk4⟩
    cases pb2 with
    | false =>
     obtain rfl:false=r:=by
      rw [← HA.out,eq_comm,List.all_eq_false]
      exact ⟨_,getD_mem hiL,by rw [HIt.out];simp⟩
     clear HBf
     go_wp2_with fail
     go_ret
     exact ⟨rfl,hNw3.trans hk4⟩
    | true =>
    have HB2:Hid (∀ j,j < i + 1→Bare.itemB (m.items.getD j Bare.noI)=true):=Lib.hid (fun j hj=>by
     by_cases e:j < i
     ·exact HBf.out j e
     ·obtain rfl:j=i:=by omega
      exact HIt.out)
    clear HBf
    go_wp2_with fail
    go_roundw
    case rel=>exact ⟨i + 1,by omega,by go_num,HB2,hNc3.trans hk4⟩
    case measure=>simp [intOf];omega
   ·obtain rfl:i=ni:=by omega
    have hid:decide ((i:Int) < (i:Int))=false:=decide_eq_false (by omega)
    obtain rfl:true=r:=by
     rw [← HA.out,eq_comm,List.all_eq_true]
     intro x hx
     obtain ⟨j,hj,rfl⟩:=List.mem_iff_getElem.1 hx
     have:=HBf.out j (by rw [← HNi.out];exact hj)
     rw [List.getD_eq_getElem?_getD,List.getElem?_eq_getElem hj] at this
     exact this
    clear HBf
    go_wp2_with fail
    go_ret
    exact ⟨rfl,hN.trans hNr⟩


theorem litj33 (t:Array Value) (h:t.size=33):∃ u:Nat→Value,t=(u 0::u 1::u 2::u 3::u 4::u 5::u 6::u 7::u 8::u 9::u 10::u 11::u 12::u 13::u 14::u 15::u 16::u 17::u 18::u 19::u 20::u 21::u 22::u 23::u 24::u 25::u 26::u 27::u 28::u 29::u 30::u 31::u 32::([]:List Value)).toArray:=⟨fun i=>t.getD i undef,range_lit t 33 h⟩
noncomputable def reg_causeyref13_Right_9:Code:=((Tryz.f32.body.bind (regionOf 9)).getD .skip)
theorem right9r (t:Array Value) (hs:t.size=33) (w:World) {b o n cap i k:Nat} {ka kb:ByteArray} {y:Bool}
  (hq0:t.getD 0 undef = .slice (some ⟨b,o,none⟩) n cap)
  (hq3:t.getD 3 undef = .int .i64 i)
  (hq4:t.getD 4 undef = .int .i64 k)
  (c0:w.cell? ⟨b,o + k * 4,none⟩=some (.string ka)) (c1:w.cell? ⟨b,o + i * 4,none⟩=some (.string kb)) (hk:k < n) (hi:i < n) (hkd:decide ((k:Int) < (n:Int))=true) (hid:decide ((i:Int) < (n:Int))=true) (he:(ka.toList == kb.toList)=y) :
  reg_causeyref13_Right_9.wp Tryz.prog (Only fun a' W'=>∃ z:Nat→Value,a'=⟨((pz t z [22,23,24,25,26,27,28,29,30,31]).setIfInBounds 32 (.bool y)),[]⟩∧New w W') ⟨t,[]⟩ w:=by
 conv=>arg 2;whnf
 obtain ⟨u,rfl⟩:=litj33 t hs
 have hq0:u 0 = _:=hq0
 have hq3:u 3 = _:=hq3
 have hq4:u 4 = _:=hq4
 rw [hq0,hq3,hq4]
 clear hq0 hq3 hq4 hs
 refine wp_region_held (S:=fun W=>New w W) (by kernel_rfl) ?_
 show wpAnyH _ _ _ _ _ 11 _ _ w.drew
 have hN:New w w.drew:=(Mods.refl _ _).drew
 have hS:New w w.drew:=(Mods.refl _ _).drew
 refine tkI 0 (some 22) (.slice (some ⟨b,o,none⟩) n cap) hS ?_
 simp only [pS]
 refine tkI 1 (some 23) (.int .i64 k) hS ?_
 simp only [pS]
 refine tkI 2 (some 24) (.pointer (some ⟨b,o + k * 4,none⟩)) hS ?_
 simp only [pS]
 refine tkI 3 (some 25) (.pointer (some ⟨b,o + k * 4,none⟩)) hS ?_
 simp only [pS]
 refine tkA 4 rfl (some 26) (.string ka) (.inl ⟨by rfl,fun W hW=>by have q:=hW.cell c0 id;go_simp⟩) hS ?_
 simp only [pS]
 refine tkI 5 (some 27) (.slice (some ⟨b,o,none⟩) n cap) hS ?_
 simp only [pS]
 refine tkI 6 (some 28) (.int .i64 i) hS ?_
 simp only [pS]
 refine tkI 7 (some 29) (.pointer (some ⟨b,o + i * 4,none⟩)) hS ?_
 simp only [pS]
 refine tkI 8 (some 30) (.pointer (some ⟨b,o + i * 4,none⟩)) hS ?_
 simp only [pS]
 refine tkA 9 rfl (some 31) (.string kb) (.inl ⟨by rfl,fun W hW=>by have q:=hW.cell c1 id;go_simp⟩) hS ?_
 simp only [pS]
 refine tkI 10 (some 32) (.bool y) hS ?_
 simp only [pS]
 refine wpAnyH_done (by kernel_rfl) ?_ _
 exact zc rfl hN
theorem rightD_no1 {d:List Bare.Mem} {i:Nat} (hi:i < d.length) (h:(Bare.keyB (d.getD i noM).key && Bare.memB (d.getD i noM))=false):Bare.rightD d=false:=by
 unfold Bare.rightD
 rw [Bool.and_eq_false_iff] at h
 rcases h with h | h
 ·rw [alone_no (get_map (·.key) d noM i hi) h,Bool.false_and]
 ·have:(d.all Bare.memB)=false:=by
   rw [List.all_eq_false]
   exact ⟨_,getD_mem hi,by rw [h];decide⟩
  rw [this,Bool.and_false]
theorem rightD_no2 {d:List Bare.Mem} {i k:Nat} (hi:i < d.length) (hk:k < i) (h:(d.getD k noM).key=(d.getD i noM).key):Bare.rightD d=false:=by
 unfold Bare.rightD
 rw [alone_dup2 (·.key) d noM i k hi hk h,Bool.false_and]
theorem rightD_yes {d:List Bare.Mem} (h1:∀ i,i < d.length→(Bare.keyB (d.getD i noM).key && Bare.memB (d.getD i noM))=true) (h2:∀ i,i < d.length→∀ k,k < i→(d.getD k noM).key ≠ (d.getD i noM).key):Bare.rightD d=true:=by
 unfold Bare.rightD
 rw [alone_yes (·.key) d noM (fun i hi=>(Bool.and_eq_true_iff.1 (h1 i hi)).1) h2,Bool.true_and,List.all_eq_true]
 intro p hp
 obtain ⟨i,hi,rfl⟩:=List.mem_iff_getElem.1 hp
 have:=(Bool.and_eq_true_iff.1 (h1 i hi)).2
 rw [List.getD_eq_getElem?_getD,List.getElem?_eq_getElem hi] at this
 exact this
theorem right_r13 {τ:Bool} (v:Value) (d:List Bare.Mem) (w:World) (h:RdD τ w v d) (hd:d.length ≤ 1000000) (hs:∀ m ∈ d,MemS m) :
  Calls Tryz.prog 32 #[v] w fun e w'=>e = .returned (.bool (Bare.rightD d))∧New w w':=by
 obtain ⟨iv,pv,hrow,-,hip⟩:=h
 obtain ⟨ao,cap,rfl⟩:=hrow.slice
 have HD:=Lib.hid hrow
 have HM:=Lib.hid (fun W (hN:New w W) i (hi:i < d.length)=>member_r13 (d.getD i noM) (iv i) (pv i) W ((hip i hi).1.new hN) ((hip i hi).2.new hN) (hs _ (getD_mem hi)))
 have HIs:=Lib.hid (fun i (hi:i < d.length)=>(hip i hi).1.slice)
 have HPs:=Lib.hid (fun i (hi:i < d.length)=>(hip i hi).2.slice)
 obtain ⟨n,hn⟩:∃ n,d.length=n:=⟨_,rfl⟩
 have HN:=Lib.hid hn
 rw [hn] at HD HM HIs HPs hd ⊢
 obtain ⟨r,hr⟩:∃ r,Bare.rightD d=r:=⟨_,rfl⟩
 have HR:=Lib.hid hr
 rw [hr]
 clear hn hr hs hrow hip
 go_enter Tryz.func32,Tryz.ntmps32
 go_upto_region 2 with fail
 go_loopw [3] (fun t wr=>∃ i:Nat,i ≤ n∧t = .int .i64 i∧Hid (∀ j,j < i→(Bare.keyB (d.getD j noM).key && Bare.memB (d.getD j noM))=true∧∀ k,k < j→(d.getD k noM).key ≠ (d.getD j noM).key)∧New w wr) (fun t _=>n - (intOf t).toNat)
 case atStart=>exact ⟨0,Nat.zero_le _,rfl,Lib.hid (fun j hj=>by omega),Mods.refl _ _⟩
 case round =>
  obtain ⟨i,hi,rfl,HB,hN⟩:=hrel
  by_cases hlt:i < n
  ·have hid:decide ((i:Int) < (n:Int))=true:=decide_eq_true (by omega)
   have hiL:i < d.length:=by rw [HN.out];exact hlt
   obtain ⟨b,o,rfl,hrow⟩:=(RowR.new HD.out hN).at.2.2 i hlt
   have HMi:=Lib.hid (fun W hN=>HM.out W hN i hlt)
   obtain ⟨ja,jc,hj⟩:=HIs.out i hlt
   obtain ⟨pa,pc,hp⟩:=HPs.out i hlt
   obtain ⟨x,hx⟩:∃ x,d.getD i noM=x:=⟨_,rfl⟩
   rw [hj,hp,hx] at HMi
   have hrow:wr.rangeAt b (o + i * 4) (mcs x (.slice ja x.items.length jc) (.slice pa x.params.length pc)):=by rw [← hx,← hj,← hp];exact hrow
   have q0:wr.cell? ⟨b,o + i * 4,none⟩=some (.string (tx x.key)):=hrow 0 _ rfl
   have q1:wr.cell? ⟨b,o + i * 4 + 1,none⟩=some (.bool x.inner):=hrow 1 _ rfl
   have q2:wr.cell? ⟨b,o + i * 4 + 2,none⟩=some (.slice ja x.items.length jc):=hrow 2 _ rfl
   have q3:wr.cell? ⟨b,o + i * 4 + 3,none⟩=some (.slice pa x.params.length pc):=hrow 3 _ rfl
   unfold mcs at HMi
   obtain ⟨kx,hkx⟩:∃ s,tx x.key=s:=⟨_,rfl⟩
   obtain ⟨il,hil⟩:∃ s,x.items.length=s:=⟨_,rfl⟩
   obtain ⟨pl,hpl⟩:∃ s,x.params.length=s:=⟨_,rfl⟩
   obtain ⟨mb,hmb⟩:∃ s,(Bare.keyB x.key && Bare.memB x)=s:=⟨_,rfl⟩
   rw [hkx] at q0 HMi
   rw [hil] at q2 HMi
   rw [hpl] at q3 HMi
   rw [hmb] at HMi
   have HX:=Lib.hid hx
   have HKX:=Lib.hid hkx
   have HMB:=Lib.hid hmb
   clear hrow hx hkx hil hpl hmb hj hp
   go_wp2_with fail
   refine (HMi.out _ hN).mono ?_
   rintro e w1 ⟨rfl,hk1⟩
   have hN1:=hN.trans hk1
   clear q0 q1 q2 q3 hk1 hN HMi
   cases mb with
   | false =>
    obtain rfl:false=r:=by rw [← HR.out];exact (rightD_no1 hiL (by rw [HX.out];exact HMB.out)).symm
    clear HB
    go_wp2_with fail
    go_ret
    exact ⟨rfl,hN1⟩
   | true =>
   go_upto_region 7 with fail
   go_loopw [4] (fun t wi=>∃ k:Nat,k ≤ i∧t = .int .i64 k∧Hid (∀ j,j < k→(d.getD j noM).key ≠ x.key)∧New w wi) (fun t _=>i - (intOf t).toNat)
   case atStart=>exact ⟨0,Nat.zero_le _,rfl,Lib.hid (fun j hj=>by omega),hN1⟩
   case round =>
    obtain ⟨k,hk,rfl,HBk,hNk⟩:=hrel
    by_cases hki:k < i
    ·have hkd:decide ((k:Int) < (i:Int))=true:=decide_eq_true (by omega)
     obtain ⟨b2,o2,e2,hrow⟩:=(RowR.new HD.out hNk).at.2.2 k (by omega)
     cases e2
     obtain ⟨b3,o3,e3,hrow3⟩:=(RowR.new HD.out hNk).at.2.2 i hlt
     cases e3
     have c0:wr.cell? ⟨b,o + k * 4,none⟩=some (.string (tx (d.getD k noM).key)):=hrow 0 _ rfl
     have c1:wr.cell? ⟨b,o + i * 4,none⟩=some (.string (tx (d.getD i noM).key)):=hrow3 0 _ rfl
     rw [HX.out,HKX.out] at c1
     have he:=eq_tx (tx (d.getD k noM).key) kx
     rw [bl_tx,← HKX.out,bl_tx,HKX.out] at he
     obtain ⟨ka,hka⟩:∃ s,tx (d.getD k noM).key=s:=⟨_,rfl⟩
     rw [hka] at c0 he
     clear hrow hrow3 hka
     go_upto_region 9 with fail
     refine piece (fun _=>_) (right9r _ rfl wr rfl rfl rfl c0 c1 (by omega) hlt (decide_eq_true (by omega)) hid he) ?_
     rintro a' w5 ⟨zg,rfl,hN5⟩
     simp only [pS]
     by_cases heq:(d.getD k noM).key=x.key
     ·obtain rfl:false=r:=by rw [← HR.out];exact (rightD_no2 hiL hki (by rw [HX.out];exact heq)).symm
      rw [decide_eq_true heq]
      clear heq he HB HBk c0 c1
      go_wp2_with fail
      go_ret
      exact ⟨rfl,hNk.trans hN5⟩
     ·have HB2:Hid (∀ j,j < k + 1→(d.getD j noM).key ≠ x.key):=Lib.hid (fun j hj=>by
       by_cases e:j < k
       ·exact HBk.out j e
       ·obtain rfl:j=k:=by omega
        exact heq)
      rw [decide_eq_false heq]
      clear heq he HBk c0 c1
      go_wp2_with fail
      go_roundw
      case rel=>exact ⟨k + 1,by omega,by go_num,HB2,hNk.trans hN5⟩
      case measure=>simp [intOf];omega
    ·obtain rfl:k=i:=by omega
     have hkd:decide ((k:Int) < (k:Int))=false:=decide_eq_false (by omega)
     have HB2:Hid (∀ j,j < k + 1→(Bare.keyB (d.getD j noM).key && Bare.memB (d.getD j noM))=true∧∀ k,k < j→(d.getD k noM).key ≠ (d.getD j noM).key):=Lib.hid (fun j hj=>by
      by_cases e:j < k
      ·exact HB.out j e
      ·obtain rfl:j=k:=by omega
       rw [HX.out]
       exact ⟨HMB.out,HBk.out⟩)
     clear HB HBk
     go_wp2_with fail
     go_roundw
     case rel=>exact ⟨k + 1,by omega,by go_num,HB2,hNk⟩
     case measure=>simp [intOf];omega
  ·obtain rfl:i=n:=by omega
   have hid:decide ((i:Int) < (i:Int))=false:=decide_eq_false (by omega)
   obtain rfl:true=r:=by
    rw [← HR.out]
    exact (rightD_yes (fun j hj=>(HB.out j (by rw [HN.out] at hj;exact hj)).1) (fun j hj=>(HB.out j (by rw [HN.out] at hj;exact hj)).2)).symm
   clear HB
   go_wp2_with fail
   go_ret
   exact ⟨rfl,hN⟩


theorem memS_pr {m:Bare.Mem} (h:PrM m):MemS m:=by
 obtain ⟨⟨h1,h2,h3,h4,h5⟩,h6,h7,h8⟩:=h
 exact ⟨by omega,⟨by omega,fun p hp=>by have:=h5 p hp;unfold SmP at this;omega⟩,by omega,fun x hx=>by
  obtain ⟨⟨x1,x2,x3,x4⟩,x5⟩:=h8 x hx
  exact ⟨by omega,by omega,fun p hp=>by have:=x4 p hp;unfold SmP at this;omega⟩⟩
theorem print_r13 {τ:Bool} (v:Value) (d:List Bare.Mem) (w:World) (h:RdD τ w v d) (hs:PrD d) :
  Calls Tryz.prog 24 #[v] w fun e w'=>e = .returned (printV (Bare.printD d))∧New w w':=by
 have HR:=Lib.hid (right_r13 v d w h (by have:=hs.1;omega) (fun m hm=>memS_pr (hs.2 m hm)))
 have HV:=Lib.hid h
 have HS:=Lib.hid hs.2
 have hl:=hs.1
 obtain ⟨ao,cap,rfl⟩:=h.slice
 obtain ⟨n,hn⟩:∃ n,d.length=n:=⟨_,rfl⟩
 have Hn:=Lib.hid hn
 rw [hn] at hl HV HR ⊢
 cases hr:Bare.rightD d with
 | false =>
  rw [hr] at HR
  have e:Bare.printD d=none:=by unfold Bare.printD;rw [hr];rfl
  rw [e]
  unfold printV
  clear h hs hn hr e
  go_enter Tryz.func24,Tryz.ntmps24
  go_wp2_with fail
  refine HR.out.mono ?_
  rintro e w1 ⟨rfl,hN1⟩
  go_wp2_with fail
  go_ret2
  exact ⟨rfl,hN1⟩
 | true =>
  rw [hr] at HR
  have e:Bare.printD d=some (Bare.joinW [44,32] (d.map Bare.toldM)):=by unfold Bare.printD;rw [hr];rfl
  have hmm:∀ m ∈ d,m.inner=true ∨ m.items.length=1:=fun m hm=>by
   have:d.all Bare.memB=true:=by unfold Bare.rightD at hr;rw [Bool.and_eq_true] at hr;exact hr.2
   have:=List.all_eq_true.1 this m hm
   rcases (Bare.mem_parts this).1 with h | h
   ·exact .inl h
   ·exact .inr h.1
  have HM:=Lib.hid hmm
  have hlen:∀ m ∈ d,(Bare.toldM m).length ≤ 50200000000:=fun m hm=>toldM_len (hs.2 m hm) (hmm m hm)
  have HLn:=Lib.hid hlen
  have hji:=joinD_len hs.1 hlen
  have HJl:=Lib.hid (fun j (hj:j ≤ d.length)=>Nat.le_trans (join_part [44,32] Bare.toldM d noM j hj) hji)
  have HJs:=Lib.hid (fun j (hj:j < d.length)=>join_take [44,32] Bare.toldM d noM j hj)
  obtain ⟨R,hR⟩:∃ R,tx (Bare.joinW [44,32] (d.map Bare.toldM))=R:=⟨_,rfl⟩
  have HRR:=Lib.hid hR
  rw [e]
  unfold printV
  simp only
  rw [hR]
  rw [hn] at HJl HJs
  clear h hs hn hr e hlen hmm hji hR
  go_enter Tryz.func24,Tryz.ntmps24
  go_wp2_with fail
  refine HR.out.mono ?_
  rintro e w1 ⟨rfl,hN1⟩
  clear HR
  go_wp2_with fail
  go_loopw [4,5] (fun a t wr=>∃ j:Nat,j ≤ n∧t = .int .i64 j∧a = .string (tx (Bare.joinW [44,32] ((d.take j).map Bare.toldM)))∧New w wr) (fun _ t _=>n - (intOf t).toNat)
  case atStart=>exact ⟨0,Nat.zero_le _,rfl,rfl,hN1⟩
  case round =>
   clear hN1
   obtain ⟨j,hj,rfl,rfl,hNr⟩:=hrel
   by_cases hjl:j < n
   ·have hjd:decide ((j:Int) < (n:Int))=true:=decide_eq_true (by omega)
    have hjl':j < d.length:=by rw [Hn.out];exact hjl
    obtain ⟨iv,pv,r1,-,r3⟩:=HV.out
    obtain ⟨b,o,rfl,hrow0⟩:=r1.at.2.2 j hjl
    have hrow:wr.rangeAt b (o + j * 4) (mcs (d.getD j noM) (iv j) (pv j)):=fun i u hj=>hNr.cell (hrow0 i u hj) id
    obtain ⟨hi,hp⟩:=r3 j hjl'
    have hi:=hi.new hNr
    have hp:=hp.new hNr
    have hms:=HS.out _ (getD_mem (d:=noM) hjl')
    have hmm:=HM.out _ (getD_mem (d:=noM) hjl')
    have hil:=HLn.out _ (getD_mem (d:=noM) hjl')
    have hst:=HJs.out j hjl
    have hln:=HJl.out j hj
    obtain ⟨m,hxx⟩:∃ x,d.getD j noM=x:=⟨_,rfl⟩
    rw [hxx] at hrow hi hp hms hmm hil hst
    have HMt:=Lib.hid (mtext_r m (iv j) (pv j) wr hi hp hms hmm)
    obtain ⟨ia,ic,hie⟩:=hi.slice
    obtain ⟨pa,pc,hpe⟩:=hp.slice
    rw [hie,hpe] at hrow HMt
    obtain ⟨I,hI⟩:∃ y,tx (Bare.toldM m)=y:=⟨_,rfl⟩
    obtain ⟨J,hJ⟩:∃ y,tx (Bare.joinW [44,32] ((d.take j).map Bare.toldM))=y:=⟨_,rfl⟩
    obtain ⟨J2,hJ2⟩:∃ y,tx (Bare.joinW [44,32] ((d.take (j + 1)).map Bare.toldM))=y:=⟨_,rfl⟩
    have HJ2:=Lib.hid hJ2
    have hIs:I.size ≤ 50200000000:=by rw [← hI,tx_size];exact hil
    have hJs:J.size ≤ 140737488355328:=by rw [← hJ,tx_size];exact hln
    have hE1:j=0→Hid (J ++ I=J2):=fun h=>Lib.hid (by
     rw [← hJ2,hst,if_pos h,← hI,← hJ,h,catx]
     simp [Bare.joinW])
    have hE2:¬ j=0→Hid (J ++ ⟨#[44,32]⟩ ++ I=J2):=fun h=>Lib.hid (by
     rw [← hJ2,hst,if_neg h,← hI,← hJ,show (⟨#[44,32]⟩:ByteArray)=tx [44,32] from rfl,catx,catx,List.append_assoc])
    rw [hI] at HMt
    rw [hJ]
    obtain ⟨key,y,its,ps⟩:=m
    unfold mcs at HMt hrow
    simp only at HMt hrow
    obtain ⟨k0,k1,k2,k3⟩:=cells4 hrow
    obtain ⟨q,hq⟩:∃ x,tx key=x:=⟨_,rfl⟩
    obtain ⟨il,hil'⟩:∃ x,its.length=x:=⟨_,rfl⟩
    obtain ⟨pl,hpl⟩:∃ x,ps.length=x:=⟨_,rfl⟩
    rw [hq] at k0 HMt
    rw [hil'] at k2 HMt
    rw [hpl] at k3 HMt
    have z1:¬ 9223372036854775807 < J.size + 2:=by omega
    have z2:¬ 9223372036854775807 < J.size + 2 + I.size:=by omega
    have z3:¬ 9223372036854775807 < J.size + I.size:=by omega
    clear hq hil' hpl hxx hI hJ hJ2 hst hln hil hie hpe hms hmm hi hp hrow hrow0 r1 r3
    by_cases h0:j=0
    ·have hgd:decide ((0:Int) < (j:Int))=false:=decide_eq_false (by omega)
     have hn0:¬ 0 < j:=by omega
     have hJ:=hE1 h0
     clear hE1 hE2 h0
     go_wp2_with fail
     refine HMt.out.mono ?_
     rintro e1 w1 ⟨rfl,hN1⟩
     clear k0 k1 k2 k3
     go_wp2_with fail
     go_roundw
     case rel=>exact ⟨j + 1,by omega,by go_num,by rw [HJ2.out,← hJ.out],hNr.trans hN1⟩
     case measure=>simp [intOf];omega
    ·have hgd:decide ((0:Int) < (j:Int))=true:=decide_eq_true (by omega)
     have hn0:0 < j:=by omega
     have hJ:=hE2 h0
     clear hE1 hE2 h0
     go_wp2_with fail
     refine HMt.out.mono ?_
     rintro e1 w1 ⟨rfl,hN1⟩
     clear k0 k1 k2 k3
     go_wp2_with fail
     go_roundw
     case rel=>exact ⟨j + 1,by omega,by go_num,by rw [HJ2.out,← hJ.out],hNr.trans hN1⟩
     case measure=>simp [intOf];omega
   ·obtain rfl:j=n:=by omega
    have hjd:decide ((j:Int) < (j:Int))=false:=decide_eq_false (by omega)
    have hall:(d.take j).map Bare.toldM=d.map Bare.toldM:=by rw [List.take_of_length_le (by rw [Hn.out];exact Nat.le_refl _)]
    rw [hall,HRR.out]
    clear hall HJl HJs HV HS HM HLn Hn HRR
    go_wp2_with fail
    go_ret2
    exact ⟨rfl,hNr⟩


theorem right_pr14 (u:Nat) (i:Bool) (w:World):Calls Tryz.prog 43 #[prV u i] w fun e w'=>e = .returned (.bool (decide (u ≤ 7)))∧New w w':=by
 unfold prV
 have he:decide ((u:Int) ≤ 7)=decide (u ≤ 7):=decide_eq_decide.2 (by omega)
 go_enter Tryz.func43,Tryz.ntmps43
 go_wp2
 go_ret
 exact ⟨(by first | rfl | rw [he] | simp [he]),(Mods.refl _ _).alloc _⟩
theorem less_pr14 (u v:Nat) (i j:Bool) (w:World):Calls Tryz.prog 45 #[prV u i,prV v j] w fun e w'=>e = .returned (.bool (decide (u < v)))∧New w w':=by
 unfold prV
 go_enter Tryz.func45,Tryz.ntmps45
 go_wp2
 go_ret
 exact ⟨rfl,((Mods.refl _ _).alloc _).alloc _⟩
def AddV (w0 W:World) (v:Value) (L:List Bare.Mem):Prop:=New w0 W∧∃ f,OwM w0.heap.size W v L.length f ∧
 ∀ j,j < L.length→∃ k b g,L.getD j noM=⟨k,false,[⟨b,[]⟩],[]⟩∧f j=mcs ⟨k,false,[⟨b,[]⟩],[]⟩ (.slice (some ⟨g,0,none⟩) 1 1) noS∧W.heap[g]? = some (.cells (ics ⟨b,[]⟩ noS).toArray 85 (0,0))
theorem AddV.reads {w0 W:World} {v:Value} {L:List Bare.Mem} (h:AddV w0 W v L) (hl:L.length ≤ 100):RdD false W v L:=by
 obtain ⟨-,f,ho,hf⟩:=h
 refine ⟨fun j=>(f j).getD 2 undef,fun _=>noS,(ho.row (by omega)).congr fun j hj=>?_,tag_none,fun j hj=>?_⟩
 ·obtain ⟨k,b,g,h1,h2,-⟩:=hf j hj
  dsimp only
  rw [h1,h2];rfl
 ·obtain ⟨k,b,g,h1,h2,h3⟩:=hf j hj
  dsimp only
  rw [h1,h2]
  refine ⟨⟨fun _=>noS,⟨by simp,some ⟨g,0,none⟩,1,rfl,fun i hi=>?_⟩,tag_none,fun i hi=>?_⟩,RdP.nil _ _ _⟩
  ·obtain rfl:i=0:=by simp at hi;omega
   refine ⟨g,0,rfl,fun j' u hu=>?_⟩
   have:=cell_of_row (W) g (0 + 0 * 5 + j') _ _ _ h3
   rw [this]
   simpa using hu
  ·obtain rfl:i=0:=by simp at hi;omega
   exact RdP.nil _ _ _
theorem AddV.start {w0 W:World} (hN:New w0 W):AddV w0 W (.slice none 0 0) [] :=
 ⟨hN,fun _=>[undef,undef,undef,undef],OwM.nil _ _ _ (fun _=>rfl),fun j hj=>by simp at hj⟩
theorem AddV.slice {w0 W:World} {v:Value} {L:List Bare.Mem} (h:AddV w0 W v L):∃ ao cap,v = .slice ao L.length cap:=by
 obtain ⟨-,f,ho,-⟩:=h
 exact ho.slice
theorem wpList_add_M {ops:Array Oper} {Q:Exit→Act→World→Prop} {rest:List Oper} {o:Oper} {a:Act} {w0 W W3:World} (s x:Operand) {v:Value} {L:List Bare.Mem} (key:Bare.Bs) (b:Bare.It) (hgd:o.guard=none) (hop:o.op = .call { callee:=.builtin .append,args:=#[s,x],argTypes:=#[36,36] })
  (hs:a.eval s=v) (hx:a.eval x = .slice (some ⟨W.heap.size + 1,0,none⟩) 1 1)
  (hW:(W.alloc (.cells (ics ⟨b,[]⟩ noS).toArray 85)).alloc (.cells (mcs ⟨key,false,[⟨b,[]⟩],[]⟩ (.slice (some ⟨W.heap.size,0,none⟩) 1 1) noS).toArray 44)=W3)
  (h:AddV w0 W v L) (hl:L.length ≤ 100)
  (hk:∀ v' W',AddV w0 W' v' (L ++ [⟨key,false,[⟨b,[]⟩],[]⟩])→(∀ (g:Nat) cs fr,W.heap[g]? = some (Obj.cells cs 51 fr)→W'.heap[g]? = some (Obj.cells cs 51 fr))→wpList Tryz.prog ops Q rest (a.put o.dst v') W'):wpList Tryz.prog ops Q (o::rest) a W3:=by
 obtain ⟨hN,f,ho,hf⟩:=h
 have hA:New W (W.alloc (.cells (ics ⟨b,[]⟩ noS).toArray 85)):=(Mods.refl _ _).alloc _
 have r5:=World.alloc_heap_new W (.cells (ics ⟨b,[]⟩ noS).toArray 85)
 have ho1:=ho.new hA
 refine wpList_append_M (w:=W.alloc (.cells (ics ⟨b,[]⟩ noS).toArray 85)) (c:=mcs ⟨key,false,[⟨b,[]⟩],[]⟩ (.slice (some ⟨W.heap.size,0,none⟩) 1 1) noS) s x hgd hop hs (by rw [hx,World.size_alloc]) hW rfl (mcs_one _ _ _ _ _ _ _ _) ho1 (by omega) (hN.trans hA).size ?_
 intro v2 W4 ho4 hm4
 have hmm:=hm4 (W.alloc (.cells (ics ⟨b,[]⟩ noS).toArray 85)) (fun b=>v.ownBlock=some b) (Mods.refl _ _) (fun g hg=>.inr hg)
 have hkeep:∀ (g:Nat) cs fr (ty:TypeId),ty ≠ 44→(W.alloc (.cells (ics ⟨b,[]⟩ noS).toArray 85)).heap[g]? = some (Obj.cells cs ty fr)→W4.heap[g]? = some (Obj.cells cs ty fr):=fun g cs fr ty hty hg =>
  hmm.heap hg (fun h=>by
   obtain ⟨cs',fr',hc⟩:=ho1.tag _ h
   rw [hg] at hc
   cases hc
   exact hty rfl)
 refine hk v2 W4 ⟨hm4 w0 (fun _=>False) (hN.trans hA) (fun g hg=>.inl (ho.lt hg).1),_,by rw [List.length_append];exact ho4,fun j hj=>?_⟩ (fun g cs fr hg=>hkeep g cs fr _ (by decide) (hA.heap hg id))
 rw [List.length_append] at hj
 rw [getD_snoc]
 by_cases e:j=L.length
 ·rw [if_neg (by omega),if_pos e,if_pos e]
  exact ⟨key,b,W.heap.size,rfl,rfl,hkeep _ _ _ _ (by decide) r5⟩
 ·have hjl:j < L.length:=by simp at hj;omega
  rw [if_pos hjl,if_neg e]
  obtain ⟨k,b',g,h1,h2,h3⟩:=hf j hjl
  exact ⟨k,b',g,h1,h2,hkeep _ _ _ _ (by decide) (hA.heap h3 id)⟩
theorem print_u14 (n:Nat) (i:Bool) (hu:n < 256) (w:World) :
  Calls Tryz.prog 39 #[prV n i] w fun e w'=>e = .returned (printV (prioT n i))∧New w w':=by
 have HR:=Lib.hid (fun W=>right_pr14 n i W)
 unfold prV at *
 have hA:New w (w.alloc (.cells #[.int .u8 n,.bool i] 51)):=(Mods.refl _ _).alloc _
 have rP:=World.alloc_heap_new w (.cells #[.int .u8 n,.bool i] 51)
 by_cases h7:n ≤ 7
 ·have HPD:=Lib.hid (prioD_print (i:=i) h7)
  have hT:prioT n i=Bare.printD (Bare.prioD n i):=by unfold prioT;rw [if_pos h7]
  rw [hT]
  rw [decide_eq_true h7] at HR
  obtain ⟨T,hTT⟩:∃ T,printV (Bare.printD (Bare.prioD n i))=T:=⟨_,rfl⟩
  have HT:=Lib.hid hTT
  rw [hTT]
  have HLast:Hid (∀ (W:World) (v:Value) (d:List Bare.Mem),d=Bare.prioD n i→RdD false W v d→Calls Tryz.prog 24 #[v] W fun e w'=>e = .returned T∧New W w'):=Lib.hid fun W v d hd hv=>by
   have:=print_r13 v d W hv (by rw [hd];exact HPD.out)
   rw [hd,HT.out] at this
   exact this
  obtain ⟨t,k,rfl⟩:∃ t k,T = .tuple #[.string t,.int .i64 k]:=by
   have h:=HT.out
   cases hh:Bare.printD (Bare.prioD n i) with
   | none=>rw [hh] at h;exact ⟨_,_,h.symm⟩
   | some l=>rw [hh] at h;exact ⟨_,_,h.symm⟩
  have hw8:IntKind.i64.wrap (n:Int)=n:=by rw [IntKind.wrap_i64];omega
  clear HT hTT hT HPD h7
  go_enter Tryz.func39,Tryz.ntmps39
  go_upto_region 1 with fail
  obtain ⟨w1,hw1⟩:∃ V,w.alloc (.cells #[.int .u8 n,.bool i] 51)=V:=⟨_,rfl⟩
  obtain ⟨P,hP⟩:∃ b,w.heap.size=b:=⟨_,rfl⟩
  rw [hw1] at hA rP ⊢
  rw [hP] at rP ⊢
  clear hw1 hP
  obtain ⟨⟨c0,c1⟩,-⟩:=pr_facts rP
  go_upto_region 3 with (go_at_call 43;refine (HR.out _).mono ?_;rintro e w2 ⟨rfl,hk⟩)
  have hAd:=AddV.start (hA.trans hk)
  replace rP:=hk.heap rP id
  clear c0 c1 hk hA HR
  obtain ⟨⟨c0,c1⟩,-⟩:=pr_facts rP
  have HP:=Lib.hid rP
  have HAd:=Lib.hid hAd
  clear hAd
  by_cases h3:n=3
  ·subst h3
   cases i with
   | true =>
    go_upto_region 8 with (at_builtin;refine wpList_add_M (w0:=w) (W:=w2) (L:=[]) _ _ [105] Bare.yesI rfl rfl rfl rfl rfl HAd.out (by simp) ?_;intro v3 w3 hAd3 hP3;obtain ⟨ao,cap,rfl⟩:=hAd3.slice)
    go_wp2_with fail
    refine (HLast.out _ _ _ rfl (hAd3.reads (by simp))).mono ?_
    rintro e w4 ⟨rfl,hk⟩
    go_wp2_with fail
    go_ret2
    exact ⟨rfl,hAd3.1.trans hk⟩
   | false =>
    go_upto_region 8 with fail
    go_wp2_with fail
    refine (HLast.out _ _ _ rfl (HAd.out.reads (by simp))).mono ?_
    rintro e w4 ⟨rfl,hk⟩
    go_wp2_with fail
    go_ret2
    exact ⟨rfl,HAd.out.1.trans hk⟩
  ·have hz:((n:Int) != 3)=true:=by rw [bne_iff_ne];omega
   have hz2:((n:Int) == 3)=false:=by rw [beq_eq_false_iff_ne];omega
   have hD:∀ i,Bare.prioD n i = [⟨[117],false,[⟨⟨1,n,[],false⟩,[]⟩],[]⟩] ++ (if i then [⟨[105],false,[⟨Bare.yesI,[]⟩],[]⟩] else []):=fun i=>by
    unfold Bare.prioD
    rw [if_neg (by omega)]
   have HD:=Lib.hid hD
   clear hD h3
   go_upto_region 6 with (at_builtin;refine wpList_add_M (w0:=w) (W:=w2) (L:=[]) _ _ [117] ⟨1,n,[],false⟩ rfl rfl rfl rfl rfl HAd.out (by simp) ?_;intro v3 w3 hAd3 hP3;obtain ⟨ao,cap,rfl⟩:=hAd3.slice)
   replace rP:=hP3 _ _ _ HP.out
   have HAd3:=Lib.hid hAd3
   clear c0 c1 hAd3 hP3 HAd hz hz2
   obtain ⟨⟨c0,c1⟩,-⟩:=pr_facts rP
   cases i with
   | true =>
    go_upto_region 8 with (at_builtin;refine wpList_add_M (w0:=w) (W:=w3) _ _ [105] Bare.yesI rfl rfl rfl rfl rfl HAd3.out (by simp) ?_;intro v4 w4 hAd4 hP4;obtain ⟨ao4,cap4,rfl⟩:=hAd4.slice)
    go_wp2_with fail
    refine (HLast.out _ _ _ (HD.out true).symm (hAd4.reads (by simp))).mono ?_
    rintro e w5 ⟨rfl,hk⟩
    go_wp2_with fail
    go_ret2
    exact ⟨rfl,hAd4.1.trans hk⟩
   | false =>
    go_upto_region 8 with fail
    go_wp2_with fail
    refine (HLast.out _ _ _ (HD.out false).symm (HAd3.out.reads (by simp))).mono ?_
    rintro e w5 ⟨rfl,hk⟩
    go_wp2_with fail
    go_ret2
    exact ⟨rfl,HAd3.out.1.trans hk⟩
 ·have hT:prioT n i=none:=by unfold prioT;rw [if_neg h7]
  rw [hT]
  rw [decide_eq_false h7] at HR
  unfold printV
  clear hT h7
  go_enter Tryz.func39,Tryz.ntmps39
  go_upto_region 1 with fail
  obtain ⟨w1,hw1⟩:∃ V,w.alloc (.cells #[.int .u8 n,.bool i] 51)=V:=⟨_,rfl⟩
  obtain ⟨P,hP⟩:∃ b,w.heap.size=b:=⟨_,rfl⟩
  rw [hw1] at hA rP ⊢
  rw [hP] at rP ⊢
  clear hw1 hP
  obtain ⟨⟨c0,c1⟩,-⟩:=pr_facts rP
  go_wp2_with (go_at_call 43;refine (HR.out _).mono ?_;rintro e w2 ⟨rfl,hk⟩)
  go_ret2
  exact ⟨rfl,hA.trans hk⟩


theorem eq_pr (d:Nat) (u v:Int) (i j:Bool) (w:World):(Op.equalIn (d + 2) 51 (.agg #[.int .u8 u,.bool i]) (.agg #[.int .u8 v,.bool j])).run Tryz.prog w = .ok (decide (u=v) && decide (i=j)) w:=by
 rw [show d + 2=(d + 1) + 1 from rfl,run_equalIn_agg w (d + 1) 51 _ _ (by unfold Program.fieldsOf;rw [Tryz.underlying51]) (by kernel_rfl)]
 unfold Program.fieldsOf
 rw [Tryz.underlying51]
 have h0:=fun (k:Int) (y:Bool) w=>partAt 5 _ Tryz.underlying5 rfl #[.int .u8 k,.bool y] 0 (.int .u8 k) w rfl
 have h3:=fun (k:Int) (y:Bool) w=>partAt 4 _ Tryz.underlying4 rfl #[.int .u8 k,.bool y] 1 (.bool y) w rfl
 have e5:=fun w (a b:Int)=>run_equalIn_int w d 5 .u8 .u8 a b Tryz.underlying5
 have e4:=fun w (a b:Bool)=>run_equalIn_bool w d 4 a b Tryz.underlying4
 have n1 : ("Urgency" ≠ "_") = True := by simp
 have n2 : ("Incremental" ≠ "_") = True := by simp
 simp only [Op.eqFields,n1,n2,if_true,Sem.run_bind,h0,e5,Result.andThen_ok]
 by_cases hk:u=v <;> by_cases hy:i=j <;> simp [hk,hy,Sem.run_bind,h3,e4]
theorem binop_pr (u v:Int) (i j:Bool) (w:World):(binOp .eql 51 (.agg #[.int .u8 u,.bool i]) (.agg #[.int .u8 v,.bool j])).run Tryz.prog w = .ok (.bool (decide (u=v) && decide (i=j))) w:=by
 have h:=eq_pr 9998 u v i j w
 simp only [binOp]
 simp [Op.equal,Op.maxDepth,h]


def wkD:List Bare.Mem:=[⟨[117],false,[⟨⟨1,9,[],false⟩,[⟨[120],Bare.yesI⟩]⟩],[]⟩,⟨[105],false,[⟨⟨1,1,[],false⟩,[]⟩],[]⟩]
theorem wk1:Bare.parseD [117,61,53,44,32,105]=some (Bare.prioD 5 true):=by decide +kernel
theorem wk2:Bare.parseD [117,61,57,59,120,44,32,105,61,49]=some wkD:=by decide +kernel
theorem wk3:Bare.parseD [117,61]=none:=by decide +kernel
theorem wk1u:Bare.urgOf (Bare.prioD 5 true)=5∧Bare.incOf (Bare.prioD 5 true)=true:=by decide +kernel
theorem wk2u:Bare.urgOf wkD=3∧Bare.incOf wkD=false:=by decide +kernel
theorem wk4:prioT 3 true=some [105]:=by decide +kernel
theorem wk5:prioT 1 false=some [117,61,49]:=by decide +kernel
theorem wk6:prioT 8 false=none:=by decide +kernel
theorem wk7:Bare.urgOf []=3∧Bare.incOf []=false:=by decide +kernel
theorem lit115 (t:Array Value) (h:t.size=115):∃ u:Nat→Value,t=(u 0::u 1::u 2::u 3::u 4::u 5::u 6::u 7::u 8::u 9::u 10::u 11::u 12::u 13::u 14::u 15::u 16::u 17::u 18::u 19::u 20::u 21::u 22::u 23::u 24::u 25::u 26::u 27::u 28::u 29::u 30::u 31::u 32::u 33::u 34::u 35::u 36::u 37::u 38::u 39::u 40::u 41::u 42::u 43::u 44::u 45::u 46::u 47::u 48::u 49::u 50::u 51::u 52::u 53::u 54::u 55::u 56::u 57::u 58::u 59::u 60::u 61::u 62::u 63::u 64::u 65::u 66::u 67::u 68::u 69::u 70::u 71::u 72::u 73::u 74::u 75::u 76::u 77::u 78::u 79::u 80::u 81::u 82::u 83::u 84::u 85::u 86::u 87::u 88::u 89::u 90::u 91::u 92::u 93::u 94::u 95::u 96::u 97::u 98::u 99::u 100::u 101::u 102::u 103::u 104::u 105::u 106::u 107::u 108::u 109::u 110::u 111::u 112::u 113::u 114::([]:List Value)).toArray:=⟨fun i=>t.getD i undef,range_lit t 115 h⟩
noncomputable def reg_causeylaw14_wakes_8:Code:=((Tryz.f35.body.bind (regionOf 8)).getD .skip)
theorem wk14 (t:Array Value) (hs:t.size=115) (w:World) {a b c d:Nat}
  (hq1:t.getD 1 undef = .pointer (some ⟨a,0,none⟩))
  (hq2:t.getD 2 undef = .bool true)
  (hq3:t.getD 3 undef = .pointer (some ⟨b,0,none⟩))
  (hq4:t.getD 4 undef = .bool true)
  (hq5:t.getD 5 undef = .pointer (some ⟨c,0,none⟩))
  (hq6:t.getD 6 undef = .bool false)
  (hq7:t.getD 7 undef = .string ⟨#[105]⟩)
  (hq8:t.getD 8 undef = .int .i64 0)
  (hq9:t.getD 9 undef = .string ⟨#[117,61,49]⟩)
  (hq10:t.getD 10 undef = .int .i64 0)
  (hq12:t.getD 12 undef = .int .i64 2)
  (hq13:t.getD 13 undef = .pointer (some ⟨d,0,none⟩))
  (a0:w.cell? ⟨a,0,none⟩=some (.int .u8 5)) (a1:w.cell? ⟨a,1,none⟩=some (.bool true)) (b0:w.cell? ⟨b,0,none⟩=some (.int .u8 3)) (b1:w.cell? ⟨b,1,none⟩=some (.bool false)) (c0:w.cell? ⟨c,0,none⟩=some (.int .u8 3)) (c1:w.cell? ⟨c,1,none⟩=some (.bool false)) (d0:w.cell? ⟨d,0,none⟩=some (.int .u8 3)) (d1:w.cell? ⟨d,1,none⟩=some (.bool false)) :
  reg_causeylaw14_wakes_8.wp Tryz.prog (Only fun a' W'=>(a'.tmps.size=115∧a'.defers = []∧a'.tmps.getD 0 undef = .bool true)∧New w W') ⟨t,[]⟩ w:=by
 conv=>arg 2;whnf
 obtain ⟨u,rfl⟩:=lit115 t hs
 have hq1:u 1 = _:=hq1
 have hq2:u 2 = _:=hq2
 have hq3:u 3 = _:=hq3
 have hq4:u 4 = _:=hq4
 have hq5:u 5 = _:=hq5
 have hq6:u 6 = _:=hq6
 have hq7:u 7 = _:=hq7
 have hq8:u 8 = _:=hq8
 have hq9:u 9 = _:=hq9
 have hq10:u 10 = _:=hq10
 have hq12:u 12 = _:=hq12
 have hq13:u 13 = _:=hq13
 rw [hq1,hq2,hq3,hq4,hq5,hq6,hq7,hq8,hq9,hq10,hq12,hq13]
 clear hq1 hq2 hq3 hq4 hq5 hq6 hq7 hq8 hq9 hq10 hq12 hq13 hs
 refine wp_region_held (S:=fun W=>New w W) (by kernel_rfl) ?_
 show wpAnyH _ _ _ _ _ 74 _ _ w.drew
 have hN:New w w.drew:=(Mods.refl _ _).drew
 have hS:New w w.drew:=(Mods.refl _ _).drew
 refine tkI 0 (some 42) (.bool true) hS ?_
 simp only [pS]
 refine tkI 1 (some 43) (.bool true) hS ?_
 simp only [pS]
 refine tkA 2 rfl (some 44) (.agg #[.int .u8 5,.bool true]) (.inl ⟨by rfl,fun W hW=>by have q0:=hW.cell a0 id;have q1:=hW.cell a1 id;go_simp⟩) hS ?_
 simp only [pS]
 refine tkI 3 (some 45) (.agg #[.int .u8 5,.bool true]) hS ?_
 simp only [pS]
 refine tkA 4 rfl (some 46) (.bool true) (.inl ⟨by rfl,fun W hW=>by have q:=binop_pr 5 5 true true;go_simp⟩) hS ?_
 simp only [pS]
 refine tkI 5 (some 47) (.bool true) hS ?_
 simp only [pS]
 refine tkI 6 (some 48) (.bool true) hS ?_
 simp only [pS]
 refine tkI 7 (some 49) (.bool true) hS ?_
 simp only [pS]
 refine tkI 8 (some 50) (.bool true) hS ?_
 simp only [pS]
 refine tkI 9 (some 51) (.bool true) hS ?_
 simp only [pS]
 refine tkA 10 rfl (some 52) (.agg #[.int .u8 3,.bool false]) (.inl ⟨by rfl,fun W hW=>by have q0:=hW.cell b0 id;have q1:=hW.cell b1 id;go_simp⟩) hS ?_
 simp only [pS]
 refine tkA 11 rfl (some 53) (.agg #[.int .u8 3,.bool false]) (.inl ⟨by rfl,fun W hW=>by have q0:=hW.cell d0 id;have q1:=hW.cell d1 id;go_simp⟩) hS ?_
 simp only [pS]
 refine tkA 12 rfl (some 54) (.bool true) (.inl ⟨by rfl,fun W hW=>by have q:=binop_pr 3 3 false false;go_simp⟩) hS ?_
 simp only [pS]
 refine tkI 13 (some 55) (.bool true) hS ?_
 simp only [pS]
 refine tkI 14 (some 56) (.bool true) hS ?_
 simp only [pS]
 refine tkI 15 (some 57) (.bool false) hS ?_
 simp only [pS]
 refine tkI 16 (some 58) (.bool true) hS ?_
 simp only [pS]
 refine tkI 17 (some 59) (.bool true) hS ?_
 simp only [pS]
 refine tkI 18 (some 60) (.bool true) hS ?_
 simp only [pS]
 refine tkA 19 rfl (some 61) (.agg #[.int .u8 3,.bool false]) (.inl ⟨by rfl,fun W hW=>by have q0:=hW.cell c0 id;have q1:=hW.cell c1 id;go_simp⟩) hS ?_
 simp only [pS]
 refine tkA 20 rfl (some 62) (.agg #[.int .u8 3,.bool false]) (.inl ⟨by rfl,fun W hW=>by have q0:=hW.cell d0 id;have q1:=hW.cell d1 id;go_simp⟩) hS ?_
 simp only [pS]
 refine tkA 21 rfl (some 63) (.bool true) (.inl ⟨by rfl,fun W hW=>by have q:=binop_pr 3 3 false false;go_simp⟩) hS ?_
 simp only [pS]
 refine tkI 22 (some 64) (.bool true) hS ?_
 simp only [pS]
 refine tkI 23 (some 65) (.bool true) hS ?_
 simp only [pS]
 refine tkI 24 (some 66) (.int .i64 0) hS ?_
 simp only [pS]
 refine tkI 25 (some 67) (.bool true) hS ?_
 simp only [pS]
 refine tkI 26 (some 68) (.bool true) hS ?_
 simp only [pS]
 refine tkI 27 (some 69) (.bool true) hS ?_
 simp only [pS]
 refine tkI 28 (some 70) (.string ⟨#[105]⟩) hS ?_
 simp only [pS]
 refine tkI 29 (some 71) (.bool true) hS ?_
 simp only [pS]
 refine tkI 30 (some 72) (.bool true) hS ?_
 simp only [pS]
 refine tkI 31 (some 73) (.bool true) hS ?_
 simp only [pS]
 refine tkI 32 (some 74) (.int .i64 0) hS ?_
 simp only [pS]
 refine tkI 33 (some 75) (.bool true) hS ?_
 simp only [pS]
 refine tkI 34 (some 76) (.bool true) hS ?_
 simp only [pS]
 refine tkI 35 (some 77) (.bool true) hS ?_
 simp only [pS]
 refine tkI 36 (some 78) (.string ⟨#[117,61,49]⟩) hS ?_
 simp only [pS]
 refine tkI 37 (some 79) (.bool true) hS ?_
 simp only [pS]
 refine tkI 38 (some 80) (.bool true) hS ?_
 simp only [pS]
 refine tkI 39 (some 81) (.bool true) hS ?_
 simp only [pS]
 refine tkI 40 (some 82) (.int .i64 2) hS ?_
 simp only [pS]
 refine tkI 41 (some 83) (.bool true) hS ?_
 simp only [pS]
 refine tkI 42 (some 84) (.bool true) hS ?_
 simp only [pS]
 refine tkI 43 (some 85) (.bool true) hS ?_
 simp only [pS]
 refine tkA 45 rfl (some 87) (.agg #[.int .u8 3,.bool false]) (.inl ⟨by rfl,fun W hW=>by have q0:=hW.cell d0 id;have q1:=hW.cell d1 id;go_simp⟩) hS ?_
 simp only [pS]
 refine tkO 44 ?_
 refine opH_call (some 86) rfl (by rfl) rfl 99 #[] (by go_simp) (((first_u _).mono (R':=fun e w'=>e = .returned (.agg #[.int .u8 3,.bool false])∧New _ w') (by rintro e w' ⟨rfl,h⟩;exact ⟨rfl,h⟩)).mono ?_)
 rintro e w44 ⟨rfl,hk⟩
 have hS:=hS.trans hk
 have hN:=hN.trans hk
 clear hk
 refine ⟨_,rfl,hS,?_⟩
 simp only [pS]
 refine tkA 46 rfl (some 88) (.bool true) (.inl ⟨by rfl,fun W hW=>by have q:=binop_pr 3 3 false false;go_simp⟩) hS ?_
 simp only [pS]
 refine tkI 47 (some 89) (.bool true) hS ?_
 simp only [pS]
 refine tkI 48 (some 90) (.bool true) hS ?_
 simp only [pS]
 refine tkA 49 rfl (some 91) (.agg #[.int .u8 5,.bool true]) (.inl ⟨by rfl,fun W hW=>by have q0:=hW.cell a0 id;have q1:=hW.cell a1 id;go_simp⟩) hS ?_
 simp only [pS]
 refine tkO 50 ?_
 refine opH_call (some 92) rfl (by rfl) rfl 42 #[.agg #[.int .u8 5,.bool true]] (by go_simp) (((right_pr 5 true (by decide) _).mono (R':=fun e w'=>e = .returned (.bool true)∧New _ w') (by rintro e w' ⟨rfl,h⟩;exact ⟨rfl,h⟩)).mono ?_)
 rintro e w50 ⟨rfl,hk⟩
 have hS:=hS.trans hk
 have hN:=hN.trans hk
 clear hk
 refine ⟨_,rfl,hS,?_⟩
 simp only [pS]
 refine tkI 51 (some 93) (.bool true) hS ?_
 simp only [pS]
 refine tkI 52 (some 94) (.bool true) hS ?_
 simp only [pS]
 refine tkI 53 (some 95) (.agg #[.int .u8 8,.bool false]) hS ?_
 simp only [pS]
 refine tkO 54 ?_
 refine opH_call (some 96) rfl (by rfl) rfl 42 #[.agg #[.int .u8 8,.bool false]] (by go_simp) (((right_pr 8 false (by decide) _).mono (R':=fun e w'=>e = .returned (.bool false)∧New _ w') (by rintro e w' ⟨rfl,h⟩;exact ⟨rfl,h⟩)).mono ?_)
 rintro e w54 ⟨rfl,hk⟩
 have hS:=hS.trans hk
 have hN:=hN.trans hk
 clear hk
 refine ⟨_,rfl,hS,?_⟩
 simp only [pS]
 refine tkI 55 (some 97) (.bool true) hS ?_
 simp only [pS]
 refine tkI 56 (some 98) (.bool true) hS ?_
 simp only [pS]
 refine tkI 57 (some 99) (.bool true) hS ?_
 simp only [pS]
 refine tkA 58 rfl (some 100) (.agg #[.int .u8 3,.bool false]) (.inl ⟨by rfl,fun W hW=>by have q0:=hW.cell d0 id;have q1:=hW.cell d1 id;go_simp⟩) hS ?_
 simp only [pS]
 refine tkA 59 rfl (some 101) (.agg #[.int .u8 5,.bool true]) (.inl ⟨by rfl,fun W hW=>by have q0:=hW.cell a0 id;have q1:=hW.cell a1 id;go_simp⟩) hS ?_
 simp only [pS]
 refine tkO 60 ?_
 refine opH_call (some 102) rfl (by rfl) rfl 44 #[.agg #[.int .u8 3,.bool false],.agg #[.int .u8 5,.bool true]] (by go_simp) (((less_pr 3 5 false true _).mono (R':=fun e w'=>e = .returned (.bool true)∧New _ w') (by rintro e w' ⟨rfl,h⟩;exact ⟨rfl,h⟩)).mono ?_)
 rintro e w60 ⟨rfl,hk⟩
 have hS:=hS.trans hk
 have hN:=hN.trans hk
 clear hk
 refine ⟨_,rfl,hS,?_⟩
 simp only [pS]
 refine tkI 61 (some 103) (.bool true) hS ?_
 simp only [pS]
 refine tkI 62 (some 104) (.bool true) hS ?_
 simp only [pS]
 refine tkA 63 rfl (some 105) (.agg #[.int .u8 5,.bool true]) (.inl ⟨by rfl,fun W hW=>by have q0:=hW.cell a0 id;have q1:=hW.cell a1 id;go_simp⟩) hS ?_
 simp only [pS]
 refine tkA 64 rfl (some 106) (.agg #[.int .u8 5,.bool true]) (.inl ⟨by rfl,fun W hW=>by have q0:=hW.cell a0 id;have q1:=hW.cell a1 id;go_simp⟩) hS ?_
 simp only [pS]
 refine tkO 65 ?_
 refine opH_call (some 107) rfl (by rfl) rfl 44 #[.agg #[.int .u8 5,.bool true],.agg #[.int .u8 5,.bool true]] (by go_simp) (((less_pr 5 5 true true _).mono (R':=fun e w'=>e = .returned (.bool false)∧New _ w') (by rintro e w' ⟨rfl,h⟩;exact ⟨rfl,h⟩)).mono ?_)
 rintro e w65 ⟨rfl,hk⟩
 have hS:=hS.trans hk
 have hN:=hN.trans hk
 clear hk
 refine ⟨_,rfl,hS,?_⟩
 simp only [pS]
 refine tkI 66 (some 108) (.bool true) hS ?_
 simp only [pS]
 refine tkI 67 (some 109) (.bool true) hS ?_
 simp only [pS]
 refine tkI 68 (some 110) (.bool true) hS ?_
 simp only [pS]
 refine tkA 70 rfl (some 112) (.agg #[.int .u8 3,.bool false]) (.inl ⟨by rfl,fun W hW=>by have q0:=hW.cell d0 id;have q1:=hW.cell d1 id;go_simp⟩) hS ?_
 simp only [pS]
 refine tkO 69 ?_
 refine opH_call (some 111) rfl (by rfl) rfl 40 #[.slice none 0 0] (by go_simp) (((of_any (.slice none 0 0) [] _ (RdD.nil false _ 0) (fun m hm=>by cases hm) (fun b hb=>by cases hb)).mono (R':=fun e w'=>e = .returned (.agg #[.int .u8 3,.bool false])∧New _ w') (by rintro e w' ⟨rfl,h⟩;refine ⟨?_,h⟩;rw [wk7.1,wk7.2];rfl)).mono ?_)
 rintro e w69 ⟨rfl,hk⟩
 have hS:=hS.trans hk
 have hN:=hN.trans hk
 clear hk
 refine ⟨_,rfl,hS,?_⟩
 simp only [pS]
 refine tkA 71 rfl (some 113) (.bool true) (.inl ⟨by rfl,fun W hW=>by have q:=binop_pr 3 3 false false;go_simp⟩) hS ?_
 simp only [pS]
 refine tkI 72 (some 114) (.bool true) hS ?_
 simp only [pS]
 refine tkI 73 (some 0) (.bool true) hS ?_
 simp only [pS]
 refine wpAnyH_done (by kernel_rfl) ?_ _
 exact ⟨⟨rfl,rfl,rfl⟩,hN⟩
theorem wakes_u (w:World) (hT:Tab w):Calls Tryz.prog 35 #[] w fun e w'=>e = .returned (.bool true)∧New w w':=by
 have hN:New w w:=Mods.refl _ _
 have H1:Hid (∀ W,New w W→Calls Tryz.prog 36 #[.string ⟨#[117,61,53,44,32,105]⟩] W fun e w'=>e = .returned (.tuple #[.agg #[.int .u8 5,.bool true],.bool true])∧New W w'):=Lib.hid fun W hN=>(read_u ⟨#[117,61,53,44,32,105]⟩ W (by decide) (hT.new hN)).mono fun e w' h=>by
  refine ⟨h.1.trans ?_,h.2⟩
  rw [show bl ⟨#[117,61,53,44,32,105]⟩ = [117,61,53,44,32,105] from rfl,wk1]
  simp only [wk1u.1,wk1u.2];rfl
 have H2:Hid (∀ W,New w W→Calls Tryz.prog 36 #[.string ⟨#[117,61,57,59,120,44,32,105,61,49]⟩] W fun e w'=>e = .returned (.tuple #[.agg #[.int .u8 3,.bool false],.bool true])∧New W w'):=Lib.hid fun W hN=>(read_u ⟨#[117,61,57,59,120,44,32,105,61,49]⟩ W (by decide) (hT.new hN)).mono fun e w' h=>by
  refine ⟨h.1.trans ?_,h.2⟩
  rw [show bl ⟨#[117,61,57,59,120,44,32,105,61,49]⟩ = [117,61,57,59,120,44,32,105,61,49] from rfl,wk2]
  simp only [wk2u.1,wk2u.2];rfl
 have H3:Hid (∀ W,New w W→Calls Tryz.prog 36 #[.string ⟨#[117,61]⟩] W fun e w'=>e = .returned (.tuple #[.agg #[.int .u8 3,.bool false],.bool false])∧New W w'):=Lib.hid fun W hN=>(read_u ⟨#[117,61]⟩ W (by decide) (hT.new hN)).mono fun e w' h=>by
  refine ⟨h.1.trans ?_,h.2⟩
  rw [show bl ⟨#[117,61]⟩ = [117,61] from rfl,wk3]
  rfl
 have H4:Hid (∀ W,New w W→Calls Tryz.prog 38 #[.agg #[.int .u8 3,.bool true]] W fun e w'=>e = .returned (.tuple #[.string ⟨#[105]⟩,.int .i64 0])∧New W w'):=Lib.hid fun W hN=>(print_u 3 true (by decide) W (hT.new hN)).mono fun e w' h=>⟨h.1.trans (by rw [wk4];rfl),h.2⟩
 have H5:Hid (∀ W,New w W→Calls Tryz.prog 38 #[.agg #[.int .u8 1,.bool false]] W fun e w'=>e = .returned (.tuple #[.string ⟨#[117,61,49]⟩,.int .i64 0])∧New W w'):=Lib.hid fun W hN=>(print_u 1 false (by decide) W (hT.new hN)).mono fun e w' h=>⟨h.1.trans (by rw [wk5];rfl),h.2⟩
 have H6:Hid (∀ W,New w W→Calls Tryz.prog 38 #[.agg #[.int .u8 8,.bool false]] W fun e w'=>e = .returned (.tuple #[.string ⟨#[]⟩,.int .i64 2])∧New W w'):=Lib.hid fun W hN=>(print_u 8 false (by decide) W (hT.new hN)).mono fun e w' h=>⟨h.1.trans (by rw [wk6];rfl),h.2⟩
 clear hT
 go_enter Tryz.func35,Tryz.ntmps35
 go_wp2_with fail
 refine (H1.out _ hN).mono ?_
 rintro e w1 ⟨rfl,hk⟩
 replace hN:=hN.trans hk
 clear hk H1
 go_upto_region 2 with fail
 have ra:=World.alloc_heap_new w1 (.cells #[.int .u8 5,.bool true] 51)
 have hA:New w1 (w1.alloc (.cells #[.int .u8 5,.bool true] 51)):=(Mods.refl _ _).alloc _
 obtain ⟨v1,hv⟩:∃ V,w1.alloc (.cells #[.int .u8 5,.bool true] 51)=V:=⟨_,rfl⟩
 obtain ⟨a,hb⟩:∃ b,w1.heap.size=b:=⟨_,rfl⟩
 rw [hv] at ra hA ⊢
 rw [hb] at ra ⊢
 clear hv hb
 replace hN:=hN.trans hA
 clear hA
 go_wp2_with fail
 refine (H2.out _ hN).mono ?_
 rintro e w2 ⟨rfl,hk⟩
 replace hN:=hN.trans hk
 replace ra:=hk.heap ra id
 clear hk H2
 go_upto_region 3 with fail
 have rb:=World.alloc_heap_new w2 (.cells #[.int .u8 3,.bool false] 51)
 have hA:New w2 (w2.alloc (.cells #[.int .u8 3,.bool false] 51)):=(Mods.refl _ _).alloc _
 obtain ⟨v2,hv⟩:∃ V,w2.alloc (.cells #[.int .u8 3,.bool false] 51)=V:=⟨_,rfl⟩
 obtain ⟨b,hb⟩:∃ b,w2.heap.size=b:=⟨_,rfl⟩
 rw [hv] at rb hA ⊢
 rw [hb] at rb ⊢
 clear hv hb
 replace hN:=hN.trans hA
 replace ra:=hA.heap ra id
 clear hA
 go_wp2_with fail
 refine (H3.out _ hN).mono ?_
 rintro e w3 ⟨rfl,hk⟩
 replace hN:=hN.trans hk
 replace ra:=hk.heap ra id
 replace rb:=hk.heap rb id
 clear hk H3
 go_upto_region 4 with fail
 have rc:=World.alloc_heap_new w3 (.cells #[.int .u8 3,.bool false] 51)
 have hA:New w3 (w3.alloc (.cells #[.int .u8 3,.bool false] 51)):=(Mods.refl _ _).alloc _
 obtain ⟨v3,hv⟩:∃ V,w3.alloc (.cells #[.int .u8 3,.bool false] 51)=V:=⟨_,rfl⟩
 obtain ⟨c,hb⟩:∃ b,w3.heap.size=b:=⟨_,rfl⟩
 rw [hv] at rc hA ⊢
 rw [hb] at rc ⊢
 clear hv hb
 replace hN:=hN.trans hA
 replace ra:=hA.heap ra id
 replace rb:=hA.heap rb id
 clear hA
 go_wp2_with fail
 refine (H4.out _ hN).mono ?_
 rintro e w4 ⟨rfl,hk⟩
 replace hN:=hN.trans hk
 replace ra:=hk.heap ra id
 replace rb:=hk.heap rb id
 replace rc:=hk.heap rc id
 clear hk H4
 go_wp2_with fail
 refine (H5.out _ hN).mono ?_
 rintro e w5 ⟨rfl,hk⟩
 replace hN:=hN.trans hk
 replace ra:=hk.heap ra id
 replace rb:=hk.heap rb id
 replace rc:=hk.heap rc id
 clear hk H5
 go_wp2_with fail
 refine (H6.out _ hN).mono ?_
 rintro e w6 ⟨rfl,hk⟩
 replace hN:=hN.trans hk
 replace ra:=hk.heap ra id
 replace rb:=hk.heap rb id
 replace rc:=hk.heap rc id
 clear hk H6
 go_upto_region 8 with fail
 have rd:=World.alloc_heap_new w6 (.cells #[.int .u8 3,.bool false] 51)
 have hA:New w6 (w6.alloc (.cells #[.int .u8 3,.bool false] 51)):=(Mods.refl _ _).alloc _
 obtain ⟨v6,hv⟩:∃ V,w6.alloc (.cells #[.int .u8 3,.bool false] 51)=V:=⟨_,rfl⟩
 obtain ⟨d,hb⟩:∃ b,w6.heap.size=b:=⟨_,rfl⟩
 rw [hv] at rd hA ⊢
 rw [hb] at rd ⊢
 clear hv hb
 replace hN:=hN.trans hA
 replace ra:=hA.heap ra id
 replace rb:=hA.heap rb id
 replace rc:=hA.heap rc id
 obtain ⟨⟨a0,a1⟩,-⟩:=pr_facts ra
 obtain ⟨⟨b0,b1⟩,-⟩:=pr_facts rb
 obtain ⟨⟨c0,c1⟩,-⟩:=pr_facts rc
 obtain ⟨⟨d0,d1⟩,-⟩:=pr_facts rd
 clear hA ra rb rc rd
 refine piece (fun _=>_) (wk14 _ rfl v6 rfl rfl rfl rfl rfl rfl rfl rfl rfl rfl rfl rfl a0 a1 b0 b1 c0 c1 d0 d1) ?_
 rintro ⟨z,dfs⟩ w8 ⟨⟨hs,hd,hq0⟩,hN8⟩
 simp only at hs hd hq0
 subst hd
 obtain ⟨u,rfl⟩:=lit115 z hs
 have hp0:u 0 = .bool true:=hq0
 rw [hp0]
 clear hp0 hq0 hs
 replace hN:=hN.trans hN8
 go_wp2_with fail
 go_ret
 exact ⟨rfl,hN⟩


theorem great14 {τ:Bool} (v:Value) (d:List Bare.Mem) (w:World) (h:RdD τ w v d) :
  Calls Tryz.prog 34 #[v] w fun e w'=>∃ g,e = .returned (.bool g)∧New w w'∧(g=false→d.length ≤ 40∧∀ i,i < d.length→(d.getD i noM).items.length ≤ 40):=by
 obtain ⟨ao,cap,rfl⟩:=h.slice
 have HD:=Lib.hid h
 have hlen:d.length ≤ 281474976710656:=by obtain ⟨_,_,h1,_⟩:=h;exact h1.1
 clear h
 obtain ⟨n,hn⟩:∃ n,d.length=n:=⟨_,rfl⟩
 have Hn:=Lib.hid hn
 rw [hn] at hlen ⊢
 clear hn
 have hN0:New w w:=Mods.refl _ _
 go_enter Tryz.func34,Tryz.ntmps34
 go_wp2_with fail
 go_loopw [3] (fun t wr=>∃ i:Nat,i ≤ n∧t = .int .i64 i∧Hid (∀ j,j < i→(d.getD j noM).items.length ≤ 40)∧New w wr) (fun t _=>n - (intOf t).toNat)
 case atStart=>exact ⟨0,Nat.zero_le _,rfl,Lib.hid fun j hj=>by omega,hN0⟩
 case round =>
  clear hN0
  obtain ⟨i,hi,rfl,hb,hN⟩:=hrel
  by_cases hlt:i < n
  ·have hkd:decide ((i:Int) < (n:Int))=true:=decide_eq_true (by omega)
   by_cases h40:i ≤ 40
   ·have hkd2:decide ((i:Int) ≤ 40)=true:=decide_eq_true (by omega)
    have hd:=HD.out.new hN
    obtain ⟨iv,pv,h1,-,h3⟩:=hd
    obtain ⟨b,o,rfl,hrow⟩:=h1.at.2.2 i (by have:=Hn.out;omega)
    obtain ⟨c0,c1,c2,c3⟩:=cells4 hrow
    obtain ⟨ia,ic,hie⟩:=(h3 i (by have:=Hn.out;omega)).1.slice
    rw [hie] at c2
    obtain ⟨q,hq⟩:∃ q,(d.getD i noM).items.length=q:=⟨_,rfl⟩
    have Hq:=Lib.hid hq
    rw [hq] at c2
    clear hq hie h1 h3 hrow c0 c1 c3
    by_cases hg:40 < q
    ·have hgd:decide ((40:Int) < (q:Int))=true:=decide_eq_true (by omega)
     go_wp2_with fail
     go_ret
     exact ⟨true,rfl,hN,fun h=>by cases h⟩
    ·have hgd:decide ((40:Int) < (q:Int))=false:=decide_eq_false (by omega)
     go_wp2_with fail
     go_roundw
     case rel=>exact ⟨i + 1,by omega,by go_num,Lib.hid (fun j hj=>by
      by_cases e:j=i
      ·subst e;rw [Hq.out];omega
      ·exact hb.out j (by omega)),hN⟩
     case measure=>simp [intOf];omega
   ·have hkd2:decide ((i:Int) ≤ 40)=false:=decide_eq_false (by omega)
    have hgd:decide ((40:Int) < (n:Int))=true:=decide_eq_true (by omega)
    go_wp2_with fail
    go_ret
    exact ⟨true,rfl,hN,fun h=>by cases h⟩
  ·have hkd:decide ((i:Int) < (n:Int))=false:=decide_eq_false (by omega)
   obtain rfl:i=n:=by omega
   by_cases hg:40 < i
   ·have hgd:decide ((40:Int) < (i:Int))=true:=decide_eq_true (by omega)
    go_wp2_with fail
    go_ret
    exact ⟨true,rfl,hN,fun h=>by cases h⟩
   ·have hgd:decide ((40:Int) < (i:Int))=false:=decide_eq_false (by omega)
    go_wp2_with fail
    go_ret
    exact ⟨false,rfl,hN,fun _=>⟨by omega,fun j hj=>hb.out j hj⟩⟩
end Go.Proofs.YtnknmmbnhoanfaaGreatDoor
