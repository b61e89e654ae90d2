/- Texts joined. -/
import Derived.Test.YtnknmmbnhoanfaaGreatDoorH00
import Derived.Test.YtnknmmbnhoanfaaGreatDoorH05
import Derived.Test.YtnknmmbnhoanfaaGreatDoorH11
import Derived.Test.YtnknmmbnhoanfaaGreatDoorH08
import Derived.ScopeJumps
import Derived.Lib.SlBytesRow
import Derived.Test.YtnknmmbnhoanfaaGreatDoorH10
set_option linter.unusedSimpArgs false
set_option linter.unusedVariables false
set_option maxHeartbeats 16000000
set_option maxRecDepth 100000
namespace Go.Cs
open Go.RowKit
variable {P:Program} {ops:Array Oper} {Q:Exit→Act→World→Prop} {md:Region.Mode} {r:Option Nat}
def subs:List Nat→List (List Nat)
 | []=>[[]]
 | i::l=>subs l ++ (subs l).map (i::·)
theorem filter_subs (p:Nat→Bool):∀ l,l.filter p ∈ subs l
 | []=>by simp [subs]
 | i::l=>by
  have ih:=filter_subs p l
  unfold subs
  rw [List.mem_append,List.filter_cons]
  split
  ·exact .inr (List.mem_map.2 ⟨_,ih,rfl⟩)
  ·exact .inl ih
def mark (base:Array Bool) (D:List Nat):Array Bool:=base.mapIdx fun i b=>b || D.contains i
theorem mark_congr (base:Array Bool) {D S:List Nat} (h:∀ i,i ∈ D ↔ i ∈ S):mark base D=mark base S:=by
 unfold mark
 congr 1
 funext i b
 have:D.contains i=S.contains i:=by
  rw [Bool.eq_iff_iff];simp [h]
 rw [this]
theorem mark_set (base:Array Bool) (D:List Nat) (i:Nat):(mark base D).setIfInBounds i true=mark base (i::D):=by
 apply Array.ext
 ·simp [mark]
 ·intro j h1 h2
  simp only [mark,Array.size_setIfInBounds,Array.size_mapIdx] at h1
  rw [Array.getElem_setIfInBounds (by simpa [mark] using h1)]
  by_cases e:i=j
  ·subst e;simp [mark]
  ·simp [mark,e,Ne.symm e]
theorem nodup_le:∀ {l m:List Nat},l.Nodup→(∀ x ∈ l,x ∈ m)→l.length ≤ m.length
 | [],m,_,_=>by simp
 | x::l,m,hn,hs=>by
  have hx:=hs x (by simp)
  have hn':=List.nodup_cons.1 hn
  have ih:=nodup_le (m:=m.erase x) hn'.2 fun y hy=>(List.mem_erase_of_ne (by rintro rfl;exact hn'.1 hy)).2 (hs y (by simp [hy]))
  rw [List.length_erase_of_mem hx] at ih
  have:0 < m.length:=List.length_pos_of_mem hx
  simp
  omega
theorem any_set (idx:List Nat) (base:Array Bool) (fuel:Nat) (J:List Nat→World→Prop) (a:Act)
  (hready:((subs idx).all fun S=>decide (S.length=idx.length) || decide (Region.ready md ops (mark base S)=idx.filter fun i=>!S.contains i))=true)
  (hnd:idx.Nodup)
  (hstep:∀ D i W,(∀ j ∈ D,j ∈ idx)→i ∈ idx→i ∉ D→J D W→∀ K:Act→World→Prop,(∀ W',J (i::D) W'→K a W')→wpOpIn (Fr r) 0 P ops Q i K a W)
  (hend:∀ D W,(∀ j,j ∈ D ↔ j ∈ idx)→D.length=idx.length→J D W→wpAnyIn (Fr r) 0 P md ops Q fuel (mark base idx) a W) :
  ∀ (n:Nat) (D:List Nat) (W:World),(∀ j ∈ D,j ∈ idx)→D.Nodup→n + D.length=idx.length→J D W→wpAnyIn (Fr r) 0 P md ops Q (fuel + n) (mark base D) a W:=by
 intro n
 induction n with
 | zero =>
  intro D W hD hn hl hJ
  have hiff:∀ j,j ∈ D ↔ j ∈ idx:=by
   intro j
   refine ⟨hD j,fun hj=>?_⟩
   by_cases hjD:j ∈ D
   ·exact hjD
   ·have:=nodup_le (l:=j::D) (m:=idx) (List.nodup_cons.2 ⟨hjD,hn⟩) (fun x hx=>by
     rcases List.mem_cons.1 hx with rfl | hx
     ·exact hj
     ·exact hD x hx)
    simp at this
    omega
  rw [mark_congr base hiff]
  exact hend D W hiff (by omega) hJ
 | succ n ih =>
  intro D W hD hn hl hJ
  have hS:∀ j,j ∈ idx.filter (fun i=>D.contains i) ↔ j ∈ D:=fun j=>by
   rw [List.mem_filter]
   simp
   exact fun h=>hD j h
  have hsub:=filter_subs (fun i=>D.contains i) idx
  have hr:=List.all_eq_true.1 hready _ hsub
  have hlen:(idx.filter fun i=>D.contains i).length=D.length:=by
   have h1:(idx.filter fun i=>D.contains i).Perm D:=(List.perm_ext_iff_of_nodup (hnd.filter _) hn).2 hS
   exact h1.length_eq
  rw [Bool.or_eq_true,decide_eq_true_eq,decide_eq_true_eq] at hr
  rcases hr with hr | hr
  ·omega
  ·rw [mark_congr base hS] at hr
   have hc:∀ i,(idx.filter fun i=>D.contains i).contains i=D.contains i:=fun i=>by
    rw [Bool.eq_iff_iff]
    simp only [List.contains_iff_mem]
    exact hS i
   simp only [hc] at hr
   refine wpAnyIn_all hr ?_ ?_
   ·intro h0
    rw [List.filter_eq_nil_iff] at h0
    have:idx.length ≤ D.length:=by
     refine nodup_le hnd fun j hj=>?_
     have:=h0 j hj
     simpa using this
    omega
   ·intro i hi
    rw [List.mem_filter] at hi
    have hiD:i ∉ D:=by simpa using hi.2
    refine hstep D i W hD hi.1 hiD hJ _ fun W' hJ'=>?_
    rw [mark_set]
    exact ih (i::D) W' (fun j hj=>by
     rcases List.mem_cons.1 hj with rfl | hj
     ·exact hi.1
     ·exact hD j hj) (List.nodup_cons.2 ⟨hiD,hn⟩) (by simp;omega) hJ'
theorem any_inserts {k:TypeId} {α:Type} [DecidableEq α] {enc:α→Value} (K:KeyLike P k enc) {t e:TypeId} (ht:P.underlying t=some (.map k e)) (idx:List Nat) (base:Array Bool) (fuel:Nat) (key:Nat→α) (val:Nat→Value) (a:Act) (B:Nat) (J:World→Prop) {nn:Nat} {listed:Array Bool}
  (hready:((subs idx).all fun S=>decide (S.length=idx.length) || decide (Region.ready md ops (mark base S)=idx.filter fun i=>!S.contains i))=true)
  (hnd:idx.Nodup) (hinj:∀ i ∈ idx,∀ j ∈ idx,key i=key j→i=j) (hf:nn=fuel + idx.length) (hl:listed=mark base [])
  (hop:∀ i ∈ idx,∃ (o:Oper) (m x v:Operand),ops[i]? = some o∧o.op = .insert t m x v∧o.dst=none∧o.guard=none∧a.eval m = .map (some B)∧a.eval x=enc (key i)∧a.eval v=val i)
  (hJ:∀ W o,o.isCells=false→J W→J (W.putObj B o))
  {W:World} (hW:J W) (hm:W.heap[B]? = some (.map #[] 0))
  (hend:∀ W,J W→MapFn enc W B idx.length (fun q=>(idx.find? fun i=>decide (key i=q)).map val)→wpAnyIn (Fr r) 0 P md ops Q fuel (mark base idx) a W) :
  wpAnyIn (Fr r) 0 P md ops Q nn listed a W:=by
 subst hf hl
 have hfind:∀ (D:List Nat) (q:α) (i:Nat),(∀ j ∈ D,j ∈ idx)→i ∈ idx→key i=q→(D.find? fun i=>decide (key i=q))=if i ∈ D then some i else none:=by
  intro D q i hD hi hq
  induction D with
  | nil=>simp
  | cons j D ih =>
   have ih:=ih fun x hx=>hD x (by simp [hx])
   rw [List.find?_cons]
   by_cases e:key j=q
   ·have:j=i:=hinj j (hD j (by simp)) i hi (e.trans hq.symm)
    subst this
    simp [e]
   ·have hne:i ≠ j:=by rintro rfl;exact e hq
    simp [e,ih,hne]
 refine any_set idx base fuel (fun D W=>J W∧MapFn enc W B D.length (fun q=>(D.find? fun i=>decide (key i=q)).map val)) a hready hnd ?_ ?_ idx.length [] W (fun _ h=>by cases h) List.nodup_nil rfl ⟨hW,?_⟩
 ·rintro D i W hD hi hiD ⟨hJW,hM⟩ K' hK
  obtain ⟨o,m,x,v,h1,h2,h3,h4,h5,h6,h7⟩:=hop i hi
  have hnone:(D.find? fun j=>decide (key j=key i)).map val=none:=by
   rw [hfind D (key i) i hD hi rfl,if_neg hiD]
   rfl
  obtain ⟨ob,hrun,hob,hM'⟩:=hM.put K ht (key i) (val i) hnone
  refine opIn_skip none (by simp [plainOp,h2]) h1 h4 h3 (w':=W.putObj B ob) ?_ ?_
  ·unfold execOp
   simp only [h2,h5,h6,h7,Sem.run_bind,hrun]
   rfl
  ·refine hK _ ⟨hJ _ _ hob hJW,hM'.congr fun q=>?_⟩
   by_cases e:q=key i
   ·subst e
    rw [if_pos rfl,List.find?_cons]
    simp
   ·rw [if_neg e,List.find?_cons]
    have:¬ key i=q:=fun h=>e h.symm
    simp [this]
 ·rintro D W hiff hlen ⟨hJW,hM⟩
  refine hend W hJW ?_
  obtain ⟨es,c,g1,g2,g3,g4⟩:=hM
  have hfe:∀ q,((D.find? fun i=>decide (key i=q)).map val)=((idx.find? fun i=>decide (key i=q)).map val):=by
   intro q
   by_cases hex:∃ i ∈ idx,key i=q
   ·obtain ⟨i,hi,hq⟩:=hex
    rw [hfind D q i (fun j hj=>(hiff j).1 hj) hi hq,hfind idx q i (fun _ h=>h) hi hq,if_pos ((hiff i).2 hi),if_pos hi]
   ·have h1:(D.find? fun i=>decide (key i=q))=none:=by
     rw [List.find?_eq_none]
     intro i hi
     simpa using fun h=>hex ⟨i,(hiff i).1 hi,h⟩
    have h2:(idx.find? fun i=>decide (key i=q))=none:=by
     rw [List.find?_eq_none]
     intro i hi
     simpa using fun h=>hex ⟨i,hi,h⟩
    rw [h1,h2]
  exact ⟨es,c,g1,by omega,fun e he=>by
   obtain ⟨b,hb,hv⟩:=g3 e he
   exact ⟨b,hb,(hfe b).symm.trans hv⟩,fun b v hv=>g4 b v ((hfe b).trans hv)⟩
 ·exact MapFn.made hm
end Go.Cs
namespace Go.Proofs.YtnknmmbnhoanfaaGreatDoor
open Go.RowKit Go.Shelf Go.Cs
attribute [local go_sem] Oper.semAt_some


theorem info5:∃ i,Tryz.prog.info? 5=some i:=info_of_underlying Tryz.underlying5
theorem keyB1:KeyLike Tryz.prog 122 (k1 .u8):=by
 obtain ⟨i,hi⟩:=info5
 exact key_one Tryz.underlying122 Tryz.underlying5 hi (by kernel_rfl)
def cKey (i:Nat):Int:=if i=2 then 117 else 105
def cVal (i:Nat):Value:=if i=2 then .func (.func 152) #[] #[] else .func (.func 153) #[] #[]
def cntF (q:Int):Option Value:=([2,4].find? fun i=>decide (cKey i=q)).map cVal
theorem cntF_u:cntF 117=some (.func (.func 152) #[] #[]):=by simp [cntF,cKey,cVal]
theorem cntF_i:cntF 105=some (.func (.func 153) #[] #[]):=by simp [cntF,cKey,cVal]
theorem counts_any (w:World):Calls Tryz.prog 103 #[] w fun e w'=>∃ M,e = .returned (.map (some M))∧MapFn (k1 .u8) w' M 2 cntF∧New w w':=by
 go_enter Tryz.func103,Tryz.ntmps103
 go_wp2_with fail
 refine piece (fun a' a'' Wq=>∃ M,a''=(a'.put (some 2) (k1 .u8 117) |>.put (some 3) (k1 .u8 105) |>.put (some 1) (.map (some M)) |>.put (some 4) (.map (some M)) |>.put (some 0) (.map (some M)))∧MapFn (k1 .u8) Wq M 2 cntF∧New w Wq) ?_ ?_
 ·refine (wpIn_wide (n:=0)).1 ?_
  refine wpIn_region_any (by kernel_rfl) ?_
  show wpAnyIn _ _ _ _ _ _ 7 _ _ w.drew
  refine any_take 1 (some 2) (k1 .u8 117) rfl rfl (by kernel_rfl) (by kernel_rfl) (by kernel_rfl) (fun _ _ _ h=>h.elim) (.value rfl fun w=>by go_simp;rfl) ?_
  refine any_take 3 (some 3) (k1 .u8 105) rfl rfl (by kernel_rfl) (by kernel_rfl) (by kernel_rfl) (fun _ _ _ h=>h.elim) (.value rfl fun w=>by go_simp;rfl) ?_
  simp only [pS]
  refine wpAnyIn_all (rs:=[0]) (by kernel_rfl) (by simp) ?_
  simp only [List.mem_cons,List.not_mem_nil,or_false,forall_eq]
  refine opIn_value (some 1) (v:=.map (some w.drew.heap.size)) (w':=w.drew.alloc (.map #[] 0)) rfl rfl rfl rfl (by have hmm:=@run_makeMap Tryz.prog;go_simp) ?_
  have hm:=World.alloc_heap_new w.drew (.map #[] 0)
  have hN1:New w (w.drew.alloc (.map #[] 0)):=(Mods.refl _ _).drew.alloc _
  have hM1:w.heap.size ≤ w.drew.heap.size:=Nat.le_refl _
  obtain ⟨M,hM⟩:∃ M,w.drew.heap.size=M:=⟨_,rfl⟩
  obtain ⟨W1,hW1⟩:∃ W,w.drew.alloc (.map #[] 0)=W:=⟨_,rfl⟩
  rw [hW1] at hm hN1 ⊢
  rw [hM] at hm hM1 ⊢
  clear hM hW1
  simp only [pS]
  refine any_inserts keyB1 Tryz.underlying124 [2,4] #[true,true,false,true,false,false,false] 2 cKey cVal _ M (fun W=>New w W) (by kernel_rfl) (by decide) (by decide +kernel) rfl (by kernel_rfl) ?_ ?_ hN1 hm ?_
  ·intro i hi
   simp only [List.mem_cons,List.not_mem_nil,or_false] at hi
   rcases hi with rfl | rfl
   ·exact ⟨_,_,_,_,rfl,rfl,rfl,rfl,rfl,rfl,rfl⟩
   ·exact ⟨_,_,_,_,rfl,rfl,rfl,rfl,rfl,rfl,rfl⟩
  ·intro W o _ hW
   exact hW.putObj hM1 o
  ·intro W hW hMap
   refine wpAnyIn_all (rs:=[5]) (by kernel_rfl) (by simp) ?_
   simp only [List.mem_cons,List.not_mem_nil,or_false,forall_eq]
   refine opIn_value (some 4) (v:=.map (some M)) (w':=W) rfl rfl rfl rfl (by go_simp) ?_
   refine wpAnyIn_all (rs:=[6]) (by kernel_rfl) (by simp) ?_
   simp only [List.mem_cons,List.not_mem_nil,or_false,forall_eq]
   refine opIn_value (some 0) (v:=.map (some M)) (w':=W) rfl rfl rfl rfl (by go_simp) ?_
   refine wpAnyIn_done (by kernel_rfl) ?_ _
   exact ⟨M,rfl,hMap,hW⟩
 ·rintro a' Wz ⟨M,rfl,hMap,hN⟩
  simp only [pS]
  go_wp2_with fail
  go_ret
  exact ⟨M,rfl,hMap,hN⟩
end Go.Proofs.YtnknmmbnhoanfaaGreatDoor
namespace Go.Cs
open Go.RowKit
variable {P:Program} {ops:Array Oper} {Q:Exit→Act→World→Prop}
theorem opIn_yield {i:Nat} {o:Oper} (d:Option Tmp) {l:Nat} {fn:FuncId} {tmps:Array Value} {assign body:Code} {a:Act} {w w':World} {K R:_} (hp:plainOp o=true) (hi:ops[i]? = some o) (hg:o.guard=none) (hd:o.dst=d)
  (h:(execOp a.eval o).run P w = .ok (.round l fn tmps assign body) w') (hR:RoundIn Fence.wide 0 P l fn tmps assign body w' R) (hK:∀ e w'',R e w''→∃ v,e = .returned v∧K (a.put d v) w''):wpOpIn (Fr none) 0 P ops Q i K a w:=by
 subst hd
 unfold Go.wpOpIn
 simp only [hi,Region.wanted,hg,if_true,Oper.wpIn,semAt_plain hp,h,Oper.uponIn_round]
 refine ⟨fun _ _=>trivial,(fun h=>by simp [Fence.wide] at h),hR.mono ?_⟩
 rintro e w'' hh
 obtain ⟨v,rfl,hk⟩:=hK e w'' hh
 exact hk
end Go.Cs
namespace Go.Proofs.YtnknmmbnhoanfaaGreatDoor
open Go.RowKit Go.Shelf Go.Cs
attribute [local go_sem] Oper.semAt_some


def kc (i:Nat):Nat:=if i=0 then 117 else 105
def kb (i:Nat):Bare.Bs:=if i=0 then [117] else [105]
def heardG (d:List Bare.Mem) (i:Nat):Option (Array Value):=(Bare.heard d (kb i)).map fun b=>#[k1 .u8 (kc i),bv b]
def heardL (d:List Bare.Mem) (n:Nat):List (Array Value):=(List.range n).filterMap (heardG d)
theorem heardL_succ (d:List Bare.Mem) (n:Nat):heardL d (n + 1)=heardL d n ++ (heardG d n).toList:=by
 unfold heardL
 rw [List.range_succ,List.filterMap_append]
 cases h:heardG d n <;> simp [h]
theorem heardL_len (d:List Bare.Mem) {i j:Nat} (h:i ≤ j):(heardL d i).length ≤ (heardL d j).length:=by
 obtain ⟨k,rfl⟩:∃ k,j=i + k:=⟨j - i,by omega⟩
 clear h
 induction k with
 | zero=>exact Nat.le_refl _
 | succ k ih =>
  rw [show i + (k + 1)=(i + k) + 1 by omega,heardL_succ,List.length_append]
  omega
theorem heardL_get (d:List Bare.Mem) {i j:Nat} {x:Array Value} (h:i < j) (hx:heardG d i=some x):(heardL d j)[(heardL d i).length]? = some x:=by
 obtain ⟨k,rfl⟩:∃ k,j=(i + 1) + k:=⟨j - (i + 1),by omega⟩
 clear h
 induction k with
 | zero=>rw [Nat.add_zero,heardL_succ,hx];simp
 | succ k ih =>
  rw [show i + 1 + (k + 1)=(i + 1 + k) + 1 by omega,heardL_succ,List.getElem?_append_left (List.getElem?_eq_some_iff.1 ih).1]
  exact ih
theorem heard_any (v:Value) (hv:∃ a n c,v = .slice a n c) (w:World):Calls Tryz.prog 102 #[v] w fun e w'=>e = .returned (.func (.func 151) #[] #[.pointer (some ⟨w.heap.size,0,none⟩)])∧w.alloc (.cells #[v] 36)=w':=by
 obtain ⟨a,n,c,rfl⟩:=hv
 go_enter Tryz.func102,Tryz.ntmps102
 go_wp2
 go_ret
 exact ⟨rfl,rfl⟩
theorem run_conv1 (W:World) (C:Nat) (c:UInt8) (cap:Nat) (h:W.cell? ⟨C,0,none⟩=some (.int .u8 (c.toNat:Nat))) :
  (convert 62 9 (.slice (some ⟨C,0,none⟩) 1 cap)).run Tryz.prog W = .ok (.string (tx [c])) W :=
 Lib.run_convert_whole (P:=Tryz.prog) W 62 5 9 (by kernel_rfl) (by kernel_rfl) (by kernel_rfl) C 0 (tx [c]) (fun i hi=>by
  rw [tx_size] at hi
  have hi:i < 1:=hi
  obtain rfl:i=0:=by omega
  exact h) cap
theorem OwnM.new {base:Nat} {W W':World} {v:Value} {m:Bare.Mem} (h:OwnM base W v m) (hN:New W W'):OwnM base W' v m:=h.mods hN fun _ h=>h.elim
theorem sizeK1:(Tryz.prog.info? 122).map (·.size)=some 1:=by kernel_rfl
theorem lit44 (t:Array Value) (h:t.size=44):∃ u:Nat→Value,t=(u 0::u 1::u 2::u 3::u 4::u 5::u 6::u 7::u 8::u 9::u 10::u 11::u 12::u 13::u 14::u 15::u 16::u 17::u 18::u 19::u 20::u 21::u 22::u 23::u 24::u 25::u 26::u 27::u 28::u 29::u 30::u 31::u 32::u 33::u 34::u 35::u 36::u 37::u 38::u 39::u 40::u 41::u 42::u 43::([]:List Value)).toArray:=⟨fun i=>t.getD i undef,range_lit t 44 h⟩
noncomputable def reg_urgent_heard_1_3:Code:=((Tryz.f151.body.bind (regionOf 3)).getD .skip)
theorem heard3 (t:Array Value) (hs:t.size=44) (w:World) {B C:Nat} {c:UInt8} {b:Bool} {v:Value} {m:Bare.Mem} {x0 x2 x3 x7 x8 x9 x10 x11:Value}
  (hq1:t.getD 1 undef = .pointer (some ⟨B,0,none⟩))
  (hq4:t.getD 4 undef = .pointer (some ⟨C,0,none⟩))
  (hq0:t.getD 0 undef=x0)
  (hq2:t.getD 2 undef=x2)
  (hq3:t.getD 3 undef=x3)
  (hq7:t.getD 7 undef=x7)
  (hq8:t.getD 8 undef=x8)
  (hq9:t.getD 9 undef=x9)
  (hq10:t.getD 10 undef=x10)
  (hq11:t.getD 11 undef=x11)
  (hB:Boxed w B 36 v) (hc:w.cell? ⟨C,0,none⟩=some (.int .u8 (c.toNat:Nat)))
  (HF:Hid (∀ W,New w W→Calls Tryz.prog 25 #[v,.string (tx [c])] W fun e w'=>∃ v',e = .returned (.tuple #[v',.bool b])∧OwnM W.heap.size w' v' m∧New W w')) :
  reg_urgent_heard_1_3.wp Tryz.prog (Only fun a' W'=>∃ b5 iv pv,(a'.tmps.size=44∧a'.defers = []∧a'.tmps.getD 1 undef = .pointer (some ⟨B,0,none⟩)∧a'.tmps.getD 4 undef = .pointer (some ⟨C,0,none⟩)∧a'.tmps.getD 0 undef=x0∧a'.tmps.getD 2 undef=x2∧a'.tmps.getD 3 undef=x3∧a'.tmps.getD 7 undef=x7∧a'.tmps.getD 8 undef=x8∧a'.tmps.getD 9 undef=x9∧a'.tmps.getD 10 undef=x10∧a'.tmps.getD 11 undef=x11∧a'.tmps.getD 5 undef = .pointer (some ⟨b5,0,none⟩)∧a'.tmps.getD 6 undef = .bool b)∧W'.heap[b5]? = some (.cells (mcs m iv pv).toArray 44 (0,0))∧w.heap.size ≤ b5∧OwnM w.heap.size W' (.agg (mcs m iv pv).toArray) m∧New w W') ⟨t,[]⟩ w:=by
 conv=>arg 2;whnf
 obtain ⟨u,rfl⟩:=lit44 t hs
 have hq1:u 1 = _:=hq1
 have hq4:u 4 = _:=hq4
 have hq0:u 0 = _:=hq0
 have hq2:u 2 = _:=hq2
 have hq3:u 3 = _:=hq3
 have hq7:u 7 = _:=hq7
 have hq8:u 8 = _:=hq8
 have hq9:u 9 = _:=hq9
 have hq10:u 10 = _:=hq10
 have hq11:u 11 = _:=hq11
 rw [hq1,hq4,hq0,hq2,hq3,hq7,hq8,hq9,hq10,hq11]
 clear hq1 hq4 hq0 hq2 hq3 hq7 hq8 hq9 hq10 hq11 hs
 have hN:New w w.drew:=(Mods.refl _ _).drew
 have hS:New w w.drew:=hN
 refine wp_region_held (S:=fun W=>New w W) (by kernel_rfl) ?_
 show wpAnyH _ _ _ _ _ 10 _ _ w.drew
 refine tkA 0 rfl (some 16) (v) (.inl ⟨by rfl,fun W hW=>by have q:=((show New w W from hW).boxed hB id).cell;go_simp⟩) hS ?_
 simp only [pS]
 refine tkI 1 (some 17) (.slice (some ⟨C,0,none⟩) 1 1) hS ?_
 simp only [pS]
 refine tkA 2 rfl (some 18) (.string (tx [c])) (.inl ⟨by rfl,fun W hW=>by have q:=(show New w W from hW).cell hc id;have q2:=run_conv1 W C c 1 q;go_simp⟩) hS ?_
 simp only [pS]
 refine wpAnyH_all (rs:=[3,7]) (by kernel_rfl) (by simp) ?_
 intro i hi
 simp only [List.mem_cons,List.not_mem_nil,or_false] at hi
 rcases hi with rfl | rfl
 ·refine opH_call (some 19) rfl (by rfl) rfl 25 #[v,.string (tx [c])] (by go_simp) ((HF.out _ hN).mono ?_)
  rintro e w2 ⟨v',rfl,hov,hk⟩
  obtain ⟨ja,qa,jc,qc,ip',rfl,hov1,hov2,hov3⟩:=hov
  have hone:=mcs_one (tx m.key) m.inner ja qa m.items.length jc m.params.length qc
  have hN:=hN.trans hk
  have hS:New w w2:=hN
  refine ⟨_,rfl,hS,?_⟩
  simp only [pS]
  refine tkI 4 (some 15) (.tuple #[.agg (mcs m (.slice ja m.items.length jc) (.slice qa m.params.length qc)).toArray,.bool b]) hS ?_
  simp only [pS]
  refine tkI 5 (some 20) (.agg (mcs m (.slice ja m.items.length jc) (.slice qa m.params.length qc)).toArray) hS ?_
  simp only [pS]
  refine tkI 6 (some 21) (.bool b) hS ?_
  simp only [pS]
  refine tkO 7 ?_
  have hs2:w.heap.size ≤ w2.heap.size:=hN.size
  refine opH_value (some 5) (v:=.pointer (some ⟨w2.heap.size,0,none⟩)) (w':=w2.alloc (.cells #[.string ⟨#[]⟩,.bool false,.slice none 0 0,.slice none 0 0] 44)) rfl (by rfl) rfl (by go_simp) ?_
  have r5:=World.alloc_heap_new w2 (.cells #[.string ⟨#[]⟩,.bool false,.slice none 0 0,.slice none 0 0] 44)
  have hA:New w2 (w2.alloc (.cells #[.string ⟨#[]⟩,.bool false,.slice none 0 0,.slice none 0 0] 44)):=(Mods.refl _ _).alloc _
  obtain ⟨w3,hw3⟩:∃ W,w2.alloc (.cells #[.string ⟨#[]⟩,.bool false,.slice none 0 0,.slice none 0 0] 44)=W:=⟨_,rfl⟩
  rw [hw3] at r5 hA ⊢
  obtain ⟨b5,hb5⟩:∃ b,w2.heap.size=b:=⟨_,rfl⟩
  have hbz:w.heap.size ≤ b5:=by rw [← hb5];exact hs2
  have hb2:w2.heap.size ≤ b5:=by omega
  rw [hb5] at r5 ⊢
  clear hw3 hb5
  have hN:=hN.trans hA
  have hS:New w w3:=hN
  refine ⟨hS,?_⟩
  simp only [pS]
  refine tkO 8 ?_
  refine opH_skip none (w':=w3.setRow b5 (mcs m (.slice ja m.items.length jc) (.slice qa m.params.length qc)).toArray) rfl (by rfl) rfl (run_store_row 44 (.tmp 5) (.tmp 20) rfl b5 rfl 44 [.string ⟨#[]⟩,.bool false,.slice none 0 0,.slice none 0 0] (mcs m (.slice ja m.items.length jc) (.slice qa m.params.length qc)) rfl r5 sizeM rfl hone) ?_
  have r5':=setRow_heap w3 b5 _ (mcs m (.slice ja m.items.length jc) (.slice qa m.params.length qc)).toArray _ _ r5
  have hmR:=mods_setRow r5 (mcs m (.slice ja m.items.length jc) (.slice qa m.params.length qc)).toArray
  have hS:=hS.setRow hbz (mcs m (.slice ja m.items.length jc) (.slice qa m.params.length qc)).toArray
  refine ⟨hS,?_⟩
  simp only [pS]
  refine tkI 9 (some 6) (.bool b) hS ?_
  simp only [pS]
  refine wpAnyH_done (by kernel_rfl) ?_ _
  have hov:=OwnM.new (⟨ja,qa,jc,qc,ip',rfl,hov1,hov2,hov3⟩:OwnM w.drew.heap.size w2 (.agg (mcs m (.slice ja m.items.length jc) (.slice qa m.params.length qc)).toArray) m) (((Mods.ofNew hA).trans hmR).new (by intro g hg;omega))
  exact ⟨b5,.slice ja m.items.length jc,.slice qa m.params.length qc,⟨rfl,rfl,rfl,rfl,rfl,rfl,rfl,rfl,rfl,rfl,rfl,rfl,rfl,rfl⟩,r5',hbz,hov,hS⟩
 ·refine opH_value (some 5) (v:=.pointer (some ⟨w.drew.heap.size,0,none⟩)) (w':=w.drew.alloc (.cells #[.string ⟨#[]⟩,.bool false,.slice none 0 0,.slice none 0 0] 44)) rfl (by rfl) rfl (by go_simp) ?_
  have r5:=World.alloc_heap_new w.drew (.cells #[.string ⟨#[]⟩,.bool false,.slice none 0 0,.slice none 0 0] 44)
  have hA:New w.drew (w.drew.alloc (.cells #[.string ⟨#[]⟩,.bool false,.slice none 0 0,.slice none 0 0] 44)):=(Mods.refl _ _).alloc _
  have hbz:=hN.size
  obtain ⟨w2,hw2⟩:∃ W,w.drew.alloc (.cells #[.string ⟨#[]⟩,.bool false,.slice none 0 0,.slice none 0 0] 44)=W:=⟨_,rfl⟩
  rw [hw2] at r5 hA ⊢
  obtain ⟨b5,hb5⟩:∃ b,w.drew.heap.size=b:=⟨_,rfl⟩
  rw [hb5] at r5 hbz ⊢
  clear hw2 hb5
  have hN:=hN.trans hA
  have hS:New w w2:=hN
  refine ⟨hS,?_⟩
  simp only [pS]
  have hlt:b5 < w2.heap.size:=(Array.getElem?_eq_some_iff.1 r5).1
  have hs2:w.heap.size ≤ w2.heap.size:=hN.size
  refine tkO 3 ?_
  refine opH_call (some 19) rfl (by rfl) rfl 25 #[v,.string (tx [c])] (by go_simp) ((HF.out _ hN).mono ?_)
  rintro e w3 ⟨v',rfl,hov,hk⟩
  obtain ⟨ja,qa,jc,qc,ip',rfl,hov1,hov2,hov3⟩:=hov
  have hone:=mcs_one (tx m.key) m.inner ja qa m.items.length jc m.params.length qc
  have hN:=hN.trans hk
  have hS:New w w3:=hN
  have r5:=hk.heap r5 id
  refine ⟨_,rfl,hS,?_⟩
  simp only [pS]
  refine tkI 4 (some 15) (.tuple #[.agg (mcs m (.slice ja m.items.length jc) (.slice qa m.params.length qc)).toArray,.bool b]) hS ?_
  simp only [pS]
  refine tkI 5 (some 20) (.agg (mcs m (.slice ja m.items.length jc) (.slice qa m.params.length qc)).toArray) hS ?_
  simp only [pS]
  refine tkI 6 (some 21) (.bool b) hS ?_
  simp only [pS]
  refine tkO 8 ?_
  refine opH_skip none (w':=w3.setRow b5 (mcs m (.slice ja m.items.length jc) (.slice qa m.params.length qc)).toArray) rfl (by rfl) rfl (run_store_row 44 (.tmp 5) (.tmp 20) rfl b5 rfl 44 [.string ⟨#[]⟩,.bool false,.slice none 0 0,.slice none 0 0] (mcs m (.slice ja m.items.length jc) (.slice qa m.params.length qc)) rfl r5 sizeM rfl hone) ?_
  have r5':=setRow_heap w3 b5 _ (mcs m (.slice ja m.items.length jc) (.slice qa m.params.length qc)).toArray _ _ r5
  have hmR:=mods_setRow r5 (mcs m (.slice ja m.items.length jc) (.slice qa m.params.length qc)).toArray
  have hS:=hS.setRow hbz (mcs m (.slice ja m.items.length jc) (.slice qa m.params.length qc)).toArray
  refine ⟨hS,?_⟩
  simp only [pS]
  refine tkI 9 (some 6) (.bool b) hS ?_
  simp only [pS]
  refine wpAnyH_done (by kernel_rfl) ?_ _
  have hov:=OwnM.mono (OwnM.mods (⟨ja,qa,jc,qc,ip',rfl,hov1,hov2,hov3⟩:OwnM w2.heap.size w3 (.agg (mcs m (.slice ja m.items.length jc) (.slice qa m.params.length qc)).toArray) m) hmR (by intro g hg;omega)) hs2
  exact ⟨b5,.slice ja m.items.length jc,.slice qa m.params.length qc,⟨rfl,rfl,rfl,rfl,rfl,rfl,rfl,rfl,rfl,rfl,rfl,rfl,rfl,rfl⟩,r5',hbz,hov,hS⟩
noncomputable def reg_urgent_heard_1_5:Code:=((Tryz.f151.body.bind (regionOf 5)).getD .skip)
theorem heard5 (t:Array Value) (hs:t.size=44) (w:World) {l C b5 g jc:Nat} {c:UInt8} {k n:Int} {s:ByteArray} {y:Bool} {R:Ending→World→Prop} {x1 x2 x3 x7 x8 x9 x10 x11:Value}
  (hq0:t.getD 0 undef = .func (.yield l) #[] #[])
  (hq4:t.getD 4 undef = .pointer (some ⟨C,0,none⟩))
  (hq5:t.getD 5 undef = .pointer (some ⟨b5,0,none⟩))
  (hq1:t.getD 1 undef=x1)
  (hq2:t.getD 2 undef=x2)
  (hq3:t.getD 3 undef=x3)
  (hq7:t.getD 7 undef=x7)
  (hq8:t.getD 8 undef=x8)
  (hq9:t.getD 9 undef=x9)
  (hq10:t.getD 10 undef=x10)
  (hq11:t.getD 11 undef=x11)
  (hc:w.cell? ⟨C,0,none⟩=some (.int .u8 (c.toNat:Nat))) (h2:w.cell? ⟨b5,2,none⟩=some (.slice (some ⟨g,0,none⟩) 1 jc))
  (g0:w.cell? ⟨g,0,none⟩=some (.int .u8 k)) (g1:w.cell? ⟨g,1,none⟩=some (.int .i64 n)) (g2:w.cell? ⟨g,2,none⟩=some (.string s)) (g3:w.cell? ⟨g,3,none⟩=some (.bool y))
  (hY:Hid (YieldAt Fence.wide 0 Tryz.prog l #[.agg #[.int .u8 (c.toNat:Nat)],.agg #[.int .u8 k,.int .i64 n,.string s,.bool y]] w.drew R)) (hz:∀ e w',R e w'→∃ z,e = .returned (.bool z)) :
  reg_urgent_heard_1_5.wp Tryz.prog (Only fun a' W'=>∃ z,(a'.tmps.size=44∧a'.defers = []∧a'.tmps.getD 0 undef = .func (.yield l) #[] #[]∧a'.tmps.getD 1 undef=x1∧a'.tmps.getD 2 undef=x2∧a'.tmps.getD 3 undef=x3∧a'.tmps.getD 7 undef=x7∧a'.tmps.getD 8 undef=x8∧a'.tmps.getD 9 undef=x9∧a'.tmps.getD 10 undef=x10∧a'.tmps.getD 11 undef=x11∧a'.tmps.getD 42 undef = .bool (!z))∧R (.returned (.bool z)) W') ⟨t,[]⟩ w:=by
 conv=>arg 2;whnf
 obtain ⟨u,rfl⟩:=lit44 t hs
 have hq0:u 0 = _:=hq0
 have hq4:u 4 = _:=hq4
 have hq5:u 5 = _:=hq5
 have hq1:u 1 = _:=hq1
 have hq2:u 2 = _:=hq2
 have hq3:u 3 = _:=hq3
 have hq7:u 7 = _:=hq7
 have hq8:u 8 = _:=hq8
 have hq9:u 9 = _:=hq9
 have hq10:u 10 = _:=hq10
 have hq11:u 11 = _:=hq11
 rw [hq0,hq4,hq5,hq1,hq2,hq3,hq7,hq8,hq9,hq10,hq11]
 clear hq0 hq4 hq5 hq1 hq2 hq3 hq7 hq8 hq9 hq10 hq11 hs
 refine (wpIn_wide (n:=0)).1 ?_
 refine wpIn_region_any (by kernel_rfl) ?_
 show wpAnyIn _ _ _ _ _ _ 9 _ _ w.drew
 have c1:w.drew.cell? ⟨C,0,none⟩ = _:=hc
 have c2:w.drew.cell? ⟨b5,2,none⟩ = _:=h2
 have d0:w.drew.cell? ⟨g,0,none⟩ = _:=g0
 have d1:w.drew.cell? ⟨g,1,none⟩ = _:=g1
 have d2:w.drew.cell? ⟨g,2,none⟩ = _:=g2
 have d3:w.drew.cell? ⟨g,3,none⟩ = _:=g3
 refine any_take 0 (some 34) (.func (.yield l) #[] #[]) rfl rfl (by kernel_rfl) (by kernel_rfl) (by kernel_rfl) (fun _ _ _ h=>h.elim) (.value rfl fun w=>by go_simp) ?_
 simp only [pS]
 refine any_take 2 (some 36) (.pointer (some ⟨b5,2,none⟩)) rfl rfl (by kernel_rfl) (by kernel_rfl) (by kernel_rfl) (fun _ _ _ h=>h.elim) (.value rfl fun w=>by go_simp) ?_
 simp only [pS]
 refine wpAnyIn_all (rs:=[1,3]) (by kernel_rfl) (by simp) ?_
 intro i hi
 simp only [List.mem_cons,List.not_mem_nil,or_false] at hi
 rcases hi with rfl | rfl
 ·refine opIn_value (some 35) (v:=.agg #[.int .u8 (c.toNat:Nat)]) (w':=w.drew) rfl rfl rfl rfl (by go_simp) ?_
  simp only [pS]
  refine wpAnyIn_all (rs:=[3]) (by kernel_rfl) (by simp) ?_
  simp only [List.mem_cons,List.not_mem_nil,or_false,forall_eq]
  refine opIn_value (some 37) (v:=.slice (some ⟨g,0,none⟩) 1 jc) (w':=w.drew) rfl rfl rfl rfl (by go_simp) ?_
  simp only [pS]
  refine any_take 4 (some 38) (.pointer (some ⟨g,0,none⟩)) rfl rfl (by kernel_rfl) (by kernel_rfl) (by kernel_rfl) (fun _ _ _ h=>h.elim) (.value rfl fun w=>by go_simp) ?_
  simp only [pS]
  refine any_take 5 (some 39) (.pointer (some ⟨g,0,none⟩)) rfl rfl (by kernel_rfl) (by kernel_rfl) (by kernel_rfl) (fun _ _ _ h=>h.elim) (.value rfl fun w=>by go_simp) ?_
  simp only [pS]
  refine wpAnyIn_all (rs:=[6]) (by kernel_rfl) (by simp) ?_
  simp only [List.mem_cons,List.not_mem_nil,or_false,forall_eq]
  refine opIn_value (some 40) (v:=.agg #[.int .u8 k,.int .i64 n,.string s,.bool y]) (w':=w.drew) rfl rfl rfl rfl (by go_simp) ?_
  simp only [pS]
  refine wpAnyIn_all (rs:=[7]) (by kernel_rfl) (by simp) ?_
  simp only [List.mem_cons,List.not_mem_nil,or_false,forall_eq]
  obtain ⟨fn,tt,asg,bd,hy,hR⟩:=hY.out
  refine opIn_yield (some 41) rfl rfl rfl rfl (by go_simp) hR ?_
  rintro e w2 hh
  obtain ⟨z,rfl⟩:=hz e w2 hh
  refine ⟨_,rfl,?_⟩
  simp only [pS]
  refine wpAnyIn_all (rs:=[8]) (by kernel_rfl) (by simp) ?_
  simp only [List.mem_cons,List.not_mem_nil,or_false,forall_eq]
  refine opIn_value (some 42) (v:=.bool (!z)) (w':=w2) rfl rfl rfl rfl (by go_simp) ?_
  simp only [pS]
  refine wpAnyIn_done (by kernel_rfl) ?_ _
  exact ⟨z,⟨rfl,rfl,rfl,rfl,rfl,rfl,rfl,rfl,rfl,rfl,rfl,rfl⟩,hh⟩
 ·refine opIn_value (some 37) (v:=.slice (some ⟨g,0,none⟩) 1 jc) (w':=w.drew) rfl rfl rfl rfl (by go_simp) ?_
  simp only [pS]
  refine any_take 4 (some 38) (.pointer (some ⟨g,0,none⟩)) rfl rfl (by kernel_rfl) (by kernel_rfl) (by kernel_rfl) (fun _ _ _ h=>h.elim) (.value rfl fun w=>by go_simp) ?_
  simp only [pS]
  refine any_take 5 (some 39) (.pointer (some ⟨g,0,none⟩)) rfl rfl (by kernel_rfl) (by kernel_rfl) (by kernel_rfl) (fun _ _ _ h=>h.elim) (.value rfl fun w=>by go_simp) ?_
  simp only [pS]
  refine wpAnyIn_all (rs:=[1,6]) (by kernel_rfl) (by simp) ?_
  intro i hi
  simp only [List.mem_cons,List.not_mem_nil,or_false] at hi
  rcases hi with rfl | rfl
  ·refine opIn_value (some 35) (v:=.agg #[.int .u8 (c.toNat:Nat)]) (w':=w.drew) rfl rfl rfl rfl (by go_simp) ?_
   simp only [pS]
   refine wpAnyIn_all (rs:=[6]) (by kernel_rfl) (by simp) ?_
   simp only [List.mem_cons,List.not_mem_nil,or_false,forall_eq]
   refine opIn_value (some 40) (v:=.agg #[.int .u8 k,.int .i64 n,.string s,.bool y]) (w':=w.drew) rfl rfl rfl rfl (by go_simp) ?_
   simp only [pS]
   refine wpAnyIn_all (rs:=[7]) (by kernel_rfl) (by simp) ?_
   simp only [List.mem_cons,List.not_mem_nil,or_false,forall_eq]
   obtain ⟨fn,tt,asg,bd,hy,hR⟩:=hY.out
   refine opIn_yield (some 41) rfl rfl rfl rfl (by go_simp) hR ?_
   rintro e w2 hh
   obtain ⟨z,rfl⟩:=hz e w2 hh
   refine ⟨_,rfl,?_⟩
   simp only [pS]
   refine wpAnyIn_all (rs:=[8]) (by kernel_rfl) (by simp) ?_
   simp only [List.mem_cons,List.not_mem_nil,or_false,forall_eq]
   refine opIn_value (some 42) (v:=.bool (!z)) (w':=w2) rfl rfl rfl rfl (by go_simp) ?_
   simp only [pS]
   refine wpAnyIn_done (by kernel_rfl) ?_ _
   exact ⟨z,⟨rfl,rfl,rfl,rfl,rfl,rfl,rfl,rfl,rfl,rfl,rfl,rfl⟩,hh⟩
  ·refine opIn_value (some 40) (v:=.agg #[.int .u8 k,.int .i64 n,.string s,.bool y]) (w':=w.drew) rfl rfl rfl rfl (by go_simp) ?_
   simp only [pS]
   refine wpAnyIn_all (rs:=[1]) (by kernel_rfl) (by simp) ?_
   simp only [List.mem_cons,List.not_mem_nil,or_false,forall_eq]
   refine opIn_value (some 35) (v:=.agg #[.int .u8 (c.toNat:Nat)]) (w':=w.drew) rfl rfl rfl rfl (by go_simp) ?_
   simp only [pS]
   refine wpAnyIn_all (rs:=[7]) (by kernel_rfl) (by simp) ?_
   simp only [List.mem_cons,List.not_mem_nil,or_false,forall_eq]
   obtain ⟨fn,tt,asg,bd,hy,hR⟩:=hY.out
   refine opIn_yield (some 41) rfl rfl rfl rfl (by go_simp) hR ?_
   rintro e w2 hh
   obtain ⟨z,rfl⟩:=hz e w2 hh
   refine ⟨_,rfl,?_⟩
   simp only [pS]
   refine wpAnyIn_all (rs:=[8]) (by kernel_rfl) (by simp) ?_
   simp only [List.mem_cons,List.not_mem_nil,or_false,forall_eq]
   refine opIn_value (some 42) (v:=.bool (!z)) (w':=w2) rfl rfl rfl rfl (by go_simp) ?_
   simp only [pS]
   refine wpAnyIn_done (by kernel_rfl) ?_ _
   exact ⟨z,⟨rfl,rfl,rfl,rfl,rfl,rfl,rfl,rfl,rfl,rfl,rfl,rfl⟩,hh⟩
theorem heardG_none {d:List Bare.Mem} {i:Nat} (h:findM d (kb i)=none):heardG d i=none:=by
 unfold findM at h
 unfold heardG Bare.heard
 rw [h];rfl
theorem heardG_no {d:List Bare.Mem} {i:Nat} {m:Bare.Mem} (h:findM d (kb i)=some m) (hm:¬ (m.inner=false∧m.items.length=1)):heardG d i=none:=by
 unfold findM at h
 unfold heardG Bare.heard
 rw [h]
 simp only
 rw [if_neg hm];rfl
theorem heardG_yes {d:List Bare.Mem} {i:Nat} {m:Bare.Mem} (h:findM d (kb i)=some m) (hm:m.inner=false∧m.items.length=1):heardG d i=some #[k1 .u8 (kc i),bv (m.items.getD 0 Bare.noI).bare]:=by
 unfold findM at h
 unfold heardG Bare.heard
 rw [h]
 simp only
 rw [if_pos hm]
 cases m.items <;> rfl
theorem heard_iter {τ:Bool} (B:Nat) (v:Value) (d:List Bare.Mem) (w:World) (hd:RdD τ w v d) (hf:∀ m ∈ d,Fits m) (S:Nat→Prop) (W:World) (hN:New w W) (hB:Boxed W B 36 v) (hSB:¬ S B) (hS:∀ b,S b→w.heap.size ≤ b∧b < W.heap.size) :
  IterAt Tryz.prog 151 #[.pointer (some ⟨B,0,none⟩)] (heardL d 2) S W:=by
 intro l J Jx hJ hJx hY h0
 refine (callsIn_wide (n:=0)).1 (callsIn_of_wp Tryz.func151 rfl trivial ?_ rfl)
 simp only [Tryz.ntmps151,List.size_toArray,List.length_cons,List.length_nil,Nat.reduceAdd,Nat.reduceSub,Array.replicate_succ,Array.replicate_zero,List.push_toArray,List.append_toArray,List.nil_append,List.cons_append]
 refine wpIn_wide.2 ?_
 have HF:=Lib.hid (fun (c:UInt8) (W:World) (hW:New w W)=>find_any v (tx [c]) d W (hd.new hW) hf)
 have HB:=Lib.hid hB
 have hA:New W (W.alloc (.cells #[.int .u8 117,.int .u8 105] 122)):=(Mods.refl _ _).alloc _
 have rA:=World.alloc_heap_new W (.cells #[.int .u8 117,.int .u8 105] 122)
 have hJ0:=hJ _ _ _ h0 hA
 clear hd hf hB h0
 have HY:=Lib.hid hY
 have HJ:=Lib.hid hJ
 have HN:=Lib.hid hN
 have HS:=Lib.hid hS
 clear hY hJ hN hS
 go_wp2_with fail
 obtain ⟨W1,hW1⟩:∃ W1,W.alloc (.cells #[.int .u8 117,.int .u8 105] 122)=W1:=⟨_,rfl⟩
 obtain ⟨A,hA'⟩:∃ b,W.heap.size=b:=⟨_,rfl⟩
 rw [hW1] at hA rA hJ0 ⊢
 rw [hA'] at rA ⊢
 have HA:=Lib.hid hA
 have HA':=Lib.hid hA'
 clear hW1 hA hA'
 go_loopw [11] (fun t wr=>∃ i:Nat,i ≤ 2∧t = .int .i64 i∧J (heardL d i).length wr∧Mods S W1 wr) (fun t _=>2 - (intOf t).toNat)
 case atStart=>exact ⟨0,Nat.zero_le _,rfl,hJ0,.refl _ _⟩
 case round =>
  clear hJ0
  obtain ⟨i,hi,rfl,hJi,hm⟩:=hrel
  replace hm:=Lib.hid hm
  replace hJi:=Lib.hid hJi
  have rAr:=hm.out.heap rA (fun h=>by have:=(HS.out _ h).2;have:=HA'.out;omega)
  by_cases hlt:i < 2
  ·have hkd:decide ((i:Int) < 2)=true:=decide_eq_true (by omega)
   have hk:wr.cell? ⟨A,i,none⟩=some (.int .u8 (kc i:Nat)):=by
    obtain rfl | rfl:i=0 ∨ i=1:=by omega
    ·exact cell_of_row _ _ 0 _ _ _ rAr
    ·exact cell_of_row _ _ 1 _ _ _ rAr
   clear rAr
   have hkr:wr.rangeAt A i [.int .u8 (kc i:Nat)]:=by
    intro j v hj
    match j with
    | 0=>cases hj;exact hk
    | j + 1=>cases hj
   go_upto_region 3 with (first | (refine op_value rfl (run_load_mid 122 (.tmp 13) rfl A i rfl [.int .u8 (kc i:Nat)] _ hkr Tryz.underlying122 rfl sizeK1) ?_))
   obtain ⟨V,hV⟩:∃ V,wr.alloc (.cells #[.int .u8 (kc i:Nat)] 122)=V:=⟨_,rfl⟩
   obtain ⟨C,hC⟩:∃ b,wr.heap.size=b:=⟨_,rfl⟩
   have hNV:New wr V:=by rw [← hV];exact (Mods.refl _ _).alloc _
   have rC:V.heap[C]? = some (.cells #[.int .u8 (kc i:Nat)] 122 (0,0)):=by rw [← hV,← hC];exact World.alloc_heap_new wr _
   rw [hV,hC]
   have hcC:V.cell? ⟨C,0,none⟩=some (.int .u8 (kc i:Nat)):=cell_of_row _ _ 0 _ _ _ rC
   obtain ⟨c,hc⟩:∃ c:UInt8,(c.toNat:Nat)=kc i∧[c]=kb i:=by
    obtain rfl | rfl:i=0 ∨ i=1:=by omega
    ·exact ⟨117,rfl,rfl⟩
    ·exact ⟨105,rfl,rfl⟩
   have HC:=Lib.hid hc
   rw [← HC.out.1] at hcC
   clear hC hV hk hkr hc
   replace hNV:=Lib.hid hNV
   have hWV:New w V:=((Mods.ofNew (HN.out.trans HA.out)).trans hm.out).trans (Mods.ofNew hNV.out) |>.new (fun b hb=>(HS.out b hb).1)
   have hBV:=hNV.out.boxed (hm.out.boxed (HA.out.boxed HB.out id) hSB) id
   replace hWV:=Lib.hid hWV
   refine wp_scope_fwd 0 (fun a Wx=>(a.tmps.size=44∧a.defers = []∧a.tmps.getD 0 undef = .func (.yield l) #[] #[]∧a.tmps.getD 1 undef = .pointer (some ⟨B,0,none⟩)∧a.tmps.getD 2 undef=undef∧a.tmps.getD 3 undef=undef∧a.tmps.getD 7 undef = .agg #[.int .u8 117]∧a.tmps.getD 8 undef = .agg #[.int .u8 105]∧a.tmps.getD 9 undef = .slice (some ⟨A,0,none⟩) 2 2∧a.tmps.getD 10 undef = .int .i64 2∧a.tmps.getD 11 undef = .int .i64 i)∧J (heardL d (i + 1)).length Wx∧Mods S W1 Wx) rfl ?first ?pass
   case pass =>
    rintro ⟨z,dfs⟩ W5 ⟨⟨hs,hd,hq0,hq1,hq2,hq3,hq7,hq8,hq9,hq10,hq11⟩,hJ5,hm5⟩
    simp only at hs hd hq0 hq1 hq2 hq3 hq7 hq8 hq9 hq10 hq11
    subst hd
    obtain ⟨u,rfl⟩:=lit44 z hs
    have hp0:u 0 = .func (.yield l) #[] #[]:=hq0
    have hp1:u 1 = .pointer (some ⟨B,0,none⟩):=hq1
    have hp2:u 2=undef:=hq2
    have hp3:u 3=undef:=hq3
    have hp7:u 7 = .agg #[.int .u8 117]:=hq7
    have hp8:u 8 = .agg #[.int .u8 105]:=hq8
    have hp9:u 9 = .slice (some ⟨A,0,none⟩) 2 2:=hq9
    have hp10:u 10 = .int .i64 2:=hq10
    have hp11:u 11 = .int .i64 i:=hq11
    rw [hp0,hp1,hp2,hp3,hp7,hp8,hp9,hp10,hp11]
    clear hp0 hq0 hp1 hq1 hp2 hq2 hp3 hq3 hp7 hq7 hp8 hq8 hp9 hq9 hp10 hq10 hp11 hq11 hs
    go_wp2_with fail
    simp only [Exit.noGoto,Exit.inBlock,Exit.then]
    go_wp2_with fail
    go_roundw
    case rel=>exact ⟨i + 1,by omega,by go_num,hJ5,hm5⟩
    case measure=>simp [intOf];omega
   case first =>
    cases hfm:findM d [c] with
    | none =>
     have HFc:=Lib.hid (fun Wz (hz:New V Wz)=>by have:=HF.out c Wz (hWV.out.trans hz);rw [bl_tx,hfm] at this;exact this)
     go_upto_region 3 with fail
     refine piece (fun _=>_) (heard3 _ rfl V rfl rfl rfl rfl rfl rfl rfl rfl rfl rfl hBV hcC HFc) ?_
     rintro ⟨z,dfs⟩ W3 ⟨b5,iv,pv,⟨hs,hd,hq1,hq4,hq0,hq2,hq3,hq7,hq8,hq9,hq10,hq11,hq5,hq6⟩,r5,hb5,hov,hN3⟩
     simp only at hs hd hq1 hq4 hq0 hq2 hq3 hq7 hq8 hq9 hq10 hq11 hq5 hq6
     subst hd
     obtain ⟨u,rfl⟩:=lit44 z hs
     have hp1:u 1 = .pointer (some ⟨B,0,none⟩):=hq1
     have hp4:u 4 = .pointer (some ⟨C,0,none⟩):=hq4
     have hp0:u 0 = .func (.yield l) #[] #[]:=hq0
     have hp2:u 2=undef:=hq2
     have hp3:u 3=undef:=hq3
     have hp7:u 7 = .agg #[.int .u8 117]:=hq7
     have hp8:u 8 = .agg #[.int .u8 105]:=hq8
     have hp9:u 9 = .slice (some ⟨A,0,none⟩) 2 2:=hq9
     have hp10:u 10 = .int .i64 2:=hq10
     have hp11:u 11 = .int .i64 i:=hq11
     have hp5:u 5 = .pointer (some ⟨b5,0,none⟩):=hq5
     have hp6:u 6 = .bool false:=hq6
     rw [hp1,hp4,hp0,hp2,hp3,hp7,hp8,hp9,hp10,hp11,hp5,hp6]
     clear hp1 hq1 hp4 hq4 hp0 hq0 hp2 hq2 hp3 hq3 hp7 hq7 hp8 hq8 hp9 hq9 hp10 hq10 hp11 hq11 hp5 hq5 hp6 hq6 hs
     have hG:=heardG_none (d:=d) (i:=i) (by rw [← HC.out.2];exact hfm)
     have hlen:(heardL d (i + 1)).length=(heardL d i).length:=by rw [heardL_succ,hG];simp
     have hJ3:=HJ.out _ _ _ (HJ.out _ _ _ hJi.out hNV.out) hN3
     rw [← hlen] at hJ3
     have hm3:=(hm.out.trans (Mods.ofNew hNV.out)).trans (Mods.ofNew hN3)
     clear r5 hov hG hlen hN3
     go_wp2_with fail
     exact wp_goto (And.intro rfl ⟨⟨rfl,rfl,rfl,rfl,rfl,rfl,rfl,rfl,rfl,rfl,rfl⟩,hJ3,hm3⟩)
    | some m =>
     have HFc:=Lib.hid (fun Wz (hz:New V Wz)=>by have:=HF.out c Wz (hWV.out.trans hz);rw [bl_tx,hfm] at this;exact this)
     go_upto_region 3 with fail
     refine piece (fun _=>_) (heard3 _ rfl V rfl rfl rfl rfl rfl rfl rfl rfl rfl rfl hBV hcC HFc) ?_
     rintro ⟨z,dfs⟩ W3 ⟨b5,iv,pv,⟨hs,hd,hq1,hq4,hq0,hq2,hq3,hq7,hq8,hq9,hq10,hq11,hq5,hq6⟩,r5,hb5,hov,hN3⟩
     simp only at hs hd hq1 hq4 hq0 hq2 hq3 hq7 hq8 hq9 hq10 hq11 hq5 hq6
     subst hd
     obtain ⟨u,rfl⟩:=lit44 z hs
     have hp1:u 1 = .pointer (some ⟨B,0,none⟩):=hq1
     have hp4:u 4 = .pointer (some ⟨C,0,none⟩):=hq4
     have hp0:u 0 = .func (.yield l) #[] #[]:=hq0
     have hp2:u 2=undef:=hq2
     have hp3:u 3=undef:=hq3
     have hp7:u 7 = .agg #[.int .u8 117]:=hq7
     have hp8:u 8 = .agg #[.int .u8 105]:=hq8
     have hp9:u 9 = .slice (some ⟨A,0,none⟩) 2 2:=hq9
     have hp10:u 10 = .int .i64 2:=hq10
     have hp11:u 11 = .int .i64 i:=hq11
     have hp5:u 5 = .pointer (some ⟨b5,0,none⟩):=hq5
     have hp6:u 6 = .bool true:=hq6
     rw [hp1,hp4,hp0,hp2,hp3,hp7,hp8,hp9,hp10,hp11,hp5,hp6]
     clear hp1 hq1 hp4 hq4 hp0 hq0 hp2 hq2 hp3 hq3 hp7 hq7 hp8 hq8 hp9 hq9 hp10 hq10 hp11 hq11 hp5 hq5 hp6 hq6 hs
     have hJ3:=HJ.out _ _ _ (HJ.out _ _ _ hJi.out hNV.out) hN3
     have hm3:=(hm.out.trans (Mods.ofNew hNV.out)).trans (Mods.ofNew hN3)
     obtain ⟨ja,qa,jc,qc,ip',heq,ho1,ho2,-⟩:=hov
     obtain ⟨rfl,rfl⟩:iv = .slice ja m.items.length jc∧pv = .slice qa m.params.length qc:=by
      have:=Value.agg.inj heq
      simp [mcs] at this
      exact this
     have rC3:=hN3.cell hcC id
     clear heq
     have k1:=cell_of_row _ _ 1 _ _ _ r5
     have k2:=cell_of_row _ _ 2 _ _ _ r5
     simp only [Option.getD_some,mcs,List.getElem?_toArray,List.getElem?_cons_succ,List.getElem?_cons_zero] at k1 k2
     simp only [Option.getD_some] at ho1 ho2
     clear r5
     by_cases hin:m.inner=true
     ·rw [hin] at k1
      have hG:=heardG_no (d:=d) (i:=i) (m:=m) (by rw [← HC.out.2];exact hfm) (by rw [hin];simp)
      have hlen:(heardL d (i + 1)).length=(heardL d i).length:=by rw [heardL_succ,hG];simp
      rw [← hlen] at hJ3
      clear ho1 ho2 hG hlen hN3 hin
      go_wp2_with fail
      exact wp_goto (And.intro rfl ⟨⟨rfl,rfl,rfl,rfl,rfl,rfl,rfl,rfl,rfl,rfl,rfl⟩,hJ3,hm3⟩)
     ·have hin:m.inner=false:=by simpa using hin
      rw [hin] at k1
      by_cases hl1:m.items.length=1
      ·have hG:=heardG_yes (d:=d) (i:=i) (m:=m) (by rw [← HC.out.2];exact hfm) ⟨hin,hl1⟩
       rw [hl1] at k2 ho1 ho2
       obtain ⟨b,o,e,hrow⟩:=(ho1.row (by omega)).at.2.2 0 (by omega)
       subst e
       obtain ⟨g,hgg⟩:∃ g,(some ⟨b,o,none⟩:Option Addr)=some ⟨g,0,none⟩:=by
        rcases ho1.2.2.2 with ⟨h,h'⟩ | ⟨b',cap',cur,h,_⟩
        ·simp only [Value.slice.injEq] at h;omega
        ·simp only [Value.slice.injEq] at h;exact ⟨b',h.1⟩
       obtain ⟨rfl,rfl⟩:b=g∧o=0:=by cases hgg;exact ⟨rfl,rfl⟩
       clear hgg
       obtain ⟨g0,g1,g2,g3,-⟩:=cells5 hrow
       simp only [Nat.zero_mul,Nat.zero_add,Nat.add_zero] at g0 g1 g2 g3
       have hxg:=heardL_get d hlt hG
       rw [← HC.out.1] at hxg
       have hDr:New W3 W3.drew:=(Mods.refl _ _).drew
       have HYY:=Lib.hid (HY.out _ _ W3.drew hxg (HJ.out _ _ _ hJ3 hDr) (((Mods.ofNew HA.out).trans hm3).trans (Mods.ofNew hDr)))
       have hlen:(heardL d (i + 1)).length=(heardL d i).length + 1:=by rw [heardL_succ,hG];simp
       rw [← hlen] at HYY
       have hlt2:(heardL d (i + 1)).length ≤ (heardL d 2).length:=heardL_len d (by omega)
       clear ho1 ho2 hG hlen hN3 hin hl1 hrow hxg
       go_upto_region 5 with fail
       refine piece (fun _=>_) (heard5 (R:=_) _ rfl W3 rfl rfl rfl rfl rfl rfl rfl rfl rfl rfl rfl rC3 k2 g0 g1 g2 g3 HYY ?hz) ?_
       case hz =>
        rintro e w' (⟨rfl,-⟩ | ⟨rfl,-⟩)
        ·exact ⟨_,rfl⟩
        ·exact ⟨_,rfl⟩
       rintro ⟨z,dfs⟩ W5 ⟨z5,⟨hs,hd,hq0,hq1,hq2,hq3,hq7,hq8,hq9,hq10,hq11,hq42⟩,hR5⟩
       simp only at hs hd hq0 hq1 hq2 hq3 hq7 hq8 hq9 hq10 hq11 hq42
       subst hd
       obtain ⟨u,rfl⟩:=lit44 z hs
       have hp0:u 0 = .func (.yield l) #[] #[]:=hq0
       have hp1:u 1 = .pointer (some ⟨B,0,none⟩):=hq1
       have hp2:u 2=undef:=hq2
       have hp3:u 3=undef:=hq3
       have hp7:u 7 = .agg #[.int .u8 117]:=hq7
       have hp8:u 8 = .agg #[.int .u8 105]:=hq8
       have hp9:u 9 = .slice (some ⟨A,0,none⟩) 2 2:=hq9
       have hp10:u 10 = .int .i64 2:=hq10
       have hp11:u 11 = .int .i64 i:=hq11
       have hp42:u 42 = .bool (!z5):=hq42
       rw [hp0,hp1,hp2,hp3,hp7,hp8,hp9,hp10,hp11,hp42]
       clear hp0 hq0 hp1 hq1 hp2 hq2 hp3 hq3 hp7 hq7 hp8 hq8 hp9 hq9 hp10 hq10 hp11 hq11 hp42 hq42 hs
       rcases hR5 with ⟨hz5,hJ5,hm5⟩ | ⟨hz5,hJ5⟩
       ·obtain rfl:z5=true:=by cases hz5;rfl
        have hm6:=(hm3.trans (Mods.ofNew hDr)).trans hm5
        clear hz5 HYY
        go_wp2_with fail
        refine wp_label ?_
        go_wp2_with fail
        simp only [Exit.jump,Exit.inBlock,Exit.then]
        go_wp2_with fail
        go_roundw
        case rel=>exact ⟨i + 1,by omega,by go_num,hJ5,hm6⟩
        case measure=>simp [intOf];omega
       ·obtain rfl:z5=false:=by cases hz5;rfl
        clear hz5 HYY
        go_wp2_with fail
        simp only [Exit.jump,Exit.inBlock,Exit.then]
        go_wp2_with fail
        refine bodyPost_ret (results_none rfl _ _ _) rfl ?_
        exact ⟨⟨_,rfl⟩,.inr ⟨_,hlt2,hJ5⟩⟩
      ·have hG:=heardG_no (d:=d) (i:=i) (m:=m) (by rw [← HC.out.2];exact hfm) (fun h=>hl1 h.2)
       have hlen:(heardL d (i + 1)).length=(heardL d i).length:=by rw [heardL_succ,hG];simp
       rw [← hlen] at hJ3
       have hne:((m.items.length:Int) == 1)=false:=by rw [beq_eq_false_iff_ne];omega
       have hne2:((m.items.length:Int) != 1)=true:=by rw [bne_iff_ne];omega
       obtain ⟨q,hq⟩:∃ q,m.items.length=q:=⟨_,rfl⟩
       rw [hq] at k2 hne hne2
       clear ho1 ho2 hG hlen hN3 hin hl1 hq
       go_wp2_with fail
       exact wp_goto (And.intro rfl ⟨⟨rfl,rfl,rfl,rfl,rfl,rfl,rfl,rfl,rfl,rfl,rfl⟩,hJ3,hm3⟩)
  ·obtain rfl:i=2:=by omega
   have hkd:decide (((2:Nat):Int) < 2)=false:=by decide
   go_wp2_with fail
   go_end0
   exact ⟨⟨_,rfl⟩,.inl hJi.out⟩
end Go.Proofs.YtnknmmbnhoanfaaGreatDoor
namespace Go.Cs
open Go.RowKit

variable {P:Program} {ops:Array Oper} {Q:Exit→Act→World→Prop} {md:Region.Mode} {r:Option Nat} {S:World→Prop}
def SureIf (P:Program) (ops:Array Oper) (S:World→Prop) (o:Oper) (v:Value) (a:Act):Prop:=∀ w,S w→YieldsAt P ops w o v a
theorem SureIf.of_same {o:Oper} {v:Value} {a a':Act} (hy:SureIf P ops S o v a) (he:execOp a'.eval o=execOp a.eval o)
  (hw:Region.wanted o (yielded ops a'.tmps)=Region.wanted o (yielded ops a.tmps)):SureIf P ops S o v a':=fun w h=>(hy w h).of_same he hw
theorem SureIf.opIn {i:Nat} {o:Oper} {v:Value} {a:Act} (hp:plainOp o=true) (hi:ops[i]? = some o) (hy:SureIf P ops S o v a)
  {K:Act→World→Prop} {w:World} (hS:S w) (h:K (a.put o.dst v) w):wpOpIn (Fr r) 0 P ops Q i K a w:=by
 unfold Go.wpOpIn
 simp only [hi]
 rcases hy w hS with ⟨hw,hv⟩ | ⟨hw,rfl⟩
 ·simp only [hw,if_true,Oper.wpIn,semAt_plain hp]
  refine ⟨fun _ _=>trivial,?_⟩
  rcases hv with hv | ⟨hv,rfl⟩ | ⟨f,args,hv,hc⟩
  ·rw [hv];exact h
  ·rw [hv];exact h
  ·rw [hv]
   refine ⟨fun h=>by simp [Fence.wide] at h,(callsIn_wide (n:=0)).2 (hc.mono ?_)⟩
   rintro e w' ⟨rfl,rfl⟩
   exact h
 ·simp only [hw,Bool.false_eq_true,if_false];exact ⟨fun _ _=>trivial,h⟩
theorem opIn_putS {j:Nat} {oi oj:Oper} {v:Value} (hj:ops[j]? = some oj) (hap:oi.apart ops oj=true) (hpi:plainOp oi=true) (hpj:plainOp oj=true)
  (hQ:∀ c a w,Q (.panic c) (a.put oi.dst v) w→Q (.panic c) a w) {K:Act→World→Prop} {a:Act} {w:World}
  (hy:SureIf P ops S oi v a) (h:wpOpIn (Fr r) 0 P ops Q j K (a.put oi.dst v) w) :
  wpOpIn (Fr r) 0 P ops Q j (fun a' w'=>SureIf P ops S oi v a'∧K (a'.put oi.dst v) w') a w:=by
 obtain ⟨h1,h2,h3⟩:=Oper.apart_spec hap
 have hsi:=plainOp_sel hpi
 have hsj:=plainOp_sel hpj
 have keep:∀ (a:Act),SureIf P ops S oi v a→∀ u,SureIf P ops S oi v (a.put oj.dst u):=fun a hy u =>
  hy.of_same (execOp_put oi hsi a oj.dst u h3) (wanted_put oi a oj.dst u h3)
 have keepD:∀ d,SureIf P ops S oi v { a with defers:=d::a.defers }:=fun d=>hy.of_same rfl rfl
 unfold wpOpIn at *
 simp only [hj] at *
 rw [wanted_put oj a oi.dst v h1,about_put oj w a oi.dst v h1] at h
 split
 ·rename_i hw
  simp only [hw,if_true] at h
  unfold Oper.wpIn at *
  rw [about_put oj w a oi.dst v h1] at h
  refine ⟨h.1,?_⟩
  have h:=h.2
  rw [semAt_plain hpj,execOp_put oj hsj a oi.dst v h1] at h
  rw [semAt_plain hpj]
  generalize (execOp a.eval oj).run P w=r at *
  cases r with
  | ok x w' =>
   cases x <;> simp only [Oper.uponIn] at h ⊢
   case value u=>exact ⟨keep a hy u,by rw [← Act.put_comm a v u h2];exact h⟩
   case skip=>exact ⟨keep a hy _,by rw [← Act.put_comm a v undef h2];exact h⟩
   case defer d =>
    refine ⟨keep _ (keepD d) _,?_⟩
    rw [← Act.put_comm _ v undef h2,← Act.put_defers]
    exact h
   case enter f args =>
    refine ⟨h.1,CallsIn.mono h.2 fun e w'' he=>?_⟩
    cases e with
    | returned u=>exact ⟨keep a hy u,by rw [← Act.put_comm a v u h2];exact he⟩
    | panicked c=>exact hQ _ _ _ he
    | outgrown=>exact he
   case row row args=>exact ⟨h.1,RowsIn.mono h.2 fun u w'' he=>⟨keep a hy u,by rw [← Act.put_comm a v u h2];exact he⟩⟩
   case round l f tmps assign body =>
    refine ⟨h.1,RoundIn.mono h.2 fun e w'' he=>?_⟩
    cases e with
    | returned u=>exact ⟨keep a hy u,by rw [← Act.put_comm a v u h2];exact he⟩
    | panicked c=>exact hQ _ _ _ he
    | outgrown=>exact he
  | halt x w' =>
   cases x <;> simp only [Oper.uponIn] at h ⊢
   case panic u=>exact hQ _ _ _ h
 ·rename_i hw
  simp only [hw] at h
  exact ⟨h.1,keep a hy _,by rw [← Act.put_comm a v undef h2];exact h.2⟩
def wpAnyHI (r:Option Nat) (P:Program) (md:Region.Mode) (ops:Array Oper) (Q:Exit→Act→World→Prop) (S:World→Prop):Nat→Array Bool→Act→World→Prop
 | 0,listed,a,w=>Region.ready md ops listed = []∧Q .normal a w
 | fuel + 1,listed,a,w =>
  (Region.ready md ops listed = []→Q .normal a w) ∧
  ∀ i ∈ Region.ready md ops listed,wpOpIn (Fr r) 0 P ops Q i (fun a' w'=>S w'∧wpAnyHI r P md ops Q S fuel (listed.setIfInBounds i true) a' w') a w
theorem anyIn_of_held:∀ (fuel:Nat) (listed:Array Bool) (a:Act) (w:World),wpAnyHI r P md ops Q S fuel listed a w→wpAnyIn (Fr r) 0 P md ops Q fuel listed a w
 | 0,_,_,_,h=>h
 | fuel + 1,_,_,_,h=>⟨h.1,fun i hi=>wpOpIn_mono (fun a' w' h'=>anyIn_of_held fuel _ a' w' h'.2) (h.2 i hi)⟩
theorem anyHI_first {i:Nat} {oi:Oper} {v:Value} (hi:ops[i]? = some oi) (hpl:∀ (j:Nat) (o:Oper),ops[j]? = some o→plainOp o=true)
  (hQ:∀ c a w,Q (.panic c) (a.put oi.dst v) w→Q (.panic c) a w) :
  ∀ (fuel:Nat) (listed:Array Bool) (a:Act) (w:World),
   (∀ j oj,ops[j]? = some oj→j ≠ i→listed.getD j true=false→(∀ e ∈ oj.after,Region.binds md e=true→e.on ≠ i)→oi.apart ops oj=true) →
   i ∈ Region.ready md ops listed→SureIf P ops S oi v a→S w →
   wpAnyHI r P md ops Q S fuel (listed.setIfInBounds i true) (a.put oi.dst v) w→wpAnyHI r P md ops Q S (fuel + 1) listed a w:=by
 intro fuel
 induction fuel with
 | zero =>
  intro listed a w _ hr hy hS H
  refine ⟨fun h=>(by rw [h] at hr;cases hr),fun j hj=>?_⟩
  by_cases hji:j=i
  ·subst hji;exact hy.opIn (hpl _ _ hi) hi hS ⟨hS,H⟩
  ·have:=ready_mono hj hji
   rw [H.1] at this
   cases this
 | succ fuel ih =>
  intro listed a w hfree hr hy hS H
  refine ⟨fun h=>(by rw [h] at hr;cases hr),fun j hj=>?_⟩
  by_cases hji:j=i
  ·subst hji;exact hy.opIn (hpl _ _ hi) hi hS ⟨hS,H⟩
  ·have h1:=H.2 j (ready_mono hj hji)
   obtain ⟨hjun,oj,hoj,hall⟩:=mem_ready.1 hj
   have hnot:∀ e ∈ oj.after,Region.binds md e=true→e.on ≠ i:=fun e he hb heq=>by
    have h1:=hall e he hb
    have h0:=(mem_ready.1 hr).1
    rw [heq] at h1
    rcases Nat.lt_or_ge i listed.size with h' | h'
    ·simp [h'] at h0 h1;rw [h0] at h1;cases h1
    ·simp [Array.getElem?_eq_none h'] at h1
   have h2:=opIn_putS hoj (hfree j oj hoj hji hjun hnot) (hpl i oi hi) (hpl j oj hoj) hQ hy h1
   have hfree':∀ k ok,ops[k]? = some ok→k ≠ i→(listed.setIfInBounds j true).getD k true=false →
     (∀ e ∈ ok.after,Region.binds md e=true→e.on ≠ i)→oi.apart ops ok=true:=fun k ok hk hki hun hno=>by
    refine hfree k ok hk hki ?_ hno
    by_cases hjk:j=k
    ·subst hjk;exact hjun
    ·rw [getD_set_ne true hjk] at hun;exact hun
   refine wpOpIn_mono (fun a' w' h3=>⟨h3.2.1,ih (listed.setIfInBounds j true) a' w' hfree' (ready_mono hr (Ne.symm hji)) h3.1 h3.2.1 ?_⟩) h2
   rw [Array.setIfInBounds_comm _ _ hji]
   exact h3.2.2
theorem anyHI_take (i:Nat) {oi:Oper} (d:Option Tmp) (v:Value) {fuel:Nat} {listed:Array Bool} {a:Act} {w:World} (hi:ops[i]? = some oi) (hd:oi.dst=d)
  (hpl:ops.all plainOp=true) (hf:Region.free md ops listed i=true) (hr:(Region.ready md ops listed).contains i=true)
  (hQ:∀ c a w,Q (.panic c) (a.put d v) w→Q (.panic c) a w) (hy:SureIf P ops S oi v a) (hS:S w)
  (h:wpAnyHI r P md ops Q S fuel (listed.setIfInBounds i true) (a.put d v) w):wpAnyHI r P md ops Q S (fuel + 1) listed a w:=by
 subst hd
 exact anyHI_first hi (fun j o hj=>by
  rw [Array.all_eq_true] at hpl
  obtain ⟨hlt,rfl⟩:=Array.getElem?_eq_some_iff.1 hj
  exact hpl j hlt) hQ fuel listed a w (Region.free_spec hi hf) (by simpa using hr) hy hS h
theorem anyHI_all {rs:List Nat} {fuel:Nat} {listed:Array Bool} {a:Act} {w:World} (hr:Region.ready md ops listed=rs) (hne:rs ≠ [])
  (h:∀ i ∈ rs,wpOpIn (Fr r) 0 P ops Q i (fun a' w'=>S w'∧wpAnyHI r P md ops Q S fuel (listed.setIfInBounds i true) a' w') a w):wpAnyHI r P md ops Q S (fuel + 1) listed a w :=
 ⟨fun h0=>absurd (hr ▸ h0) hne,hr ▸ h⟩
theorem anyHI_done {listed:Array Bool} {a:Act} {w:World} (hr:Region.ready md ops listed = []) (h:Q .normal a w) :
  ∀ fuel,wpAnyHI r P md ops Q S fuel listed a w
 | 0=>⟨hr,h⟩
 | _ + 1=>⟨fun _=>h,by rw [hr];simp⟩
theorem wpIn_region_held {id:Nat} {a:Act} {w:World} (S:World→Prop) (hm:P.follows .mixedOrders=true)
  (h:wpAnyHI r P .any ops Q S ops.size (Array.replicate ops.size false) a w.drew):(Code.region id ops true).wpIn (Fr r) 0 P Q a w :=
 wpIn_region_any hm (anyIn_of_held _ _ _ _ h)
theorem SureIf.value {o:Oper} {v:Value} {a:Act} (hg:o.guard=none) (h:∀ w,S w→(execOp a.eval o).run P w = .ok (.value v) w):SureIf P ops S o v a :=
 fun w hS=>.inl ⟨by simp [Region.wanted,hg],.inl (h w hS)⟩
theorem SureIf.skip {o:Oper} {a:Act} (hg:Region.wanted o (yielded ops a.tmps)=false):SureIf P ops S o undef a :=
 fun w hS=>.inr ⟨hg,rfl⟩
theorem opIn_callS {r:Option Nat} {i:Nat} {o:Oper} (d:Option Tmp) {a:Act} {w:World} {K:Act→World→Prop} (hp:plainOp o=true) (hi:ops[i]? = some o) (hg:Region.wanted o (yielded ops a.tmps)=true) (hd:o.dst=d)
  (f:FuncId) (args:Array Value) (h:(execOp a.eval o).run P w = .ok (.enter f args) w) (hc:Calls P f args w fun e w'=>∃ v,e = .returned v∧K (a.put d v) w'):wpOpIn (Fr r) 0 P ops Q i K a w:=by
 subst hd
 unfold Go.wpOpIn
 simp only [hi,hg,if_true,Oper.wpIn,semAt_plain hp,h]
 refine ⟨fun _ _=>trivial,fun h=>by simp [Fence.wide] at h,(callsIn_wide (n:=0)).2 (hc.mono ?_)⟩
 rintro e w' ⟨v,rfl,hk⟩
 exact hk
end Go.Cs
namespace Go.Cs
open Go.RowKit
variable {P:Program}
theorem wp_rangeListA {g:Operand} {ps:Array Tmp} {assign body:Code} {Q:Exit→Act→World→Prop} {a:Act} {w:World}
  {gf:Nat} {lb:Array Value} (hg:a.eval g = .func (.func gf) #[] lb) (eg:∀ args w,(callFunc gf args).run P w = .ok (.enter gf args) w)
  (L:List (Array Value)) (S:Nat→Prop) (hit:∀ W,New w W→IterAt P gf lb L S W) (hps:∀ x ∈ L,x.size=ps.size)
  (I:Nat→World→Prop) (Ix:Code→Nat→World→Prop) (hI:∀ k,Stab w.heap.size (I k)) (hIx:∀ c k,Stab w.heap.size (Ix c k)) (h0:I 0 w)
  (hround:∀ (l k:Nat) (x:Array Value) (W:World),L[k]? = some x→w.heap.size ≤ l→(∃ r,W.heap[l]? = some (.loop r))→I k W →
   assign.wpIn (Fr (some l)) 0 P (Exit.then (fun a1 W1=>Mods S W W1∧∀ W2,Quiet w.heap.size W1 W2→(∃ r,W2.heap[l]? = some (.loop r))→body.wpIn (Fr (some l)) 0 P (roundQ S I Ix (k + 1) W2) a1 W2) (fun _ _ _=>False))
    { tmps:=(ps.zip x).foldl (fun t (p,v)=>t.setIfInBounds p v) a.tmps,defers:=[] } W)
  (hdone:∀ W,I L.length W→W.heap[w.heap.size]? = some (.deferred (some []))→Q .normal { a with defers:={ target:=.collected w.heap.size,args:=#[] }::a.defers } W)
  (hstop:∀ c k W,k ≤ L.length→Ix c k W→W.heap[w.heap.size]? = some (.deferred (some []))→c.wp P Q { a with defers:={ target:=.collected w.heap.size,args:=#[] }::a.defers } W) :
  (Code.rangeFunc g ps assign body).wp P Q a w:=by
 refine (wpIn_wide (n:=0)).1 ?_
 refine rangeList_core (P:=P) none hg eg L S hit hps (w.alloc (.deferred (some []))) ((Mods.refl _ _).alloc _) [{ target:=.collected w.heap.size,args:=#[] }] w.heap.size ?_ I Ix hI hIx h0 hround ?_ ?_
 ·intro fn
  rw [World.size_alloc]
  exact run_enterLoop_outer _ _ _ _ _
 ·intro W hi ho
  exact hdone W hi (ho _ _ (World.alloc_heap_new w _) rfl)
 ·intro c k W hk hi ho
  exact (wpIn_wide (n:=0)).2 (hstop c k W hk hi (ho _ _ (World.alloc_heap_new w _) rfl))
end Go.Cs
namespace Go.Proofs.YtnknmmbnhoanfaaGreatDoor
open Go.RowKit Go.Shelf Go.Cs
attribute [local go_sem] Oper.semAt_some


def enc2 (p:Nat × Bare.It):Array Value:=#[k1 .u8 p.1,bv p.2]
def hL (d:List Bare.Mem):List (Nat × Bare.It):=(List.range 2).filterMap fun i=>(Bare.heard d (kb i)).map fun b=>(kc i,b)
theorem heard_list (d:List Bare.Mem):heardL d 2=(hL d).map enc2:=by
 unfold heardL hL
 rw [List.map_filterMap]
 congr 1
 funext i
 unfold heardG
 cases Bare.heard d (kb i) <;> rfl
def stP (s:Int × Bool) (p:Nat × Bare.It):Int × Bool:=if p.1=117 then (cntU p.2 s.1,s.2) else (s.1,cntI p.2)
theorem st_end (d:List Bare.Mem):(hL d).foldl stP (3,false)=(Bare.urgOf d,Bare.incOf d):=by
 have e:hL d=((Bare.heard d [117]).map fun b=>(117,b)).toList ++ ((Bare.heard d [105]).map fun b=>(105,b)).toList:=by
  unfold hL
  rw [show List.range 2 = [0,1] from rfl]
  simp only [List.filterMap_cons,List.filterMap_nil]
  rw [show kb 0 = [117] from rfl,show kb 1 = [105] from rfl,show kc 0=117 from rfl,show kc 1=105 from rfl]
  cases Bare.heard d [117] <;> cases Bare.heard d [105] <;> rfl
 rw [e]
 unfold Bare.urgOf Bare.incOf
 cases Bare.heard d [117] <;> cases Bare.heard d [105] <;> simp [stP,cntU,cntI]
theorem hL_key {d:List Bare.Mem} {p:Nat × Bare.It} (h:p ∈ hL d):(p.1=117∧Bare.heard d [117]=some p.2) ∨ (p.1=105∧Bare.heard d [105]=some p.2):=by
 unfold hL at h
 rw [List.mem_filterMap] at h
 obtain ⟨i,hi,he⟩:=h
 rw [List.mem_range] at hi
 obtain rfl | rfl:i=0 ∨ i=1:=by omega
 ·cases hb:Bare.heard d (kb 0) with
  | none=>rw [hb] at he;cases he
  | some b=>rw [hb] at he;cases he;exact .inl ⟨rfl,hb⟩
 ·cases hb:Bare.heard d (kb 1) with
  | none=>rw [hb] at he;cases he
  | some b=>rw [hb] at he;cases he;exact .inr ⟨rfl,hb⟩
theorem zero_fn (W:World):(zeroValue 123).run Tryz.prog W = .ok .nilFunc W:=by go_simp
theorem lit17 (t:Array Value) (h:t.size=17):∃ u:Nat→Value,t=(u 0::u 1::u 2::u 3::u 4::u 5::u 6::u 7::u 8::u 9::u 10::u 11::u 12::u 13::u 14::u 15::u 16::([]:List Value)).toArray:=⟨fun i=>t.getD i undef,range_lit t 17 h⟩
noncomputable def reg_urgent_Of_5:Code:=((Tryz.f40.body.bind (regionOf 5)).getD .skip)
theorem of5 (t:Array Value) (hs:t.size=17) (w:World) {B C D:Nat} {fid:FuncId} {c u u' q n:Int} {i i' y:Bool} {s:ByteArray} {r:Option Nat}
  (hq3:t.getD 3 undef = .pointer (some ⟨B,0,none⟩))
  (hq4:t.getD 4 undef = .pointer (some ⟨C,0,none⟩))
  (hq5:t.getD 5 undef = .pointer (some ⟨D,0,none⟩))
  (rP:w.heap[B]? = some (.cells #[.int .u8 u,.bool i] 51 (0,0))) (k0:w.cell? ⟨C,0,none⟩=some (.int .u8 c))
  (h0:w.cell? ⟨D,0,none⟩=some (.int .u8 q)) (h1:w.cell? ⟨D,1,none⟩=some (.int .i64 n)) (h2:w.cell? ⟨D,2,none⟩=some (.string s)) (h3:w.cell? ⟨D,3,none⟩=some (.bool y))
  (hCB:¬ C=B) (hDB:¬ D=B) (eg:∀ args w,(callFunc fid args).run Tryz.prog w = .ok (.enter fid args) w) (hcf:cntF c=some (.func (.func fid) #[] #[]))
  (HC:Hid (∀ W:World,W.heap[B]? = some (.cells #[.int .u8 u,.bool i] 51 (0,0))→Calls Tryz.prog fid #[.pointer (some ⟨B,0,none⟩),.agg #[.int .u8 q,.int .i64 n,.string s,.bool y]] W fun e w'=>(∃ v,e = .returned v)∧w'.heap[B]? = some (.cells #[.int .u8 u',.bool i'] 51 (0,0))∧Mods (fun x=>x=B) W w')) :
  reg_urgent_Of_5.wpIn (Fr r) 0 Tryz.prog (Only fun a' W'=>(a'.tmps.size=17∧a'.defers = []∧a'.tmps.getD 3 undef = .pointer (some ⟨B,0,none⟩)∧a'.tmps.getD 4 undef = .pointer (some ⟨C,0,none⟩)∧a'.tmps.getD 5 undef = .pointer (some ⟨D,0,none⟩))∧W'.heap[B]? = some (.cells #[.int .u8 u',.bool i'] 51 (0,0))∧Mods (fun x=>x=B) w W') ⟨t,[]⟩ w:=by
 conv=>arg 4;whnf
 obtain ⟨u,rfl⟩:=lit17 t hs
 have hq3:u 3 = _:=hq3
 have hq4:u 4 = _:=hq4
 have hq5:u 5 = _:=hq5
 rw [hq3,hq4,hq5]
 clear hq3 hq4 hq5 hs
 refine wpIn_region_held (fun W=>Mods (fun x=>x=B) w W) (by kernel_rfl) ?_
 show wpAnyHI _ _ _ _ _ _ 5 _ _ w.drew
 have hS:Mods (fun x=>x=B) w w.drew:=(Mods.refl _ _).drew
 have hN:New w w.drew:=(Mods.refl _ _).drew
 refine anyHI_take 1 (some 12) (.agg #[.int .u8 c]) rfl rfl (by kernel_rfl) (by kernel_rfl) (by kernel_rfl) (fun _ _ _ h=>h.elim) (.value rfl fun W hW=>by have q1:=(show Mods (fun x=>x=B) w W from hW).cell k0 hCB;go_simp) hS ?_
 simp only [pS]
 refine anyHI_take 3 (some 14) (.agg #[.int .u8 q,.int .i64 n,.string s,.bool y]) rfl rfl (by kernel_rfl) (by kernel_rfl) (by kernel_rfl) (fun _ _ _ h=>h.elim) (.value rfl fun W hW=>by have q0:=(show Mods (fun x=>x=B) w W from hW).cell h0 hDB;have q1:=(show Mods (fun x=>x=B) w W from hW).cell h1 hDB;have q2:=(show Mods (fun x=>x=B) w W from hW).cell h2 hDB;have q3:=(show Mods (fun x=>x=B) w W from hW).cell h3 hDB;go_simp) hS ?_
 simp only [pS]
 refine anyHI_all (rs:=[0]) (by kernel_rfl) (by simp) ?_
 simp only [List.mem_cons,List.not_mem_nil,or_false,forall_eq]
 refine opIn_callS (some 11) rfl rfl (by rfl) rfl 103 #[] (by go_simp) ((counts_any _).mono ?_)
 rintro e w1 ⟨M,rfl,hM,hN1⟩
 have hN:New w w1:=hN.trans hN1
 have hS:Mods (fun x=>x=B) w w1:=Mods.ofNew hN
 refine ⟨_,rfl,hS,?_⟩
 simp only [pS]
 refine anyHI_all (rs:=[2]) (by kernel_rfl) (by simp) ?_
 simp only [List.mem_cons,List.not_mem_nil,or_false,forall_eq]
 have hk:=MapFn.look keyB1 Tryz.underlying124 (zero_fn w1) hM c false
 rw [hcf] at hk
 have hk2:(Instr.lookup 124 (.map (some M)) (.agg #[.int .u8 c]) false).run Tryz.prog w1 = .ok (.func (.func fid) #[] #[]) w1:=hk
 refine opIn_value (some 13) (v:=.func (.func fid) #[] #[]) (w':=w1) rfl rfl rfl rfl (by go_simp) ?_
 refine ⟨hS,?_⟩
 simp only [pS]
 refine anyHI_all (rs:=[4]) (by kernel_rfl) (by simp) ?_
 simp only [List.mem_cons,List.not_mem_nil,or_false,forall_eq]
 refine opIn_callS (some 15) rfl rfl (by rfl) rfl fid #[.pointer (some ⟨B,0,none⟩),.agg #[.int .u8 q,.int .i64 n,.string s,.bool y]] (by go_simp) ((HC.out w1 (hN.heap rP id)).mono ?_)
 rintro e w2 ⟨⟨v,rfl⟩,hp2,hm2⟩
 have hS:=hS.trans hm2
 refine ⟨_,rfl,hS,?_⟩
 simp only [pS]
 refine anyHI_done (by kernel_rfl) ?_ _
 exact ⟨⟨rfl,rfl,rfl,rfl,rfl⟩,hp2,hS⟩
theorem of_any {τ:Bool} (v:Value) (d:List Bare.Mem) (w:World) (hd:RdD τ w v d) (hf:∀ m ∈ d,Fits m) (hi:∀ b,Bare.heard d [117]=some b→ItI b) :
  Calls Tryz.prog 40 #[v] w fun e w'=>e = .returned (prV (Bare.urgOf d) (Bare.incOf d))∧New w w':=by
 obtain ⟨ao,cap,rfl⟩:=hd.slice
 have HD:=Lib.hid hd
 have HFt:=Lib.hid hf
 clear hd hf
 obtain ⟨n,hn⟩:∃ n,d.length=n:=⟨_,rfl⟩
 have Hn:=Lib.hid hn
 rw [hn] at HD ⊢
 clear hn
 refine calls_of_marks Tryz.func40 rfl ?_
 simp only [Tryz.ntmps40,List.size_toArray,List.length_cons,List.length_nil,Nat.reduceAdd,Nat.reduceSub,Array.replicate_succ,Array.replicate_zero,List.push_toArray,List.append_toArray,List.nil_append,List.cons_append]
 have HH:=Lib.hid (fun W=>heard_any (.slice ao n cap) ⟨_,_,_,rfl⟩ W)
 have hN0:New w (w.alloc (.cells #[.int .u8 0,.bool false] 51)):=(Mods.refl _ _).alloc _
 have r0:=World.alloc_heap_new w (.cells #[.int .u8 0,.bool false] 51)
 go_wp2_with fail
 refine (first_u _).mono ?_
 rintro e w1 ⟨rfl,hN1⟩
 unfold prV
 replace r0:=hN1.heap r0 id
 replace hN0:=hN0.trans hN1
 obtain ⟨R,hR⟩:∃ b,w.heap.size=b:=⟨_,rfl⟩
 rw [hR] at r0 ⊢
 have hRl:R < w1.heap.size:=(Array.getElem?_eq_some_iff.1 r0).1
 go_upto_region 2 with fail
 have hA:New w1 (w1.alloc (.cells #[.int .u8 3,.bool false] 51)):=(Mods.refl _ _).alloc _
 have rP:=World.alloc_heap_new w1 (.cells #[.int .u8 3,.bool false] 51)
 obtain ⟨w2,hw2⟩:∃ W,w1.alloc (.cells #[.int .u8 3,.bool false] 51)=W:=⟨_,rfl⟩
 obtain ⟨P,hP⟩:∃ b,w1.heap.size=b:=⟨_,rfl⟩
 rw [hw2] at hA rP ⊢
 have hwP:w.heap.size ≤ P:=by rw [← hP];exact hN0.size
 rw [hP] at rP hRl ⊢
 replace r0:=hA.heap r0 id
 replace hN0:=hN0.trans hA
 have hlt:P < w2.heap.size:=(Array.getElem?_eq_some_iff.1 rP).1
 clear hw2 hP hA hN1
 go_wp2_with (go_at_call 102;refine (HH.out _).mono ?_;rintro e w3 ⟨rfl,hw3⟩)
 have hA:New w2 w3:=by rw [← hw3];exact (Mods.refl _ _).alloc _
 have rB:Boxed w3 w2.heap.size 36 (.slice ao n cap):=by rw [← hw3];exact Boxed.new w2 _ _
 obtain ⟨B,hB⟩:∃ b,w2.heap.size=b:=⟨_,rfl⟩
 rw [hB] at rB hlt ⊢
 replace rP:=hA.heap rP id
 replace r0:=hA.heap r0 id
 replace hN0:=hN0.trans hA
 clear hw3 hB hA HH
 have hwB:w.heap.size ≤ B:=by omega
 have hB3:B < w3.heap.size:=(Array.getElem?_eq_some_iff.1 rB).1
 refine wp_rangeListA (gf:=151) (lb:=#[.pointer (some ⟨B,0,none⟩)]) rfl (enters_of Tryz.func151 (by kernel_rfl) rfl) ((hL d).map enc2) (fun b=>b=P)
  (fun W hW=>by
   rw [← heard_list]
   exact heard_iter B _ d w HD.out HFt.out _ W (hN0.trans hW) (hW.boxed rB id) (by omega) (fun b hb=>by have:=hW.size;omega)) ?hps
  (fun k W=>W.heap[P]? = some (.cells #[.int .u8 (((hL d).take k).foldl stP (3,false)).1,.bool (((hL d).take k).foldl stP (3,false)).2] 51 (0,0))∧Mods (fun b=>b=P) w3 W)
  (fun c k W=>False) ?hI (fun c k=>.pure _) ⟨rP,.refl _ _⟩ ?round ?done (fun c k W hk hf=>hf.elim)
 case hps =>
  intro x hx
  obtain ⟨p,_,rfl⟩:=List.mem_map.1 hx
  rfl
 case hI=>exact fun k W W' h q=>⟨q.block P _ h.1 (.inr rfl),Stab.mods (Nat.le_refl _) _ _ h.2 q⟩
 case round =>
  rintro l k x W hx hl hlr ⟨rPk,hm⟩
  rw [List.getElem?_map] at hx
  obtain ⟨⟨c,b⟩,hp,rfl⟩:=Option.map_eq_some_iff.1 hx
  have hkey:=hL_key (List.mem_of_getElem? hp)
  have hfold:((hL d).take (k + 1)).foldl stP (3,false)=stP (((hL d).take k).foldl stP (3,false)) (c,b):=by
   rw [List.take_add_one,hp];simp
  obtain ⟨⟨u,i⟩,hst⟩:∃ s,((hL d).take k).foldl stP (3,false)=s:=⟨_,rfl⟩
  rw [hst] at rPk hfold
  have HFold:=Lib.hid hfold
  clear hx hp hfold hst
  simp only at hkey rPk
  have hcl:∃ fid,(∀ args w,(callFunc fid args).run Tryz.prog w = .ok (.enter fid args) w)∧cntF (c:Int)=some (.func (.func fid) #[] #[])∧∀ W:World,W.heap[P]? = some (.cells #[.int .u8 u,.bool i] 51 (0,0))→Calls Tryz.prog fid #[.pointer (some ⟨P,0,none⟩),bv b] W fun e w'=>(∃ v,e = .returned v)∧w'.heap[P]? = some (.cells #[.int .u8 (stP (u,i) (c,b)).1,.bool (stP (u,i) (c,b)).2] 51 (0,0))∧Mods (fun x=>x=P) W w':=by
   rcases hkey with ⟨rfl,hh⟩ | ⟨rfl,hh⟩
   ·exact ⟨152,enters_of Tryz.func152 (by kernel_rfl) rfl,cntF_u,fun W hW=>counts_u P b u i (hi b hh) W hW⟩
   ·exact ⟨153,enters_of Tryz.func153 (by kernel_rfl) rfl,cntF_i,fun W hW=>counts_i P b u i W hW⟩
  obtain ⟨fid,hent,hcf,hcl⟩:=hcl
  have HC:=Lib.hid hcl
  have HE:=Lib.hid hent
  clear hkey hcl hent
  obtain ⟨⟨u',i'⟩,hst⟩:∃ s,stP (u,i) (c,b)=s:=⟨_,rfl⟩
  rw [hst] at HC HFold
  clear hst
  obtain ⟨q,nn,t,y⟩:=b
  unfold enc2 k1
  unfold bv bcs at HC ⊢
  simp only at HC ⊢
  obtain ⟨s,hs⟩:∃ s,tx t=s:=⟨_,rfl⟩
  rw [hs] at HC ⊢
  clear hs
  have hA1:New W (W.alloc (.cells #[.int .u8 c] 122)):=(Mods.refl _ _).alloc _
  have r4:=World.alloc_heap_new W (.cells #[.int .u8 c] 122)
  have hlW:P < W.heap.size:=(Array.getElem?_eq_some_iff.1 rPk).1
  gi_upto_region 4 with fail
  obtain ⟨V1,hV1⟩:∃ V,W.alloc (.cells #[.int .u8 c] 122)=V:=⟨_,rfl⟩
  obtain ⟨C,hC⟩:∃ b,W.heap.size=b:=⟨_,rfl⟩
  rw [hV1] at hA1 r4 ⊢
  rw [hC] at r4 hlW ⊢
  have hA2:New V1 (V1.alloc (.cells #[.int .u8 q,.int .i64 nn,.string s,.bool y] 23)):=(Mods.refl _ _).alloc _
  have r5:=World.alloc_heap_new V1 (.cells #[.int .u8 q,.int .i64 nn,.string s,.bool y] 23)
  gi_wp2_with fail
  obtain ⟨V2,hV2⟩:∃ V,V1.alloc (.cells #[.int .u8 q,.int .i64 nn,.string s,.bool y] 23)=V:=⟨_,rfl⟩
  have hlD:P < V1.heap.size:=by have:=hA1.size;omega
  obtain ⟨D,hD⟩:∃ b,V1.heap.size=b:=⟨_,rfl⟩
  rw [hV2] at hA2 r5 ⊢
  rw [hD] at r5 hlD ⊢
  replace r4:=hA2.heap r4 id
  have hmV:Mods (fun b=>b=P) W V2:=Mods.ofNew (hA1.trans hA2)
  replace rPk:=(hA1.trans hA2).heap rPk id
  refine ⟨hmV,fun V3 hq hlr3=>?_⟩
  clear hV1 hC hV2 hD hA1 hA2
  replace r4:=hq.block C _ r4 (.inr rfl)
  replace r5:=hq.block D _ r5 (.inr rfl)
  replace rPk:=hq.block P _ rPk (.inr rfl)
  have k0:=cell_of_row _ _ 0 _ _ _ r4
  have h0:=cell_of_row _ _ 0 _ _ _ r5
  have h1:=cell_of_row _ _ 1 _ _ _ r5
  have h2:=cell_of_row _ _ 2 _ _ _ r5
  have h3:=cell_of_row _ _ 3 _ _ _ r5
  simp only [gS] at k0 h0 h1 h2 h3
  have hm3:=Stab.mods (Nat.le_refl _) _ _ (hm.trans hmV) hq
  have hCP:¬ C=P:=by omega
  have hDP:¬ D=P:=by omega
  clear r4 r5 hq hlr3 hlr hm hmV
  refine wpIn_block ?_
  refine wpIn_mono (of5 _ rfl V3 rfl rfl rfl rPk k0 h0 h1 h2 h3 hCP hDP HE.out hcf HC) ?_
  rintro e a' W' he
  cases e <;> try exact he.elim
  obtain ⟨-,hp,hm4⟩:=he
  exact ⟨hm4,by show W'.heap[P]? = _;rw [HFold.out];exact hp,hm3.trans hm4⟩
 case done =>
  rintro W ⟨rPk,hm⟩ hDf
  rw [List.length_map,List.take_length,st_end] at rPk
  simp only at rPk
  have hRP:¬ R=P:=by omega
  have rR:=hm.heap r0 hRP
  have hDR:¬ w3.heap.size=R:=by have:=(Array.getElem?_eq_some_iff.1 r0).1;omega
  have hRR:¬ R=w3.heap.size:=fun e=>hDR e.symm
  have hN3:New w W:=((Mods.ofNew hN0).trans hm).new (by rintro b rfl;exact hwP)
  obtain ⟨u,hu⟩:∃ u,Bare.urgOf d=u:=⟨_,rfl⟩
  obtain ⟨i,hi'⟩:∃ u,Bare.incOf d=u:=⟨_,rfl⟩
  rw [hu,hi'] at rPk
  have Hu:=Lib.hid hu
  have Hi:=Lib.hid hi'
  clear hu hi'
  have hD3:w.heap.size ≤ w3.heap.size:=by omega
  obtain ⟨D,hD⟩:∃ b,w3.heap.size=b:=⟨_,rfl⟩
  rw [hD] at hDf hDR hRR hD3 ⊢
  simp only [Exit.inBlock,Exit.then]
  go_wp2_with (first | (refine op_value rfl (run_load_row 51 (.tmp 3) rfl P rfl 51 _ (0,0) _ rPk Tryz.underlying51 rfl sizePr) ?_) | (refine op_skip rfl (run_store_row 51 (.tmp 2) (.tmp 16) rfl R rfl 51 [.int .u8 0,.bool false] [.int .u8 u,.bool i] rfl rR sizePr rfl (by simp [Value.oneCell'])) ?_))
  have hrow:=setRow_heap W R _ #[.int .u8 u,.bool i] _ _ rR
  have hDf2:=(mods_setRow rR #[.int .u8 u,.bool i]).heap hDf hDR
  have hrow2:((W.setRow R #[.int .u8 u,.bool i]).putObj D (.deferred none)).heap[R]? = some (.cells #[.int .u8 u,.bool i] 51 (0,0)):=(World.putObj_heap_other hRR).trans hrow
  refine marks_one rfl hDf2 (v:=.agg #[.int .u8 u,.bool i]) (results_cell_row rfl _ _ R 51 _ (0,0) _ rfl hrow2 Tryz.underlying51 rfl sizePr) ?_
  exact ⟨by rw [Hu.out,Hi.out];rfl,(hN3.setRow (by omega) _).putObj hD3 _⟩


theorem int_right {b:Bare.It} (h:Bare.rightI b=true):ItI b:=by
 unfold Bare.rightI Bare.most at h
 unfold ItI
 split at h
 ·simp at h;omega
 ·have:b.int=0:=by
   split at h
   ·simp at h;exact h.1
   ·split at h
    ·simp at h;exact h.1
    ·split at h
     ·simp at h;exact h.1
     ·split at h
      ·simp at h;exact h.1
      ·cases h
  omega
theorem heard_right {d:List Bare.Mem} (h:Bare.rightD d=true) {k:Bare.Bs} {b:Bare.It} (hb:Bare.heard d k=some b):Bare.rightI b=true:=by
 unfold Bare.heard at hb
 split at hb
 ·rename_i m hm
  split at hb
  ·rename_i hc
   cases hb
   have hmm:=List.mem_of_find?_eq_some hm
   have hd:=(Bool.and_eq_true_iff.1 h).2
   have hM:=List.all_eq_true.1 hd m hmm
   obtain ⟨-,-,-,hi⟩:=Bare.mem_parts hM
   have hx:=List.all_eq_true.1 hi (m.items.headD Bare.noI) (by
    cases hl:m.items with
    | nil=>rw [hl] at hc;exact absurd hc.2 (by decide)
    | cons x r=>simp)
   exact (Bare.item_parts hx).1
  ·cases hb
 ·cases hb
theorem read_u (s:ByteArray) (w:World) (hs:s.size ≤ 1000000) (hT:Tab w) :
  Calls Tryz.prog 36 #[.string s] w fun e w'=>(e=match Bare.parseD (bl s) with
   | some d=>.returned (.tuple #[prV (Bare.urgOf d) (Bare.incOf d),.bool true])
   | none=>.returned (.tuple #[prV 3 false,.bool false]))∧New w w':=by
 have hN0:New w (w.alloc (.cells #[.int .u8 0,.bool false] 51)):=(Mods.refl _ _).alloc _
 have r0:=World.alloc_heap_new w (.cells #[.int .u8 0,.bool false] 51)
 have H1:=Lib.hid (fun W (hN:New w W)=>parse_d s W hs (hT.new hN))
 have hsz:(bl s).length=s.size:=bl_len s
 obtain ⟨E,hE⟩:∃ E:Ending,(match Bare.parseD (bl s) with
   | some d=>.returned (.tuple #[prV (Bare.urgOf d) (Bare.incOf d),.bool true])
   | none=>.returned (.tuple #[prV 3 false,.bool false]))=E:=⟨_,rfl⟩
 rw [hE]
 have HE:=Lib.hid hE
 clear hE
 go_enter Tryz.func36,Tryz.ntmps36
 go_upto_region 1 with fail
 obtain ⟨w1,hw1⟩:∃ W,w.alloc (.cells #[.int .u8 0,.bool false] 51)=W:=⟨_,rfl⟩
 obtain ⟨R,hR⟩:∃ b,w.heap.size=b:=⟨_,rfl⟩
 have hwR:w.heap.size ≤ R:=by omega
 rw [hw1] at hN0 r0 ⊢
 rw [hR] at r0 ⊢
 clear hw1 hR
 cases hp:Bare.parseD (bl s) with
 | none =>
  have H1:=Lib.hid (fun W (hN:New w W)=>(H1.out W hN).mono (R':=fun e w'=>e = .returned (.tuple #[.slice none 0 0,.int .i64 130])∧New W w') (by
   rintro e w' ⟨v,z,rfl,hN',h⟩
   rw [hp] at h
   obtain ⟨rfl,rfl⟩:=h
   exact ⟨rfl,hN'⟩))
  have HE':Hid (E = .returned (.tuple #[prV 3 false,.bool false])):=Lib.hid (by have:=HE.out;rw [hp] at this;exact this.symm)
  clear hp
  go_wp2_with fail
  refine (H1.out _ hN0).mono ?_
  rintro e w2 ⟨rfl,hN2⟩
  replace hN0:=hN0.trans hN2
  replace r0:=hN2.heap r0 id
  go_wp2_with fail
  refine (first_u _).mono ?_
  rintro e w3 ⟨rfl,hN3⟩
  unfold prV
  replace hN0:=hN0.trans hN3
  replace r0:=hN3.heap r0 id
  go_wp2_with (refine op_skip rfl (run_store_row 51 (.tmp 2) (.tmp 13) rfl R rfl 51 [.int .u8 0,.bool false] [.int .u8 3,.bool false] rfl r0 sizePr rfl (by decide)) ?_)
  have hrow:=setRow_heap w3 R _ #[.int .u8 3,.bool false] _ _ r0
  refine bodyPost_ret (v:=.tuple #[.agg #[.int .u8 3,.bool false],.bool false]) (results_row2 rfl _ _ R 51 _ (0,0) _ rfl hrow Tryz.underlying51 rfl sizePr rfl) rfl ?_
  exact ⟨HE'.out.symm,hN0.setRow hwR _⟩
 | some d =>
  have hbl:(bl s).length ≤ 1000000:=by omega
  have hsd:=parse_sz (by decide) hbl hp
  have hr:=(Bare.dict_may hp).1
  have H1:=Lib.hid (fun W (hN:New w W)=>(H1.out W hN).mono (R':=fun e w'=>∃ v,e = .returned (.tuple #[v,.int .i64 0])∧RdD true w' v d∧New W w') (by
   rintro e w' ⟨v,z,rfl,hN',h⟩
   rw [hp] at h
   obtain ⟨rfl,h,-⟩:=h
   exact ⟨v,rfl,h,hN'⟩))
  have HO:=Lib.hid (fun v W (h:RdD true W v d)=>of_any v d W h (fits_of_sz (Nat.le_refl _) hsd) (fun b hb=>int_right (heard_right hr hb)))
  have HE':Hid (E = .returned (.tuple #[prV (Bare.urgOf d) (Bare.incOf d),.bool true])):=Lib.hid (by have:=HE.out;rw [hp] at this;exact this.symm)
  clear hp hsd hr
  obtain ⟨u,hu⟩:∃ u,Bare.urgOf d=u:=⟨_,rfl⟩
  obtain ⟨i,hi'⟩:∃ u,Bare.incOf d=u:=⟨_,rfl⟩
  rw [hu,hi'] at HO
  rw [hu,hi'] at HE'
  clear hu hi'
  go_wp2_with fail
  refine (H1.out _ hN0).mono ?_
  rintro e w2 ⟨v,rfl,hv,hN2⟩
  replace hN0:=hN0.trans hN2
  replace r0:=hN2.heap r0 id
  go_wp2_with fail
  refine (HO.out v _ hv).mono ?_
  rintro e w3 ⟨rfl,hN3⟩
  unfold prV
  replace hN0:=hN0.trans hN3
  replace r0:=hN3.heap r0 id
  go_wp2_with (refine op_skip rfl (run_store_row 51 (.tmp 2) (.tmp 15) rfl R rfl 51 [.int .u8 0,.bool false] [.int .u8 u,.bool i] rfl r0 sizePr rfl (by simp [Value.oneCell'])) ?_)
  have hrow:=setRow_heap w3 R _ #[.int .u8 u,.bool i] _ _ r0
  refine bodyPost_ret (v:=.tuple #[.agg #[.int .u8 u,.bool i],.bool true]) (results_row2 rfl _ _ R 51 _ (0,0) _ rfl hrow Tryz.underlying51 rfl sizePr rfl) rfl ?_
  exact ⟨HE'.out.symm,hN0.setRow hwR _⟩
end Go.Proofs.YtnknmmbnhoanfaaGreatDoor
