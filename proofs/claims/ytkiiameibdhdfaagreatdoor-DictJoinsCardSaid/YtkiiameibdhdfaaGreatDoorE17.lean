/- Texts joined. -/
import Derived.Test.YtkiiameibdhdfaaGreatDoorE15
import Derived.Test.YtkiiameibdhdfaaGreatDoorE16
import Derived.Test.YtkiiameibdhdfaaGreatDoorE06
import Derived.Test.YtkiiameibdhdfaaGreatDoorE14
import Derived.Test.YtkiiameibdhdfaaGreatDoorE12
set_option linter.unusedSimpArgs false
set_option linter.unusedVariables false
set_option maxHeartbeats 16000000
set_option maxRecDepth 100000
namespace Go.Proofs.YtkiiameibdhdfaaGreatDoor
open Go.RowKit Go.Shelf Go.Cs
attribute [local go_sem] Oper.semAt_some


theorem litj43 (t:Array Value) (h:t.size=43):∃ u:Nat→Value,t=(u 0::u 1::u 2::u 3::u 4::u 5::u 6::u 7::u 8::u 9::u 10::u 11::u 12::u 13::u 14::u 15::u 16::u 17::u 18::u 19::u 20::u 21::u 22::u 23::u 24::u 25::u 26::u 27::u 28::u 29::u 30::u 31::u 32::u 33::u 34::u 35::u 36::u 37::u 38::u 39::u 40::u 41::u 42::([]:List Value)).toArray:=⟨fun i=>t.getD i undef,range_lit t 43 h⟩
noncomputable def reg_causeyref13_params_9:Code:=((Tryz.f124.body.bind (regionOf 9)).getD .skip)
theorem params9 (t:Array Value) (hs:t.size=43) (w:World) {b o n cap i k:Nat} {ka kb:ByteArray} {y:Bool}
  (hq0:t.getD 0 undef = .slice (some ⟨b,o,none⟩) n cap)
  (hq3:t.getD 3 undef = .int .i64 i)
  (hq4:t.getD 4 undef = .int .i64 k)
  (c0:w.cell? ⟨b,o + k * 5,none⟩=some (.string ka)) (c1:w.cell? ⟨b,o + i * 5,none⟩=some (.string kb)) (hk:k < n) (hi:i < n) (hkd:decide ((k:Int) < (n:Int))=true) (hid:decide ((i:Int) < (n:Int))=true) (he:(ka.toList == kb.toList)=y) :
  reg_causeyref13_params_9.wp Tryz.prog (Only fun a' W'=>∃ z:Nat→Value,a'=⟨((pz t z [32,33,34,35,36,37,38,39,40,41]).setIfInBounds 42 (.bool y)),[]⟩∧New w W') ⟨t,[]⟩ w:=by
 conv=>arg 2;whnf
 obtain ⟨u,rfl⟩:=litj43 t hs
 have hq0:u 0 = _:=hq0
 have hq3:u 3 = _:=hq3
 have hq4:u 4 = _:=hq4
 rw [hq0,hq3,hq4]
 clear hq0 hq3 hq4 hs
 refine wp_region_held (S:=fun W=>New w W) (by kernel_rfl) ?_
 show wpAnyH _ _ _ _ _ 11 _ _ w.drew
 have hN:New w w.drew:=(Mods.refl _ _).drew
 have hS:New w w.drew:=(Mods.refl _ _).drew
 refine tkI 0 (some 32) (.slice (some ⟨b,o,none⟩) n cap) hS ?_
 simp only [pS]
 refine tkI 1 (some 33) (.int .i64 k) hS ?_
 simp only [pS]
 refine tkI 2 (some 34) (.pointer (some ⟨b,o + k * 5,none⟩)) hS ?_
 simp only [pS]
 refine tkI 3 (some 35) (.pointer (some ⟨b,o + k * 5,none⟩)) hS ?_
 simp only [pS]
 refine tkA 4 rfl (some 36) (.string ka) (.inl ⟨by rfl,fun W hW=>by have q:=hW.cell c0 id;go_simp⟩) hS ?_
 simp only [pS]
 refine tkI 5 (some 37) (.slice (some ⟨b,o,none⟩) n cap) hS ?_
 simp only [pS]
 refine tkI 6 (some 38) (.int .i64 i) hS ?_
 simp only [pS]
 refine tkI 7 (some 39) (.pointer (some ⟨b,o + i * 5,none⟩)) hS ?_
 simp only [pS]
 refine tkI 8 (some 40) (.pointer (some ⟨b,o + i * 5,none⟩)) hS ?_
 simp only [pS]
 refine tkA 9 rfl (some 41) (.string kb) (.inl ⟨by rfl,fun W hW=>by have q:=hW.cell c1 id;go_simp⟩) hS ?_
 simp only [pS]
 refine tkI 10 (some 42) (.bool y) hS ?_
 simp only [pS]
 refine wpAnyH_done (by kernel_rfl) ?_ _
 exact zc rfl hN
theorem get_map {α:Type} (f:α→Bare.Bs) (L:List α) (d:α) (i:Nat) (hi:i < L.length):(L.map f)[i]? = some (f (L.getD i d)):=by
 rw [List.getElem?_map,List.getElem?_eq_getElem hi,List.getD_eq_getElem?_getD,List.getElem?_eq_getElem hi]
 rfl
theorem alone_dup2 {α:Type} (f:α→Bare.Bs) (L:List α) (d:α) (i k:Nat) (hi:i < L.length) (hk:k < i) (h:f (L.getD k d)=f (L.getD i d)):Bare.aloneB (L.map f)=false:=by
 refine alone_dup (get_map f L d i hi) ?_
 rw [← h]
 refine List.mem_iff_getElem?.2 ⟨k,?_⟩
 rw [List.getElem?_take,if_pos hk,get_map f L d k (by omega)]
theorem alone_yes {α:Type} (f:α→Bare.Bs) (L:List α) (d:α) (h1:∀ i,i < L.length→Bare.keyB (f (L.getD i d))=true) (h2:∀ i,i < L.length→∀ k,k < i→f (L.getD k d) ≠ f (L.getD i d)):Bare.aloneB (L.map f)=true:=by
 refine (aloneB_iff _).2 ⟨?_,fun k hk=>?_⟩
 ·rw [List.nodup_iff_pairwise_ne]
  refine List.pairwise_iff_getElem.2 fun i j hi hj hij=>?_
  rw [List.length_map] at hi hj
  have:=h2 j hj i hij
  rw [List.getD_eq_getElem?_getD,List.getD_eq_getElem?_getD,List.getElem?_eq_getElem hi,List.getElem?_eq_getElem hj] at this
  simpa using this
 ·obtain ⟨x,hx,rfl⟩:=List.mem_map.1 hk
  obtain ⟨i,hi,rfl⟩:=List.mem_iff_getElem.1 hx
  have:=h1 i hi
  rw [List.getD_eq_getElem?_getD,List.getElem?_eq_getElem hi] at this
  exact this
theorem params_no1 {L:List Bare.Par} {i:Nat} (hi:i < L.length) (h:Bare.keyB (L.getD i noP).key=false):Bare.paramsB L=false:=by
 unfold Bare.paramsB
 rw [alone_no (get_map (·.key) L noP i hi) h,Bool.false_and]
theorem params_no2 {L:List Bare.Par} {i:Nat} (hi:i < L.length) (h:Bare.rightI (L.getD i noP).bare=false):Bare.paramsB L=false:=by
 unfold Bare.paramsB
 have:(L.all fun p=>Bare.rightI p.bare)=false:=by
  rw [List.all_eq_false]
  exact ⟨_,getD_mem hi,by rw [h];decide⟩
 rw [this,Bool.and_false]
theorem params_no3 {L:List Bare.Par} {i k:Nat} (hi:i < L.length) (hk:k < i) (h:(L.getD k noP).key=(L.getD i noP).key):Bare.paramsB L=false:=by
 unfold Bare.paramsB
 rw [alone_dup2 (·.key) L noP i k hi hk h,Bool.false_and]
theorem params_yes {L:List Bare.Par} (h1:∀ i,i < L.length→Bare.keyB (L.getD i noP).key=true∧Bare.rightI (L.getD i noP).bare=true) (h2:∀ i,i < L.length→∀ k,k < i→(L.getD k noP).key ≠ (L.getD i noP).key):Bare.paramsB L=true:=by
 unfold Bare.paramsB
 rw [alone_yes (·.key) L noP (fun i hi=>(h1 i hi).1) h2,Bool.true_and,List.all_eq_true]
 intro p hp
 obtain ⟨i,hi,rfl⟩:=List.mem_iff_getElem.1 hp
 have:=(h1 i hi).2
 rw [List.getD_eq_getElem?_getD,List.getElem?_eq_getElem hi] at this
 exact this
def ParS (L:List Bare.Par):Prop:=L.length ≤ 1000000∧∀ p ∈ L,p.key.length ≤ 100000000∧p.bare.text.length ≤ 100000000
theorem params_r13 {τ:Bool} (v:Value) (L:List Bare.Par) (w:World) (h:RdP τ w v L) (hs:ParS L) :
  Calls Tryz.prog 124 #[v] w fun e w'=>e = .returned (.bool (Bare.paramsB L))∧New w w':=by
 have HD:=Lib.hid h.1
 obtain ⟨ao,cap,rfl⟩:=h.slice
 obtain ⟨n,hn⟩:∃ n,L.length=n:=⟨_,rfl⟩
 have HN:=Lib.hid hn
 have HSz:=Lib.hid hs.2
 have hn6:n ≤ 1000000:=by rw [← hn];exact hs.1
 rw [hn] at HD ⊢
 obtain ⟨r,hr⟩:∃ r,Bare.paramsB L=r:=⟨_,rfl⟩
 have HR:=Lib.hid hr
 rw [hr]
 clear h hn hr hs
 go_enter Tryz.func124,Tryz.ntmps124
 go_upto_region 2 with fail
 go_loopw [3] (fun t wr=>∃ i:Nat,i ≤ n∧t = .int .i64 i∧Hid (∀ j,j < i→(Bare.keyB (L.getD j noP).key=true∧Bare.rightI (L.getD j noP).bare=true)∧∀ k,k < j→(L.getD k noP).key ≠ (L.getD j noP).key)∧New w wr) (fun t _=>n - (intOf t).toNat)
 case atStart=>exact ⟨0,Nat.zero_le _,rfl,Lib.hid (fun j hj=>by omega),Mods.refl _ _⟩
 case round =>
  obtain ⟨i,hi,rfl,HB,hN⟩:=hrel
  by_cases hlt:i < n
  ·have hid:decide ((i:Int) < (n:Int))=true:=decide_eq_true (by omega)
   have hiL:i < L.length:=by rw [HN.out];exact hlt
   obtain ⟨b,o,rfl,hrow⟩:=(RowR.new HD.out hN).at.2.2 i hlt
   obtain ⟨x,hx⟩:∃ x,L.getD i noP=x:=⟨_,rfl⟩
   have hrow:wr.rangeAt b (o + i * 5) (pcs x):=by rw [← hx];exact hrow
   have q0:wr.cell? ⟨b,o + i * 5,none⟩=some (.string (tx x.key)):=hrow 0 _ rfl
   have q1:wr.cell? ⟨b,o + i * 5 + 1,none⟩=some (.int .u8 x.bare.kind):=hrow 1 _ rfl
   have q2:wr.cell? ⟨b,o + i * 5 + 2,none⟩=some (.int .i64 x.bare.int):=hrow 2 _ rfl
   have q3:wr.cell? ⟨b,o + i * 5 + 3,none⟩=some (.string (tx x.bare.text)):=hrow 3 _ rfl
   have q4:wr.cell? ⟨b,o + i * 5 + 4,none⟩=some (.bool x.bare.yes):=hrow 4 _ rfl
   obtain ⟨z1,z2⟩:=HSz.out x (by rw [← hx];exact getD_mem hiL)
   have HK:=Lib.hid (fun W=>key_r13 (tx x.key) W (by rw [tx_size];omega))
   have HRt:=Lib.hid (fun W=>right_r x.bare z2 W)
   rw [bl_tx] at HK
   unfold bv bcs at HRt
   obtain ⟨kx,hkx⟩:∃ s,tx x.key=s:=⟨_,rfl⟩
   obtain ⟨tt,htt⟩:∃ s,tx x.bare.text=s:=⟨_,rfl⟩
   rw [hkx] at q0 HK
   rw [htt] at q3 HRt
   have HX:=Lib.hid hx
   have HKX:=Lib.hid hkx
   clear hrow hx hkx htt z1 z2
   cases hky:Bare.keyB x.key with
   | false =>
    obtain rfl:false=r:=by rw [← HR.out];exact (params_no1 hiL (by rw [HX.out];exact hky)).symm
    rw [hky] at HK
    clear hky HB
    go_wp2_with fail
    refine (HK.out _).mono ?_
    rintro e w1 ⟨rfl,rfl⟩
    go_wp2_with fail
    go_ret
    exact ⟨rfl,hN⟩
   | true =>
   rw [hky] at HK
   go_wp2_with fail
   refine (HK.out _).mono ?_
   rintro e w1 ⟨rfl,hw1⟩
   obtain rfl:=hw1.symm
   go_wp2_with fail
   refine (HRt.out _).mono ?_
   rintro e w2 ⟨rfl,hk2⟩
   have hN2:=hN.trans hk2
   cases hrt:Bare.rightI x.bare with
   | false =>
    obtain rfl:false=r:=by rw [← HR.out];exact (params_no2 hiL (by rw [HX.out];exact hrt)).symm
    clear hrt hky HB
    go_wp2_with fail
    go_ret
    exact ⟨rfl,hN2⟩
   | true =>
   have HKr:=Lib.hid (And.intro hky hrt)
   clear hky hrt hN hk2 q0 q1 q2 q3 q4 HK HRt
   go_upto_region 7 with fail
   go_loopw [4] (fun t wi=>∃ k:Nat,k ≤ i∧t = .int .i64 k∧Hid (∀ j,j < k→(L.getD j noP).key ≠ x.key)∧New w wi) (fun t _=>i - (intOf t).toNat)
   case atStart=>exact ⟨0,Nat.zero_le _,rfl,Lib.hid (fun j hj=>by omega),hN2⟩
   case round =>
    obtain ⟨k,hk,rfl,HBk,hNk⟩:=hrel
    by_cases hki:k < i
    ·have hkd:decide ((k:Int) < (i:Int))=true:=decide_eq_true (by omega)
     obtain ⟨b2,o2,e2,hrow⟩:=(RowR.new HD.out hNk).at.2.2 k (by omega)
     cases e2
     obtain ⟨b3,o3,e3,hrow3⟩:=(RowR.new HD.out hNk).at.2.2 i hlt
     cases e3
     have c0:wr.cell? ⟨b,o + k * 5,none⟩=some (.string (tx (L.getD k noP).key)):=hrow 0 _ rfl
     have c1:wr.cell? ⟨b,o + i * 5,none⟩=some (.string (tx (L.getD i noP).key)):=hrow3 0 _ rfl
     rw [HX.out,HKX.out] at c1
     have he:=eq_tx (tx (L.getD k noP).key) kx
     rw [bl_tx,← HKX.out,bl_tx,HKX.out] at he
     obtain ⟨ka,hka⟩:∃ s,tx (L.getD k noP).key=s:=⟨_,rfl⟩
     rw [hka] at c0 he
     clear hrow hrow3 hka
     go_upto_region 9 with fail
     refine piece (fun _=>_) (params9 _ rfl wr rfl rfl rfl c0 c1 (by omega) hlt (decide_eq_true (by omega)) hid he) ?_
     rintro a' w5 ⟨zg,rfl,hN5⟩
     simp only [pS]
     by_cases heq:(L.getD k noP).key=x.key
     ·obtain rfl:false=r:=by rw [← HR.out];exact (params_no3 hiL hki (by rw [HX.out];exact heq)).symm
      rw [decide_eq_true heq]
      clear heq he HB HBk c0 c1
      go_wp2_with fail
      go_ret
      exact ⟨rfl,hNk.trans hN5⟩
     ·have HB2:Hid (∀ j,j < k + 1→(L.getD j noP).key ≠ x.key):=Lib.hid (fun j hj=>by
       by_cases e:j < k
       ·exact HBk.out j e
       ·obtain rfl:j=k:=by omega
        exact heq)
      rw [decide_eq_false heq]
      clear heq he HBk c0 c1
      go_wp2_with fail
      go_roundw
      case rel=>exact ⟨k + 1,by omega,by go_num,HB2,hNk.trans hN5⟩
      case measure=>simp [intOf];omega
    ·obtain rfl:k=i:=by omega
     have hkd:decide ((k:Int) < (k:Int))=false:=decide_eq_false (by omega)
     have HB2:Hid (∀ j,j < k + 1→(Bare.keyB (L.getD j noP).key=true∧Bare.rightI (L.getD j noP).bare=true)∧∀ k,k < j→(L.getD k noP).key ≠ (L.getD j noP).key):=Lib.hid (fun j hj=>by
      by_cases e:j < k
      ·exact HB.out j e
      ·obtain rfl:j=k:=by omega
       rw [HX.out]
       exact ⟨HKr.out,HBk.out⟩)
     clear HB HBk
     go_wp2_with fail
     go_roundw
     case rel=>exact ⟨k + 1,by omega,by go_num,HB2,hNk⟩
     case measure=>simp [intOf];omega
  ·obtain rfl:i=n:=by omega
   have hid:decide ((i:Int) < (i:Int))=false:=decide_eq_false (by omega)
   obtain rfl:true=r:=by
    rw [← HR.out]
    exact (params_yes (fun j hj=>(HB.out j (by rw [HN.out] at hj;exact hj)).1) (fun j hj=>(HB.out j (by rw [HN.out] at hj;exact hj)).2)).symm
   clear HB
   go_wp2_with fail
   go_ret
   exact ⟨rfl,hN⟩


def MemS (m:Bare.Mem):Prop:=m.key.length ≤ 100000000∧ParS m.params∧m.items.length ≤ 1000000∧∀ x ∈ m.items,x.bare.text.length ≤ 100000000∧ParS x.params
theorem mfacts {W:World} {B:Nat} {a b c d:Value} (h:W.heap[B]? = some (.cells #[a,b,c,d] 64 (0,0))):W.cell? ⟨B,0,none⟩=some a∧W.cell? ⟨B,1,none⟩=some b∧W.cell? ⟨B,2,none⟩=some c∧W.cell? ⟨B,3,none⟩=some d :=
 ⟨cell_of_row _ _ 0 _ _ _ h,cell_of_row _ _ 1 _ _ _ h,cell_of_row _ _ 2 _ _ _ h,cell_of_row _ _ 3 _ _ _ h⟩
theorem member_r13 {τ:Bool} (m:Bare.Mem) (iv pv:Value) (w:World) (hI:RdI τ w iv m.items) (hP:RdP τ w pv m.params) (hs:MemS m) :
  Calls Tryz.prog 74 #[.agg (mcs m iv pv).toArray] w fun e w'=>e = .returned (.bool (Bare.keyB m.key && Bare.memB m))∧New w w':=by
 obtain ⟨hs1,hs2,hs3,hs4⟩:=hs
 have HP:=Lib.hid (fun W (hN:New w W)=>params_r13 pv m.params W (hP.new hN) hs2)
 have HK:=Lib.hid (fun W=>key_r13 (tx m.key) W (by rw [tx_size];omega))
 rw [bl_tx] at HK
 obtain ⟨pi,hIr,-,hIp⟩:=hI
 obtain ⟨ia,ic,rfl⟩:=hIr.slice
 obtain ⟨pa,pc,rfl⟩:=hP.slice
 have HI:=Lib.hid hIr
 have HQ:=Lib.hid (fun W (hN:New w W) i (hi:i < m.items.length)=>params_r13 (pi i) (m.items.getD i Bare.noI).params W ((hIp i hi).new hN) (hs4 _ (getD_mem hi)).2)
 have HR:=Lib.hid (fun W i (hi:i < m.items.length)=>right_r (m.items.getD i Bare.noI).bare (hs4 _ (getD_mem hi)).1 W)
 have HSl:=Lib.hid (fun i (hi:i < m.items.length)=>(hIp i hi).slice)
 obtain ⟨ni,hni⟩:∃ n,m.items.length=n:=⟨_,rfl⟩
 obtain ⟨np,hnp⟩:∃ n,m.params.length=n:=⟨_,rfl⟩
 have HNi:=Lib.hid hni
 have hni6:ni ≤ 1000000:=by omega
 have HMem:Hid (Bare.memB m=((m.inner || (decide (ni=1) && decide (np=0))) && (Bare.paramsB m.params && m.items.all Bare.itemB))):=Lib.hid (by
  unfold Bare.memB
  rw [hni,← hnp]
  congr 3
  cases m.params <;> rfl)
 unfold mcs at *
 rw [hni] at HI HQ HR HSl ⊢
 rw [hnp] at HP ⊢
 obtain ⟨kx,hkx⟩:∃ s,tx m.key=s:=⟨_,rfl⟩
 obtain ⟨inn,hinn⟩:∃ b,m.inner=b:=⟨_,rfl⟩
 obtain ⟨kb,hkb⟩:∃ b,Bare.keyB m.key=b:=⟨_,rfl⟩
 obtain ⟨pb,hpb⟩:∃ b,Bare.paramsB m.params=b:=⟨_,rfl⟩
 rw [hkx] at HK ⊢
 rw [hinn,hpb] at HMem
 rw [hkb] at HK ⊢
 rw [hinn]
 rw [hpb] at HP
 obtain ⟨r,hr⟩:∃ r,(kb && Bare.memB m)=r:=⟨_,rfl⟩
 have HRr:=Lib.hid hr
 rw [hr]
 clear hs1 hs2 hs3 hs4 hIr hIp hP hni hnp hkx hinn hkb hpb hr
 go_enter Tryz.func74,Tryz.ntmps74
 obtain ⟨W1,B,hW1,hB,rB,hN⟩:∃ V X,w.alloc (.cells #[.string kx,.bool inn,.slice ia ni ic,.slice pa np pc] 64)=V∧w.heap.size=X∧V.heap[X]? = some (.cells #[.string kx,.bool inn,.slice ia ni ic,.slice pa np pc] 64 (0,0))∧New w V:=⟨_,_,rfl,rfl,World.alloc_heap_new _ _,(Mods.refl _ _).alloc _⟩
 go_upto_region 1 with fail
 clear hW1 hB
 go_cut [30] from 4 (fun a wx=>∃ bb,a = .bool bb∧Hid (bb=true→r=false)∧Hid (bb=false→m.items.all Bare.itemB=r)∧New W1 wx)
 case first =>
  obtain ⟨c0,c1,c2,c3⟩:=mfacts rB
  go_wp2_with fail
  refine (HK.out _).mono ?_
  rintro e w1 ⟨rfl,hw1⟩
  obtain rfl:=hw1.symm
  clear hw1
  cases kb with
  | false =>
   have HF:Hid (false=r):=Lib.hid (by rw [← HRr.out];rfl)
   go_wp2_with fail
   go_meet
   exact ⟨true,rfl,Lib.hid (fun _=>HF.out.symm),Lib.hid (fun h=>by cases h),Mods.refl _ _⟩
  | true =>
  go_wp2_with fail
  refine (HP.out _ hN).mono ?_
  rintro e w2 ⟨rfl,hk⟩
  replace rB:=hk.heap rB id
  clear c0 c1 c2 c3 HK HP
  obtain ⟨c0,c1,c2,c3⟩:=mfacts rB
  cases pb with
  | false =>
   have HF:Hid (false=r):=Lib.hid (by rw [← HRr.out];rw [HMem.out];simp)
   go_wp2_with fail
   go_meet
   exact ⟨true,rfl,Lib.hid (fun _=>HF.out.symm),Lib.hid (fun h=>by cases h),hk⟩
  | true =>
  have hnb:Hid (inn=false→¬ (ni=1∧np=0)→r=false):=Lib.hid (by
   rintro rfl h
   rw [← HRr.out,HMem.out]
   have:(decide (ni=1) && decide (np=0))=false:=by
    rw [Bool.and_eq_false_iff,decide_eq_false_iff_not,decide_eq_false_iff_not]
    omega
   rw [this];rfl)
  have hgo:Hid ((inn=true ∨ (ni=1∧np=0))→m.items.all Bare.itemB=r):=Lib.hid (by
   intro h
   rw [← HRr.out,HMem.out]
   have:(inn || (decide (ni=1) && decide (np=0)))=true:=by
    rcases h with rfl | ⟨rfl,rfl⟩
    ·rfl
    ·simp
   rw [this];simp)
  cases inn with
  | true =>
   have HF:=Lib.hid (hgo.out (.inl rfl))
   go_wp2_with fail
   go_meet
   exact ⟨false,rfl,Lib.hid (fun h=>by cases h),Lib.hid (fun _=>HF.out),hk⟩
  | false =>
   by_cases h1:ni=1
   ·have hd1:((ni:Int) != 1)=false:=by simp [h1]
    by_cases h2:0 < np
    ·have HF:=Lib.hid (hnb.out rfl (by omega))
     have hd2:decide ((0:Int) < (np:Int))=true:=decide_eq_true (by omega)
     clear h1 hnb hgo
     go_wp2_with fail
     go_meet
     exact ⟨true,rfl,Lib.hid (fun _=>HF.out),Lib.hid (fun h=>by cases h),hk⟩
    ·have HF:=Lib.hid (hgo.out (.inr ⟨h1,by omega⟩))
     have hd2:decide ((0:Int) < (np:Int))=false:=decide_eq_false (by omega)
     clear h1 hnb hgo
     go_wp2_with fail
     go_meet
     exact ⟨false,rfl,Lib.hid (fun h=>by cases h),Lib.hid (fun _=>HF.out),hk⟩
   ·have hd1:((ni:Int) != 1)=true:=by simp;omega
    have HF:=Lib.hid (hnb.out rfl (by omega))
    clear h1 hnb hgo
    go_wp2_with fail
    go_meet
    exact ⟨true,rfl,Lib.hid (fun _=>HF.out),Lib.hid (fun h=>by cases h),hk⟩
 case rest =>
  obtain ⟨bb,rfl,HT,HFl,hk⟩:=hcut
  replace hN:=hN.trans hk
  replace rB:=hk.heap rB id
  cases bb with
  | true =>
   obtain rfl:=HT.out rfl
   clear HT HFl
   go_wp2_with fail
   go_ret
   exact ⟨rfl,hN⟩
  | false =>
  have HA:=Lib.hid (HFl.out rfl)
  have HB:=Lib.hid rB
  clear HT HFl rB hk HK HP
  go_upto_region 4 with fail
  go_loopw [3] (fun t wr=>∃ i:Nat,i ≤ ni∧t = .int .i64 i∧Hid (∀ j,j < i→Bare.itemB (m.items.getD j Bare.noI)=true)∧New wc wr) (fun t _=>ni - (intOf t).toNat)
  case atStart=>exact ⟨0,Nat.zero_le _,rfl,Lib.hid (fun j hj=>by omega),Mods.refl _ _⟩
  case round =>
   obtain ⟨i,hi,rfl,HBf,hNr⟩:=hrel
   have rB:=hNr.heap HB.out id
   obtain ⟨-,-,c2,-⟩:=mfacts rB
   by_cases hlt:i < ni
   ·have hid:decide ((i:Int) < (ni:Int))=true:=decide_eq_true (by omega)
    have hiL:i < m.items.length:=by rw [HNi.out];exact hlt
    have hro:=RowR.new HI.out (hN.trans hNr)
    obtain ⟨b,o,rfl,hrow⟩:=hro.at.2.2 i hlt
    obtain ⟨qa,qc,hq⟩:=HSl.out i hlt
    have HQi:=Lib.hid (fun W hN=>HQ.out W hN i hlt)
    have HRi:=Lib.hid (fun W=>HR.out W i hlt)
    obtain ⟨x,hx⟩:∃ x,m.items.getD i Bare.noI=x:=⟨_,rfl⟩
    rw [hq] at HQi
    rw [hx] at HQi HRi
    have hrow:wr.rangeAt b (o + i * 5) (ics x (.slice qa x.params.length qc)):=by rw [← hx,← hq];exact hrow
    have q0:wr.cell? ⟨b,o + i * 5,none⟩=some (.int .u8 x.bare.kind):=hrow 0 _ rfl
    have q1:wr.cell? ⟨b,o + i * 5 + 1,none⟩=some (.int .i64 x.bare.int):=hrow 1 _ rfl
    have q2:wr.cell? ⟨b,o + i * 5 + 2,none⟩=some (.string (tx x.bare.text)):=hrow 2 _ rfl
    have q3:wr.cell? ⟨b,o + i * 5 + 3,none⟩=some (.bool x.bare.yes):=hrow 3 _ rfl
    have q4:wr.cell? ⟨b,o + i * 5 + 4,none⟩=some (.slice qa x.params.length qc):=hrow 4 _ rfl
    unfold bv bcs at HRi
    obtain ⟨pl,hpl⟩:∃ n,x.params.length=n:=⟨_,rfl⟩
    obtain ⟨tt,htt⟩:∃ s,tx x.bare.text=s:=⟨_,rfl⟩
    obtain ⟨rb,hrb⟩:∃ v,Bare.rightI x.bare=v:=⟨_,rfl⟩
    obtain ⟨pb2,hpb2⟩:∃ v,Bare.paramsB x.params=v:=⟨_,rfl⟩
    rw [htt] at q2 HRi
    rw [hpl] at q4 HQi
    rw [hrb] at HRi
    rw [hpb2] at HQi
    have HIt:Hid (Bare.itemB (m.items.getD i Bare.noI)=(rb && pb2)):=Lib.hid (by rw [hx];unfold Bare.itemB;rw [hrb,hpb2])
    clear hrow hro hq hx hpl htt hrb hpb2
    go_wp2_with fail
    refine (HRi.out _).mono ?_
    rintro e w3 ⟨rfl,hk3⟩
    have q4':=hk3.cell q4 id
    have c2':=hk3.cell c2 id
    have hNw3:=(hN.trans hNr).trans hk3
    have hNc3:=hNr.trans hk3
    clear q0 q1 q2 q3 q4 c2 rB
    cases rb with
    | false =>
     obtain rfl:false=r:=by
      rw [← HA.out,eq_comm,List.all_eq_false]
      exact ⟨_,getD_mem hiL,by rw [HIt.out];simp⟩
     clear HBf
     go_wp2_with fail
     go_ret
     exact ⟨rfl,hNw3⟩
    | true =>
    go_wp2_with fail
    refine (HQi.out _ hNw3).mono ?_
    rintro e w4 ⟨rfl,hk4⟩
    cases pb2 with
    | false =>
     obtain rfl:false=r:=by
      rw [← HA.out,eq_comm,List.all_eq_false]
      exact ⟨_,getD_mem hiL,by rw [HIt.out];simp⟩
     clear HBf
     go_wp2_with fail
     go_ret
     exact ⟨rfl,hNw3.trans hk4⟩
    | true =>
    have HB2:Hid (∀ j,j < i + 1→Bare.itemB (m.items.getD j Bare.noI)=true):=Lib.hid (fun j hj=>by
     by_cases e:j < i
     ·exact HBf.out j e
     ·obtain rfl:j=i:=by omega
      exact HIt.out)
    clear HBf
    go_wp2_with fail
    go_roundw
    case rel=>exact ⟨i + 1,by omega,by go_num,HB2,hNc3.trans hk4⟩
    case measure=>simp [intOf];omega
   ·obtain rfl:i=ni:=by omega
    have hid:decide ((i:Int) < (i:Int))=false:=decide_eq_false (by omega)
    obtain rfl:true=r:=by
     rw [← HA.out,eq_comm,List.all_eq_true]
     intro x hx
     obtain ⟨j,hj,rfl⟩:=List.mem_iff_getElem.1 hx
     have:=HBf.out j (by rw [← HNi.out];exact hj)
     rw [List.getD_eq_getElem?_getD,List.getElem?_eq_getElem hj] at this
     exact this
    clear HBf
    go_wp2_with fail
    go_ret
    exact ⟨rfl,hN.trans hNr⟩


theorem litj33 (t:Array Value) (h:t.size=33):∃ u:Nat→Value,t=(u 0::u 1::u 2::u 3::u 4::u 5::u 6::u 7::u 8::u 9::u 10::u 11::u 12::u 13::u 14::u 15::u 16::u 17::u 18::u 19::u 20::u 21::u 22::u 23::u 24::u 25::u 26::u 27::u 28::u 29::u 30::u 31::u 32::([]:List Value)).toArray:=⟨fun i=>t.getD i undef,range_lit t 33 h⟩
noncomputable def reg_causeyref13_Right_9:Code:=((Tryz.f30.body.bind (regionOf 9)).getD .skip)
theorem right9r (t:Array Value) (hs:t.size=33) (w:World) {b o n cap i k:Nat} {ka kb:ByteArray} {y:Bool}
  (hq0:t.getD 0 undef = .slice (some ⟨b,o,none⟩) n cap)
  (hq3:t.getD 3 undef = .int .i64 i)
  (hq4:t.getD 4 undef = .int .i64 k)
  (c0:w.cell? ⟨b,o + k * 4,none⟩=some (.string ka)) (c1:w.cell? ⟨b,o + i * 4,none⟩=some (.string kb)) (hk:k < n) (hi:i < n) (hkd:decide ((k:Int) < (n:Int))=true) (hid:decide ((i:Int) < (n:Int))=true) (he:(ka.toList == kb.toList)=y) :
  reg_causeyref13_Right_9.wp Tryz.prog (Only fun a' W'=>∃ z:Nat→Value,a'=⟨((pz t z [22,23,24,25,26,27,28,29,30,31]).setIfInBounds 32 (.bool y)),[]⟩∧New w W') ⟨t,[]⟩ w:=by
 conv=>arg 2;whnf
 obtain ⟨u,rfl⟩:=litj33 t hs
 have hq0:u 0 = _:=hq0
 have hq3:u 3 = _:=hq3
 have hq4:u 4 = _:=hq4
 rw [hq0,hq3,hq4]
 clear hq0 hq3 hq4 hs
 refine wp_region_held (S:=fun W=>New w W) (by kernel_rfl) ?_
 show wpAnyH _ _ _ _ _ 11 _ _ w.drew
 have hN:New w w.drew:=(Mods.refl _ _).drew
 have hS:New w w.drew:=(Mods.refl _ _).drew
 refine tkI 0 (some 22) (.slice (some ⟨b,o,none⟩) n cap) hS ?_
 simp only [pS]
 refine tkI 1 (some 23) (.int .i64 k) hS ?_
 simp only [pS]
 refine tkI 2 (some 24) (.pointer (some ⟨b,o + k * 4,none⟩)) hS ?_
 simp only [pS]
 refine tkI 3 (some 25) (.pointer (some ⟨b,o + k * 4,none⟩)) hS ?_
 simp only [pS]
 refine tkA 4 rfl (some 26) (.string ka) (.inl ⟨by rfl,fun W hW=>by have q:=hW.cell c0 id;go_simp⟩) hS ?_
 simp only [pS]
 refine tkI 5 (some 27) (.slice (some ⟨b,o,none⟩) n cap) hS ?_
 simp only [pS]
 refine tkI 6 (some 28) (.int .i64 i) hS ?_
 simp only [pS]
 refine tkI 7 (some 29) (.pointer (some ⟨b,o + i * 4,none⟩)) hS ?_
 simp only [pS]
 refine tkI 8 (some 30) (.pointer (some ⟨b,o + i * 4,none⟩)) hS ?_
 simp only [pS]
 refine tkA 9 rfl (some 31) (.string kb) (.inl ⟨by rfl,fun W hW=>by have q:=hW.cell c1 id;go_simp⟩) hS ?_
 simp only [pS]
 refine tkI 10 (some 32) (.bool y) hS ?_
 simp only [pS]
 refine wpAnyH_done (by kernel_rfl) ?_ _
 exact zc rfl hN
theorem rightD_no1 {d:List Bare.Mem} {i:Nat} (hi:i < d.length) (h:(Bare.keyB (d.getD i noM).key && Bare.memB (d.getD i noM))=false):Bare.rightD d=false:=by
 unfold Bare.rightD
 rw [Bool.and_eq_false_iff] at h
 rcases h with h | h
 ·rw [alone_no (get_map (·.key) d noM i hi) h,Bool.false_and]
 ·have:(d.all Bare.memB)=false:=by
   rw [List.all_eq_false]
   exact ⟨_,getD_mem hi,by rw [h];decide⟩
  rw [this,Bool.and_false]
theorem rightD_no2 {d:List Bare.Mem} {i k:Nat} (hi:i < d.length) (hk:k < i) (h:(d.getD k noM).key=(d.getD i noM).key):Bare.rightD d=false:=by
 unfold Bare.rightD
 rw [alone_dup2 (·.key) d noM i k hi hk h,Bool.false_and]
theorem rightD_yes {d:List Bare.Mem} (h1:∀ i,i < d.length→(Bare.keyB (d.getD i noM).key && Bare.memB (d.getD i noM))=true) (h2:∀ i,i < d.length→∀ k,k < i→(d.getD k noM).key ≠ (d.getD i noM).key):Bare.rightD d=true:=by
 unfold Bare.rightD
 rw [alone_yes (·.key) d noM (fun i hi=>(Bool.and_eq_true_iff.1 (h1 i hi)).1) h2,Bool.true_and,List.all_eq_true]
 intro p hp
 obtain ⟨i,hi,rfl⟩:=List.mem_iff_getElem.1 hp
 have:=(Bool.and_eq_true_iff.1 (h1 i hi)).2
 rw [List.getD_eq_getElem?_getD,List.getElem?_eq_getElem hi] at this
 exact this
theorem right_r13 {τ:Bool} (v:Value) (d:List Bare.Mem) (w:World) (h:RdD τ w v d) (hd:d.length ≤ 1000000) (hs:∀ m ∈ d,MemS m) :
  Calls Tryz.prog 30 #[v] w fun e w'=>e = .returned (.bool (Bare.rightD d))∧New w w':=by
 obtain ⟨iv,pv,hrow,-,hip⟩:=h
 obtain ⟨ao,cap,rfl⟩:=hrow.slice
 have HD:=Lib.hid hrow
 have HM:=Lib.hid (fun W (hN:New w W) i (hi:i < d.length)=>member_r13 (d.getD i noM) (iv i) (pv i) W ((hip i hi).1.new hN) ((hip i hi).2.new hN) (hs _ (getD_mem hi)))
 have HIs:=Lib.hid (fun i (hi:i < d.length)=>(hip i hi).1.slice)
 have HPs:=Lib.hid (fun i (hi:i < d.length)=>(hip i hi).2.slice)
 obtain ⟨n,hn⟩:∃ n,d.length=n:=⟨_,rfl⟩
 have HN:=Lib.hid hn
 rw [hn] at HD HM HIs HPs hd ⊢
 obtain ⟨r,hr⟩:∃ r,Bare.rightD d=r:=⟨_,rfl⟩
 have HR:=Lib.hid hr
 rw [hr]
 clear hn hr hs hrow hip
 go_enter Tryz.func30,Tryz.ntmps30
 go_upto_region 2 with fail
 go_loopw [3] (fun t wr=>∃ i:Nat,i ≤ n∧t = .int .i64 i∧Hid (∀ j,j < i→(Bare.keyB (d.getD j noM).key && Bare.memB (d.getD j noM))=true∧∀ k,k < j→(d.getD k noM).key ≠ (d.getD j noM).key)∧New w wr) (fun t _=>n - (intOf t).toNat)
 case atStart=>exact ⟨0,Nat.zero_le _,rfl,Lib.hid (fun j hj=>by omega),Mods.refl _ _⟩
 case round =>
  obtain ⟨i,hi,rfl,HB,hN⟩:=hrel
  by_cases hlt:i < n
  ·have hid:decide ((i:Int) < (n:Int))=true:=decide_eq_true (by omega)
   have hiL:i < d.length:=by rw [HN.out];exact hlt
   obtain ⟨b,o,rfl,hrow⟩:=(RowR.new HD.out hN).at.2.2 i hlt
   have HMi:=Lib.hid (fun W hN=>HM.out W hN i hlt)
   obtain ⟨ja,jc,hj⟩:=HIs.out i hlt
   obtain ⟨pa,pc,hp⟩:=HPs.out i hlt
   obtain ⟨x,hx⟩:∃ x,d.getD i noM=x:=⟨_,rfl⟩
   rw [hj,hp,hx] at HMi
   have hrow:wr.rangeAt b (o + i * 4) (mcs x (.slice ja x.items.length jc) (.slice pa x.params.length pc)):=by rw [← hx,← hj,← hp];exact hrow
   have q0:wr.cell? ⟨b,o + i * 4,none⟩=some (.string (tx x.key)):=hrow 0 _ rfl
   have q1:wr.cell? ⟨b,o + i * 4 + 1,none⟩=some (.bool x.inner):=hrow 1 _ rfl
   have q2:wr.cell? ⟨b,o + i * 4 + 2,none⟩=some (.slice ja x.items.length jc):=hrow 2 _ rfl
   have q3:wr.cell? ⟨b,o + i * 4 + 3,none⟩=some (.slice pa x.params.length pc):=hrow 3 _ rfl
   unfold mcs at HMi
   obtain ⟨kx,hkx⟩:∃ s,tx x.key=s:=⟨_,rfl⟩
   obtain ⟨il,hil⟩:∃ s,x.items.length=s:=⟨_,rfl⟩
   obtain ⟨pl,hpl⟩:∃ s,x.params.length=s:=⟨_,rfl⟩
   obtain ⟨mb,hmb⟩:∃ s,(Bare.keyB x.key && Bare.memB x)=s:=⟨_,rfl⟩
   rw [hkx] at q0 HMi
   rw [hil] at q2 HMi
   rw [hpl] at q3 HMi
   rw [hmb] at HMi
   have HX:=Lib.hid hx
   have HKX:=Lib.hid hkx
   have HMB:=Lib.hid hmb
   clear hrow hx hkx hil hpl hmb hj hp
   go_wp2_with fail
   refine (HMi.out _ hN).mono ?_
   rintro e w1 ⟨rfl,hk1⟩
   have hN1:=hN.trans hk1
   clear q0 q1 q2 q3 hk1 hN HMi
   cases mb with
   | false =>
    obtain rfl:false=r:=by rw [← HR.out];exact (rightD_no1 hiL (by rw [HX.out];exact HMB.out)).symm
    clear HB
    go_wp2_with fail
    go_ret
    exact ⟨rfl,hN1⟩
   | true =>
   go_upto_region 7 with fail
   go_loopw [4] (fun t wi=>∃ k:Nat,k ≤ i∧t = .int .i64 k∧Hid (∀ j,j < k→(d.getD j noM).key ≠ x.key)∧New w wi) (fun t _=>i - (intOf t).toNat)
   case atStart=>exact ⟨0,Nat.zero_le _,rfl,Lib.hid (fun j hj=>by omega),hN1⟩
   case round =>
    obtain ⟨k,hk,rfl,HBk,hNk⟩:=hrel
    by_cases hki:k < i
    ·have hkd:decide ((k:Int) < (i:Int))=true:=decide_eq_true (by omega)
     obtain ⟨b2,o2,e2,hrow⟩:=(RowR.new HD.out hNk).at.2.2 k (by omega)
     cases e2
     obtain ⟨b3,o3,e3,hrow3⟩:=(RowR.new HD.out hNk).at.2.2 i hlt
     cases e3
     have c0:wr.cell? ⟨b,o + k * 4,none⟩=some (.string (tx (d.getD k noM).key)):=hrow 0 _ rfl
     have c1:wr.cell? ⟨b,o + i * 4,none⟩=some (.string (tx (d.getD i noM).key)):=hrow3 0 _ rfl
     rw [HX.out,HKX.out] at c1
     have he:=eq_tx (tx (d.getD k noM).key) kx
     rw [bl_tx,← HKX.out,bl_tx,HKX.out] at he
     obtain ⟨ka,hka⟩:∃ s,tx (d.getD k noM).key=s:=⟨_,rfl⟩
     rw [hka] at c0 he
     clear hrow hrow3 hka
     go_upto_region 9 with fail
     refine piece (fun _=>_) (right9r _ rfl wr rfl rfl rfl c0 c1 (by omega) hlt (decide_eq_true (by omega)) hid he) ?_
     rintro a' w5 ⟨zg,rfl,hN5⟩
     simp only [pS]
     by_cases heq:(d.getD k noM).key=x.key
     ·obtain rfl:false=r:=by rw [← HR.out];exact (rightD_no2 hiL hki (by rw [HX.out];exact heq)).symm
      rw [decide_eq_true heq]
      clear heq he HB HBk c0 c1
      go_wp2_with fail
      go_ret
      exact ⟨rfl,hNk.trans hN5⟩
     ·have HB2:Hid (∀ j,j < k + 1→(d.getD j noM).key ≠ x.key):=Lib.hid (fun j hj=>by
       by_cases e:j < k
       ·exact HBk.out j e
       ·obtain rfl:j=k:=by omega
        exact heq)
      rw [decide_eq_false heq]
      clear heq he HBk c0 c1
      go_wp2_with fail
      go_roundw
      case rel=>exact ⟨k + 1,by omega,by go_num,HB2,hNk.trans hN5⟩
      case measure=>simp [intOf];omega
    ·obtain rfl:k=i:=by omega
     have hkd:decide ((k:Int) < (k:Int))=false:=decide_eq_false (by omega)
     have HB2:Hid (∀ j,j < k + 1→(Bare.keyB (d.getD j noM).key && Bare.memB (d.getD j noM))=true∧∀ k,k < j→(d.getD k noM).key ≠ (d.getD j noM).key):=Lib.hid (fun j hj=>by
      by_cases e:j < k
      ·exact HB.out j e
      ·obtain rfl:j=k:=by omega
       rw [HX.out]
       exact ⟨HMB.out,HBk.out⟩)
     clear HB HBk
     go_wp2_with fail
     go_roundw
     case rel=>exact ⟨k + 1,by omega,by go_num,HB2,hNk⟩
     case measure=>simp [intOf];omega
  ·obtain rfl:i=n:=by omega
   have hid:decide ((i:Int) < (i:Int))=false:=decide_eq_false (by omega)
   obtain rfl:true=r:=by
    rw [← HR.out]
    exact (rightD_yes (fun j hj=>(HB.out j (by rw [HN.out] at hj;exact hj)).1) (fun j hj=>(HB.out j (by rw [HN.out] at hj;exact hj)).2)).symm
   clear HB
   go_wp2_with fail
   go_ret
   exact ⟨rfl,hN⟩


def WtD (w0:World) (base:Nat) (W:World) (v:Value) (d:List Bare.Mem):Prop:=∃ iv pv:Nat→Value,OwM base W v d.length (fun i=>mcs (d.getD i noM) (iv i) (pv i))∧∀ i,i < d.length→(RdI true W (iv i) (d.getD i noM).items∧RdP true W (pv i) (d.getD i noM).params) ∨ (RdI false w0 (iv i) (d.getD i noM).items∧RdP false w0 (pv i) (d.getD i noM).params)
theorem RdP.weak {τ:Bool} {W:World} {v:Value} {L:List Bare.Par} (h:RdP τ W v L):RdP false W v L:=⟨h.1,tag_none⟩
theorem RdI.weak {τ:Bool} {W:World} {v:Value} {L:List Bare.Itm} (h:RdI τ W v L):RdI false W v L:=by
 obtain ⟨pv,h1,-,h3⟩:=h
 exact ⟨pv,h1,tag_none,fun i hi=>(h3 i hi).weak⟩
section
variable {w0:World} {base:Nat} {W:World} {v:Value} {d:List Bare.Mem}
theorem WtD.of (h:OwD base W v d):WtD w0 base W v d:=by
 obtain ⟨iv,pv,h1,h2⟩:=h
 exact ⟨iv,pv,h1,fun i hi=>.inl (h2 i hi)⟩
theorem WtD.new {W':World} (h:WtD w0 base W v d) (hN:New W W'):WtD w0 base W' v d:=by
 obtain ⟨iv,pv,h1,h2⟩:=h
 exact ⟨iv,pv,h1.new hN,fun i hi=>(h2 i hi).imp (fun q=>⟨q.1.new hN,q.2.new hN⟩) id⟩
theorem WtD.slice (h:WtD w0 base W v d):∃ ao cap,v = .slice ao d.length cap:=by
 obtain ⟨iv,pv,h1,h2⟩:=h
 exact h1.slice
theorem WtD.lt (h:WtD w0 base W v d) {g:Nat} (hg:v.ownBlock=some g):base ≤ g∧g < W.heap.size:=by
 obtain ⟨iv,pv,h1,h2⟩:=h
 exact h1.lt hg
theorem WtD.tag (h:WtD w0 base W v d):TagAt W v 64:=by
 obtain ⟨iv,pv,h1,h2⟩:=h
 exact h1.tag
theorem WtD.reads (h:WtD w0 base W v d) (hN:New w0 W) (hl:d.length ≤ 2000000):RdD false W v d:=by
 obtain ⟨iv,pv,h1,h2⟩:=h
 refine ⟨iv,pv,h1.row (by omega),tag_none,fun i hi=>?_⟩
 rcases h2 i hi with ⟨a,b⟩ | ⟨a,b⟩
 ·exact ⟨a.weak,b.weak⟩
 ·exact ⟨a.new hN,b.new hN⟩
end
theorem run_append_Wt {o:Oper} {a:Act} {w0 w W:World} {s x:Operand} {base:Nat} {v:Value} {d:List Bare.Mem} {m:Bare.Mem} {ia pa:Option Addr} {il ic pl pc:Nat} (hop:o.op = .call { callee:=.builtin .append,args:=#[s,x],argTypes:=#[51,51] })
  (hs:a.eval s=v) (hx:a.eval x = .slice (some ⟨w.heap.size,0,none⟩) 1 1) (hW:w.alloc (.cells (mcs m (.slice ia il ic) (.slice pa pl pc)).toArray 64)=W) (hown:WtD w0 base w v d) (hi:RdI false w0 (.slice ia il ic) m.items) (hp:RdP false w0 (.slice pa pl pc) m.params) (hn:d.length ≤ 2000000) (hbase:base ≤ w.heap.size) :
  ∃ v' W',(execOp a.eval o).run Tryz.prog W = .ok (.value v') W'∧WtD w0 base W' v' (d ++ [m])∧∀ (v0:World) (S:Nat→Prop),Mods S v0 w→(∀ g,v.ownBlock=some g→v0.heap.size ≤ g ∨ S g)→Mods S v0 W':=by
 have h0:=hown
 obtain ⟨iv,pv,h1,h2⟩:=hown
 obtain ⟨v',W',hr,ho,hm⟩:=run_append_M hop hs hx hW rfl (mcs_one _ _ _ _ _ _ _ _) h1 hn hbase
 refine ⟨v',W',hr,?_,hm⟩
 have hmm:=hm w (fun b=>v.ownBlock=some b) (Mods.refl _ _) (fun g hg=>.inr hg)
 have htag:=h0.tag
 have hfar:FarI w (fun b=>v.ownBlock=some b):=fun g cs t fr hg hc=>by
  obtain ⟨cs',fr',hc'⟩:=htag g hg
  rw [hc'] at hc;cases hc;decide
 refine ⟨fun i=>if i=d.length then .slice ia il ic else iv i,fun i=>if i=d.length then .slice pa pl pc else pv i,?_,fun i hi'=>?_⟩
 ·rw [List.length_append]
  refine ho.congr (fun _=>rfl) fun i hi=>?_
  dsimp only
  rw [getD_snoc]
  by_cases e:i=d.length
  ·subst e;rw [if_pos rfl,if_neg (by omega),if_pos rfl,if_pos rfl,if_pos rfl]
  ·rw [if_neg e,if_pos (by omega),if_neg e,if_neg e]
 ·dsimp only
  rw [getD_snoc]
  rw [List.length_append] at hi'
  have hi':i < d.length + 1:=hi'
  by_cases e:i=d.length
  ·subst e;rw [if_pos rfl,if_neg (by omega),if_pos rfl,if_pos rfl];exact .inr ⟨hi,hp⟩
  ·rw [if_neg e,if_pos (by omega),if_neg e];exact (h2 i (by omega)).imp (fun q=>⟨q.1.far hmm hfar,q.2.far hmm hfar⟩) id
theorem wpList_append_Wt {ops:Array Oper} {Q:Exit→Act→World→Prop} {rest:List Oper} {o:Oper} {a:Act} {w0 w W:World} (s x:Operand) {base:Nat} {v:Value} {d:List Bare.Mem} {m:Bare.Mem} {ia pa:Option Addr} {il ic pl pc:Nat} (hgd:o.guard=none) (hop:o.op = .call { callee:=.builtin .append,args:=#[s,x],argTypes:=#[51,51] })
  (hs:a.eval s=v) (hx:a.eval x = .slice (some ⟨w.heap.size,0,none⟩) 1 1) (hW:w.alloc (.cells (mcs m (.slice ia il ic) (.slice pa pl pc)).toArray 64)=W) (hown:WtD w0 base w v d) (hi:RdI false w0 (.slice ia il ic) m.items) (hp:RdP false w0 (.slice pa pl pc) m.params) (hn:d.length ≤ 2000000) (hbase:base ≤ w.heap.size)
  (h:∀ v' W',WtD w0 base W' v' (d ++ [m])→(∀ (v0:World) (S:Nat→Prop),Mods S v0 w→(∀ g,v.ownBlock=some g→v0.heap.size ≤ g ∨ S g)→Mods S v0 W')→wpList Tryz.prog ops Q rest (a.put o.dst v') W'):wpList Tryz.prog ops Q (o::rest) a W:=by
 refine wpList_plain hgd fun K hK=>?_
 obtain ⟨v',w',hr,ho,hg⟩:=run_append_Wt hop hs hx hW hown hi hp hn hbase
 unfold Oper.wp
 rw [hr]
 exact hK _ _ (h v' w' ho hg)
theorem WtD.put {base g cap:Nat} {w0 W:World} {d:List Bare.Mem} {m:Bare.Mem} {ia pa:Option Addr} {il ic pl pc i:Nat} (h:WtD w0 base W (.slice (some ⟨g,0,none⟩) d.length cap) d) (hi:i < d.length) (hI:RdI false w0 (.slice ia il ic) m.items) (hP:RdP false w0 (.slice pa pl pc) m.params) :
  WtD w0 base (W.setCells g (i * 4) (mcs m (.slice ia il ic) (.slice pa pl pc))) (.slice (some ⟨g,0,none⟩) (d.set i m).length cap) (d.set i m):=by
 have htag:=h.tag
 obtain ⟨iv,pv,h1,h2⟩:=h
 have hput:=h1.put hi (.string (tx m.key)) (.bool m.inner) (.slice ia il ic) (.slice pa pl pc) (mcs_one _ _ _ _ _ _ _ _)
 have hmm:Mods (fun x=>x=g) W (W.setCells g (i * 4) (mcs m (.slice ia il ic) (.slice pa pl pc))):=setCells_mods _ _ _ _
 have hfar:FarI W (fun x=>x=g):=fun b cs t fr hb hc=>by
  subst hb
  obtain ⟨cs',fr',hc'⟩:=htag b rfl
  rw [hc'] at hc;cases hc;decide
 refine ⟨fun j=>if j=i then .slice ia il ic else iv j,fun j=>if j=i then .slice pa pl pc else pv j,?_,fun j hj=>?_⟩
 ·rw [List.length_set]
  refine OwM.congr hput (fun _=>rfl) fun j hj=>?_
  dsimp only
  rw [getD_set]
  by_cases e:j=i
  ·subst e;rw [if_pos rfl,if_pos ⟨rfl,hj⟩,if_pos rfl,if_pos rfl];rfl
  ·rw [if_neg e,if_neg (fun h=>e h.1.symm),if_neg e,if_neg e]
 ·dsimp only
  rw [List.length_set] at hj
  rw [getD_set]
  by_cases e:j=i
  ·subst e;rw [if_pos rfl,if_pos ⟨rfl,hj⟩,if_pos rfl];exact .inr ⟨hI,hP⟩
  ·rw [if_neg e,if_neg (fun h=>e h.1.symm),if_neg e];exact (h2 j hj).imp (fun q=>⟨q.1.far hmm hfar,q.2.far hmm hfar⟩) id
end Go.Proofs.YtkiiameibdhdfaaGreatDoor
namespace Go.Proofs.YtkiiameibdhdfaaGreatDoor
open Go.RowKit Go.Shelf Go.Cs
attribute [local go_sem] Oper.semAt_some


theorem litj127 (t:Array Value) (h:t.size=127):∃ u:Nat→Value,t=(u 0::u 1::u 2::u 3::u 4::u 5::u 6::u 7::u 8::u 9::u 10::u 11::u 12::u 13::u 14::u 15::u 16::u 17::u 18::u 19::u 20::u 21::u 22::u 23::u 24::u 25::u 26::u 27::u 28::u 29::u 30::u 31::u 32::u 33::u 34::u 35::u 36::u 37::u 38::u 39::u 40::u 41::u 42::u 43::u 44::u 45::u 46::u 47::u 48::u 49::u 50::u 51::u 52::u 53::u 54::u 55::u 56::u 57::u 58::u 59::u 60::u 61::u 62::u 63::u 64::u 65::u 66::u 67::u 68::u 69::u 70::u 71::u 72::u 73::u 74::u 75::u 76::u 77::u 78::u 79::u 80::u 81::u 82::u 83::u 84::u 85::u 86::u 87::u 88::u 89::u 90::u 91::u 92::u 93::u 94::u 95::u 96::u 97::u 98::u 99::u 100::u 101::u 102::u 103::u 104::u 105::u 106::u 107::u 108::u 109::u 110::u 111::u 112::u 113::u 114::u 115::u 116::u 117::u 118::u 119::u 120::u 121::u 122::u 123::u 124::u 125::u 126::([]:List Value)).toArray:=⟨fun i=>t.getD i undef,range_lit t 127 h⟩
noncomputable def reg_causeylaw13_DictJoins_14:Code:=((Tryz.f7.body.bind (regionOf 14)).getD .skip)
theorem joins14 (t:Array Value) (hs:t.size=127) (w:World) {b o nb bc g n cap i k:Nat} {ka kb:ByteArray} {y:Bool}
  (hq1:t.getD 1 undef = .slice (some ⟨b,o,none⟩) nb bc)
  (hq11:t.getD 11 undef = .slice (some ⟨g,0,none⟩) n cap)
  (hq12:t.getD 12 undef = .int .i64 i)
  (hq14:t.getD 14 undef = .int .i64 k)
  (c0:w.cell? ⟨g,k * 4,none⟩=some (.string ka)) (c1:w.cell? ⟨b,o + i * 4,none⟩=some (.string kb)) (hk:k < n) (hi:i < nb) (hkd:decide ((k:Int) < (n:Int))=true) (hid:decide ((i:Int) < (nb:Int))=true) (he:(ka.toList == kb.toList)=y) :
  reg_causeylaw13_DictJoins_14.wp Tryz.prog (Only fun a' W'=>∃ z:Nat→Value,a'=⟨((pz t z [76,77,78,79,80,81,82,83,84,85]).setIfInBounds 86 (.bool y)),[]⟩∧New w W') ⟨t,[]⟩ w:=by
 conv=>arg 2;whnf
 obtain ⟨u,rfl⟩:=litj127 t hs
 have hq1:u 1 = _:=hq1
 have hq11:u 11 = _:=hq11
 have hq12:u 12 = _:=hq12
 have hq14:u 14 = _:=hq14
 rw [hq1,hq11,hq12,hq14]
 clear hq1 hq11 hq12 hq14 hs
 refine wp_region_held (S:=fun W=>New w W) (by kernel_rfl) ?_
 show wpAnyH _ _ _ _ _ 11 _ _ w.drew
 have hN:New w w.drew:=(Mods.refl _ _).drew
 have hS:New w w.drew:=(Mods.refl _ _).drew
 refine tkI 0 (some 76) (.slice (some ⟨g,0,none⟩) n cap) hS ?_
 simp only [pS]
 refine tkI 1 (some 77) (.int .i64 k) hS ?_
 simp only [pS]
 refine tkI 2 (some 78) (.pointer (some ⟨g,k * 4,none⟩)) hS ?_
 simp only [pS]
 refine tkI 3 (some 79) (.pointer (some ⟨g,k * 4,none⟩)) hS ?_
 simp only [pS]
 refine tkA 4 rfl (some 80) (.string ka) (.inl ⟨by rfl,fun W hW=>by have q:=hW.cell c0 id;go_simp⟩) hS ?_
 simp only [pS]
 refine tkI 5 (some 81) (.slice (some ⟨b,o,none⟩) nb bc) hS ?_
 simp only [pS]
 refine tkI 6 (some 82) (.int .i64 i) hS ?_
 simp only [pS]
 refine tkI 7 (some 83) (.pointer (some ⟨b,o + i * 4,none⟩)) hS ?_
 simp only [pS]
 refine tkI 8 (some 84) (.pointer (some ⟨b,o + i * 4,none⟩)) hS ?_
 simp only [pS]
 refine tkA 9 rfl (some 85) (.string kb) (.inl ⟨by rfl,fun W hW=>by have q:=hW.cell c1 id;go_simp⟩) hS ?_
 simp only [pS]
 refine tkI 10 (some 86) (.bool y) hS ?_
 simp only [pS]
 refine wpAnyH_done (by kernel_rfl) ?_ _
 exact zc rfl hN
def JoOk (d:List Bare.Mem):Prop:=dN d d.length ≤ 40∧dB d d.length ≤ 2000∧Bare.rightD d=true∧d ≠ []
theorem mem_small {d:List Bare.Mem} (hn:dN d d.length ≤ 40) (hb:dB d d.length ≤ 2000):∀ m ∈ d,MemS m:=fun m hm=>by
 obtain ⟨-,h⟩:=small_parts hn hb
 obtain ⟨h1,h2,h3,h4,h5⟩:=h m hm
 exact ⟨by omega,⟨by omega,fun p hp=>by have:=h4 p hp;omega⟩,by omega,fun x hx=>by
  obtain ⟨x1,x2,x3⟩:=h5 x hx
  exact ⟨by omega,by omega,fun p hp=>by have:=x3 p hp;omega⟩⟩
theorem joins_eq (a b:List Bare.Mem) (ha:Bare.rightD a=true) (hb:Bare.rightD b=true) (na:a ≠ []) (nb:b ≠ []) (A T:ByteArray) (hA:tx (Bare.joinW [44,32] (a.map Bare.toldM))=A) (hT:tx (Bare.joinW [44,32] (b.map Bare.toldM))=T) :
  Bare.parseD (bl (A ++ ⟨#[9,32,44,32]⟩ ++ T))=some (b.foldl Bare.setM a)∧Bare.parseD (bl (A ++ ⟨#[44]⟩ ++ T ++ ⟨#[44]⟩))=none:=by
 have e1:∀ a b:ByteArray,bl (a ++ b)=bl a ++ bl b:=fun a b=>by rw [cat_bl,bl_tx]
 have h1:=Bare.dict_joins ha hb na nb
 have h2:=Bare.dict_comma ha hb na nb
 have bA:Bare.joinW [44,32] (a.map Bare.toldM)=bl A:=by rw [← hA,bl_tx]
 have bT:Bare.joinW [44,32] (b.map Bare.toldM)=bl T:=by rw [← hT,bl_tx]
 rw [bA,bT] at h1 h2
 simp only [e1,show bl ⟨#[9,32,44,32]⟩ = [9,32,44,32] from rfl,show bl ⟨#[44]⟩ = [44] from rfl,List.append_assoc] at h1 h2 ⊢
 exact ⟨h1,h2⟩
theorem joins_law (va vb:Value) (a b:List Bare.Mem) (w:World) (ha:RdD false w va a) (hb:RdD false w vb b) (hIa:InD a) (hIb:InD b) (hT:Tab w) :
  Calls Tryz.prog 7 #[va,vb] w fun e w'=>e = .returned (.bool true)∧New w w':=by
 have HWk:=Lib.hid (fun W (hN:New w W)=>wakes_d W (hT.new hN))
 have HTb:=Lib.hid hT
 have HGa:=Lib.hid (great13 va a w ha hIa.strs)
 have HGb:=Lib.hid (fun W (hN:New w W)=>great13 vb b W (hb.new hN) hIb.strs)
 have HRa:=Lib.hid (fun (h1:dN a a.length ≤ 40) (h2:dB a a.length ≤ 2000) W (hN:New w W)=>right_r13 va a W (ha.new hN) (by have:=(small_parts h1 h2).1;omega) (mem_small h1 h2))
 have HRb:=Lib.hid (fun (h1:dN b b.length ≤ 40) (h2:dB b b.length ≤ 2000) W (hN:New w W)=>right_r13 vb b W (hb.new hN) (by have:=(small_parts h1 h2).1;omega) (mem_small h1 h2))
 have HDa:=Lib.hid ha
 have HDb:=Lib.hid hb
 have HKa:=Lib.hid hIa.kinds
 have HKb:=Lib.hid hIb.kinds
 obtain ⟨aa,ac,rfl⟩:=ha.slice
 obtain ⟨ba,bc,rfl⟩:=hb.slice
 have hla:a.length ≤ 281474976710656:=by obtain ⟨_,_,h1,_⟩:=ha;exact h1.1
 have hlb:b.length ≤ 281474976710656:=by obtain ⟨_,_,h1,_⟩:=hb;exact h1.1
 obtain ⟨na,hna⟩:∃ n,a.length=n:=⟨_,rfl⟩
 obtain ⟨nb,hnb⟩:∃ n,b.length=n:=⟨_,rfl⟩
 have HNa:=Lib.hid hna
 have HNb:=Lib.hid hnb
 rw [hna] at HGa HRa HDa hla ⊢
 rw [hnb] at HGb HRb HDb hlb ⊢
 obtain ⟨ra,hra⟩:∃ r,Bare.rightD a=r:=⟨_,rfl⟩
 obtain ⟨rb,hrb⟩:∃ r,Bare.rightD b=r:=⟨_,rfl⟩
 rw [hra] at HRa
 rw [hrb] at HRb
 have HXa:=Lib.hid hra
 have HXb:=Lib.hid hrb
 clear ha hb hIa hIb hna hnb hra hrb hT
 go_enter Tryz.func7,Tryz.ntmps7
 go_upto_region 1 with fail
 go_cut [42] from 17 (fun x wx=>∃ bb,x = .bool bb∧Hid (bb=false→JoOk a∧JoOk b)∧New w wx)
 case first =>
  go_wp2_with fail
  refine HGa.out.mono ?_
  rintro e w1 ⟨ga,rfl,h1,hga⟩
  cases ga with
  | true =>
   go_wp2_with fail
   go_meet
   exact ⟨true,rfl,Lib.hid (fun h=>by cases h),h1⟩
  | false =>
  obtain ⟨a1,a2⟩:=hga rfl
  clear hga
  go_wp2_with fail
  refine (HGb.out _ h1).mono ?_
  rintro e w2 ⟨gb',rfl,h2,hgb⟩
  replace h2:=h1.trans h2
  cases gb' with
  | true =>
   go_wp2_with fail
   go_meet
   exact ⟨true,rfl,Lib.hid (fun h=>by cases h),h2⟩
  | false =>
  obtain ⟨b1,b2⟩:=hgb rfl
  clear hgb h1
  have HA1:=Lib.hid (And.intro a1 a2)
  have HB1:=Lib.hid (And.intro b1 b2)
  go_wp2_with fail
  refine (HRa.out a1 a2 _ h2).mono ?_
  rintro e w3 ⟨rfl,h3⟩
  replace h3:=h2.trans h3
  clear h2
  cases ra with
  | false =>
   go_wp2_with fail
   go_meet
   exact ⟨true,rfl,Lib.hid (fun h=>by cases h),h3⟩
  | true =>
  go_wp2_with fail
  refine (HRb.out b1 b2 _ h3).mono ?_
  rintro e w4 ⟨rfl,h4⟩
  replace h4:=h3.trans h4
  clear h3 a1 a2 b1 b2
  cases rb with
  | false =>
   go_wp2_with fail
   go_meet
   exact ⟨true,rfl,Lib.hid (fun h=>by cases h),h4⟩
  | true =>
  by_cases za:na=0
  ·have zd:((na:Int) == 0)=true:=by simp [za]
   clear za
   go_wp2_with fail
   go_meet
   exact ⟨true,rfl,Lib.hid (fun h=>by cases h),h4⟩
  by_cases zb:nb=0
  ·have zd:((na:Int) == 0)=false:=by simp [za]
   have zd2:((nb:Int) == 0)=true:=by simp [zb]
   clear zb za
   go_wp2_with fail
   go_meet
   exact ⟨true,rfl,Lib.hid (fun h=>by cases h),h4⟩
  have zd:((na:Int) == 0)=false:=by simp [za]
  have zd2:((nb:Int) == 0)=false:=by simp [zb]
  have HG:Hid (JoOk a∧JoOk b):=Lib.hid ⟨⟨by rw [HNa.out];exact HA1.out.1,by rw [HNa.out];exact HA1.out.2,HXa.out,fun e=>za (by rw [← HNa.out,e];rfl)⟩,⟨by rw [HNb.out];exact HB1.out.1,by rw [HNb.out];exact HB1.out.2,HXb.out,fun e=>zb (by rw [← HNb.out,e];rfl)⟩⟩
  clear za zb
  go_wp2_with fail
  go_meet
  exact ⟨false,rfl,Lib.hid (fun _=>HG.out),h4⟩
 case rest =>
  obtain ⟨bb,rfl,HB,hN⟩:=hcut
  cases bb with
  | true =>
   clear HB
   go_wp2_with fail
   refine (HWk.out _ hN).mono ?_
   rintro e w2 ⟨rfl,hk2⟩
   go_wp2_with fail
   go_ret
   exact ⟨rfl,hN.trans hk2⟩
  | false =>
  obtain ⟨⟨a1,a2,a3,a4⟩,⟨b1,b2,b3,b4⟩⟩:=HB.out rfl
  obtain ⟨pra,jla⟩:=small_pr HKa.out a1 a2
  obtain ⟨prb,jlb⟩:=small_pr HKb.out b1 b2
  have HPa:=Lib.hid (fun W (hN:New w W)=>print_d _ a W (HDa.out.new hN) pra (HTb.out.new hN))
  have HPb:=Lib.hid (fun W (hN:New w W)=>print_d _ b W (HDb.out.new hN) prb (HTb.out.new hN))
  have ea:Bare.printD a=some (Bare.joinW [44,32] (a.map Bare.toldM)):=by unfold Bare.printD;rw [if_pos a3]
  have eb:Bare.printD b=some (Bare.joinW [44,32] (b.map Bare.toldM)):=by unfold Bare.printD;rw [if_pos b3]
  rw [ea] at HPa
  rw [eb] at HPb
  unfold printV at HPa HPb
  simp only at HPa HPb
  obtain ⟨A,hA⟩:∃ s,tx (Bare.joinW [44,32] (a.map Bare.toldM))=s:=⟨_,rfl⟩
  obtain ⟨T,hT⟩:∃ s,tx (Bare.joinW [44,32] (b.map Bare.toldM))=s:=⟨_,rfl⟩
  have sA:A.size ≤ 300000:=by rw [← hA,tx_size];exact jla
  have sT:T.size ≤ 300000:=by rw [← hT,tx_size];exact jlb
  obtain ⟨j1,j2⟩:=joins_eq a b a3 b3 a4 b4 A T hA hT
  rw [hA] at HPa
  rw [hT] at HPb
  have hz1:(A ++ ⟨#[9,32,44,32]⟩ ++ T).size ≤ 1000000:=by simp only [ByteArray.size_append];show A.size + 4 + T.size ≤ _;omega
  have hz2:(A ++ ⟨#[44]⟩ ++ T ++ ⟨#[44]⟩).size ≤ 1000000:=by simp only [ByteArray.size_append];show A.size + 1 + T.size + 1 ≤ _;omega
  obtain ⟨dd,hdd⟩:∃ d,b.foldl Bare.setM a=d:=⟨_,rfl⟩
  obtain ⟨nd,hnd⟩:∃ n,dd.length=n:=⟨_,rfl⟩
  rw [hdd] at j1
  have HQ1:=Lib.hid (fun W (hN:New w W)=>parse_ok _ dd nd j1 hnd W hz1 (HTb.out.new hN))
  have HQ2:=Lib.hid (fun W (hN:New w W)=>parse_no _ j2 W hz2 (HTb.out.new hN))
  have hla40:na ≤ 40:=by have:=(small_parts a1 a2).1;have:=HNa.out;omega
  have hlb40:nb ≤ 40:=by have:=(small_parts b1 b2).1;have:=HNb.out;omega
  have hfa:∀ i,i < a.length→FitO (a.getD i noM):=fun i hi=>by
   obtain ⟨-,h1,h2,-,h3⟩:=(small_parts a1 a2).2 _ (getD_mem (d:=noM) hi)
   exact ⟨by omega,by omega,fun j hj=>by have:=(h3 _ (getD_mem (d:=Bare.noI) hj)).2.1;omega⟩
  have HOw:=Lib.hid (fun W (hN:New w W)=>own_r13 _ a W (HDa.out.new hN) (by have:=HNa.out;omega) hfa)
  have HND:=Lib.hid ((aloneB_iff _).1 (Bool.and_eq_true_iff.1 a3).1).1
  have HDD:=Lib.hid hdd
  have HNd:=Lib.hid hnd
  clear a1 a2 a3 a4 b1 b2 b3 b4 HB pra prb jla jlb ea eb hA hT j1 j2 hz1 hz2 hdd hnd hfa HGa HGb HRa HRb HXa HXb HKa HKb
  go_wp2_with fail
  refine (HPa.out _ hN).mono ?_
  rintro e w1 ⟨rfl,hk⟩
  replace hN:=hN.trans hk
  clear hk HPa
  go_wp2_with fail
  refine (HPb.out _ hN).mono ?_
  rintro e w2 ⟨rfl,hk⟩
  replace hN:=hN.trans hk
  clear hk HPb
  go_wp2_with fail
  refine (HQ1.out _ hN).mono ?_
  rintro e w3 ⟨da,dc,rfl,hD,hk⟩
  have HD:=Lib.hid hD
  replace hN:=hN.trans hk
  clear hk HQ1 hD
  go_wp2_with fail
  refine (HOw.out _ hN).mono ?_
  rintro e w4 ⟨v4,rfl,hO,hk⟩
  have HW0:Hid (WtD w w3.heap.size w4 v4 a):=Lib.hid (WtD.of hO)
  have hN3:=hN
  clear HOw hO hN
  obtain ⟨oa0,oc0,rfl⟩:=HW0.out.slice
  rw [HNa.out] at HW0 ⊢
  obtain ⟨ivb,pvb,hrb,-,hib⟩:=HDb.out
  have HRB:=Lib.hid hrb
  have HIB:=Lib.hid hib
  clear hrb hib
  go_upto_region 8 with fail
  go_loopw [11,12] (fun x t wr=>∃ (i nl:Nat) (L:List Bare.Mem),i ≤ nb∧t = .int .i64 i∧Hid ((b.take i).foldl Bare.setM a=L)∧Hid ((L.map (·.key)).Nodup)∧nl ≤ na + i∧Hid (L.length=nl)∧Hid (WtD w w3.heap.size wr x L)∧New w3 wr) (fun _ t _=>nb - (intOf t).toNat)
  case atStart=>exact ⟨0,na,a,Nat.zero_le _,rfl,Lib.hid (by rw [List.take_zero];rfl),HND,by omega,HNa,HW0,hk⟩
  case round =>
   obtain ⟨i,nl,L,hi,rfl,HF,HNo,hnl,HL,HW,hNr⟩:=hrel
   obtain ⟨oa,oc,rfl⟩:=HW.out.slice
   rw [HL.out] at HW ⊢
   by_cases hlt:i < nb
   ·have hid:decide ((i:Int) < (nb:Int))=true:=decide_eq_true (by omega)
    have hiL:i < b.length:=by rw [HNb.out];exact hlt
    have hro:=RowR.new HRB.out (hN3.trans hNr)
    obtain ⟨bb,o,e0,hrow⟩:=hro.at.2.2 i hlt
    obtain ⟨ja,jc,hj⟩:=(HIB.out i hiL).1.slice
    obtain ⟨pa,pc,hp⟩:=(HIB.out i hiL).2.slice
    have hRI:=HIB.out i hiL
    obtain ⟨m,hm⟩:∃ m,b.getD i noM=m:=⟨_,rfl⟩
    have hrow:wr.rangeAt bb (o + i * 4) (mcs m (ivb i) (pvb i)):=by rw [← hm];exact hrow
    rw [hm] at hRI hj hp
    rw [hj,hp] at hrow hRI
    have HM:=Lib.hid hm
    have hstep:Bare.setM L m=(b.take (i + 1)).foldl Bare.setM a:=by
     have:b[i]? = some m:=by rw [← hm,List.getD_eq_getElem?_getD,List.getElem?_eq_getElem hiL];rfl
     rw [List.take_add_one,this,List.foldl_append,HF.out]
     rfl
    have HSt:=Lib.hid hstep
    have HRI:=Lib.hid hRI
    have HRow:=Lib.hid hrow
    obtain ⟨il,hil⟩:∃ n,m.items.length=n:=⟨_,rfl⟩
    obtain ⟨pl,hpl⟩:∃ n,m.params.length=n:=⟨_,rfl⟩
    rw [hil,hpl] at HRow HRI
    subst e0
    clear hro hrow hj hp hRI hm hstep hil hpl HF
    go_upto_region 12 with fail
    go_loopw [13,14] (fun x t wi=>∃ (k:Nat) (z:Int),k ≤ nl∧t = .int .i64 k∧x = .int .i64 z∧Hid ((z = -1∧∀ j,j < k→(L.getD j noM).key ≠ m.key) ∨ (∃ j,j < k∧z=(j:Int)∧(L.getD j noM).key=m.key))∧New wr wi) (fun _ t _=>nl - (intOf t).toNat)
    case atStart=>exact ⟨0,-1,Nat.zero_le _,rfl,rfl,Lib.hid (.inl ⟨rfl,fun j hj=>by omega⟩),Mods.refl _ _⟩
    case round =>
     obtain ⟨k,z,hk,rfl,rfl,HZ,hNk⟩:=hrel
     have hNw:=hN3.trans (hNr.trans hNk)
     have HWk2:=Lib.hid (HW.out.new hNk)
     have hb4:=fun j u h=>hNk.cell (HRow.out j u h) id
     by_cases hkl:k < nl
     ·have hkd:decide ((k:Int) < (nl:Int))=true:=decide_eq_true (by omega)
      have hkL:k < L.length:=by rw [HL.out];exact hkl
      obtain ⟨ivw,pvw,hw1,-⟩:=HWk2.out
      rw [HL.out] at hw1
      obtain ⟨g,og,e1,hroww⟩:=(hw1.row (by omega)).at.2.2 k hkl
      obtain rfl:og=0:=by
       rcases hw1.2.2.2 with ⟨h,_⟩ | ⟨b',cap',cur,h,_⟩
       ·rw [e1] at h;cases h
       ·rw [e1] at h;cases h;rfl
      have c0:wr.cell? ⟨g,k * 4,none⟩=some (.string (tx (L.getD k noM).key)):=by
       have:=hroww 0 _ rfl
       rw [Nat.zero_add] at this
       exact this
      have c1:wr.cell? ⟨bb,o + i * 4,none⟩=some (.string (tx m.key)):=hb4 0 _ rfl
      have he:=eq_tx (tx (L.getD k noM).key) (tx m.key)
      rw [bl_tx,bl_tx] at he
      subst e1
      clear hroww hw1 hb4
      go_upto_region 14 with fail
      refine piece (fun _=>_) (joins14 _ rfl wr rfl rfl rfl rfl c0 c1 hkl hlt hkd hid he) ?_
      rintro a' w6 ⟨zg,rfl,hN6⟩
      simp only [pS]
      by_cases heq:(L.getD k noM).key=m.key
      ·have HZ2:Hid (((k:Int) = -1∧∀ j,j < k + 1→(L.getD j noM).key ≠ m.key) ∨ (∃ j,j < k + 1∧(k:Int)=(j:Int)∧(L.getD j noM).key=m.key)):=Lib.hid (.inr ⟨k,by omega,rfl,heq⟩)
       rw [decide_eq_true heq]
       clear heq he c0 c1 HZ
       go_wp2_with fail
       go_roundw
       case rel=>exact ⟨k + 1,k,by omega,by go_num,rfl,HZ2,hNk.trans hN6⟩
       case measure=>simp [intOf];omega
      ·have HZ2:Hid ((z = -1∧∀ j,j < k + 1→(L.getD j noM).key ≠ m.key) ∨ (∃ j,j < k + 1∧z=(j:Int)∧(L.getD j noM).key=m.key)):=Lib.hid (by
        rcases HZ.out with ⟨h1,h2⟩ | ⟨j,h1,h2,h3⟩
        ·refine .inl ⟨h1,fun j hj=>?_⟩
         by_cases e:j < k
         ·exact h2 j e
         ·obtain rfl:j=k:=by omega
          exact heq
        ·exact .inr ⟨j,by omega,h2,h3⟩)
       rw [decide_eq_false heq]
       clear heq he c0 c1 HZ
       go_wp2_with fail
       go_roundw
       case rel=>exact ⟨k + 1,z,by omega,by go_num,rfl,HZ2,hNk.trans hN6⟩
       case measure=>simp [intOf];omega
     ·obtain rfl:k=nl:=by omega
      have hkd:decide ((k:Int) < (k:Int))=false:=decide_eq_false (by omega)
      have q0:wr.cell? ⟨bb,o + i * 4,none⟩=some (.string (tx m.key)):=hb4 0 _ rfl
      have q1:wr.cell? ⟨bb,o + i * 4 + 1,none⟩=some (.bool m.inner):=hb4 1 _ rfl
      have q2:wr.cell? ⟨bb,o + i * 4 + 2,none⟩=some (.slice ja il jc):=hb4 2 _ rfl
      have q3:wr.cell? ⟨bb,o + i * 4 + 3,none⟩=some (.slice pa pl pc):=hb4 3 _ rfl
      have hNb3:=hNr.trans hNk
      have hwb:w3.heap.size ≤ wr.heap.size:=hNb3.size
      clear hb4 hNr hNk
      rcases HZ.out with ⟨rfl,hno⟩ | ⟨j,hjk,rfl,hje⟩
      ·have hadd:=setM_add (p:=m) (l:=L) (fun j hj=>hno j (by rw [HL.out] at hj;exact hj))
       have HAd:=Lib.hid hadd
       have hLl:L.length ≤ 2000000:=by rw [HL.out];omega
       have HWo:Hid (WtD w w3.heap.size wr (.slice oa k oc) L):=HWk2
       clear hno hadd HZ
       go_wp2_with (at_builtin;refine wpList_append_Wt (w:=wr) (m:=m) (ia:=ja) (il:=il) (ic:=jc) (pa:=pa) (pl:=pl) (pc:=pc) _ _ rfl rfl rfl rfl rfl HWo.out HRI.out.1 HRI.out.2 hLl hwb ?_;intro v' W' ho' hm';obtain ⟨a',c',rfl⟩:=ho'.slice)
       have el:(L ++ [m]).length=k + 1:=by rw [List.length_append,HL.out];rfl
       have EL:=Lib.hid el
       rw [el] at ho'
       rw [HL.out]
       clear el
       go_roundw
       case rel=>exact ⟨i + 1,k + 1,L ++ [m],by omega,by go_num,Lib.hid (by rw [← HSt.out,HAd.out]),Lib.hid (by rw [← HAd.out];exact setM_nodup HNo.out),by omega,EL,Lib.hid ho',hm' w3 (fun _=>False) hNb3 (fun g hg=>.inl (HWo.out.lt hg).1)⟩
       case measure=>simp [intOf];omega
      ·have hjL:j < L.length:=by rw [HL.out];exact hjk
       have HSe:=Lib.hid (setM_set (p:=m) HNo.out hjL hje)
       have hjz:decide ((j:Int) < 0)=false:=decide_eq_false (by omega)
       have hjd:decide ((j:Int) < (k:Int))=true:=decide_eq_true (by omega)
       obtain ⟨ivw,pvw,hw1,-⟩:=HWk2.out
       rw [HL.out] at hw1
       obtain ⟨g,og,e1,-⟩:=(hw1.row (by omega)).at.2.2 j hjk
       obtain rfl:og=0:=by
        rcases hw1.2.2.2 with ⟨h,_⟩ | ⟨b',cap',cur,h,_⟩
        ·rw [e1] at h;cases h
        ·rw [e1] at h;cases h;rfl
       subst e1
       have hthere:=hw1.there hjk
       have hgl:=(hw1.lt rfl).1
       have HPt:=Lib.hid (WtD.put (m:=m) (i:=j) (w0:=w) (base:=w3.heap.size) (cap:=oc) (by have h:=HWk2.out;rw [← HL.out] at h;exact h) hjL HRI.out.1 HRI.out.2)
       clear hw1 hje HZ
       go_wp2_with (refine wpList_store_midN rfl rfl 64 (.tmp 103) (.tmp 102) rfl g (j * 4) (mcs m (.slice ja il jc) (.slice pa pl pc)) rfl rfl hthere sizeM (mcs_one _ _ _ _ _ _ _ _) ?_)
       obtain ⟨W10,hW10⟩:∃ W10,wr.setCells g (j * 4) (mcs m (.slice ja il jc) (.slice pa pl pc))=W10:=⟨_,rfl⟩
       have hp10:=HPt.out
       rw [hW10] at hp10
       have hmg:Mods (fun x=>x=g) wr W10:=by
        rw [← hW10]
        exact setCells_mods _ _ _ _
       rw [List.length_set,HL.out] at hp10
       rw [hW10]
       have HP10:=Lib.hid hp10
       have HMg:=Lib.hid hmg
       clear hp10 hmg hW10 HPt
       go_wp2_with fail
       go_roundw
       case rel=>exact ⟨i + 1,k,L.set j m,by omega,by go_num,Lib.hid (by rw [← HSt.out,HSe.out]),Lib.hid (by rw [← HSe.out];exact setM_nodup HNo.out),by omega,Lib.hid (by rw [List.length_set];exact HL.out),HP10,((Mods.ofNew hNb3).trans HMg.out).new (fun x hx=>by rw [hx];exact hgl)⟩
       case measure=>simp [intOf];omega
   ·obtain rfl:i=nb:=by omega
    have hid:decide ((i:Int) < (i:Int))=false:=decide_eq_false (by omega)
    have hLd:L=dd:=by rw [← HF.out,List.take_of_length_le (by rw [HNb.out];exact Nat.le_refl _),HDD.out]
    subst hLd
    have hNw:=hN3.trans hNr
    clear HF
    go_wp2_with fail
    refine (HQ2.out _ hNw).mono ?_
    rintro e w8 ⟨rfl,hk8⟩
    have hS:=rsame_d (.slice da nd dc) (.slice oa nl oc) L L w8 (HD.out.new (hNr.trans hk8)) ((HW.out.new hk8).reads (hNw.trans hk8) (by rw [HL.out];omega))
    rw [decide_eq_true rfl] at hS
    have HS:=Lib.hid hS
    clear hS
    go_wp2_with fail
    refine HS.out.mono ?_
    rintro e w9 ⟨rfl,hk9⟩
    have hN9:=(hNw.trans hk8).trans hk9
    go_wp2_with fail
    refine (HWk.out _ hN9).mono ?_
    rintro e wz ⟨rfl,hkz⟩
    go_wp2_with fail
    go_ret
    exact ⟨rfl,hN9.trans hkz⟩
end Go.Proofs.YtkiiameibdhdfaaGreatDoor
