/- Texts joined. -/
import Derived.Test.YtnknmmbnhoanfaaGreatDoorH07
import Derived.Test.YtnknmmbnhoanfaaGreatDoorH05
import Derived.Test.YtnknmmbnhoanfaaGreatDoorH03
import Derived.Test.YtnknmmbnhoanfaaGreatDoorH06
set_option linter.unusedSimpArgs false
set_option linter.unusedVariables false
set_option maxHeartbeats 16000000
set_option maxRecDepth 100000
namespace Go.Proofs.YtnknmmbnhoanfaaGreatDoor
open Go.RowKit Go.Shelf Go.Cs
attribute [local go_sem] Oper.semAt_some


theorem key_r (R:Nat) (s:Bare.Bs) (bad:Bool) (w:World) (hl:s.length ≤ 1000000) (h:Rdr w R s bad) :
  Calls Tryz.prog 166 #[.pointer (some ⟨R,0,none⟩)] w fun e w'=>e = .returned (.string (tx (Bare.keyOf s)))∧Rdr w' R (s.drop (Bare.keyOf s).length) (bad || (Bare.keyOf s).isEmpty)∧ModR R w w':=by
 obtain ⟨kq,hkq0⟩:∃ x,Bare.keyOf s=x:=⟨_,rfl⟩
 have HKq:=Lib.hid hkq0
 rw [hkq0]
 clear hkq0
 have Hr:=Lib.hid h
 have hS0:(tx s).size=s.length:=tx_size s
 obtain ⟨S,hS⟩:∃ x,tx s=x:=⟨_,rfl⟩
 have Hs:Hid (s=bl S):=Lib.hid (by rw [← hS])
 have HS:=Lib.hid hS
 rw [hS] at hS0
 have hN0:New w w:=Mods.refl _ _
 have HKey:Hid (∀ n W,n < s.length→(∀ j,j < n→keyAt j (gb S j)=true)→Calls Tryz.prog 29 #[.string (tx (s.take (n + 1)))] W fun e w'=>e = .returned (.bool (keyAt n (gb S n)))∧New W w'):=Lib.hid fun n W hn hb=>by
  refine (key_any (tx (s.take (n + 1))) W (by rw [tx_size,List.length_take];omega)).mono fun e w' ⟨he,hN⟩=>⟨?_,hN⟩
  rw [he,bl_tx]
  congr 2
  have hg:∀ j,j < n + 1→(s.take (n + 1))[j]? = some (gb S j):=fun j hj=>by
   have:=gb_get S j (by omega)
   rw [← Hs.out] at this
   rw [List.getElem?_take,if_pos hj];exact this
  rw [Bool.eq_iff_iff,keyB_at]
  constructor
  ·rintro ⟨-,h⟩
   exact h n _ (hg n (by omega))
  ·intro h
   refine ⟨fun e=>?_,fun k c hk=>?_⟩
   ·have:=congrArg List.length e
    rw [List.length_take,List.length_nil] at this
    omega
   ·have hk':k < n + 1:=by
     have:=(List.getElem?_eq_some_iff.1 hk).1
     rw [List.length_take] at this;omega
    rw [hg k hk'] at hk
    cases hk
    by_cases e:k=n
    ·subst e;exact h
    ·exact hb k (by omega)
 clear h
 go_enter Tryz.func166,Tryz.ntmps166
 go_wp2_with fail
 go_loopw [3] (fun t wr=>∃ n:Nat,n ≤ s.length∧t = .int .i64 n∧Hid (∀ j,j < n→keyAt j (gb S j)=true)∧New w wr) (fun t _=>s.length - (intOf t).toNat)
 case atStart=>exact ⟨0,Nat.zero_le _,rfl,Lib.hid fun i hi=>by omega,hN0⟩
 case round =>
  clear hN0
  obtain ⟨n,hn,rfl,hbef,hN⟩:=hrel
  have hrd:=Lib.hid (Hr.out.new hN)
  obtain ⟨⟨c0,c1⟩,f0,f1⟩:=hrd.out.facts
  rw [HS.out] at c0
  by_cases hlt:n < s.length
  ·have hkd:decide ((n:Int) < (S.size:Int))=true:=decide_eq_true (by omega)
   have hsl:∀ W,(Instr.slice 9 (.string S) none (some (.int .i64 ((n:Int) + 1))) none).run Tryz.prog W = .ok (.string (tx (s.take (n + 1)))) W:=fun W=>by have:=run_sl_h S (n + 1) (by omega) W;rwa [← Hs.out] at this
   have HK:=Lib.hid (fun W=>HKey.out n W hlt hbef.out)
   obtain ⟨P,hP⟩:∃ x,tx (s.take (n + 1))=x:=⟨_,rfl⟩
   rw [hP] at hsl HK
   clear HKey hP
   cases hT:keyAt n (gb S n) with
   | true =>
    rw [hT] at HK
    have hh:Hid (∀ j,j < n + 1→keyAt j (gb S j)=true):=Lib.hid fun i hi=>by
     by_cases hik:i < n
     ·exact hbef.out i hik
     ·obtain rfl:i=n:=by omega
      exact hT
    clear hbef hT
    go_wp2_with (go_at_call 29;refine (HK.out _).mono ?_;rintro e w' ⟨rfl,hN'⟩)
    go_roundw
    case rel=>exact ⟨n + 1,by omega,by go_num,hh,hN.trans hN'⟩
    case measure=>simp [intOf];omega
   | false =>
    rw [hT] at HK
    have Hk:=Lib.hid (keyOf_upto s n (by omega) (fun j hj c hc=>by
     have e:(bl S)[j]? = some c:=by rw [← Hs.out];exact hc
     obtain ⟨_,rfl⟩:=get_gb e
     exact hbef.out j hj) (fun c hc=>by
      have e:(bl S)[n]? = some c:=by rw [← Hs.out];exact hc
      obtain ⟨_,rfl⟩:=get_gb e
      exact hT))
    have hlen:(s.take n).length=n:=by rw [List.length_take];omega
    have hsl1:∀ W,(Instr.slice 9 (.string S) none (some (.int .i64 (n:Int))) none).run Tryz.prog W = .ok (.string (tx (s.take n))) W:=fun W=>by have:=run_sl_h S n (by omega) W;rwa [← Hs.out] at this
    have hsl2:∀ W,(Instr.slice 9 (.string S) (some (.int .i64 (n:Int))) none none).run Tryz.prog W = .ok (.string (tx (s.drop n))) W:=fun W=>by have:=run_sl_l S n (by omega) W;rwa [← Hs.out] at this
    have hz:((n:Int) == 0)=decide (n=0):=by
     rw [Bool.eq_iff_iff,beq_iff_eq,decide_eq_true_eq];omega
    have hez:(s.take n).isEmpty=decide (n=0):=by
     rw [Bool.eq_iff_iff,List.isEmpty_iff,decide_eq_true_eq,← List.length_eq_zero_iff,hlen]
    have Hkq:Hid (kq=s.take n):=Lib.hid (by rw [← HKq.out,Hk.out])
    have Hez:=Lib.hid hez
    have Hlen:=Lib.hid hlen
    obtain ⟨z,hze⟩:∃ z,decide (n=0)=z:=⟨_,rfl⟩
    have Hze:=Lib.hid hze
    rw [hze] at hz
    obtain ⟨K,hK⟩:∃ x,tx (s.take n)=x:=⟨_,rfl⟩
    obtain ⟨D,hD⟩:∃ x,tx (s.drop n)=x:=⟨_,rfl⟩
    have HK':=Lib.hid hK
    rw [hK] at hsl1
    have HD:=Lib.hid hD
    rw [hD] at hsl2
    clear hze hez hK hD hbef Hk hlen
    go_upto_region 5 with (go_at_call 29;refine (HK.out _).mono ?_;rintro e w' ⟨rfl,hN'⟩;have hrd:=Lib.hid (hrd.out.new hN');obtain ⟨⟨c0,c1⟩,f0,f1⟩:=hrd.out.facts;rw [HS.out] at c0)
    have H:=Lib.hid (fun b=>(hrd.out.set0 (s.drop n)).set1 b)
    rw [HD.out] at H
    cases bad
    all_goals go_region
    all_goals
     go_wp2_with fail
     go_ret
     rw [Hkq.out,Hlen.out,Hez.out,Hze.out,HK'.out]
     refine ⟨rfl,?_,((Mods.ofNew (hN.trans hN')).trans ((ModR.set _ _ _ _).trans (ModR.set _ _ _ _))).drew⟩
     exact H.out _
  ·have hkd:decide ((n:Int) < (S.size:Int))=false:=decide_eq_false (by omega)
   have Hk:=Lib.hid (keyOf_upto s n (by omega) (fun j hj c hc=>by
    have e:(bl S)[j]? = some c:=by rw [← Hs.out];exact hc
    obtain ⟨_,rfl⟩:=get_gb e
    exact hbef.out j hj) (fun c hc=>by
     have:=(List.getElem?_eq_some_iff.1 hc).1;omega))
   have hlen:(s.take n).length=n:=by rw [List.length_take];omega
   have hsl1:∀ W,(Instr.slice 9 (.string S) none (some (.int .i64 (n:Int))) none).run Tryz.prog W = .ok (.string (tx (s.take n))) W:=fun W=>by have:=run_sl_h S n (by omega) W;rwa [← Hs.out] at this
   have hsl2:∀ W,(Instr.slice 9 (.string S) (some (.int .i64 (n:Int))) none none).run Tryz.prog W = .ok (.string (tx (s.drop n))) W:=fun W=>by have:=run_sl_l S n (by omega) W;rwa [← Hs.out] at this
   have hz:((n:Int) == 0)=decide (n=0):=by
    rw [Bool.eq_iff_iff,beq_iff_eq,decide_eq_true_eq];omega
   have hez:(s.take n).isEmpty=decide (n=0):=by
    rw [Bool.eq_iff_iff,List.isEmpty_iff,decide_eq_true_eq,← List.length_eq_zero_iff,hlen]
   have Hkq:Hid (kq=s.take n):=Lib.hid (by rw [← HKq.out,Hk.out])
   have Hez:=Lib.hid hez
   have Hlen:=Lib.hid hlen
   obtain ⟨z,hze⟩:∃ z,decide (n=0)=z:=⟨_,rfl⟩
   have Hze:=Lib.hid hze
   rw [hze] at hz
   obtain ⟨K,hK⟩:∃ x,tx (s.take n)=x:=⟨_,rfl⟩
   have H:=Lib.hid (fun b=>(hrd.out.set0 (s.drop n)).set1 b)
   obtain ⟨D,hD⟩:∃ x,tx (s.drop n)=x:=⟨_,rfl⟩
   have HK':=Lib.hid hK
   rw [hK] at hsl1
   rw [hD] at hsl2 H
   clear hze hez hK hD hbef Hk hlen
   go_upto_region 5 with fail
   cases bad
   all_goals go_region
   all_goals
    go_wp2_with fail
    go_ret
    rw [Hkq.out,Hlen.out,Hez.out,Hze.out,HK'.out]
    refine ⟨rfl,?_,((Mods.ofNew hN).trans ((ModR.set _ _ _ _).trans (ModR.set _ _ _ _))).drew⟩
    exact H.out _
def BareV (s:Bare.Bs):Bare.It:=match Bare.parseI s with | some (b,_)=>b | none=>noIt
def BareR (s:Bare.Bs):Bare.Bs:=match Bare.parseI s with | some (_,r)=>r | none=>[]
theorem bare_r (R:Nat) (s:Bare.Bs) (bad:Bool) (w:World) (hl:s.length ≤ 1000000) (h:Rdr w R s bad) (hT:Tab w) :
  Calls Tryz.prog 191 #[.pointer (some ⟨R,0,none⟩)] w fun e w'=>e = .returned (bv (BareV s))∧Rdr w' R (BareR s) (bad || (Bare.parseI s).isNone)∧ModR R w w':=by
 have hlt:=h.lt
 obtain ⟨hN,hr⟩:=no_row w
 have HP:=Lib.hid (fun W (hW:New w W)=>parse_read (tx s) W (by rw [tx_size];exact hl) (hT.new hW))
 unfold ReadP at HP
 rw [bl_tx] at HP
 have HP2:Hid (∀ W,New w W→Calls Tryz.prog 9 #[.string (tx s)] W fun e w'=>e = .returned (.tuple #[bv (BareV s),.string (tx (BareR s)),.int .i64 (if (Bare.parseI s).isNone then 120 else 0)])∧New W w'):=Lib.hid fun W hW=>(HP.out W hW).mono fun e w' ⟨he,hn⟩=>⟨by
  rw [he];unfold BareV BareR
  cases Bare.parseI s with
  | none=>rfl
  | some p=>rfl,hn⟩
 clear HP
 obtain ⟨z,hz⟩:∃ x,(Bare.parseI s).isNone=x:=⟨_,rfl⟩
 obtain ⟨⟨k,n,t,y⟩,hb⟩:∃ x,BareV s=x:=⟨_,rfl⟩
 obtain ⟨rr,hrr⟩:∃ x,BareR s=x:=⟨_,rfl⟩
 rw [hz,hb,hrr] at HP2
 rw [hz,hb,hrr]
 unfold bv bcs at HP2 ⊢
 simp only at HP2 ⊢
 obtain ⟨T,hTt⟩:∃ x,tx t=x:=⟨_,rfl⟩
 obtain ⟨S,hS⟩:∃ x,tx s=x:=⟨_,rfl⟩
 obtain ⟨RR,hRR⟩:∃ x,tx rr=x:=⟨_,rfl⟩
 have HS:=Lib.hid hS
 have HRR:=Lib.hid hRR
 rw [hTt,hS,hRR] at HP2
 rw [hTt]
 obtain ⟨zi,hzi⟩:∃ zi:Int,(if z=true then (120:Int) else 0)=zi:=⟨_,rfl⟩
 have hzn:(zi != 0)=z:=by rw [← hzi];cases z <;> rfl
 rw [hzi] at HP2
 clear hz hb hrr hTt hS hT hRR hzi
 go_enter Tryz.func191,Tryz.ntmps191
 go_upto_region 1 with fail
 have h1:=Lib.hid (h.new hN)
 obtain ⟨W,hW⟩:∃ W,w.alloc (.cells #[.int .u8 0,.int .i64 0,.string ⟨#[]⟩,.bool false] 23)=W:=⟨_,rfl⟩
 rw [hW] at hN hr h1 ⊢
 obtain ⟨B,hB⟩:∃ B,w.heap.size=B:=⟨_,rfl⟩
 have hBw:w.heap.size ≤ B:=by omega
 have hRB:R ≠ B:=by omega
 have hRB':¬ B=R:=by omega
 have hBR:R < B:=by omega
 rw [hB] at hr ⊢
 clear hW hB h hlt
 obtain ⟨⟨c0,c1⟩,f0,f1⟩:=h1.out.facts
 rw [HS.out] at c0
 go_upto_region 1 with fail
 go_wp2_with fail
 refine (HP2.out _ hN).mono ?_
 rintro e w1 ⟨rfl,hN1⟩
 have h2:=Lib.hid (h1.out.new hN1)
 have hr2:=Lib.hid (hN1.heap hr id)
 have hsz:=hN1.size
 have hBl:B < W.heap.size:=(Array.getElem?_eq_some_iff.1 hr).1
 clear c0 c1 f0 f1 hr
 go_upto_region 2 with fail
 obtain ⟨W3,hW3⟩:∃ W3,w1.alloc (.cells #[.int .u8 k,.int .i64 n,.string T,.bool y] 23)=W3:=⟨_,rfl⟩
 have hN3:New w1 W3:=by rw [← hW3];exact (Mods.refl _ _).alloc _
 have hr3:W3.heap[w1.heap.size]? = some (.cells #[.int .u8 k,.int .i64 n,.string T,.bool y] 23 (0,0)):=by rw [← hW3];exact World.alloc_heap_new _ _
 rw [hW3]
 obtain ⟨B3,hB3⟩:∃ B3,w1.heap.size=B3:=⟨_,rfl⟩
 have hBB3:B < B3:=by omega
 have hRB3:¬ B3=R:=by omega
 rw [hB3] at hr3 ⊢
 have h3:=Lib.hid (h2.out.new hN3)
 have hrB:=Lib.hid (hN3.heap hr2.out id)
 have hNN:New w W3:=hN.trans (hN1.trans hN3)
 have Hr3:=Lib.hid hr3
 obtain ⟨⟨c0,c1⟩,f0,f1⟩:=h3.out.facts
 rw [HS.out] at c0
 clear hW3 hB3 hr3 hsz hBl
 have HE:Hid (∀ (b:Bool) (W4:World),W4=((W3.setCell ⟨R,0,none⟩ (.string RR)).setCell ⟨R,1,none⟩ (.bool b))→Rdr W4 R rr b∧ModR R W3 W4):=Lib.hid fun b W4 e=>by
  subst e
  rw [← HRR.out]
  exact ⟨(h3.out.set0 rr).set1 b,(ModR.set _ _ _ _).trans (ModR.set _ _ _ _)⟩
 cases bad with
 | false =>
  go_upto_region 3 with fail
  obtain ⟨W4,hW4⟩:∃ W4,((W3.setCell ⟨R,0,none⟩ (.string RR)).setCell ⟨R,1,none⟩ (.bool z))=W4:=⟨_,rfl⟩
  rw [hW4]
  obtain ⟨h4,hm4⟩:=HE.out _ W4 hW4.symm
  have r4:=hm4.heap hrB.out hRB'
  have r43:=hm4.heap Hr3.out hRB3
  have hone:=one4 k n T y
  clear c0 c1 f0 f1 hW4
  go_wp2_with (first | (refine op_value rfl (run_load_row 23 (.tmp 3) rfl B3 rfl 23 _ (0,0) _ r43 Tryz.underlying23 rfl info_bare) ?_) | (refine op_skip rfl (run_store_row 23 (.tmp 2) (.tmp 30) rfl B rfl 23 [.int .u8 0,.int .i64 0,.string ⟨#[]⟩,.bool false] [.int .u8 k,.int .i64 n,.string T,.bool y] rfl r4 info_bare rfl hone) ?_))
  have r5:=setRow_heap W4 B _ #[.int .u8 k,.int .i64 n,.string T,.bool y] 23 (0,0) r4
  refine bodyPost_ret (v:=.agg #[.int .u8 k,.int .i64 n,.string T,.bool y]) (results_cell_row rfl _ _ B 23 _ (0,0) _ rfl r5 Tryz.underlying23 rfl info_bare) rfl ?_
  exact ⟨rfl,(mods_setRow r4 _).heap h4 hRB,((Mods.ofNew hNN).trans hm4).setRow hBw _⟩
 | true =>
  go_upto_region 3 with fail
  obtain ⟨W4,hW4⟩:∃ W4,((W3.setCell ⟨R,0,none⟩ (.string RR)).setCell ⟨R,1,none⟩ (.bool true))=W4:=⟨_,rfl⟩
  rw [hW4]
  obtain ⟨h4,hm4⟩:=HE.out _ W4 hW4.symm
  have r4:=hm4.heap hrB.out hRB'
  have r43:=hm4.heap Hr3.out hRB3
  have hone:=one4 k n T y
  clear c0 c1 f0 f1 hW4
  go_wp2_with (first | (refine op_value rfl (run_load_row 23 (.tmp 3) rfl B3 rfl 23 _ (0,0) _ r43 Tryz.underlying23 rfl info_bare) ?_) | (refine op_skip rfl (run_store_row 23 (.tmp 2) (.tmp 30) rfl B rfl 23 [.int .u8 0,.int .i64 0,.string ⟨#[]⟩,.bool false] [.int .u8 k,.int .i64 n,.string T,.bool y] rfl r4 info_bare rfl hone) ?_))
  have r5:=setRow_heap W4 B _ #[.int .u8 k,.int .i64 n,.string T,.bool y] 23 (0,0) r4
  refine bodyPost_ret (v:=.agg #[.int .u8 k,.int .i64 n,.string T,.bool y]) (results_cell_row rfl _ _ B 23 _ (0,0) _ rfl r5 Tryz.underlying23 rfl info_bare) rfl ?_
  exact ⟨rfl,(mods_setRow r4 _).heap h4 hRB,((Mods.ofNew hNN).trans hm4).setRow hBw _⟩
end Go.Proofs.YtnknmmbnhoanfaaGreatDoor
namespace Go.Proofs.YtnknmmbnhoanfaaGreatDoor


theorem pre1_cons (a c:UInt8) (r:Bare.Bs):Lib.hasPrefix (a::r) [c]=decide (a=c)∧Lib.trimPrefix (a::r) [c]=if a=c then r else a::r:=by
 have e:Lib.hasPrefix (a::r) [c]=decide (a=c):=by
  unfold Lib.hasPrefix
  by_cases h:a=c
  ·subst h;simp [List.isPrefixOf]
  ·have h2:¬ c=a:=fun e=>h e.symm
   have h3:(c == a)=false:=by simpa using h2
   simp [List.isPrefixOf,h,h3]
 refine ⟨e,?_⟩
 unfold Lib.trimPrefix
 rw [e]
 by_cases h:a=c <;> simp [h]
theorem pre1_true {s:Bare.Bs} {c:UInt8} (h:Lib.hasPrefix s [c]=true):∃ r,s=c::r∧Lib.trimPrefix s [c]=r:=by
 cases s with
 | nil=>cases h
 | cons a r =>
  obtain ⟨h1,h2⟩:=pre1_cons a c r
  rw [h1] at h
  obtain rfl:=of_decide_eq_true h
  exact ⟨r,rfl,by rw [h2,if_pos rfl]⟩
theorem pre1_false {s:Bare.Bs} {c:UInt8} (h:Lib.hasPrefix s [c]=false):s.head? ≠ some c∧Lib.trimPrefix s [c]=s:=by
 refine ⟨fun e=>?_,by unfold Lib.trimPrefix;rw [h];rfl⟩
 cases s with
 | nil=>cases e
 | cons a r =>
  rw [(pre1_cons a c r).1] at h
  simp at e
  exact of_decide_eq_false h e
def parV (s4:Bare.Bs) (b:Bool):Bare.It:=if b then BareV s4 else Bare.yesI
def parR (s4:Bare.Bs) (b:Bool):Bare.Bs:=if b then BareR s4 else s4
def parB (s4:Bare.Bs) (b:Bool):Bool:=b && (Bare.parseI s4).isNone
theorem bareR_len (s:Bare.Bs):(BareR s).length ≤ s.length:=by
 unfold BareR
 split
 ·rename_i b r h
  have:=Bare.parseI_len h
  omega
 ·simp
theorem par_step (l:List Bare.Par) (r:Bare.Bs) {s2 s3 s4 k:Bare.Bs} {b:Bool} (h2:Bare.skipB [32] r=s2) (hk:Bare.keyOf s2=k) (h3:s2.drop k.length=s3) (hb:Lib.hasPrefix s3 [61]=b) (h4:Lib.trimPrefix s3 [61]=s4) :
  ((k.isEmpty || parB s4 b)=false→Bare.readParams l (59::r)=Bare.readParams (Bare.setP l ⟨k,parV s4 b⟩) (parR s4 b)) ∧
  ((k.isEmpty || parB s4 b)=true→Bare.readParams l (59::r)=none)∧(parR s4 b).length ≤ r.length:=by
 rw [Bare.readParams_semi,h2]
 have ek:Bare.readKey s2=if k.isEmpty then none else some (k,s3):=by unfold Bare.readKey;simp only [hk,h3]
 rw [ek]
 have hl:s3.length ≤ r.length:=by
  have:=Bare.skip_len [32] r
  rw [h2] at this
  rw [← h3,List.length_drop];omega
 have hv:Bare.readVal s3=if parB s4 b then none else some (parV s4 b,parR s4 b):=by
  cases b with
  | false =>
   obtain ⟨q1,q2⟩:=pre1_false hb
   rw [q2] at h4
   subst h4
   unfold parB parV parR
   simp only [Bool.false_and,Bool.false_eq_true,if_false]
   unfold Bare.readVal
   split
   ·exact absurd rfl q1
   ·rfl
  | true =>
   obtain ⟨q,rfl,q2⟩:=pre1_true hb
   rw [q2] at h4
   subst h4
   unfold parB parV parR BareV BareR Bare.readVal
   simp only [Bool.true_and,if_true]
   cases Bare.parseI q with
   | none=>rfl
   | some p=>rfl
 have hl4:(parR s4 b).length ≤ r.length:=by
  unfold parR
  cases b with
  | false =>
   rw [(pre1_false hb).2] at h4
   subst h4
   exact hl
  | true =>
   obtain ⟨q,rfl,q2⟩:=pre1_true hb
   rw [q2] at h4
   subst h4
   have:=bareR_len q
   simp only [if_true]
   simp at hl
   omega
 refine ⟨fun h=>?_,fun h=>?_,hl4⟩
 ·rw [Bool.or_eq_false_iff] at h
  rw [h.1]
  simp only [Bool.false_eq_true,if_false,hv,h.2]
 ·rw [Bool.or_eq_true] at h
  by_cases hk:k.isEmpty=true
  ·rw [if_pos hk]
  ·rw [if_neg hk]
   simp only [hv,h.resolve_left hk,if_true]
theorem setP_set {l:List Bare.Par} {p:Bare.Par} (hd:(l.map (·.key)).Nodup) {i:Nat} (hi:i < l.length) (he:(l.getD i noP).key=p.key):Bare.setP l p=l.set i p:=by
 unfold Bare.setP
 have hg:l.getD i noP=l[i]:=by simp [List.getD,hi]
 rw [hg] at he
 rw [if_pos (by
  rw [List.contains_iff_mem,← he]
  exact List.mem_map_of_mem (List.getElem_mem hi))]
 apply List.ext_getElem?
 intro j
 rw [List.getElem?_map,List.getElem?_set]
 by_cases hj:i=j
 ·subst hj
  rw [if_pos rfl,if_pos hi,List.getElem?_eq_getElem hi]
  simp [he]
 ·rw [if_neg hj]
  by_cases hjl:j < l.length
  ·rw [List.getElem?_eq_getElem hjl]
   simp only [Option.map_some]
   rw [if_neg]
   intro e
   have h1:(l.map (·.key))[i]'(by simpa using hi)=(l.map (·.key))[j]'(by simpa using hjl):=by simp [he,e]
   rcases Nat.lt_or_ge i j with h | h
   ·exact (List.pairwise_iff_getElem.1 hd) i j (by simpa using hi) (by simpa using hjl) h h1
   ·exact (List.pairwise_iff_getElem.1 hd) j i (by simpa using hjl) (by simpa using hi) (by omega) h1.symm
  ·rw [List.getElem?_eq_none (by omega)];rfl
theorem setP_add {l:List Bare.Par} {p:Bare.Par} (h:∀ i,i < l.length→(l.getD i noP).key ≠ p.key):Bare.setP l p=l ++ [p]:=by
 refine Bare.setP_new fun hm=>?_
 obtain ⟨q,hq,he⟩:=List.mem_map.1 hm
 obtain ⟨i,hi⟩:=List.getElem?_of_mem hq
 obtain ⟨h1,h2⟩:=List.getElem?_eq_some_iff.1 hi
 have hg:l.getD i noP=q:=by simp [List.getD,hi]
 exact h i h1 (by rw [hg];exact he)
theorem setP_nodup {l:List Bare.Par} {p:Bare.Par} (hd:(l.map (·.key)).Nodup):((Bare.setP l p).map (·.key)).Nodup:=by
 unfold Bare.setP
 split
 ·rename_i h
  have e:(l.map fun q=>if q.key=p.key then p else q).map (·.key)=l.map (·.key):=by
   rw [List.map_map]
   refine List.map_congr_left fun q _=>?_
   simp only [Function.comp]
   split
   ·rename_i e;exact e.symm
   ·rfl
  rw [e];exact hd
 ·rename_i h
  rw [List.map_append,List.nodup_append]
  refine ⟨hd,by simp,fun a ha b hb=>?_⟩
  simp at hb
  subst hb
  rintro rfl
  exact h (List.contains_iff_mem.2 ha)
theorem setP_len (l:List Bare.Par) (p:Bare.Par):(Bare.setP l p).length ≤ l.length + 1:=by
 unfold Bare.setP
 split <;> simp
end Go.Proofs.YtnknmmbnhoanfaaGreatDoor
namespace Go.Proofs.YtnknmmbnhoanfaaGreatDoor
open Go.RowKit Go.Shelf Go.Cs
attribute [local go_sem] Oper.semAt_some


theorem told_snoc (L:List Bare.Par) (k:Nat) (hk:k < L.length):Bare.told (L.take (k + 1))=Bare.told (L.take k) ++ (59::((L.getD k noP).key ++ Bare.valued (L.getD k noP).bare)):=by
 have e:L.getD k noP=L[k]:=by simp [List.getD,hk]
 unfold Bare.told
 rw [List.take_add_one,List.getElem?_eq_getElem hk,e,List.flatMap_append]
 simp
theorem told_len (L:List Bare.Par) (hs:∀ p ∈ L,SmP p):(Bare.told L).length ≤ L.length * 200000:=by
 induction L with
 | nil=>simp [Bare.told]
 | cons p L ih =>
  have h1:=ih (fun q hq=>hs q (List.mem_cons_of_mem _ hq))
  have h2:=hs p (by simp)
  have h3:=valued_len p.bare
  unfold SmP at h2
  rw [Bare.told_cons]
  simp
  omega
theorem par_cells {W:World} {B:Nat} {p:Bare.Par} (hr:W.heap[B]? = some (.cells (pcs p).toArray 83 (0,0))):W.cell? ⟨B,0,none⟩=some (.string (tx p.key))∧W.cell? ⟨B,1,none⟩=some (.int .u8 p.bare.kind)∧W.cell? ⟨B,2,none⟩=some (.int .i64 p.bare.int)∧W.cell? ⟨B,3,none⟩=some (.string (tx p.bare.text))∧W.cell? ⟨B,4,none⟩=some (.bool p.bare.yes) :=
 ⟨cell_of_row _ _ 0 _ _ _ hr,cell_of_row _ _ 1 _ _ _ hr,cell_of_row _ _ 2 _ _ _ hr,cell_of_row _ _ 3 _ _ _ hr,cell_of_row _ _ 4 _ _ _ hr⟩
theorem told_any {τ:Bool} (v:Value) (L:List Bare.Par) (w:World) (h:RdP τ w v L) (hs:∀ p ∈ L,SmP p) (hl:L.length ≤ 2000000) (hT:Tab w) :
  Calls Tryz.prog 81 #[v] w fun e w'=>e = .returned (.string (tx (Bare.told L)))∧New w w':=by
 have HV:=Lib.hid h
 have HS:=Lib.hid hs
 have HT:=Lib.hid hT
 have HL:=Lib.hid (fun k=>told_len (L.take k) (fun p hp=>hs p (List.mem_of_mem_take hp)))
 have HN:=Lib.hid (told_snoc L)
 obtain ⟨ao,cap,rfl⟩:=h.slice
 obtain ⟨n,hn⟩:∃ n,L.length=n:=⟨_,rfl⟩
 have Hn:=Lib.hid hn
 rw [hn] at hl HV HN ⊢
 obtain ⟨r,hr⟩:∃ r,Bare.told L=r:=⟨_,rfl⟩
 have HR:Hid (Bare.told (L.take n)=r):=Lib.hid (by rw [← hn,List.take_length];exact hr)
 rw [hr]
 have hN0:New w w:=Mods.refl _ _
 clear h hs hT hn hr
 go_enter Tryz.func81,Tryz.ntmps81
 go_wp2_with fail
 go_loopw [2,7] (fun s t wr=>∃ k:Nat,k ≤ n∧t = .int .i64 k∧s = .string (tx (Bare.told (L.take k)))∧New w wr) (fun _ t _=>n - (intOf t).toNat)
 case atStart=>exact ⟨0,Nat.zero_le _,rfl,rfl,hN0⟩
 case round =>
  obtain ⟨k,hk,rfl,rfl,hN⟩:=hrel
  by_cases hlt:k < n
  ·have hkd:decide ((k:Int) < (n:Int))=true:=decide_eq_true (by omega)
   obtain ⟨b,o,rfl,hrow⟩:=((HV.out.new hN).1).at.2.2 k hlt
   have hsm:=HS.out (L.getD k noP) (getD_mem (by rw [Hn.out];exact hlt))
   have hnx:=Lib.hid (HN.out k (by first | exact hlt | (rw [Hn.out];exact hlt)))
   have hol:=HL.out k
   rw [List.length_take,Hn.out] at hol
   have hol2:(Bare.told (L.take k)).length ≤ 400000000000:=by
    have:min k n ≤ 2000000:=by omega
    have:=Nat.mul_le_mul_right 200000 this
    omega
   have HVal:=Lib.hid (fun W (hW:New w W)=>valued_any (L.getD k noP).bare hsm.2 W (HT.out.new hW))
   have hvl:=valued_len (L.getD k noP).bare
   unfold bv bcs at HVal
   obtain ⟨⟨key,kk,nn,tt,yy⟩,hp⟩:∃ p,L.getD k noP=p:=⟨_,rfl⟩
   rw [hp] at hrow hsm hnx HVal hvl
   obtain ⟨k0,k1,k2,k3,k4⟩:=cells5 hrow
   unfold SmP at hsm
   simp only at k0 k1 k2 k3 k4 hsm hnx HVal hvl
   obtain ⟨q,hq⟩:∃ x,tx key=x:=⟨_,rfl⟩
   obtain ⟨s,hse⟩:∃ x,tx tt=x:=⟨_,rfl⟩
   obtain ⟨vl,hve⟩:∃ x,tx (Bare.valued ⟨kk,nn,tt,yy⟩)=x:=⟨_,rfl⟩
   obtain ⟨O,hO⟩:∃ x,tx (Bare.told (L.take k))=x:=⟨_,rfl⟩
   have Hjo:Hid (O ++ (⟨#[59]⟩ ++ q ++ vl)=tx (Bare.told (L.take (k + 1)))):=Lib.hid (by
    rw [hnx.out,← hO,← hq,← hve,cat_bl,cat_bl,cat_bl]
    show tx (Bare.told (L.take k) ++ ([59] ++ key ++ Bare.valued ⟨kk,nn,tt,yy⟩)) = _
    simp)
   have hqs:q.size ≤ 100000:=by rw [← hq,tx_size];exact hsm.1
   have hvs:vl.size ≤ 50000:=by rw [← hve,tx_size];omega
   have hOs:O.size ≤ 400000000000:=by rw [← hO,tx_size];exact hol2
   rw [hq] at k0
   rw [hse] at k3 HVal
   rw [hve] at HVal
   rw [hO]
   clear hq hse hve hO hol hol2 hvl hsm hnx hrow hp HN HL HS HR
   go_upto_region 4 with fail
   obtain ⟨W1,hW1⟩:∃ W1,wr.alloc (.cells #[.string q,.int .u8 kk,.int .i64 nn,.string s,.bool yy] 83)=W1:=⟨_,rfl⟩
   have hr1:W1.heap[wr.heap.size]? = some (.cells #[.string q,.int .u8 kk,.int .i64 nn,.string s,.bool yy] 83 (0,0)):=by rw [← hW1];exact World.alloc_heap_new _ _
   have hA:New w W1:=by rw [← hW1];exact hN.alloc _
   rw [hW1]
   obtain ⟨B,hB⟩:∃ B,wr.heap.size=B:=⟨_,rfl⟩
   rw [hB] at hr1 ⊢
   have Hr:=Lib.hid hr1
   have c0:=cell_of_row _ _ 0 _ _ _ hr1
   have c1:=cell_of_row _ _ 1 _ _ _ hr1
   have c2:=cell_of_row _ _ 2 _ _ _ hr1
   have c3:=cell_of_row _ _ 3 _ _ _ hr1
   have c4:=cell_of_row _ _ 4 _ _ _ hr1
   simp only [gS] at c0 c1 c2 c3 c4
   clear hr1 hW1 hB k0 k1 k2 k3 k4
   have z1:¬ 9223372036854775807 < 1 + q.size:=by omega
   have z2:¬ 9223372036854775807 < 1 + q.size + vl.size:=by omega
   have z3:¬ 9223372036854775807 < O.size + (1 + q.size + vl.size):=by omega
   go_region_with (refine (HVal.out _ hA.drew).mono ?_;rintro e1 w1 ⟨rfl,hN1⟩;have q0:=cell_of_row _ _ 0 _ _ _ (hN1.heap (show W1.drew.heap[B]? = _ from Hr.out) id);simp only [gS] at q0)
   all_goals
    have hN2:=hA.trans ((Mods.refl (fun _=>False) W1).drew.trans hN1)
    go_wp2_with fail
    go_roundw
    case rel=>exact ⟨k + 1,by omega,by go_num,by rw [← Hjo.out],hN2⟩
    case measure=>simp [intOf];omega
  ·obtain rfl:k=n:=by omega
   have hkd:decide ((k:Int) < (k:Int))=false:=decide_eq_false (by omega)
   have hR:=HR.out
   subst hR
   clear HN HL HS Hn
   go_wp2_with fail
   go_ret
   exact ⟨rfl,hN⟩


theorem same_key (B:Nat) (p q:Bare.Par) (w:World) (h:w.heap[B]? = some (.cells (pcs p).toArray 83 (0,0))) :
  Calls Tryz.prog 192 #[.agg (pcs q).toArray,.pointer (some ⟨B,0,none⟩)] w fun e w'=>e = .returned (.bool (decide (q.key=p.key)))∧New w w':=by
 have k0:w.cell? ⟨B,0,none⟩=some (.string (tx p.key)):=cell_of_row _ _ 0 _ _ _ h
 have hlt:=(Array.getElem?_eq_some_iff.1 h).1
 have he:=eq_tx (tx q.key) (tx p.key)
 rw [bl_tx,bl_tx] at he
 obtain ⟨d,hd⟩:∃ d,decide (q.key=p.key)=d:=⟨_,rfl⟩
 rw [hd] at he ⊢
 unfold pcs
 obtain ⟨kq,kk,nn,tt,yy⟩:=q
 simp only at he ⊢
 obtain ⟨P,hP⟩:∃ x,tx p.key=x:=⟨_,rfl⟩
 obtain ⟨Q,hQ⟩:∃ x,tx kq=x:=⟨_,rfl⟩
 obtain ⟨T,hT⟩:∃ x,tx tt=x:=⟨_,rfl⟩
 have hP':=hP
 rw [hP] at he
 have k0:w.cell? ⟨B,0,none⟩=some (.string P):=by rw [← hP];exact k0
 rw [hQ] at he ⊢
 rw [hT]
 clear hP hP' hQ hT hd h
 have hN:New w (w.alloc (.cells #[.string Q,.int .u8 kk,.int .i64 nn,.string T,.bool yy] 83)):=(Mods.refl _ _).alloc _
 have hr:=World.alloc_heap_new w (.cells #[.string Q,.int .u8 kk,.int .i64 nn,.string T,.bool yy] 83)
 have k1:=hN.cell k0 id
 have k2:=cell_of_row _ _ 0 _ _ _ hr
 simp only [gS] at k2
 go_enter Tryz.func192,Tryz.ntmps192
 go_upto_region 1 with fail
 obtain ⟨W,hW⟩:∃ W,w.alloc (.cells #[.string Q,.int .u8 kk,.int .i64 nn,.string T,.bool yy] 83)=W:=⟨_,rfl⟩
 rw [hW] at k1 k2 hN ⊢
 clear hW hr
 go_wp2_with fail
 go_ret
 exact ⟨rfl,hN⟩
theorem Tab.modR {W W':World} {R:Nat} {s:Bare.Bs} {bad:Bool} (h:Tab W) (hr:Rdr W R s bad) (hm:ModR R W W'):Tab W':=by
 refine ⟨?_,?_⟩
 ·have hp:=h.pow
  unfold Lib.TabIs at hp ⊢
  have hrow:∃ t fr,W.heap[1]? = some (.cells (Lib.pow10Tab.map fun z=>Value.int .u64 z).toArray t fr):=by
   simp only [World.var?,gPow,Option.bind_some] at hp
   split at hp
   ·rename_i cs t fr he
    rw [Option.some.inj hp] at he
    exact ⟨_,_,he⟩
   ·cases hp
  obtain ⟨t,fr,hrow⟩:=hrow
  have hne:¬ 1=R:=fun e=>by
   have hr2:W.heap[R]? = _:=hr
   rw [← e,hrow] at hr2
   have hsz:=congrArg (fun o=>match o with | some (Obj.cells cs _ _)=>cs.size | _=>0) hr2
   simp [Lib.pow10Tab] at hsz
  have:=hm.heap hrow hne
  simp only [World.var?,gPow,Option.bind_some,this]
 ·obtain ⟨m,hmm⟩:=h.max
  exact ⟨m,hm.cell hmm (fun e=>by
   have e:R=0:=e.symm
   subst e
   rw [hr.facts.1.1] at hmm
   cases hmm)⟩
def pf (l:List Bare.Par):Nat→List Value:=fun i=>pcs (l.getD i noP)
theorem pf_len (l:List Bare.Par):∀ i,(pf l i).length=5:=fun i=>rfl
theorem pcs_one (p:Bare.Par):∀ u ∈ pcs p,u.oneCell'=true:=by
 intro u hu
 unfold pcs at hu
 simp at hu
 rcases hu with rfl | rfl | rfl | rfl | rfl <;> rfl
theorem OwP.reads {base:Nat} {W:World} {v:Value} {l:List Bare.Par} (h:OwP base W v l.length (pf l)) (hl:l.length ≤ 2000000):RdP true W v l:=⟨h.row (by omega),fun _=>h.tag⟩
def PostP (s0:Bare.Bs) (bad0:Bool) (l:List Bare.Par) (s:Bare.Bs) (bad:Bool):Prop :=
 if bad0 then l = []∧s=s0∧bad=true else match Bare.readParams [] s0 with
  | some (l0,r0)=>l=l0∧s=r0∧bad=false
  | none=>bad=true
def InvP (s0:Bare.Bs) (bad0:Bool) (l:List Bare.Par) (s:Bare.Bs) (bad:Bool):Prop :=
 if bad0 then l = []∧s=s0∧bad=true else if bad then Bare.readParams [] s0=none else Bare.readParams l s=Bare.readParams [] s0
theorem InvP.bad {s0:Bare.Bs} {bad0:Bool} {l:List Bare.Par} {s:Bare.Bs} (h:InvP s0 bad0 l s true):PostP s0 bad0 l s true:=by
 unfold InvP at h
 unfold PostP
 split
 ·rename_i h0;rw [if_pos h0] at h;exact h
 ·rename_i h0;rw [if_neg h0,if_pos rfl] at h;rw [h]
theorem InvP.fin {s0:Bare.Bs} {bad0:Bool} {l:List Bare.Par} {s:Bare.Bs} (h:InvP s0 bad0 l s false) (hs:s.head? ≠ some 59):PostP s0 bad0 l s false:=by
 unfold InvP at h
 unfold PostP
 split
 ·rename_i h0;rw [if_pos h0] at h;cases h.2.2
 ·rename_i h0
  rw [if_neg h0,if_neg (by decide),Bare.readParams_end l s hs] at h
  rw [← h]
  exact ⟨rfl,rfl,rfl⟩
theorem InvP.step {s0:Bare.Bs} {bad0:Bool} {l:List Bare.Par} {r:Bare.Bs} (h:InvP s0 bad0 l (59::r) false) {l':List Bare.Par} {s':Bare.Bs} {bad':Bool}
  (h1:bad'=false→Bare.readParams l (59::r)=Bare.readParams l' s') (h2:bad'=true→Bare.readParams l (59::r)=none):InvP s0 bad0 l' s' bad':=by
 unfold InvP at h ⊢
 split
 ·rename_i h0;rw [if_pos h0] at h;cases h.2.2
 ·rename_i h0
  rw [if_neg h0,if_neg (by decide)] at h
  cases bad' with
  | false=>rw [if_neg (by decide),← h1 rfl];exact h
  | true=>rw [if_pos rfl,← h,h2 rfl]
theorem wpList_store_midN {ops:Array Oper} {rest:List Oper} {op:Oper} {a:Act} {w:World} {Q:Exit→Act→World→Prop} (hgd:op.guard=none) (hdst:op.dst=none) (ty:TypeId) (x y:Operand) (ho:op.op = .store ty x y)
  (b o:Nat) (cells:List Value) (hx:a.eval x = .pointer (some ⟨b,o,none⟩)) (hy:a.eval y = .agg cells.toArray)
  (ht:w.there b o cells.length) (hi:(Tryz.prog.info? ty).map (·.size)=some cells.length) (h1:∀ v ∈ cells,v.oneCell'=true)
  (h:wpList Tryz.prog ops Q rest a (w.setCells b o cells)):wpList Tryz.prog ops Q (op::rest) a w:=by
 refine wpList_store_mid hgd ty x y ho b o cells.toArray hx hy (by simpa using ht) (by simpa using hi) (all_oneCell_toArray h1) ?_
 rw [hdst]
 exact h
theorem setCells_mods (b:Nat):∀ (cs:List Value) (W:World) (o:Nat),Mods (fun x=>x=b) W (W.setCells b o cs)
 | [],W,o=>Mods.refl _ _
 | v::r,W,o=>(setMods W b o v).trans (setCells_mods b r _ _)
theorem _root_.Go.Cs.Mods.trans' {S:Nat→Prop} {b:Nat} {w a c:World} (h:Mods S w a) (k:Mods (fun x=>x=b) a c) (hb:w.heap.size ≤ b):Mods S w c :=
 ⟨k.os.trans h.os,k.tape.trans h.tape,k.output.trans h.output,Nat.le_trans h.size k.size,fun i o hi ho=>k.block i o (h.block i o hi ho) (.inl fun e=>by
  have:=(Array.getElem?_eq_some_iff.1 hi).1;omega)⟩
theorem params_r (R:Nat) (s0:Bare.Bs) (bad0:Bool) (w:World) (hl:s0.length ≤ 1000000) (h:Rdr w R s0 bad0) (hT:Tab w) :
  Calls Tryz.prog 169 #[.pointer (some ⟨R,0,none⟩)] w fun e w'=>∃ v l s bad,e = .returned v∧RdP true w' v l∧Rdr w' R s bad∧ModR R w w'∧PostP s0 bad0 l s bad∧s.length ≤ s0.length∧l.length + s.length ≤ s0.length:=by
 have hlt:=h.lt
 have HT:=Lib.hid (fun (W:World) (hm:ModR R w W)=>hT.modR h hm)
 go_enter Tryz.func169,Tryz.ntmps169
 go_wp2_with fail
 go_loopw [2] (fun lv wr=>∃ (l:List Bare.Par) (s:Bare.Bs) (bad:Bool),OwP w.heap.size wr lv l.length (pf l)∧Rdr wr R s bad∧ModR R w wr∧Hid (InvP s0 bad0 l s bad)∧l.length + s.length ≤ s0.length∧(l.map (·.key)).Nodup) (fun _ wr=>left R wr)
 case atStart=>exact ⟨[],s0,bad0,.nil _ _ _ (pf_len _),h,Mods.refl _ _,Lib.hid (by unfold InvP;cases bad0 <;> simp),by simp,by simp⟩
 case round =>
  clear h
  obtain ⟨l,s,bad,hown,hrd,hm,hinv,hlen,hnd⟩:=hrel
  obtain ⟨⟨c0,c1⟩,f0,f1⟩:=hrd.facts
  cases bad with
  | true =>
   obtain ⟨la,lc,hle⟩:=hown.slice
   rw [hle] at hown ⊢
   clear hle
   go_wp2_with fail
   go_ret
   exact ⟨_,l,s,true,rfl,hown.reads (by omega),hrd,hm,hinv.out.bad,by omega,hlen⟩
  | false =>
  have HSee:=Lib.hid (see_any R s [59] false wr hrd)
  have C0:=Lib.hid c0
  clear c0
  cases hp:Lib.hasPrefix s [59] with
  | false =>
   obtain ⟨q1,q2⟩:=pre1_false hp
   rw [hp,q2] at HSee
   go_wp2_with fail
   refine HSee.out.mono ?_
   rintro e w1 ⟨rfl,hr1,hm1⟩
   have ho1:=hown.mods hm1 (fun g hg e=>by have:=(hown.lt hg).1;omega)
   go_wp2_with fail
   go_ret
   exact ⟨_,l,s,false,rfl,ho1.reads (by omega),hr1,hm.trans hm1,hinv.out.fin q1,by omega,hlen⟩
  | true =>
  obtain ⟨r,rfl,q2⟩:=pre1_true hp
  rw [hp,q2] at HSee
  have hrl:r.length ≤ 1000000:=by simp at hlen;omega
  clear hp q2 f0 f1 hrd
  go_wp2_with fail
  refine HSee.out.mono ?_
  rintro e w1 ⟨rfl,hr1,hm1⟩
  clear c1
  have ho1:=hown.mods hm1 (fun g hg e=>by have:=(hown.lt hg).1;omega)
  have hmm1:=hm.trans hm1
  clear hm1 hown HSee
  go_wp2_with fail
  refine (skip_any R r [32] false w1 (by decide) (by decide) hr1).mono ?_
  rintro e w2 ⟨⟨v2,rfl⟩,hr2,hm2⟩
  have ho2:=ho1.mods hm2 (fun g hg e=>by have:=(ho1.lt hg).1;omega)
  have hmm2:=hmm1.trans hm2
  clear hm2 ho1 hmm1 hr1
  obtain ⟨s2,hs2⟩:∃ x,Bare.skipB [32] r=x:=⟨_,rfl⟩
  have hsl2:s2.length ≤ r.length:=by rw [← hs2];exact Bare.skip_len _ _
  rw [hs2] at hr2
  go_wp2_with fail
  refine (key_r R s2 false w2 (by omega) hr2).mono ?_
  rintro e w3 ⟨rfl,hr3,hm3⟩
  have ho3:=ho2.mods hm3 (fun g hg e=>by have:=(ho2.lt hg).1;omega)
  have hmm3:=hmm2.trans hm3
  clear hm3 ho2 hmm2 hr2
  obtain ⟨k,hk⟩:∃ x,Bare.keyOf s2=x:=⟨_,rfl⟩
  rw [hk] at hr3 ⊢
  obtain ⟨s3,hs3⟩:∃ x,s2.drop k.length=x:=⟨_,rfl⟩
  have hsl3:s3.length ≤ 1000000:=by rw [← hs3,List.length_drop];omega
  rw [hs3,Bool.false_or] at hr3
  obtain ⟨Kx,hKx⟩:∃ x,tx k=x:=⟨_,rfl⟩
  have HKx:=Lib.hid hKx
  rw [hKx]
  go_wp2_with fail
  refine (yes_any w3).mono ?_
  rintro e w4 ⟨rfl,hN4⟩
  have ho4:=ho3.new hN4
  have hr4:=hr3.new hN4
  have hmm4:=hmm3.trans (Mods.ofNew hN4)
  clear hN4 ho3 hmm3 hr3
  unfold bv bcs Bare.yesI
  simp only
  go_upto_region 4 with fail
  obtain ⟨W5,hW5⟩:∃ W5,w4.alloc (.cells #[.string Kx,.int .u8 6,.int .i64 0,.string (tx []),.bool true] 83)=W5:=⟨_,rfl⟩
  have hrB:W5.heap[w4.heap.size]? = some (.cells #[.string Kx,.int .u8 6,.int .i64 0,.string (tx []),.bool true] 83 (0,0)):=by rw [← hW5];exact World.alloc_heap_new _ _
  have hN5:New w4 W5:=by rw [← hW5];exact (Mods.refl _ _).alloc _
  have hBw:w.heap.size ≤ w4.heap.size:=hmm4.size
  rw [hW5]
  have hgB:=@OwP.lt _ _ _ _ _ ho4
  obtain ⟨B,hB⟩:∃ B,w4.heap.size=B:=⟨_,rfl⟩
  rw [hB] at hrB hBw hgB ⊢
  have hBR:¬ B=R:=by omega
  have ho5:=ho4.new hN5
  have hr5:=hr4.new hN5
  have hmm5:=hmm4.trans (Mods.ofNew hN5)
  clear hN5 ho4 hmm4 hr4 hW5 hB
  have HSee2:=Lib.hid (see_any R s3 [61] k.isEmpty W5 hr5)
  obtain ⟨b,hb⟩:∃ b,Lib.hasPrefix s3 [61]=b:=⟨_,rfl⟩
  obtain ⟨s4,hs4⟩:∃ x,Lib.trimPrefix s3 [61]=x:=⟨_,rfl⟩
  have hpl:=par_step l r hs2 hk hs3 hb hs4
  have hsl4:s4.length ≤ 1000000:=by
   rw [← hs4]
   unfold Lib.trimPrefix
   split
   ·rw [List.length_drop];omega
   ·exact hsl3
  rw [hb,hs4] at HSee2
  have hpl1:=Lib.hid hpl.1
  have hpl2:=Lib.hid hpl.2.1
  have hpl3:=hpl.2.2
  clear hpl hb hs4 hs2 hs3 hk
  have hRB':¬ B=R:=hBR
  cases b with
  | false =>
   go_wp2_with fail
   refine HSee2.out.mono ?_
   rintro e w8 ⟨rfl,hr8,hm8⟩
   have ho8:=ho5.mods hm8 (fun g hg e=>by have:=(ho5.lt hg).1;omega)
   have rB:w8.heap[B]? = some (.cells (pcs ⟨k,parV s4 false⟩).toArray 83 (0,0)):=by
    have:=hm8.heap hrB hBR
    rw [← HKx.out] at this
    exact this
   have hm8:=hmm5.trans hm8
   have hr8:Rdr w8 R (parR s4 false) (k.isEmpty || parB s4 false):=by
    unfold parR parB
    simpa using hr8
   clear ho5 hmm5 hrB hr5 HSee2
   obtain ⟨p,hpe⟩:∃ p:Bare.Par,(⟨k,parV s4 false⟩:Bare.Par)=p:=⟨_,rfl⟩
   rw [hpe] at rB hpl1
   clear hpe
   obtain ⟨la,lc,hle⟩:=ho8.slice
   have HIdx:=Lib.hid (index_P 192 #[.pointer (some ⟨B,0,none⟩)] l.length (fun i j=>(pcs (l.getD i noP)).getD j undef) (fun W=>W.heap[B]? = some (.cells (pcs p).toArray 83 (0,0))) (fun W W' h hN=>hN.heap h id) (fun i=>decide ((l.getD i noP).key=p.key)) (fun i W hi hW=>same_key B p (l.getD i noP) W hW) (enters_of Tryz.func192 (by kernel_rfl) rfl) _ w8 (ho8.row (by omega)) rB)
   have HO:=Lib.hid ho8
   have HB:=Lib.hid rB
   have HR8:=Lib.hid hr8
   have HM8:=Lib.hid hm8
   rw [hle] at HIdx HO ⊢
   by_cases hex:∃ i,i < l.length∧(l.getD i noP).key=p.key∧∀ j,j < i→(l.getD j noP).key ≠ p.key
   ·obtain ⟨i0,hi0,hk0,hb0⟩:=hex
    have hix:firstFrom (fun i=>decide ((l.getD i noP).key=p.key)) l.length=i0:=first_at _ _ i0 hi0 (fun j hj=>decide_eq_false (hb0 j hj)) (decide_eq_true hk0)
    rw [hix] at HIdx
    have hset:=Lib.hid (setP_set hnd hi0 hk0)
    have hrow:=(HO.out.row (by omega)).at.2.2 i0 hi0
    obtain ⟨g,og,rfl,-⟩:=hrow
    obtain rfl:og=0:=by
     rcases HO.out.2.2.2 with ⟨h,_⟩ | ⟨b',cap',cur,h,_⟩
     ·cases h
     ·cases h;rfl
    clear hix hle hk0 hb0
    go_wp2_with fail
    refine HIdx.out.mono ?_
    rintro e w9 ⟨rfl,hN9⟩
    have hi0':decide ((0:Int) ≤ (i0:Int))=true:=decide_eq_true (by omega)
    have ho9:=HO.out.new hN9
    have rB9:=hN9.heap HB.out id
    obtain ⟨q0,q1,q2,q3,q4⟩:=par_cells rB9
    obtain ⟨b',o',e',hrw⟩:=(ho9.row (by omega)).at.2.2 i0 hi0
    obtain ⟨rfl,rfl⟩:b'=g∧o'=0:=by cases e';exact ⟨rfl,rfl⟩
    rw [Nat.zero_add] at hrw
    obtain ⟨m0,m1,m2,m3,m4⟩:=cells5 hrw
    have z0:=ho9.frozen rfl (i0 * 5)
    have z1:=ho9.frozen rfl (i0 * 5 + 1)
    have z2:=ho9.frozen rfl (i0 * 5 + 2)
    have z3:=ho9.frozen rfl (i0 * 5 + 3)
    have z4:=ho9.frozen rfl (i0 * 5 + 4)
    have hput:=Lib.hid (ho9.put hi0 (.string (tx p.key)) (.int .u8 p.bare.kind) (.int .i64 p.bare.int) (.string (tx p.bare.text)) (.bool p.bare.yes) (pcs_one p))
    have hgl:w.heap.size ≤ b':=(ho9.lt rfl).1
    have hgR:¬ R=b':=by omega
    have HR9:=Lib.hid (HR8.out.new hN9)
    have hthere:w9.there b' (i0 * 5) 5:=fun j hj=>by
     have:j=0 ∨ j=1 ∨ j=2 ∨ j=3 ∨ j=4:=by omega
     rcases this with rfl | rfl | rfl | rfl | rfl
     ·exact ⟨by rw [Nat.add_zero,m0];rfl,by rw [Nat.add_zero];exact z0⟩
     ·exact ⟨by rw [m1];rfl,z1⟩
     ·exact ⟨by rw [m2];rfl,z2⟩
     ·exact ⟨by rw [m3];rfl,z3⟩
     ·exact ⟨by rw [m4];rfl,z4⟩
    clear e' hrw rB9 m0 m1 m2 m3 m4 z0 z1 z2 z3 z4
    go_wp2_with (refine wpList_store_midN rfl rfl 83 (.tmp 33) (.tmp 32) rfl b' (i0 * 5) (pcs p) rfl rfl hthere sizeP (pcs_one p) ?_)
    obtain ⟨W10,hW10⟩:∃ W10,w9.setCells b' (i0 * 5) (pcs p)=W10:=⟨_,rfl⟩
    have HW10:=Lib.hid hW10
    have hp10:=hput.out
    have hW11:(((((w9.setCell ⟨b',i0 * 5 + 0,none⟩ (.string (tx p.key))).setCell ⟨b',i0 * 5 + 1,none⟩ (.int .u8 p.bare.kind)).setCell ⟨b',i0 * 5 + 2,none⟩ (.int .i64 p.bare.int)).setCell ⟨b',i0 * 5 + 3,none⟩ (.string (tx p.bare.text))).setCell ⟨b',i0 * 5 + 4,none⟩ (.bool p.bare.yes))=W10:=hW10
    rw [hW11] at hp10
    have hmg:Mods (fun x=>x=b') w9 W10:=by
     rw [← hW10]
     exact setCells_mods _ _ _ _
    have hr10:=hmg.heap HR9.out hgR
    have hm10:ModR R w W10:=(HM8.out.trans (Mods.ofNew hN9)).trans' hmg hgl
    have ho10:OwP w.heap.size W10 (.slice (some ⟨b',0,none⟩) l.length lc) (Bare.setP l p).length (pf (Bare.setP l p)):=by
     rw [hset.out,List.length_set]
     refine hp10.congr (pf_len _) fun i hi=>?_
     unfold pf
     rw [getD_set]
     by_cases e:i=i0
     ·subst e;rw [if_pos rfl,if_pos ⟨rfl,hi⟩];rfl
     ·rw [if_neg e,if_neg (fun h=>e h.1.symm)]
    clear hput hp10 q0 q1 q2 q3 q4 hW10 hW11
    go_roundw
    case rel=>rw [HW10.out];exact ⟨Bare.setP l p,_,_,ho10,hr10,hm10,Lib.hid (hinv.out.step hpl1.out hpl2.out),by have:=setP_len l p;simp at hlen;omega,setP_nodup hnd⟩
    case measure =>
     have e1:left R wr=(59::r).length:=by unfold left;rw [C0.out];exact tx_size _
     rw [HW10.out]
     have e2:left R W10=(parR s4 false).length:=by unfold left;rw [(Rdr.facts hr10).1.1];exact tx_size _
     rw [e1,e2,List.length_cons];omega
   ·have hno:∀ i,i < l.length→(l.getD i noP).key ≠ p.key:=fun i hi he=>by
     have:∀ n i,i ≤ n→i < l.length→(l.getD i noP).key=p.key→False:=fun n=>by
      induction n with
      | zero =>
       intro i h0 hi he
       obtain rfl:i=0:=by omega
       exact hex ⟨0,hi,he,fun j hj=>by omega⟩
      | succ n ih =>
       intro i h0 hi he
       by_cases h:∃ j,j < i∧(l.getD j noP).key=p.key
       ·obtain ⟨j,hj,hje⟩:=h
        exact ih j (by omega) (by omega) hje
       ·exact hex ⟨i,hi,he,fun j hj hje=>h ⟨j,hj,hje⟩⟩
     exact this i i (Nat.le_refl _) hi he
    have hix:firstFrom (fun i=>decide ((l.getD i noP).key=p.key)) l.length = -1:=first_none _ _ (fun j hj=>decide_eq_false (hno j hj))
    rw [hix] at HIdx
    have hset:=Lib.hid (setP_add hno)
    clear hix hle hex hno
    go_wp2_with fail
    refine HIdx.out.mono ?_
    rintro e w9 ⟨rfl,hN9⟩
    have ho9:=HO.out.new hN9
    obtain ⟨q0,q1,q2,q3,q4⟩:=par_cells (hN9.heap HB.out id)
    have HR9:=Lib.hid (HR8.out.new hN9)
    have hm9:ModR R w w9:=HM8.out.trans (Mods.ofNew hN9)
    have hln:l.length ≤ 2000000:=by omega
    go_wp2_with (at_builtin;refine wpList_append_P (w:=w9) (c:=pcs p) _ _ rfl rfl rfl rfl rfl rfl (pcs_one p) ho9 hln hm9.size ?_)
    intro v' W10 ho10 hnew
    have hgR:∀ g,Value.ownBlock (.slice la l.length lc)=some g→g ≠ R:=fun g hg e=>by have:=(ho9.lt hg).1;omega
    have hm10:ModR R w W10:=hnew w _ hm9 (fun g hg=>.inl (ho9.lt hg).1)
    have hr10:Rdr W10 R (parR s4 false) (k.isEmpty || parB s4 false):=(hnew w9 (fun b=>Value.ownBlock (.slice la l.length lc)=some b) (Mods.refl _ _) (fun g hg=>.inr hg)).heap HR9.out (fun hg=>hgR _ hg rfl)
    have ho11:OwP w.heap.size W10 v' (Bare.setP l p).length (pf (Bare.setP l p)):=by
     rw [hset.out,List.length_append]
     refine ho10.congr (pf_len _) fun i hi=>?_
     unfold pf
     rw [getD_snoc]
     by_cases e:i=l.length
     ·subst e;rw [if_pos rfl,if_neg (by omega),if_pos rfl]
     ·rw [if_neg e,if_pos (by omega)]
    clear ho10 ho9 hnew q0 q1 q2 q3 q4
    go_wp2_with fail
    go_roundw
    case rel=>exact ⟨Bare.setP l p,_,_,ho11,hr10,hm10,Lib.hid (hinv.out.step hpl1.out hpl2.out),by have:=setP_len l p;simp at hlen;omega,setP_nodup hnd⟩
    case measure =>
     have e1:left R wr=(59::r).length:=by unfold left;rw [C0.out];exact tx_size _
     have e2:left R W10=(parR s4 false).length:=by unfold left;rw [(Rdr.facts hr10).1.1];exact tx_size _
     rw [e1,e2,List.length_cons];omega
  | true =>
   go_wp2_with fail
   refine HSee2.out.mono ?_
   rintro e w6 ⟨rfl,hr6,hm6⟩
   have ho6:=ho5.mods hm6 (fun g hg e=>by have:=(ho5.lt hg).1;omega)
   have rB6:=hm6.heap hrB hBR
   have hmm6:=hmm5.trans hm6
   clear ho5 hmm5 hrB hr5 HSee2 hm6
   go_wp2_with fail
   refine (bare_r R s4 k.isEmpty w6 hsl4 hr6 (HT.out _ hmm6)).mono ?_
   rintro e w7 ⟨rfl,hr7,hm7⟩
   have ho7:=ho6.mods hm7 (fun g hg e=>by have:=(ho6.lt hg).1;omega)
   have rB7:=hm7.heap rB6 hBR
   have hmm7:=hmm6.trans hm7
   obtain ⟨⟨bk,bn,bt,by'⟩,hbv⟩:∃ x,BareV s4=x:=⟨_,rfl⟩
   have Hbv:=Lib.hid hbv
   rw [hbv]
   unfold bv bcs
   simp only
   obtain ⟨BT,hBT⟩:∃ x,tx bt=x:=⟨_,rfl⟩
   have HBT:=Lib.hid hBT
   rw [hBT]
   have hthere:w7.there B 1 4:=fun j hj=>by
    have:j=0 ∨ j=1 ∨ j=2 ∨ j=3:=by omega
    rcases this with rfl | rfl | rfl | rfl
    ·exact ⟨by rw [cell_of_row _ _ 1 _ _ _ rB7];rfl,frozen_row (i:=1) rB7⟩
    ·exact ⟨by rw [cell_of_row _ _ 2 _ _ _ rB7];rfl,frozen_row (i:=2) rB7⟩
    ·exact ⟨by rw [cell_of_row _ _ 3 _ _ _ rB7];rfl,frozen_row (i:=3) rB7⟩
    ·exact ⟨by rw [cell_of_row _ _ 4 _ _ _ rB7];rfl,frozen_row (i:=4) rB7⟩
   have hone:=one4 bk bn BT by'
   have HRB:=Lib.hid rB7
   clear ho6 hmm6 rB6 hr6 hm7 rB7 hbv hBT
   go_upto_region 6 with (refine wpList_store_midN rfl rfl 23 (.tmp 24) (.tmp 23) rfl B 1 [.int .u8 bk,.int .i64 bn,.string BT,.bool by'] rfl rfl hthere info_bare hone ?_)
   obtain ⟨w8,hW8⟩:∃ w8,w7.setCells B 1 [.int .u8 bk,.int .i64 bn,.string BT,.bool by']=w8:=⟨_,rfl⟩
   rw [hW8]
   have rB:w8.heap[B]? = some (.cells (pcs ⟨k,parV s4 true⟩).toArray 83 (0,0)):=by
    have:=setCell_heap (i:=4) (setCell_heap (i:=3) (setCell_heap (i:=2) (setCell_heap (i:=1) HRB.out (.int .u8 bk)) (.int .i64 bn)) (.string BT)) (.bool by')
    have e:((((w7.setCell ⟨B,1,none⟩ (.int .u8 bk)).setCell ⟨B,2,none⟩ (.int .i64 bn)).setCell ⟨B,3,none⟩ (.string BT)).setCell ⟨B,4,none⟩ (.bool by'))=w8:=hW8
    rw [e] at this
    unfold parV
    rw [if_pos rfl,Hbv.out]
    unfold pcs
    simp only
    rw [HKx.out,HBT.out]
    exact this
   have hmB:Mods (fun x=>x=B) w7 w8:=by
    rw [← hW8]
    exact setCells_mods _ _ _ _
   have hr8:Rdr w8 R (parR s4 true) (k.isEmpty || parB s4 true):=hmB.heap hr7 (fun e=>hBR e.symm)
   have hm8:ModR R w w8:=hmm7.trans' hmB hBw
   have ho8:=ho7.mods hmB (fun g hg e=>by have:=(hgB hg).2;omega)
   clear ho7 hmm7 hr7 hW8 hmB hthere
   obtain ⟨p,hpe⟩:∃ p:Bare.Par,(⟨k,parV s4 true⟩:Bare.Par)=p:=⟨_,rfl⟩
   rw [hpe] at rB hpl1
   clear hpe
   obtain ⟨la,lc,hle⟩:=ho8.slice
   have HIdx:=Lib.hid (index_P 192 #[.pointer (some ⟨B,0,none⟩)] l.length (fun i j=>(pcs (l.getD i noP)).getD j undef) (fun W=>W.heap[B]? = some (.cells (pcs p).toArray 83 (0,0))) (fun W W' h hN=>hN.heap h id) (fun i=>decide ((l.getD i noP).key=p.key)) (fun i W hi hW=>same_key B p (l.getD i noP) W hW) (enters_of Tryz.func192 (by kernel_rfl) rfl) _ w8 (ho8.row (by omega)) rB)
   have HO:=Lib.hid ho8
   have HB:=Lib.hid rB
   have HR8:=Lib.hid hr8
   have HM8:=Lib.hid hm8
   rw [hle] at HIdx HO ⊢
   by_cases hex:∃ i,i < l.length∧(l.getD i noP).key=p.key∧∀ j,j < i→(l.getD j noP).key ≠ p.key
   ·obtain ⟨i0,hi0,hk0,hb0⟩:=hex
    have hix:firstFrom (fun i=>decide ((l.getD i noP).key=p.key)) l.length=i0:=first_at _ _ i0 hi0 (fun j hj=>decide_eq_false (hb0 j hj)) (decide_eq_true hk0)
    rw [hix] at HIdx
    have hset:=Lib.hid (setP_set hnd hi0 hk0)
    have hrow:=(HO.out.row (by omega)).at.2.2 i0 hi0
    obtain ⟨g,og,rfl,-⟩:=hrow
    obtain rfl:og=0:=by
     rcases HO.out.2.2.2 with ⟨h,_⟩ | ⟨b',cap',cur,h,_⟩
     ·cases h
     ·cases h;rfl
    clear hix hle hk0 hb0
    go_wp2_with fail
    refine HIdx.out.mono ?_
    rintro e w9 ⟨rfl,hN9⟩
    have hi0':decide ((0:Int) ≤ (i0:Int))=true:=decide_eq_true (by omega)
    have ho9:=HO.out.new hN9
    have rB9:=hN9.heap HB.out id
    obtain ⟨q0,q1,q2,q3,q4⟩:=par_cells rB9
    obtain ⟨b',o',e',hrw⟩:=(ho9.row (by omega)).at.2.2 i0 hi0
    obtain ⟨rfl,rfl⟩:b'=g∧o'=0:=by cases e';exact ⟨rfl,rfl⟩
    rw [Nat.zero_add] at hrw
    obtain ⟨m0,m1,m2,m3,m4⟩:=cells5 hrw
    have z0:=ho9.frozen rfl (i0 * 5)
    have z1:=ho9.frozen rfl (i0 * 5 + 1)
    have z2:=ho9.frozen rfl (i0 * 5 + 2)
    have z3:=ho9.frozen rfl (i0 * 5 + 3)
    have z4:=ho9.frozen rfl (i0 * 5 + 4)
    have hput:=Lib.hid (ho9.put hi0 (.string (tx p.key)) (.int .u8 p.bare.kind) (.int .i64 p.bare.int) (.string (tx p.bare.text)) (.bool p.bare.yes) (pcs_one p))
    have hgl:w.heap.size ≤ b':=(ho9.lt rfl).1
    have hgR:¬ R=b':=by omega
    have HR9:=Lib.hid (HR8.out.new hN9)
    have hthere:w9.there b' (i0 * 5) 5:=fun j hj=>by
     have:j=0 ∨ j=1 ∨ j=2 ∨ j=3 ∨ j=4:=by omega
     rcases this with rfl | rfl | rfl | rfl | rfl
     ·exact ⟨by rw [Nat.add_zero,m0];rfl,by rw [Nat.add_zero];exact z0⟩
     ·exact ⟨by rw [m1];rfl,z1⟩
     ·exact ⟨by rw [m2];rfl,z2⟩
     ·exact ⟨by rw [m3];rfl,z3⟩
     ·exact ⟨by rw [m4];rfl,z4⟩
    clear e' hrw rB9 m0 m1 m2 m3 m4 z0 z1 z2 z3 z4
    go_wp2_with (refine wpList_store_midN rfl rfl 83 (.tmp 33) (.tmp 32) rfl b' (i0 * 5) (pcs p) rfl rfl hthere sizeP (pcs_one p) ?_)
    obtain ⟨W10,hW10⟩:∃ W10,w9.setCells b' (i0 * 5) (pcs p)=W10:=⟨_,rfl⟩
    have HW10:=Lib.hid hW10
    have hp10:=hput.out
    have hW11:(((((w9.setCell ⟨b',i0 * 5 + 0,none⟩ (.string (tx p.key))).setCell ⟨b',i0 * 5 + 1,none⟩ (.int .u8 p.bare.kind)).setCell ⟨b',i0 * 5 + 2,none⟩ (.int .i64 p.bare.int)).setCell ⟨b',i0 * 5 + 3,none⟩ (.string (tx p.bare.text))).setCell ⟨b',i0 * 5 + 4,none⟩ (.bool p.bare.yes))=W10:=hW10
    rw [hW11] at hp10
    have hmg:Mods (fun x=>x=b') w9 W10:=by
     rw [← hW10]
     exact setCells_mods _ _ _ _
    have hr10:=hmg.heap HR9.out hgR
    have hm10:ModR R w W10:=(HM8.out.trans (Mods.ofNew hN9)).trans' hmg hgl
    have ho10:OwP w.heap.size W10 (.slice (some ⟨b',0,none⟩) l.length lc) (Bare.setP l p).length (pf (Bare.setP l p)):=by
     rw [hset.out,List.length_set]
     refine hp10.congr (pf_len _) fun i hi=>?_
     unfold pf
     rw [getD_set]
     by_cases e:i=i0
     ·subst e;rw [if_pos rfl,if_pos ⟨rfl,hi⟩];rfl
     ·rw [if_neg e,if_neg (fun h=>e h.1.symm)]
    clear hput hp10 q0 q1 q2 q3 q4 hW10 hW11
    go_roundw
    case rel=>rw [HW10.out];exact ⟨Bare.setP l p,_,_,ho10,hr10,hm10,Lib.hid (hinv.out.step hpl1.out hpl2.out),by have:=setP_len l p;simp at hlen;omega,setP_nodup hnd⟩
    case measure =>
     have e1:left R wr=(59::r).length:=by unfold left;rw [C0.out];exact tx_size _
     rw [HW10.out]
     have e2:left R W10=(parR s4 true).length:=by unfold left;rw [(Rdr.facts hr10).1.1];exact tx_size _
     rw [e1,e2,List.length_cons];omega
   ·have hno:∀ i,i < l.length→(l.getD i noP).key ≠ p.key:=fun i hi he=>by
     have:∀ n i,i ≤ n→i < l.length→(l.getD i noP).key=p.key→False:=fun n=>by
      induction n with
      | zero =>
       intro i h0 hi he
       obtain rfl:i=0:=by omega
       exact hex ⟨0,hi,he,fun j hj=>by omega⟩
      | succ n ih =>
       intro i h0 hi he
       by_cases h:∃ j,j < i∧(l.getD j noP).key=p.key
       ·obtain ⟨j,hj,hje⟩:=h
        exact ih j (by omega) (by omega) hje
       ·exact hex ⟨i,hi,he,fun j hj hje=>h ⟨j,hj,hje⟩⟩
     exact this i i (Nat.le_refl _) hi he
    have hix:firstFrom (fun i=>decide ((l.getD i noP).key=p.key)) l.length = -1:=first_none _ _ (fun j hj=>decide_eq_false (hno j hj))
    rw [hix] at HIdx
    have hset:=Lib.hid (setP_add hno)
    clear hix hle hex hno
    go_wp2_with fail
    refine HIdx.out.mono ?_
    rintro e w9 ⟨rfl,hN9⟩
    have ho9:=HO.out.new hN9
    obtain ⟨q0,q1,q2,q3,q4⟩:=par_cells (hN9.heap HB.out id)
    have HR9:=Lib.hid (HR8.out.new hN9)
    have hm9:ModR R w w9:=HM8.out.trans (Mods.ofNew hN9)
    have hln:l.length ≤ 2000000:=by omega
    go_wp2_with (at_builtin;refine wpList_append_P (w:=w9) (c:=pcs p) _ _ rfl rfl rfl rfl rfl rfl (pcs_one p) ho9 hln hm9.size ?_)
    intro v' W10 ho10 hnew
    have hgR:∀ g,Value.ownBlock (.slice la l.length lc)=some g→g ≠ R:=fun g hg e=>by have:=(ho9.lt hg).1;omega
    have hm10:ModR R w W10:=hnew w _ hm9 (fun g hg=>.inl (ho9.lt hg).1)
    have hr10:Rdr W10 R (parR s4 true) (k.isEmpty || parB s4 true):=(hnew w9 (fun b=>Value.ownBlock (.slice la l.length lc)=some b) (Mods.refl _ _) (fun g hg=>.inr hg)).heap HR9.out (fun hg=>hgR _ hg rfl)
    have ho11:OwP w.heap.size W10 v' (Bare.setP l p).length (pf (Bare.setP l p)):=by
     rw [hset.out,List.length_append]
     refine ho10.congr (pf_len _) fun i hi=>?_
     unfold pf
     rw [getD_snoc]
     by_cases e:i=l.length
     ·subst e;rw [if_pos rfl,if_neg (by omega),if_pos rfl]
     ·rw [if_neg e,if_pos (by omega)]
    clear ho10 ho9 hnew q0 q1 q2 q3 q4
    go_wp2_with fail
    go_roundw
    case rel=>exact ⟨Bare.setP l p,_,_,ho11,hr10,hm10,Lib.hid (hinv.out.step hpl1.out hpl2.out),by have:=setP_len l p;simp at hlen;omega,setP_nodup hnd⟩
    case measure =>
     have e1:left R wr=(59::r).length:=by unfold left;rw [C0.out];exact tx_size _
     have e2:left R W10=(parR s4 true).length:=by unfold left;rw [(Rdr.facts hr10).1.1];exact tx_size _
     rw [e1,e2,List.length_cons];omega


theorem RdP.farP {W W':World} {v:Value} {L:List Bare.Par} (h:RdP true W v L) {S:Nat→Prop} (hN:Mods S W W') (hS:∀ g cs fr,S g→W.heap[g]? ≠ some (.cells cs 83 fr)):RdP true W' v L :=
 ⟨row_far h.1 (h.2 rfl) hN hS,fun _=>(h.2 rfl).mods hN hS⟩
theorem ics_one (x:Bare.Itm) (a:Option Addr) (n c:Nat):∀ u ∈ ics x (.slice a n c),u.oneCell'=true:=by
 intro u hu
 unfold ics at hu
 simp at hu
 rcases hu with rfl | rfl | rfl | rfl | rfl <;> rfl
def PostX (s0:Bare.Bs) (bad0:Bool) (x:Bare.Itm) (s:Bare.Bs) (bad:Bool):Prop :=
 if bad0 then bad=true else match Bare.readItem s0 with
  | some (x0,r0)=>x=x0∧s=r0∧bad=false
  | none=>bad=true
theorem post_item (s0:Bare.Bs) (bad0:Bool) {l:List Bare.Par} {s:Bare.Bs} {bad:Bool} (h:PostP (BareR s0) (bad0 || (Bare.parseI s0).isNone) l s bad):PostX s0 bad0 ⟨BareV s0,l⟩ s bad:=by
 unfold PostX
 unfold PostP at h
 cases bad0 with
 | true=>rw [if_pos rfl];rw [Bool.true_or,if_pos rfl] at h;exact h.2.2
 | false =>
  rw [if_neg (by decide)]
  unfold Bare.readItem
  unfold BareV BareR at *
  cases hp:Bare.parseI s0 with
  | none=>rw [hp] at h;simp at h;exact h.2.2
  | some y =>
   obtain ⟨b,r⟩:=y
   rw [hp] at h
   simp only [Option.isNone_some,Bool.or_false,Bool.false_eq_true,if_false] at h ⊢
   cases hq:Bare.readParams [] r with
   | none=>rw [hq] at h;exact h
   | some z =>
    obtain ⟨ps,r'⟩:=z
    rw [hq] at h
    obtain ⟨rfl,rfl,rfl⟩:=h
    exact ⟨rfl,rfl,rfl⟩
theorem item_r (R:Nat) (s0:Bare.Bs) (bad0:Bool) (w:World) (hl:s0.length ≤ 1000000) (h:Rdr w R s0 bad0) (hT:Tab w) :
  Calls Tryz.prog 168 #[.pointer (some ⟨R,0,none⟩)] w fun e w'=>∃ x pv s bad,e = .returned (.agg (ics x pv).toArray)∧RdP true w' pv x.params∧Rdr w' R s bad∧ModR R w w'∧PostX s0 bad0 x s bad∧s.length ≤ s0.length∧x.params.length + s.length ≤ s0.length:=by
 have hlt:=h.lt
 have HTab:=Lib.hid (fun (W:World) (hm:ModR R w W)=>hT.modR h hm)
 have hz:w.heap.size ≤ w.heap.size:=Nat.le_refl _
 go_enter Tryz.func168,Tryz.ntmps168
 go_upto_region 1 with fail
 obtain ⟨W,hW⟩:∃ W,w.alloc (.cells #[.int .u8 0,.int .i64 0,.string ⟨#[]⟩,.bool false,.slice none 0 0] 85)=W:=⟨_,rfl⟩
 have hr:W.heap[w.heap.size]? = some (.cells #[.int .u8 0,.int .i64 0,.string ⟨#[]⟩,.bool false,.slice none 0 0] 85 (0,0)):=by rw [← hW];exact World.alloc_heap_new _ _
 have hN:New w W:=by rw [← hW];exact (Mods.refl _ _).alloc _
 rw [hW]
 obtain ⟨B,hB⟩:∃ B,w.heap.size=B:=⟨_,rfl⟩
 have hBR:¬ B=R:=by omega
 have hBw:w.heap.size ≤ B:=by omega
 rw [hB] at hr ⊢
 have h1:=h.new hN
 have hm:ModR R w W:=Mods.ofNew hN
 clear hz hW hB
 go_wp2_with fail
 refine (bare_r R s0 bad0 W hl h1 (hT.new hN)).mono ?_
 rintro e w1 ⟨rfl,hr1,hm1⟩
 have rB1:=hm1.heap hr hBR
 have hmm1:=hm.trans hm1
 have hpost:=Lib.hid (fun l s bad=>post_item (l:=l) (s:=s) (bad:=bad) s0 bad0)
 have hRl:=bareR_len s0
 obtain ⟨⟨k,n,t,y⟩,hb⟩:∃ x,BareV s0=x:=⟨_,rfl⟩
 obtain ⟨rr,hrr⟩:∃ x,BareR s0=x:=⟨_,rfl⟩
 obtain ⟨bd,hbd⟩:∃ x,(bad0 || (Bare.parseI s0).isNone)=x:=⟨_,rfl⟩
 rw [hb,hrr,hbd] at hpost
 rw [hb]
 rw [hrr] at hRl
 rw [hrr,hbd] at hr1
 unfold bv bcs
 simp only
 obtain ⟨T,hTt⟩:∃ x,tx t=x:=⟨_,rfl⟩
 have HTt:=Lib.hid hTt
 rw [hTt]
 have hthere:w1.there B 0 4:=fun j hj=>by
  have:j=0 ∨ j=1 ∨ j=2 ∨ j=3:=by omega
  rcases this with rfl | rfl | rfl | rfl
  ·exact ⟨by rw [cell_of_row _ _ 0 _ _ _ rB1];rfl,frozen_row (i:=0) rB1⟩
  ·exact ⟨by rw [cell_of_row _ _ 1 _ _ _ rB1];rfl,frozen_row (i:=1) rB1⟩
  ·exact ⟨by rw [cell_of_row _ _ 2 _ _ _ rB1];rfl,frozen_row (i:=2) rB1⟩
  ·exact ⟨by rw [cell_of_row _ _ 3 _ _ _ rB1];rfl,frozen_row (i:=3) rB1⟩
 have hone:=one4 k n T y
 have HRB:=Lib.hid rB1
 clear hb hrr hbd hTt hr rB1 hm1 h1 h hm
 go_upto_region 2 with (refine wpList_store_midN rfl rfl 23 (.tmp 5) (.tmp 4) rfl B 0 [.int .u8 k,.int .i64 n,.string T,.bool y] rfl rfl hthere info_bare hone ?_)
 obtain ⟨w2,hW2⟩:∃ w2,w1.setCells B 0 [.int .u8 k,.int .i64 n,.string T,.bool y]=w2:=⟨_,rfl⟩
 rw [hW2]
 have rB2:w2.heap[B]? = some (.cells #[.int .u8 k,.int .i64 n,.string T,.bool y,.slice none 0 0] 85 (0,0)):=by
  have:=setCell_heap (i:=3) (setCell_heap (i:=2) (setCell_heap (i:=1) (setCell_heap (i:=0) HRB.out (.int .u8 k)) (.int .i64 n)) (.string T)) (.bool y)
  have e:((((w1.setCell ⟨B,0,none⟩ (.int .u8 k)).setCell ⟨B,1,none⟩ (.int .i64 n)).setCell ⟨B,2,none⟩ (.string T)).setCell ⟨B,3,none⟩ (.bool y))=w2:=hW2
  rw [e] at this
  exact this
 have hmB:Mods (fun x=>x=B) w1 w2:=by
  rw [← hW2]
  exact setCells_mods _ _ _ _
 have hr2:=hmB.heap hr1 (fun e=>hBR e.symm)
 have hmm2:=hmm1.trans' hmB hBw
 have hT2:Tab w2:=HTab.out w2 hmm2
 clear hthere hW2 hmB hr1 hmm1
 go_wp2_with fail
 refine (params_r R rr bd w2 (by omega) hr2 hT2).mono ?_
 rintro e w3 ⟨v,l,s,bad,rfl,hv,hr3,hm3,hp,hsl,hll⟩
 obtain ⟨ao,cap,rfl⟩:=hv.slice
 have rB3:=hm3.heap rB2 hBR
 have hmm3:=hmm2.trans hm3
 have x4:=cell_of_row _ _ 4 _ _ _ rB3
 simp only [gS] at x4
 have y4:=frozen_row (i:=4) rB3
 have HRB3:=Lib.hid rB3
 have HPP:=Lib.hid (hpost.out l s bad hp)
 obtain ⟨m,hm'⟩:∃ m,l.length=m:=⟨_,rfl⟩
 have Hm:=Lib.hid hm'
 rw [hm'] at hv ⊢
 clear rB2 hr2 hmm2 hm3 hp hm'
 go_upto_region 3 with fail
 obtain ⟨w4,hW4⟩:∃ w4,w3.setCell ⟨B,4,none⟩ (.slice ao m cap)=w4:=⟨_,rfl⟩
 rw [hW4]
 have rB4:w4.heap[B]? = some (.cells #[.int .u8 k,.int .i64 n,.string T,.bool y,.slice ao m cap] 85 (0,0)):=by rw [← hW4];exact setCell_heap HRB3.out _
 have hmB:Mods (fun x=>x=B) w3 w4:=by rw [← hW4];exact setMods _ _ _ _
 have hr4:=hmB.heap hr3 (fun e=>hBR e.symm)
 have hmm4:=hmm3.trans' hmB hBw
 have hv4:RdP true w4 (.slice ao m cap) l:=hv.farP hmB (fun g cs fr hg hc=>by
  subst hg
  rw [HRB3.out] at hc
  cases hc)
 have hone5:∀ u ∈ ([.int .u8 k,.int .i64 n,.string T,.bool y,.slice ao m cap]:List Value),u.oneCell'=true:=by
  intro u hu
  simp at hu
  rcases hu with rfl | rfl | rfl | rfl | rfl <;> rfl
 clear x4 y4 hW4 hmm3 hmB hr3 hv
 go_wp2_with (first | (refine op_value rfl (run_load_row 85 (.tmp 2) rfl B rfl 85 _ (0,0) _ rB4 Tryz.underlying85 rfl sizeX) ?_) | (refine op_skip rfl (run_store_row 85 (.tmp 2) (.tmp 9) rfl B rfl 85 [.int .u8 k,.int .i64 n,.string T,.bool y,.slice ao m cap] [.int .u8 k,.int .i64 n,.string T,.bool y,.slice ao m cap] rfl rB4 sizeX rfl hone5) ?_))
 rw [setRow_same (cs:=[.int .u8 k,.int .i64 n,.string T,.bool y,.slice ao m cap]) rB4]
 refine bodyPost_ret (v:=.agg #[.int .u8 k,.int .i64 n,.string T,.bool y,.slice ao m cap]) (results_cell_row rfl _ _ B 85 _ (0,0) _ rfl rB4 Tryz.underlying85 rfl sizeX) rfl ?_
 refine ⟨⟨⟨k,n,t,y⟩,l⟩,.slice ao m cap,s,bad,?_,hv4,hr4,hmm4,HPP.out,by omega,by simp only;omega⟩
 unfold ics
 simp only
 rw [HTt.out]
end Go.Proofs.YtnknmmbnhoanfaaGreatDoor
namespace Go.Proofs.YtnknmmbnhoanfaaGreatDoor
open Go.RowKit Go.Shelf Go.Cs

def regionOf (id:Nat):Code→Option Code
 | .region i ops c=>if i=id then some (.region i ops c) else none
 | .block _ c=>regionOf id c
 | .seq a b=>match regionOf id a with
  | some c=>some c
  | none=>regionOf id b
 | .loop c=>regionOf id c
 | .scope c=>regionOf id c
 | .rangeFunc _ _ a b=>match regionOf id a with
  | some c=>some c
  | none=>regionOf id b
 | .cond _ a b=>match regionOf id a with
  | some c=>some c
  | none=>regionOf id b
 | _=>none
def strs (L:List Bare.Bs):List Value:=L.map fun l=>.string (tx l)
theorem strs_snoc (L:List Bare.Bs) (l:Bare.Bs):strs (L ++ [l])=strs L ++ [.string (tx l)]:=by simp [strs]
def OwS (base:Nat) (W:World) (v:Value) (L:List Bare.Bs):Prop:=W.ownsRow base 9 1 v L.length (strs L)
theorem infoS:(Tryz.prog.info? 9).map (fun i=>(i.zero,i.size,i.bytes))=some (some (.string ⟨#[]⟩),1,16):=by kernel_rfl
theorem OwS.nil (base:Nat) (W:World):OwS base W (.slice none 0 0) []:=World.ownsRow_nil _ _ _ _
theorem OwS.new {base:Nat} {W W':World} {v:Value} {L:List Bare.Bs} (h:OwS base W v L) (hN:New W W'):OwS base W' v L:=Mods.ownsRow hN h (fun _ _ h=>h)
theorem OwS.slice {base:Nat} {W:World} {v:Value} {L:List Bare.Bs} (h:OwS base W v L):∃ ao cap,v = .slice ao L.length cap:=owns_slice h
theorem run_append_S {o:Oper} {a:Act} {w W:World} {s x:Operand} {base:Nat} {v:Value} {L:List Bare.Bs} {l:Bare.Bs} (hop:o.op = .call { callee:=.builtin .append,args:=#[s,x],argTypes:=#[101,101] })
  (hs:a.eval s=v) (hx:a.eval x = .slice (some ⟨w.heap.size,0,none⟩) 1 1) (hW:w.alloc (.cells #[.string (tx l)] 9)=W) (hown:OwS base w v L) (hn:L.length ≤ 2000000) (hbase:base ≤ w.heap.size) :
  ∃ v' W',(execOp a.eval o).run Tryz.prog W = .ok (.value v') W'∧OwS base W' v' (L ++ [l])∧∀ (w0:World) (S:Nat→Prop),Mods S w0 w→(∀ g,v.ownBlock=some g→w0.heap.size ≤ g ∨ S g)→Mods S w0 W':=by
 obtain ⟨i0,hi,hz0,hz1,hz2⟩:=info_parts infoS
 have hown':W.ownsRow base 9 1 v L.length (strs L):=by rw [← hW];exact hown.alloc _
 obtain ⟨v',w',hr,ho,hg,-⟩:=run_append_own (P:=Tryz.prog) W base 101 o.type 9 i0 _ 1 16 Tryz.underlying101 hi hz0 hz1 hz2 rfl (by decide) v L.length (strs L) hown' ⟨w.heap.size,0,none⟩ 1 1 [.string (tx l)] rfl (by rw [← hW];exact cell_one_new _ _ _) (by simp [Value.oneCell']) (by unfold maxLen;omega) (by omega) (by rw [← hW];simp;omega)
 refine ⟨v',w',?_,?_,fun w0 S hN hb=>?_⟩
 ·simp [execOp,hop,resolve,invoke,builtin,hs,hx,hr,Result.andThen]
 ·unfold OwS
  rw [strs_snoc,List.length_append]
  exact ho
 ·rw [← hW] at hg
  exact (hN.alloc _).grown hg (fun g hg=>(hb g hg).imp id fun h=>⟨h,own_cells (hown.alloc _) hg⟩)
theorem wpList_append_S {ops:Array Oper} {Q:Exit→Act→World→Prop} {rest:List Oper} {o:Oper} {a:Act} {w W:World} (s x:Operand) {base:Nat} {v:Value} {L:List Bare.Bs} {l:Bare.Bs} (hgd:o.guard=none) (hop:o.op = .call { callee:=.builtin .append,args:=#[s,x],argTypes:=#[101,101] })
  (hs:a.eval s=v) (hx:a.eval x = .slice (some ⟨w.heap.size,0,none⟩) 1 1) (hW:w.alloc (.cells #[.string (tx l)] 9)=W) (hown:OwS base w v L) (hn:L.length ≤ 2000000) (hbase:base ≤ w.heap.size)
  (h:∀ v' W',OwS base W' v' (L ++ [l])→(∀ (w0:World) (S:Nat→Prop),Mods S w0 w→(∀ g,v.ownBlock=some g→w0.heap.size ≤ g ∨ S g)→Mods S w0 W')→wpList Tryz.prog ops Q rest (a.put o.dst v') W'):wpList Tryz.prog ops Q (o::rest) a W:=by
 refine wpList_plain hgd fun K hK=>?_
 obtain ⟨v',w',hr,ho,hg⟩:=run_append_S hop hs hx hW hown hn hbase
 unfold Oper.wp
 rw [hr]
 exact hK _ _ (h v' w' ho hg)
theorem wpOp_append_S {ops:Array Oper} {Q:Exit→Act→World→Prop} {i:Nat} {o:Oper} (d:Option Tmp) {a:Act} {w W:World} {K:Act→World→Prop} (hi:ops[i]? = some o) (hw:Region.wanted o (yielded ops a.tmps)=true) (hd:o.dst=d) (s x:Operand) {base:Nat} {v:Value} {L:List Bare.Bs} {l:Bare.Bs} (hop:o.op = .call { callee:=.builtin .append,args:=#[s,x],argTypes:=#[101,101] })
  (hs:a.eval s=v) (hx:a.eval x = .slice (some ⟨w.heap.size,0,none⟩) 1 1) (hW:w.alloc (.cells #[.string (tx l)] 9)=W) (hown:OwS base w v L) (hn:L.length ≤ 2000000) (hbase:base ≤ w.heap.size)
  (h:∀ v' W',OwS base W' v' (L ++ [l])→(∀ (w0:World) (S:Nat→Prop),Mods S w0 w→(∀ g,v.ownBlock=some g→w0.heap.size ≤ g ∨ S g)→Mods S w0 W')→K (a.put d v') W'):wpOp Tryz.prog ops Q i K a W:=by
 obtain ⟨v',w',hr,ho,hg⟩:=run_append_S hop hs hx hW hown hn hbase
 exact opH_value d hi hw hd hr (h v' w' ho hg)
end Go.Proofs.YtnknmmbnhoanfaaGreatDoor
namespace Go.Proofs.YtnknmmbnhoanfaaGreatDoor
open Go.RowKit Go.Shelf Go.Cs
attribute [local go_sem] Oper.semAt_some


def OwIt (base:Nat) (W:World) (v:Value) (L:List Bare.Itm):Prop:=∃ pv:Nat→Value,OwX base W v L.length (fun i=>ics (L.getD i Bare.noI) (pv i))∧∀ i,i < L.length→RdP true W (pv i) (L.getD i Bare.noI).params
theorem OwIt.nil (base:Nat) (W:World):OwIt base W (.slice none 0 0) []:=⟨fun _=>undef,OwX.nil _ _ _ (fun _=>rfl),fun i hi=>by simp at hi⟩
theorem OwIt.reads {base:Nat} {W:World} {v:Value} {L:List Bare.Itm} (h:OwIt base W v L) (hl:L.length ≤ 2000000):RdI true W v L:=by
 obtain ⟨pv,h1,h2⟩:=h
 exact ⟨pv,h1.row (by omega),fun _=>h1.tag,h2⟩
theorem OwIt.slice {base:Nat} {W:World} {v:Value} {L:List Bare.Itm} (h:OwIt base W v L):∃ ao cap,v = .slice ao L.length cap:=by
 obtain ⟨pv,h1,h2⟩:=h
 exact h1.slice
theorem OwIt.lt {base:Nat} {W:World} {v:Value} {L:List Bare.Itm} (h:OwIt base W v L) {g:Nat} (hg:v.ownBlock=some g):base ≤ g∧g < W.heap.size:=by
 obtain ⟨pv,h1,h2⟩:=h
 exact h1.lt hg
theorem OwIt.tag {base:Nat} {W:World} {v:Value} {L:List Bare.Itm} (h:OwIt base W v L):TagAt W v 85:=by
 obtain ⟨pv,h1,h2⟩:=h
 exact h1.tag
theorem OwIt.mods {base:Nat} {W W':World} {v:Value} {L:List Bare.Itm} (h:OwIt base W v L) {S:Nat→Prop} (hN:Mods S W W') (hS:∀ g,v.ownBlock=some g→¬ S g) (hP:∀ g cs fr,S g→W.heap[g]? ≠ some (.cells cs 83 fr)):OwIt base W' v L:=by
 obtain ⟨pv,h1,h2⟩:=h
 exact ⟨pv,h1.mods hN hS,fun i hi=>(h2 i hi).farP hN hP⟩
theorem OwIt.new {base:Nat} {W W':World} {v:Value} {L:List Bare.Itm} (h:OwIt base W v L) (hN:New W W'):OwIt base W' v L:=h.mods hN (fun _ _ h=>h) (fun _ _ _ h=>h.elim)
theorem OwIt.modR {base R:Nat} {W W':World} {v:Value} {L:List Bare.Itm} {s:Bare.Bs} {bad:Bool} (h:OwIt base W v L) (hr:Rdr W R s bad) (hR:R < base) (hm:ModR R W W'):OwIt base W' v L :=
 h.mods hm (fun g hg e=>by have:=(h.lt hg).1;omega) (fun g cs fr hg hc=>by subst hg;rw [show W.heap[g]? = _ from hr] at hc;cases hc)
theorem OwIt.modB {base B:Nat} {W W':World} {v:Value} {L:List Bare.Itm} {c0:Array Value} (h:OwIt base W v L) (hr:W.heap[B]? = some (.cells c0 44 (0,0))) (hm:Mods (fun b=>b=B) W W'):OwIt base W' v L :=
 h.mods hm (fun g hg e=>by
  obtain ⟨cs,fr,hc⟩:=h.tag g hg
  have e:g=B:=e
  rw [e,hr] at hc;cases hc) (fun g cs fr hg hc=>by subst hg;rw [hr] at hc;cases hc)
theorem RdP.modR {R:Nat} {W W':World} {v:Value} {L:List Bare.Par} {s:Bare.Bs} {bad:Bool} (h:RdP true W v L) (hr:Rdr W R s bad) (hm:ModR R W W'):RdP true W' v L :=
 h.farP hm (fun g cs fr hg hc=>by subst hg;rw [show W.heap[g]? = _ from hr] at hc;cases hc)
theorem RdP.modB {B:Nat} {W W':World} {v:Value} {L:List Bare.Par} {c0:Array Value} (h:RdP true W v L) (hr:W.heap[B]? = some (.cells c0 44 (0,0))) (hm:Mods (fun b=>b=B) W W'):RdP true W' v L :=
 h.farP hm (fun g cs fr hg hc=>by subst hg;rw [hr] at hc;cases hc)
theorem OwIt.snoc {base:Nat} {W W':World} {v v':Value} {L:List Bare.Itm} {x:Bare.Itm} {xv:Value} (h:OwIt base W v L) (hx:RdP true W xv x.params)
  (ha:∀ f,OwX base W v L.length f→OwX base W' v' (L.length + 1) (fun i=>if i=L.length then ics x xv else f i)) (hm:Mods (fun b=>v.ownBlock=some b) W W'):OwIt base W' v' (L ++ [x]):=by
 have htag:=h.tag
 obtain ⟨pv,h1,h2⟩:=h
 have hfar:∀ g cs fr,v.ownBlock=some g→W.heap[g]? ≠ some (.cells cs 83 fr):=fun g cs fr hg hc=>by
  obtain ⟨cs',fr',hc'⟩:=htag g hg
  rw [hc'] at hc;cases hc
 refine ⟨fun i=>if i=L.length then xv else pv i,?_,fun i hi=>?_⟩
 ·rw [List.length_append]
  refine (ha _ h1).congr (fun _=>rfl) fun i hi=>?_
  dsimp only
  rw [getD_snoc]
  by_cases e:i=L.length
  ·subst e;rw [if_pos rfl,if_neg (by omega),if_pos rfl,if_pos rfl]
  ·rw [if_neg e,if_pos (by omega),if_neg e]
 ·dsimp only
  rw [getD_snoc]
  rw [List.length_append] at hi
  have hi:i < L.length + 1:=hi
  by_cases e:i=L.length
  ·subst e;rw [if_pos rfl,if_neg (by omega),if_pos rfl];exact hx.farP hm hfar
  ·rw [if_neg e,if_pos (by omega)];exact (h2 i (by omega)).farP hm hfar
theorem run_append_It {o:Oper} {a:Act} {w W:World} {s x:Operand} {base:Nat} {v:Value} {L:List Bare.Itm} {y:Bare.Itm} {ya:Option Addr} {yl yc:Nat} (hop:o.op = .call { callee:=.builtin .append,args:=#[s,x],argTypes:=#[41,41] })
  (hs:a.eval s=v) (hx:a.eval x = .slice (some ⟨w.heap.size,0,none⟩) 1 1) (hW:w.alloc (.cells (ics y (.slice ya yl yc)).toArray 85)=W) (hown:OwIt base w v L) (hy:RdP true w (.slice ya yl yc) y.params) (hn:L.length ≤ 2000000) (hbase:base ≤ w.heap.size) :
  ∃ v' W',(execOp a.eval o).run Tryz.prog W = .ok (.value v') W'∧OwIt base W' v' (L ++ [y])∧∀ (w0:World) (S:Nat→Prop),Mods S w0 w→(∀ g,v.ownBlock=some g→w0.heap.size ≤ g ∨ S g)→Mods S w0 W':=by
 have h0:=hown
 obtain ⟨pv,h1,h2⟩:=hown
 obtain ⟨v',W',hr,ho,hm⟩:=run_append_X hop hs hx hW rfl (ics_one y ya yl yc) h1 hn hbase
 refine ⟨v',W',hr,?_,hm⟩
 have hmm:=hm w (fun b=>v.ownBlock=some b) (Mods.refl _ _) (fun g hg=>.inr hg)
 have htag:=h0.tag
 have hfar:∀ g cs fr,v.ownBlock=some g→w.heap[g]? ≠ some (.cells cs 83 fr):=fun g cs fr hg hc=>by
  obtain ⟨cs',fr',hc'⟩:=htag g hg
  rw [hc'] at hc;cases hc
 refine ⟨fun i=>if i=L.length then .slice ya yl yc else pv i,?_,fun i hi=>?_⟩
 ·rw [List.length_append]
  refine ho.congr (fun _=>rfl) fun i hi=>?_
  dsimp only
  rw [getD_snoc]
  by_cases e:i=L.length
  ·subst e;rw [if_pos rfl,if_neg (by omega),if_pos rfl,if_pos rfl]
  ·rw [if_neg e,if_pos (by omega),if_neg e]
 ·dsimp only
  rw [getD_snoc]
  rw [List.length_append] at hi
  have hi:i < L.length + 1:=hi
  by_cases e:i=L.length
  ·subst e;rw [if_pos rfl,if_neg (by omega),if_pos rfl];exact hy.farP hmm hfar
  ·rw [if_neg e,if_pos (by omega)];exact (h2 i (by omega)).farP hmm hfar
end Go.Proofs.YtnknmmbnhoanfaaGreatDoor
