/- Texts joined. -/
import Derived.Test.YtnknmmbnhoanfaaGreatDoorH03
import Derived.Test.YtnknmmbnhoanfaaGreatDoorH06
import Derived.Test.YtnknmmbnhoanfaaGreatDoorH04
import Derived.Test.YtnknmmbnhoanfaaGreatDoorH05
import Derived.BigRegion
set_option linter.unusedSimpArgs false
set_option linter.unusedVariables false
set_option maxHeartbeats 16000000
set_option maxRecDepth 100000
namespace Go.Proofs.YtnknmmbnhoanfaaGreatDoor
open Go.RowKit Go.Shelf Go.Cs
attribute [local go_sem] Oper.semAt_some


def numR (g:Int) (t:Bare.Bs):Option (Bare.It × Bare.Bs) :=
 let d:=t.takeWhile Bare.digB
 let r:=t.drop d.length
 if d.length < 1 ∨ 15 < d.length then none
 else if r.head? ≠ some 46 then some (⟨1,g * (Bare.valD d:Int),[],false⟩,r)
 else
  let e:=(r.drop 1).takeWhile Bare.digB
  if 12 < d.length ∨ e.length < 1 ∨ 3 < e.length then none
  else some (⟨2,g * (1000 * (Bare.valD d:Int) + Bare.valD ((e ++ [48,48]).take 3)),[],false⟩,r.drop (1 + e.length))
theorem number_numR (l:Bare.Bs):Bare.number l=if l.head? == some 45 then numR (-1) (l.drop 1) else numR 1 l:=by
 unfold Bare.number numR
 cases h:(l.head? == some 45) <;> simp
theorem _root_.Go.Cs.Mods.freeze {S:Nat→Prop} {a w:World} (h:Mods S a w) (p:Addr) (n:Nat) (hp:a.heap.size ≤ p.block):Mods S a (w.freeze p n):=by
 unfold World.freeze
 split
 ·exact h
 ·refine ⟨h.os,h.tape,h.output,by simpa using h.size,fun k o hk ho=>?_⟩
  have:=(Array.getElem?_eq_some_iff.1 hk).1
  simp only [Array.getElem?_modify]
  rw [if_neg (by omega)]
  exact h.block k o hk ho
theorem bytesWorld_new (w:World) (e:TypeId) (t:ByteArray):New w (Lib.bytesWorld w e t):=by
 unfold Lib.bytesWorld
 exact (((Mods.refl _ _).drew).alloc _).freeze _ _ (Nat.le_refl _)
theorem atoi_any (l:Bare.Bs) (h:l.all Bare.digB=true) (h1:l ≠ []) (h2:l.length ≤ 18) (w:World) :
  Calls Tryz.prog 108 #[.string (tx l)] w fun e w'=>e = .returned (.tuple #[.int .i64 (Bare.valD l:Nat),.nilIface])∧New w w' :=
 (Tryz.strconv_Atoi (tx l) (Bare.valD l:Nat) (by rw [tx_size];exact h2) (Bare.atoi_digits h h1) w).mono fun e w' ⟨he,t,hw⟩=>⟨he,by rw [hw];exact bytesWorld_new _ _ _⟩
theorem digs_take (l:Bare.Bs):((l.takeWhile Bare.digB).all Bare.digB)=true:=Bare.all_takeWhile _ _
theorem val_lt {l:Bare.Bs} (h:l.all Bare.digB=true) (n:Nat) (hl:l.length ≤ n):Bare.valD l < 10 ^ n :=
 Nat.lt_of_lt_of_le (Bare.valD_lt h) (Nat.pow_le_pow_right (by decide) hl)
theorem head_drop (s:ByteArray) (n:Nat) (h:n < s.size):((bl s).drop n).head? = some (gb s n):=by
 rw [List.head?_drop];exact gb_get s n h
theorem head_end (s:ByteArray):((bl s).drop s.size).head? = none:=by
 rw [List.head?_drop,List.getElem?_eq_none]
 rw [bl_len];exact Nat.le_refl _
theorem u8_eq (c d:UInt8):decide (c=d)=decide ((c.toNat:Int)=(d.toNat:Int)):=by
 rw [decide_eq_decide,← UInt8.toNat_inj]
 omega
theorem number_pos (s:ByteArray) (w:World) (hs:s.size ≤ 1000000) (h0:0 < s.size) (hng:gb s 0 ≠ 45) :
  Calls Tryz.prog 51 #[.string s] w (ReadP (Bare.number (bl s)) w):=by
 have hc45:decide (gb s 0=45)=false:=decide_eq_false hng
 rw [u8_eq] at hc45
 have hix0:∀ W,(Instr.index 9 (.string s) (.int .i64 0)).run Tryz.prog W = .ok (.int .u8 ((gb s 0).toNat:Nat)) W:=run_idx s 0 (by omega)
 have e0:Bare.number (bl s)=numR 1 (bl s):=by
  have hh:(bl s).head? = some (gb s 0):=by have:=head_drop s 0 h0;rwa [List.drop_zero] at this
  rw [number_numR,hh]
  simp [hng]
 rw [e0]
 clear e0
 have hTs:=hs
 obtain ⟨c,hc⟩:∃ c,(gb s 0).toNat=c:=⟨_,rfl⟩
 rw [hc] at hc45 hix0
 have hceq:((c:Int) == 45)=false:=hc45
 clear hc hc45 hng
 have HR:=Lib.hid (fun W=>(run_any 50 #[] _ digit_p (enters_of Tryz.func50 (by kernel_rfl) rfl) s W (by omega)).mono fun e w' h=>show e = _∧W=w' from ⟨h.1,h.2.symm⟩)
 have hle:=Bare.takeWhile_len Bare.digB (bl s)
 have htk:=Bare.takeWhile_take Bare.digB (bl s)
 have hdg:=digs_take (bl s)
 unfold numR
 simp only
 obtain ⟨d,hd⟩:∃ d,(bl s).takeWhile Bare.digB=d:=⟨_,rfl⟩
 rw [hd] at HR hle htk hdg ⊢
 obtain ⟨n,hn⟩:∃ n,d.length=n:=⟨_,rfl⟩
 rw [hn] at HR hle htk ⊢
 rw [bl_len] at hle
 clear hd
 obtain ⟨hN,hr⟩:=no_row w
 by_cases h1:n < 1
 ·have d1:decide ((n:Int) < 1)=true:=decide_eq_true (by omega)
  rw [if_pos (.inl h1)]
  unfold ReadP bv bcs noIt
  simp only
  clear htk h1 hn hle
  go_enter Tryz.func51,Tryz.ntmps51
  go_upto_region 1 with fail
  obtain ⟨W,hW⟩:∃ W,w.alloc (.cells #[.int .u8 0,.int .i64 0,.string ⟨#[]⟩,.bool false] 23)=W:=⟨_,rfl⟩
  rw [hW] at hN hr ⊢
  obtain ⟨B,hB⟩:∃ B,w.heap.size=B:=⟨_,rfl⟩
  have hBw:w.heap.size ≤ B:=by omega
  rw [hB] at hr ⊢
  clear hW hB
  obtain ⟨⟨c0,c1,c2,c3⟩,f0,f1,f2,f3⟩:=row_facts hr
  go_upto_region 6 with (go_at_call 107;refine (HR.out _).mono ?_;rintro e w' ⟨rfl,rfl⟩)
  go_wp2_with fail
  obtain ⟨hN2,hr2⟩:=set4 hN hBw hr (.int .u8 0) (.int .i64 0) (.string ⟨#[]⟩) (.bool false)
  obtain ⟨W2,hW2⟩:∃ W2,((((W.setCell ⟨B,0,none⟩ (.int .u8 0)).setCell ⟨B,1,none⟩ (.int .i64 0)).setCell ⟨B,2,none⟩ (.string ⟨#[]⟩)).setCell ⟨B,3,none⟩ (.bool false))=W2:=⟨_,rfl⟩
  rw [hW2] at hN2 hr2 ⊢
  exact read_end (by kernel_rfl) rfl rfl rfl hr2 ⟨rfl,hN2⟩
 have d1:decide ((n:Int) < 1)=false:=decide_eq_false (by omega)
 by_cases h15:15 < n
 ·have d2:decide (15 < (n:Int))=true:=decide_eq_true (by omega)
  rw [if_pos (.inr h15)]
  unfold ReadP bv bcs noIt
  simp only
  clear htk h1 h15 hn hle
  go_enter Tryz.func51,Tryz.ntmps51
  go_upto_region 1 with fail
  obtain ⟨W,hW⟩:∃ W,w.alloc (.cells #[.int .u8 0,.int .i64 0,.string ⟨#[]⟩,.bool false] 23)=W:=⟨_,rfl⟩
  rw [hW] at hN hr ⊢
  obtain ⟨B,hB⟩:∃ B,w.heap.size=B:=⟨_,rfl⟩
  have hBw:w.heap.size ≤ B:=by omega
  rw [hB] at hr ⊢
  clear hW hB
  obtain ⟨⟨c0,c1,c2,c3⟩,f0,f1,f2,f3⟩:=row_facts hr
  go_upto_region 6 with (go_at_call 107;refine (HR.out _).mono ?_;rintro e w' ⟨rfl,rfl⟩)
  go_wp2_with fail
  obtain ⟨hN2,hr2⟩:=set4 hN hBw hr (.int .u8 0) (.int .i64 0) (.string ⟨#[]⟩) (.bool false)
  obtain ⟨W2,hW2⟩:∃ W2,((((W.setCell ⟨B,0,none⟩ (.int .u8 0)).setCell ⟨B,1,none⟩ (.int .i64 0)).setCell ⟨B,2,none⟩ (.string ⟨#[]⟩)).setCell ⟨B,3,none⟩ (.bool false))=W2:=⟨_,rfl⟩
  rw [hW2] at hN2 hr2 ⊢
  exact read_end (by kernel_rfl) rfl rfl rfl hr2 ⟨rfl,hN2⟩
 have d2:decide (15 < (n:Int))=false:=decide_eq_false (by omega)
 rw [if_neg (by omega)]
 have hne:d ≠ []:=by rintro rfl;simp at hn;omega
 have HA:=Lib.hid (fun W=>atoi_any d hdg hne (by omega) W)
 have hsh:=run_sl_h s n hle
 have hvl:=val_lt hdg 15 (by omega)
 have hvl12:=fun h=>val_lt hdg 12 h
 rw [htk] at hsh
 have hsl:=run_sl_l s n hle
 obtain ⟨v,hv⟩:∃ v,Bare.valD d=v:=⟨_,rfl⟩
 rw [hv] at HA hvl hvl12 ⊢
 obtain ⟨dx,hdx⟩:∃ dx,tx d=dx:=⟨_,rfl⟩
 rw [hdx] at HA hsh
 rw [hn] at hvl12
 clear hv hdx htk hne hdg hn
 simp at hvl
 by_cases hend:n=s.size
 ·have d3:decide ((n:Int)=(s.size:Int))=true:=decide_eq_true (by omega)
  have d3':((n:Int) == (s.size:Int))=true:=d3
  have hhd:((bl s).drop n).head? ≠ some 46:=by rw [hend,head_end];simp
  rw [if_pos hhd]
  obtain ⟨x,hx⟩:∃ x,tx ((bl s).drop n)=x:=⟨_,rfl⟩
  rw [hx] at hsl
  unfold ReadP bv bcs
  simp only
  rw [hx,Int.one_mul]
  clear hhd hend h1 h15 hle hx hvl12
  go_enter Tryz.func51,Tryz.ntmps51
  go_upto_region 1 with fail
  obtain ⟨W,hW⟩:∃ W,w.alloc (.cells #[.int .u8 0,.int .i64 0,.string ⟨#[]⟩,.bool false] 23)=W:=⟨_,rfl⟩
  rw [hW] at hN hr ⊢
  obtain ⟨B,hB⟩:∃ B,w.heap.size=B:=⟨_,rfl⟩
  have hBw:w.heap.size ≤ B:=by omega
  rw [hB] at hr ⊢
  clear hW hB
  obtain ⟨⟨c0,c1,c2,c3⟩,f0,f1,f2,f3⟩:=row_facts hr
  go_upto_region 9 with (first | (go_at_call 107;refine (HR.out _).mono ?_;rintro e w' ⟨rfl,rfl⟩) | (go_at_call 108;refine (HA.out _).mono ?_;rintro e wa ⟨rfl,hNa⟩))
  have hN:=hN.trans hNa
  have hr:=hNa.heap hr id
  clear c0 c1 c2 c3 f0 f1 f2 f3 hNa
  obtain ⟨⟨c0,c1,c2,c3⟩,f0,f1,f2,f3⟩:=row_facts hr
  go_region
  obtain ⟨hN2,hr2⟩:=set4 hN hBw hr (.int .u8 1) (.int .i64 (v:Int)) (.string ⟨#[]⟩) (.bool false)
  have hN2:=hN2.drew
  have hr2:((((wa.setCell ⟨B,0,none⟩ (.int .u8 1)).setCell ⟨B,1,none⟩ (.int .i64 (v:Int))).setCell ⟨B,2,none⟩ (.string ⟨#[]⟩)).setCell ⟨B,3,none⟩ (.bool false)).drew.heap[B]? = some (.cells #[(.int .u8 1),(.int .i64 (v:Int)),(.string ⟨#[]⟩),(.bool false)] 23 (0,0)):=hr2
  obtain ⟨W2,hW2⟩:∃ W2,((((wa.setCell ⟨B,0,none⟩ (.int .u8 1)).setCell ⟨B,1,none⟩ (.int .i64 (v:Int))).setCell ⟨B,2,none⟩ (.string ⟨#[]⟩)).setCell ⟨B,3,none⟩ (.bool false)).drew=W2:=⟨_,rfl⟩
  rw [hW2] at hN2 hr2 ⊢
  go_wp2_with fail
  exact read_end (by kernel_rfl) rfl rfl rfl hr2 ⟨rfl,hN2⟩
 have hlt:n < s.size:=by omega
 have d3:decide ((n:Int)=(s.size:Int))=false:=decide_eq_false (by omega)
 have d3':((n:Int) == (s.size:Int))=false:=d3
 have hixn:=run_idx s n hlt
 have hhn:=head_drop s n hlt
 have hq46:=u8_eq (gb s n) 46
 by_cases hq:gb s n=46
 case neg =>
  rw [decide_eq_false hq] at hq46
  have hhd:((bl s).drop n).head? ≠ some 46:=by rw [hhn];simpa using hq
  rw [if_pos hhd]
  obtain ⟨x,hx⟩:∃ x,tx ((bl s).drop n)=x:=⟨_,rfl⟩
  rw [hx] at hsl
  obtain ⟨q,hqn⟩:∃ q,(gb s n).toNat=q:=⟨_,rfl⟩
  rw [hqn] at hixn hq46
  have hq1:((q:Int) == 46)=false:=hq46.symm
  have hq2:((q:Int) != 46)=true:=by simp [bne,hq1]
  clear hq hqn hq46 hhd hhn hend hlt
  unfold ReadP bv bcs
  simp only
  rw [hx,Int.one_mul]
  clear h1 h15 hle hx hvl12
  go_enter Tryz.func51,Tryz.ntmps51
  go_upto_region 1 with fail
  obtain ⟨W,hW⟩:∃ W,w.alloc (.cells #[.int .u8 0,.int .i64 0,.string ⟨#[]⟩,.bool false] 23)=W:=⟨_,rfl⟩
  rw [hW] at hN hr ⊢
  obtain ⟨B,hB⟩:∃ B,w.heap.size=B:=⟨_,rfl⟩
  have hBw:w.heap.size ≤ B:=by omega
  rw [hB] at hr ⊢
  clear hW hB
  obtain ⟨⟨c0,c1,c2,c3⟩,f0,f1,f2,f3⟩:=row_facts hr
  go_upto_region 9 with (first | (go_at_call 107;refine (HR.out _).mono ?_;rintro e w' ⟨rfl,rfl⟩) | (go_at_call 108;refine (HA.out _).mono ?_;rintro e wa ⟨rfl,hNa⟩))
  have hN:=hN.trans hNa
  have hr:=hNa.heap hr id
  clear c0 c1 c2 c3 f0 f1 f2 f3 hNa
  obtain ⟨⟨c0,c1,c2,c3⟩,f0,f1,f2,f3⟩:=row_facts hr
  go_region
  obtain ⟨hN2,hr2⟩:=set4 hN hBw hr (.int .u8 1) (.int .i64 (v:Int)) (.string ⟨#[]⟩) (.bool false)
  have hN2:=hN2.drew
  have hr2:((((wa.setCell ⟨B,0,none⟩ (.int .u8 1)).setCell ⟨B,1,none⟩ (.int .i64 (v:Int))).setCell ⟨B,2,none⟩ (.string ⟨#[]⟩)).setCell ⟨B,3,none⟩ (.bool false)).drew.heap[B]? = some (.cells #[(.int .u8 1),(.int .i64 (v:Int)),(.string ⟨#[]⟩),(.bool false)] 23 (0,0)):=hr2
  obtain ⟨W2,hW2⟩:∃ W2,((((wa.setCell ⟨B,0,none⟩ (.int .u8 1)).setCell ⟨B,1,none⟩ (.int .i64 (v:Int))).setCell ⟨B,2,none⟩ (.string ⟨#[]⟩)).setCell ⟨B,3,none⟩ (.bool false)).drew=W2:=⟨_,rfl⟩
  rw [hW2] at hN2 hr2 ⊢
  go_wp2_with fail
  exact read_end (by kernel_rfl) rfl rfl rfl hr2 ⟨rfl,hN2⟩
 case pos =>
  rw [decide_eq_true hq] at hq46
  have hhd:¬ ((bl s).drop n).head? ≠ some 46:=by rw [hhn,hq];simp
  rw [if_neg hhd]
  obtain ⟨q,hqn⟩:∃ q,(gb s n).toNat=q:=⟨_,rfl⟩
  rw [hqn] at hixn hq46
  have hq1:((q:Int) == 46)=true:=hq46.symm
  have hq2:((q:Int) != 46)=false:=by simp [bne,hq1]
  have hnb:(n:Int) ≤ 1000000:=by omega
  clear hq hqn hq46 hhd hhn hend
  have hsl1:∀ W,(Instr.slice 9 (.string s) (some (.int .i64 ((n:Int) + 1))) none none).run Tryz.prog W = .ok (.string (tx ((bl s).drop (n + 1)))) W:=fun W=>run_sl_l s (n + 1) (by omega) W
  obtain ⟨U,hU⟩:∃ U,tx ((bl s).drop (n + 1))=U:=⟨_,rfl⟩
  have hUl:((bl s).drop n).drop 1=bl U:=by rw [← hU,List.drop_drop]
  have hUs:U.size=s.size - (n + 1):=by rw [← hU,tx_size,List.length_drop,bl_len]
  have hdd:∀ k,((bl s).drop n).drop (1 + k)=(bl s).drop (n + 1 + k):=fun k=>by rw [List.drop_drop];congr 1;omega
  have hpc:∀ k,piec s (n + 1) (n + 1 + k)=tx ((bl U).take k):=fun k=>by unfold piec;rw [← hU,Nat.add_sub_cancel_left]
  rw [hU] at hsl1
  rw [hUl]
  have HU:=Lib.hid (fun W=>(run_any 50 #[] _ digit_p (enters_of Tryz.func50 (by kernel_rfl) rfl) U W (by omega)).mono fun e w' h=>show e = _∧W=w' from ⟨h.1,h.2.symm⟩)
  have hek:=Bare.takeWhile_len Bare.digB (bl U)
  have het:=Bare.takeWhile_take Bare.digB (bl U)
  have hed:=digs_take (bl U)
  obtain ⟨e,he⟩:∃ e,(bl U).takeWhile Bare.digB=e:=⟨_,rfl⟩
  rw [he] at HU hek het hed ⊢
  obtain ⟨k,hk⟩:∃ k,e.length=k:=⟨_,rfl⟩
  rw [hk] at HU hek het ⊢
  rw [bl_len,hUs] at hek
  rw [hdd]
  have hkb:(k:Int) ≤ 1000000:=by omega
  clear he hU hUl hdd
  by_cases hn12:12 < n
  ·have d4:decide (12 < (n:Int))=true:=decide_eq_true (by omega)
   rw [if_pos (.inl hn12)]
   unfold ReadP bv bcs noIt
   simp only
   clear hn12 h1 h15 hle hed het hpc hek hUs hlt hk hvl12
   go_enter Tryz.func51,Tryz.ntmps51
   go_upto_region 1 with fail
   obtain ⟨W,hW⟩:∃ W,w.alloc (.cells #[.int .u8 0,.int .i64 0,.string ⟨#[]⟩,.bool false] 23)=W:=⟨_,rfl⟩
   rw [hW] at hN hr ⊢
   obtain ⟨B,hB⟩:∃ B,w.heap.size=B:=⟨_,rfl⟩
   have hBw:w.heap.size ≤ B:=by omega
   rw [hB] at hr ⊢
   clear hW hB
   obtain ⟨⟨c0,c1,c2,c3⟩,f0,f1,f2,f3⟩:=row_facts hr
   go_upto_region 10 with (first | (go_at_call 107;refine (HR.out _).mono ?_;rintro e w' ⟨rfl,rfl⟩) | (go_at_call 108;refine (HA.out _).mono ?_;rintro e wa ⟨rfl,hNa⟩))
   have hN:=hN.trans hNa
   have hr:=hNa.heap hr id
   clear c0 c1 c2 c3 f0 f1 f2 f3 hNa
   obtain ⟨⟨c0,c1,c2,c3⟩,f0,f1,f2,f3⟩:=row_facts hr
   go_upto_region 12 with (go_at_call 107;refine (HU.out _).mono ?_;rintro e w' ⟨rfl,rfl⟩)
   go_wp2_with fail
   obtain ⟨hN2,hr2⟩:=set4 hN hBw hr (.int .u8 0) (.int .i64 0) (.string ⟨#[]⟩) (.bool false)
   obtain ⟨W2,hW2⟩:∃ W2,((((wa.setCell ⟨B,0,none⟩ (.int .u8 0)).setCell ⟨B,1,none⟩ (.int .i64 0)).setCell ⟨B,2,none⟩ (.string ⟨#[]⟩)).setCell ⟨B,3,none⟩ (.bool false))=W2:=⟨_,rfl⟩
   rw [hW2] at hN2 hr2 ⊢
   exact read_end (by kernel_rfl) rfl rfl rfl hr2 ⟨rfl,hN2⟩
  have d4:decide (12 < (n:Int))=false:=decide_eq_false (by omega)
  by_cases hk1:k < 1
  ·have d5:decide ((k:Int) < 1)=true:=decide_eq_true (by omega)
   rw [if_pos (.inr (.inl hk1))]
   unfold ReadP bv bcs noIt
   simp only
   clear hn12 hk1 h1 h15 hle hed het hpc hek hUs hlt hk hvl12
   go_enter Tryz.func51,Tryz.ntmps51
   go_upto_region 1 with fail
   obtain ⟨W,hW⟩:∃ W,w.alloc (.cells #[.int .u8 0,.int .i64 0,.string ⟨#[]⟩,.bool false] 23)=W:=⟨_,rfl⟩
   rw [hW] at hN hr ⊢
   obtain ⟨B,hB⟩:∃ B,w.heap.size=B:=⟨_,rfl⟩
   have hBw:w.heap.size ≤ B:=by omega
   rw [hB] at hr ⊢
   clear hW hB
   obtain ⟨⟨c0,c1,c2,c3⟩,f0,f1,f2,f3⟩:=row_facts hr
   go_upto_region 10 with (first | (go_at_call 107;refine (HR.out _).mono ?_;rintro e w' ⟨rfl,rfl⟩) | (go_at_call 108;refine (HA.out _).mono ?_;rintro e wa ⟨rfl,hNa⟩))
   have hN:=hN.trans hNa
   have hr:=hNa.heap hr id
   clear c0 c1 c2 c3 f0 f1 f2 f3 hNa
   obtain ⟨⟨c0,c1,c2,c3⟩,f0,f1,f2,f3⟩:=row_facts hr
   go_upto_region 12 with (go_at_call 107;refine (HU.out _).mono ?_;rintro e w' ⟨rfl,rfl⟩)
   go_wp2_with fail
   obtain ⟨hN2,hr2⟩:=set4 hN hBw hr (.int .u8 0) (.int .i64 0) (.string ⟨#[]⟩) (.bool false)
   obtain ⟨W2,hW2⟩:∃ W2,((((wa.setCell ⟨B,0,none⟩ (.int .u8 0)).setCell ⟨B,1,none⟩ (.int .i64 0)).setCell ⟨B,2,none⟩ (.string ⟨#[]⟩)).setCell ⟨B,3,none⟩ (.bool false))=W2:=⟨_,rfl⟩
   rw [hW2] at hN2 hr2 ⊢
   exact read_end (by kernel_rfl) rfl rfl rfl hr2 ⟨rfl,hN2⟩
  have d5:decide ((k:Int) < 1)=false:=decide_eq_false (by omega)
  by_cases hk3:3 < k
  ·have d6:decide (3 < (k:Int))=true:=decide_eq_true (by omega)
   rw [if_pos (.inr (.inr hk3))]
   unfold ReadP bv bcs noIt
   simp only
   clear hn12 hk1 hk3 h1 h15 hle hed het hpc hek hUs hlt hk hvl12
   go_enter Tryz.func51,Tryz.ntmps51
   go_upto_region 1 with fail
   obtain ⟨W,hW⟩:∃ W,w.alloc (.cells #[.int .u8 0,.int .i64 0,.string ⟨#[]⟩,.bool false] 23)=W:=⟨_,rfl⟩
   rw [hW] at hN hr ⊢
   obtain ⟨B,hB⟩:∃ B,w.heap.size=B:=⟨_,rfl⟩
   have hBw:w.heap.size ≤ B:=by omega
   rw [hB] at hr ⊢
   clear hW hB
   obtain ⟨⟨c0,c1,c2,c3⟩,f0,f1,f2,f3⟩:=row_facts hr
   go_upto_region 10 with (first | (go_at_call 107;refine (HR.out _).mono ?_;rintro e w' ⟨rfl,rfl⟩) | (go_at_call 108;refine (HA.out _).mono ?_;rintro e wa ⟨rfl,hNa⟩))
   have hN:=hN.trans hNa
   have hr:=hNa.heap hr id
   clear c0 c1 c2 c3 f0 f1 f2 f3 hNa
   obtain ⟨⟨c0,c1,c2,c3⟩,f0,f1,f2,f3⟩:=row_facts hr
   go_upto_region 12 with (go_at_call 107;refine (HU.out _).mono ?_;rintro e w' ⟨rfl,rfl⟩)
   go_wp2_with fail
   obtain ⟨hN2,hr2⟩:=set4 hN hBw hr (.int .u8 0) (.int .i64 0) (.string ⟨#[]⟩) (.bool false)
   obtain ⟨W2,hW2⟩:∃ W2,((((wa.setCell ⟨B,0,none⟩ (.int .u8 0)).setCell ⟨B,1,none⟩ (.int .i64 0)).setCell ⟨B,2,none⟩ (.string ⟨#[]⟩)).setCell ⟨B,3,none⟩ (.bool false))=W2:=⟨_,rfl⟩
   rw [hW2] at hN2 hr2 ⊢
   exact read_end (by kernel_rfl) rfl rfl rfl hr2 ⟨rfl,hN2⟩
  have d6:decide (3 < (k:Int))=false:=decide_eq_false (by omega)
  rw [if_neg (by omega)]
  have hv12:=hvl12 (by omega)
  simp at hv12
  have hsl2:∀ W,(Instr.slice 9 (.string s) (some (.int .i64 ((n:Int) + 1))) (some (.int .i64 ((n:Int) + 1 + (k:Int)))) none).run Tryz.prog W = .ok (.string (piec s (n + 1) (n + 1 + k))) W:=fun W=>run_sl s (n + 1) (n + 1 + k) (by omega) (by omega) W
  rw [hpc,het] at hsl2
  have hxx:(tx e ++ ⟨#[48,48]⟩).extract 0 3=tx ((e ++ [48,48]).take 3):=by
   rw [extract_piec,piec_head]
   rfl
  have hz1:1 ≤ (tx e).size:=by rw [tx_size,hk];omega
  have hz3:(tx e).size ≤ 3:=by rw [tx_size,hk];omega
  have hed2:((e ++ [48,48]).take 3).all Bare.digB=true:=by
   rw [List.all_eq_true] at hed ⊢
   intro x hx
   rcases List.mem_append.1 (List.mem_of_mem_take hx) with h | h
   ·exact hed x h
   ·simp at h;subst h;decide
  have hl3:((e ++ [48,48]).take 3).length=3:=by rw [List.length_take,List.length_append];show min 3 (e.length + 2)=3;omega
  have HA2:=Lib.hid (fun W=>atoi_any _ hed2 (fun h=>by rw [h] at hl3;cases hl3) (by omega) W)
  have hv2:=val_lt hed2 3 (by omega)
  obtain ⟨v2,hv2e⟩:∃ v2,Bare.valD ((e ++ [48,48]).take 3)=v2:=⟨_,rfl⟩
  rw [hv2e] at HA2 hv2 ⊢
  simp at hv2
  rw [← hxx] at HA2
  obtain ⟨x1,hx1⟩:∃ x1,tx e=x1:=⟨_,rfl⟩
  rw [hx1] at hsl2 HA2 hz1 hz3
  have hsl3:∀ W,(Instr.slice 9 (.string s) (some (.int .i64 ((n:Int) + 1 + (k:Int)))) none none).run Tryz.prog W = .ok (.string (tx ((bl s).drop (n + 1 + k)))) W:=fun W=>run_sl_l s (n + 1 + k) (by omega) W
  obtain ⟨x,hx⟩:∃ x,tx ((bl s).drop (n + 1 + k))=x:=⟨_,rfl⟩
  rw [hx] at hsl3
  clear hv2e hxx hx1 hl3 hed2 hed het hpc hk hk1 hk3 hn12 hek hUs hlt hsl hvl hvl12 h1 h15 hle
  unfold ReadP bv bcs
  simp only
  rw [hx,Int.one_mul]
  clear hx
  go_enter Tryz.func51,Tryz.ntmps51
  go_upto_region 1 with fail
  obtain ⟨W,hW⟩:∃ W,w.alloc (.cells #[.int .u8 0,.int .i64 0,.string ⟨#[]⟩,.bool false] 23)=W:=⟨_,rfl⟩
  rw [hW] at hN hr ⊢
  obtain ⟨B,hB⟩:∃ B,w.heap.size=B:=⟨_,rfl⟩
  have hBw:w.heap.size ≤ B:=by omega
  rw [hB] at hr ⊢
  clear hW hB
  obtain ⟨⟨c0,c1,c2,c3⟩,f0,f1,f2,f3⟩:=row_facts hr
  go_upto_region 10 with (first | (go_at_call 107;refine (HR.out _).mono ?_;rintro e w' ⟨rfl,rfl⟩) | (go_at_call 108;refine (HA.out _).mono ?_;rintro e wa ⟨rfl,hNa⟩))
  have hN:=hN.trans hNa
  have hr:=hNa.heap hr id
  clear c0 c1 c2 c3 f0 f1 f2 f3 hNa
  obtain ⟨⟨c0,c1,c2,c3⟩,f0,f1,f2,f3⟩:=row_facts hr
  go_upto_region 14 with (first | (go_at_call 107;refine (HU.out _).mono ?_;rintro e w' ⟨rfl,rfl⟩) | (go_at_call 108;refine (HA2.out _).mono ?_;rintro e wb ⟨rfl,hNb⟩))
  have hN:=hN.trans hNb
  have hr:=hNb.heap hr id
  clear c0 c1 c2 c3 f0 f1 f2 f3 hNb
  obtain ⟨⟨c0,c1,c2,c3⟩,f0,f1,f2,f3⟩:=row_facts hr
  go_region
  obtain ⟨hN2,hr2⟩:=set4 hN hBw hr (.int .u8 2) (.int .i64 (1000 * (v:Int) + (v2:Int))) (.string ⟨#[]⟩) (.bool false)
  have hN2:=hN2.drew
  have hr2:((((wb.setCell ⟨B,0,none⟩ (.int .u8 2)).setCell ⟨B,1,none⟩ (.int .i64 (1000 * (v:Int) + (v2:Int)))).setCell ⟨B,2,none⟩ (.string ⟨#[]⟩)).setCell ⟨B,3,none⟩ (.bool false)).drew.heap[B]? = some (.cells #[(.int .u8 2),(.int .i64 (1000 * (v:Int) + (v2:Int))),(.string ⟨#[]⟩),(.bool false)] 23 (0,0)):=hr2
  obtain ⟨W2,hW2⟩:∃ W2,((((wb.setCell ⟨B,0,none⟩ (.int .u8 2)).setCell ⟨B,1,none⟩ (.int .i64 (1000 * (v:Int) + (v2:Int)))).setCell ⟨B,2,none⟩ (.string ⟨#[]⟩)).setCell ⟨B,3,none⟩ (.bool false)).drew=W2:=⟨_,rfl⟩
  rw [hW2] at hN2 hr2 ⊢
  go_wp2_with fail
  exact read_end (by kernel_rfl) rfl rfl rfl hr2 ⟨rfl,hN2⟩
theorem number_neg (s:ByteArray) (w:World) (hs:s.size ≤ 1000000) (h0:0 < s.size) (hng:gb s 0=45) :
  Calls Tryz.prog 51 #[.string s] w (ReadP (Bare.number (bl s)) w):=by
 have hc45:decide (gb s 0=45)=true:=decide_eq_true hng
 rw [u8_eq] at hc45
 have hix0:∀ W,(Instr.index 9 (.string s) (.int .i64 0)).run Tryz.prog W = .ok (.int .u8 ((gb s 0).toNat:Nat)) W:=run_idx s 0 (by omega)
 have e0:Bare.number (bl s)=numR (-1) ((bl s).drop 1):=by
  have hh:(bl s).head? = some (gb s 0):=by have:=head_drop s 0 h0;rwa [List.drop_zero] at this
  rw [number_numR,hh]
  simp [hng]
 rw [e0]
 clear e0
 have hs1:∀ W,(Instr.slice 9 (.string s) (some (.int .i64 1)) none none).run Tryz.prog W = .ok (.string (tx ((bl s).drop 1))) W:=run_sl_l s 1 (by omega)
 obtain ⟨T,hT⟩:∃ T,tx ((bl s).drop 1)=T:=⟨_,rfl⟩
 have hTl:(bl s).drop 1=bl T:=by rw [← hT]
 have hTs:T.size ≤ 1000000:=by rw [← hT,tx_size,List.length_drop,bl_len];omega
 rw [hT] at hs1
 rw [hTl]
 clear hT hTl
 obtain ⟨c,hc⟩:∃ c,(gb s 0).toNat=c:=⟨_,rfl⟩
 rw [hc] at hc45 hix0
 have hceq:((c:Int) == 45)=true:=hc45
 clear hc hc45 hng
 have HR:=Lib.hid (fun W=>(run_any 50 #[] _ digit_p (enters_of Tryz.func50 (by kernel_rfl) rfl) T W (by omega)).mono fun e w' h=>show e = _∧W=w' from ⟨h.1,h.2.symm⟩)
 have hle:=Bare.takeWhile_len Bare.digB (bl T)
 have htk:=Bare.takeWhile_take Bare.digB (bl T)
 have hdg:=digs_take (bl T)
 unfold numR
 simp only
 obtain ⟨d,hd⟩:∃ d,(bl T).takeWhile Bare.digB=d:=⟨_,rfl⟩
 rw [hd] at HR hle htk hdg ⊢
 obtain ⟨n,hn⟩:∃ n,d.length=n:=⟨_,rfl⟩
 rw [hn] at HR hle htk ⊢
 rw [bl_len] at hle
 clear hd
 obtain ⟨hN,hr⟩:=no_row w
 by_cases h1:n < 1
 ·have d1:decide ((n:Int) < 1)=true:=decide_eq_true (by omega)
  rw [if_pos (.inl h1)]
  unfold ReadP bv bcs noIt
  simp only
  clear htk h1 hn hle
  go_enter Tryz.func51,Tryz.ntmps51
  go_upto_region 1 with fail
  obtain ⟨W,hW⟩:∃ W,w.alloc (.cells #[.int .u8 0,.int .i64 0,.string ⟨#[]⟩,.bool false] 23)=W:=⟨_,rfl⟩
  rw [hW] at hN hr ⊢
  obtain ⟨B,hB⟩:∃ B,w.heap.size=B:=⟨_,rfl⟩
  have hBw:w.heap.size ≤ B:=by omega
  rw [hB] at hr ⊢
  clear hW hB
  obtain ⟨⟨c0,c1,c2,c3⟩,f0,f1,f2,f3⟩:=row_facts hr
  go_upto_region 3 with fail
  go_region
  have hN:=hN.drew
  have hr:W.drew.heap[B]? = some (.cells #[.int .u8 0,.int .i64 0,.string ⟨#[]⟩,.bool false] 23 (0,0)):=hr
  obtain ⟨W,hW⟩:∃ V,W.drew=V:=⟨_,rfl⟩
  rw [hW] at hN hr ⊢
  clear hW c0 c1 c2 c3 f0 f1 f2 f3
  obtain ⟨⟨c0,c1,c2,c3⟩,f0,f1,f2,f3⟩:=row_facts hr
  go_upto_region 6 with (go_at_call 107;refine (HR.out _).mono ?_;rintro e w' ⟨rfl,rfl⟩)
  go_wp2_with fail
  obtain ⟨hN2,hr2⟩:=set4 hN hBw hr (.int .u8 0) (.int .i64 0) (.string ⟨#[]⟩) (.bool false)
  obtain ⟨W2,hW2⟩:∃ W2,((((W.setCell ⟨B,0,none⟩ (.int .u8 0)).setCell ⟨B,1,none⟩ (.int .i64 0)).setCell ⟨B,2,none⟩ (.string ⟨#[]⟩)).setCell ⟨B,3,none⟩ (.bool false))=W2:=⟨_,rfl⟩
  rw [hW2] at hN2 hr2 ⊢
  exact read_end (by kernel_rfl) rfl rfl rfl hr2 ⟨rfl,hN2⟩
 have d1:decide ((n:Int) < 1)=false:=decide_eq_false (by omega)
 by_cases h15:15 < n
 ·have d2:decide (15 < (n:Int))=true:=decide_eq_true (by omega)
  rw [if_pos (.inr h15)]
  unfold ReadP bv bcs noIt
  simp only
  clear htk h1 h15 hn hle
  go_enter Tryz.func51,Tryz.ntmps51
  go_upto_region 1 with fail
  obtain ⟨W,hW⟩:∃ W,w.alloc (.cells #[.int .u8 0,.int .i64 0,.string ⟨#[]⟩,.bool false] 23)=W:=⟨_,rfl⟩
  rw [hW] at hN hr ⊢
  obtain ⟨B,hB⟩:∃ B,w.heap.size=B:=⟨_,rfl⟩
  have hBw:w.heap.size ≤ B:=by omega
  rw [hB] at hr ⊢
  clear hW hB
  obtain ⟨⟨c0,c1,c2,c3⟩,f0,f1,f2,f3⟩:=row_facts hr
  go_upto_region 3 with fail
  go_region
  have hN:=hN.drew
  have hr:W.drew.heap[B]? = some (.cells #[.int .u8 0,.int .i64 0,.string ⟨#[]⟩,.bool false] 23 (0,0)):=hr
  obtain ⟨W,hW⟩:∃ V,W.drew=V:=⟨_,rfl⟩
  rw [hW] at hN hr ⊢
  clear hW c0 c1 c2 c3 f0 f1 f2 f3
  obtain ⟨⟨c0,c1,c2,c3⟩,f0,f1,f2,f3⟩:=row_facts hr
  go_upto_region 6 with (go_at_call 107;refine (HR.out _).mono ?_;rintro e w' ⟨rfl,rfl⟩)
  go_wp2_with fail
  obtain ⟨hN2,hr2⟩:=set4 hN hBw hr (.int .u8 0) (.int .i64 0) (.string ⟨#[]⟩) (.bool false)
  obtain ⟨W2,hW2⟩:∃ W2,((((W.setCell ⟨B,0,none⟩ (.int .u8 0)).setCell ⟨B,1,none⟩ (.int .i64 0)).setCell ⟨B,2,none⟩ (.string ⟨#[]⟩)).setCell ⟨B,3,none⟩ (.bool false))=W2:=⟨_,rfl⟩
  rw [hW2] at hN2 hr2 ⊢
  exact read_end (by kernel_rfl) rfl rfl rfl hr2 ⟨rfl,hN2⟩
 have d2:decide (15 < (n:Int))=false:=decide_eq_false (by omega)
 rw [if_neg (by omega)]
 have hne:d ≠ []:=by rintro rfl;simp at hn;omega
 have HA:=Lib.hid (fun W=>atoi_any d hdg hne (by omega) W)
 have hsh:=run_sl_h T n hle
 have hvl:=val_lt hdg 15 (by omega)
 have hvl12:=fun h=>val_lt hdg 12 h
 rw [htk] at hsh
 have hsl:=run_sl_l T n hle
 obtain ⟨v,hv⟩:∃ v,Bare.valD d=v:=⟨_,rfl⟩
 rw [hv] at HA hvl hvl12 ⊢
 obtain ⟨dx,hdx⟩:∃ dx,tx d=dx:=⟨_,rfl⟩
 rw [hdx] at HA hsh
 rw [hn] at hvl12
 clear hv hdx htk hne hdg hn
 simp at hvl
 by_cases hend:n=T.size
 ·have d3:decide ((n:Int)=(T.size:Int))=true:=decide_eq_true (by omega)
  have d3':((n:Int) == (T.size:Int))=true:=d3
  have hhd:((bl T).drop n).head? ≠ some 46:=by rw [hend,head_end];simp
  rw [if_pos hhd]
  obtain ⟨x,hx⟩:∃ x,tx ((bl T).drop n)=x:=⟨_,rfl⟩
  rw [hx] at hsl
  unfold ReadP bv bcs
  simp only
  rw [hx,Int.neg_one_mul]
  clear hhd hend h1 h15 hle hx hvl12
  go_enter Tryz.func51,Tryz.ntmps51
  go_upto_region 1 with fail
  obtain ⟨W,hW⟩:∃ W,w.alloc (.cells #[.int .u8 0,.int .i64 0,.string ⟨#[]⟩,.bool false] 23)=W:=⟨_,rfl⟩
  rw [hW] at hN hr ⊢
  obtain ⟨B,hB⟩:∃ B,w.heap.size=B:=⟨_,rfl⟩
  have hBw:w.heap.size ≤ B:=by omega
  rw [hB] at hr ⊢
  clear hW hB
  obtain ⟨⟨c0,c1,c2,c3⟩,f0,f1,f2,f3⟩:=row_facts hr
  go_upto_region 3 with fail
  go_region
  have hN:=hN.drew
  have hr:W.drew.heap[B]? = some (.cells #[.int .u8 0,.int .i64 0,.string ⟨#[]⟩,.bool false] 23 (0,0)):=hr
  obtain ⟨W,hW⟩:∃ V,W.drew=V:=⟨_,rfl⟩
  rw [hW] at hN hr ⊢
  clear hW c0 c1 c2 c3 f0 f1 f2 f3
  obtain ⟨⟨c0,c1,c2,c3⟩,f0,f1,f2,f3⟩:=row_facts hr
  go_upto_region 9 with (first | (go_at_call 107;refine (HR.out _).mono ?_;rintro e w' ⟨rfl,rfl⟩) | (go_at_call 108;refine (HA.out _).mono ?_;rintro e wa ⟨rfl,hNa⟩))
  have hN:=hN.trans hNa
  have hr:=hNa.heap hr id
  clear c0 c1 c2 c3 f0 f1 f2 f3 hNa
  obtain ⟨⟨c0,c1,c2,c3⟩,f0,f1,f2,f3⟩:=row_facts hr
  go_region
  obtain ⟨hN2,hr2⟩:=set4 hN hBw hr (.int .u8 1) (.int .i64 (-(v:Int))) (.string ⟨#[]⟩) (.bool false)
  have hN2:=hN2.drew
  have hr2:((((wa.setCell ⟨B,0,none⟩ (.int .u8 1)).setCell ⟨B,1,none⟩ (.int .i64 (-(v:Int)))).setCell ⟨B,2,none⟩ (.string ⟨#[]⟩)).setCell ⟨B,3,none⟩ (.bool false)).drew.heap[B]? = some (.cells #[(.int .u8 1),(.int .i64 (-(v:Int))),(.string ⟨#[]⟩),(.bool false)] 23 (0,0)):=hr2
  obtain ⟨W2,hW2⟩:∃ W2,((((wa.setCell ⟨B,0,none⟩ (.int .u8 1)).setCell ⟨B,1,none⟩ (.int .i64 (-(v:Int)))).setCell ⟨B,2,none⟩ (.string ⟨#[]⟩)).setCell ⟨B,3,none⟩ (.bool false)).drew=W2:=⟨_,rfl⟩
  rw [hW2] at hN2 hr2 ⊢
  go_wp2_with fail
  exact read_end (by kernel_rfl) rfl rfl rfl hr2 ⟨rfl,hN2⟩
 have hlt:n < T.size:=by omega
 have d3:decide ((n:Int)=(T.size:Int))=false:=decide_eq_false (by omega)
 have d3':((n:Int) == (T.size:Int))=false:=d3
 have hixn:=run_idx T n hlt
 have hhn:=head_drop T n hlt
 have hq46:=u8_eq (gb T n) 46
 by_cases hq:gb T n=46
 case neg =>
  rw [decide_eq_false hq] at hq46
  have hhd:((bl T).drop n).head? ≠ some 46:=by rw [hhn];simpa using hq
  rw [if_pos hhd]
  obtain ⟨x,hx⟩:∃ x,tx ((bl T).drop n)=x:=⟨_,rfl⟩
  rw [hx] at hsl
  obtain ⟨q,hqn⟩:∃ q,(gb T n).toNat=q:=⟨_,rfl⟩
  rw [hqn] at hixn hq46
  have hq1:((q:Int) == 46)=false:=hq46.symm
  have hq2:((q:Int) != 46)=true:=by simp [bne,hq1]
  clear hq hqn hq46 hhd hhn hend hlt
  unfold ReadP bv bcs
  simp only
  rw [hx,Int.neg_one_mul]
  clear h1 h15 hle hx hvl12
  go_enter Tryz.func51,Tryz.ntmps51
  go_upto_region 1 with fail
  obtain ⟨W,hW⟩:∃ W,w.alloc (.cells #[.int .u8 0,.int .i64 0,.string ⟨#[]⟩,.bool false] 23)=W:=⟨_,rfl⟩
  rw [hW] at hN hr ⊢
  obtain ⟨B,hB⟩:∃ B,w.heap.size=B:=⟨_,rfl⟩
  have hBw:w.heap.size ≤ B:=by omega
  rw [hB] at hr ⊢
  clear hW hB
  obtain ⟨⟨c0,c1,c2,c3⟩,f0,f1,f2,f3⟩:=row_facts hr
  go_upto_region 3 with fail
  go_region
  have hN:=hN.drew
  have hr:W.drew.heap[B]? = some (.cells #[.int .u8 0,.int .i64 0,.string ⟨#[]⟩,.bool false] 23 (0,0)):=hr
  obtain ⟨W,hW⟩:∃ V,W.drew=V:=⟨_,rfl⟩
  rw [hW] at hN hr ⊢
  clear hW c0 c1 c2 c3 f0 f1 f2 f3
  obtain ⟨⟨c0,c1,c2,c3⟩,f0,f1,f2,f3⟩:=row_facts hr
  go_upto_region 9 with (first | (go_at_call 107;refine (HR.out _).mono ?_;rintro e w' ⟨rfl,rfl⟩) | (go_at_call 108;refine (HA.out _).mono ?_;rintro e wa ⟨rfl,hNa⟩))
  have hN:=hN.trans hNa
  have hr:=hNa.heap hr id
  clear c0 c1 c2 c3 f0 f1 f2 f3 hNa
  obtain ⟨⟨c0,c1,c2,c3⟩,f0,f1,f2,f3⟩:=row_facts hr
  go_region
  obtain ⟨hN2,hr2⟩:=set4 hN hBw hr (.int .u8 1) (.int .i64 (-(v:Int))) (.string ⟨#[]⟩) (.bool false)
  have hN2:=hN2.drew
  have hr2:((((wa.setCell ⟨B,0,none⟩ (.int .u8 1)).setCell ⟨B,1,none⟩ (.int .i64 (-(v:Int)))).setCell ⟨B,2,none⟩ (.string ⟨#[]⟩)).setCell ⟨B,3,none⟩ (.bool false)).drew.heap[B]? = some (.cells #[(.int .u8 1),(.int .i64 (-(v:Int))),(.string ⟨#[]⟩),(.bool false)] 23 (0,0)):=hr2
  obtain ⟨W2,hW2⟩:∃ W2,((((wa.setCell ⟨B,0,none⟩ (.int .u8 1)).setCell ⟨B,1,none⟩ (.int .i64 (-(v:Int)))).setCell ⟨B,2,none⟩ (.string ⟨#[]⟩)).setCell ⟨B,3,none⟩ (.bool false)).drew=W2:=⟨_,rfl⟩
  rw [hW2] at hN2 hr2 ⊢
  go_wp2_with fail
  exact read_end (by kernel_rfl) rfl rfl rfl hr2 ⟨rfl,hN2⟩
 case pos =>
  rw [decide_eq_true hq] at hq46
  have hhd:¬ ((bl T).drop n).head? ≠ some 46:=by rw [hhn,hq];simp
  rw [if_neg hhd]
  obtain ⟨q,hqn⟩:∃ q,(gb T n).toNat=q:=⟨_,rfl⟩
  rw [hqn] at hixn hq46
  have hq1:((q:Int) == 46)=true:=hq46.symm
  have hq2:((q:Int) != 46)=false:=by simp [bne,hq1]
  have hnb:(n:Int) ≤ 1000000:=by omega
  clear hq hqn hq46 hhd hhn hend
  have hsl1:∀ W,(Instr.slice 9 (.string T) (some (.int .i64 ((n:Int) + 1))) none none).run Tryz.prog W = .ok (.string (tx ((bl T).drop (n + 1)))) W:=fun W=>run_sl_l T (n + 1) (by omega) W
  obtain ⟨U,hU⟩:∃ U,tx ((bl T).drop (n + 1))=U:=⟨_,rfl⟩
  have hUl:((bl T).drop n).drop 1=bl U:=by rw [← hU,List.drop_drop]
  have hUs:U.size=T.size - (n + 1):=by rw [← hU,tx_size,List.length_drop,bl_len]
  have hdd:∀ k,((bl T).drop n).drop (1 + k)=(bl T).drop (n + 1 + k):=fun k=>by rw [List.drop_drop];congr 1;omega
  have hpc:∀ k,piec T (n + 1) (n + 1 + k)=tx ((bl U).take k):=fun k=>by unfold piec;rw [← hU,Nat.add_sub_cancel_left]
  rw [hU] at hsl1
  rw [hUl]
  have HU:=Lib.hid (fun W=>(run_any 50 #[] _ digit_p (enters_of Tryz.func50 (by kernel_rfl) rfl) U W (by omega)).mono fun e w' h=>show e = _∧W=w' from ⟨h.1,h.2.symm⟩)
  have hek:=Bare.takeWhile_len Bare.digB (bl U)
  have het:=Bare.takeWhile_take Bare.digB (bl U)
  have hed:=digs_take (bl U)
  obtain ⟨e,he⟩:∃ e,(bl U).takeWhile Bare.digB=e:=⟨_,rfl⟩
  rw [he] at HU hek het hed ⊢
  obtain ⟨k,hk⟩:∃ k,e.length=k:=⟨_,rfl⟩
  rw [hk] at HU hek het ⊢
  rw [bl_len,hUs] at hek
  rw [hdd]
  have hkb:(k:Int) ≤ 1000000:=by omega
  clear he hU hUl hdd
  by_cases hn12:12 < n
  ·have d4:decide (12 < (n:Int))=true:=decide_eq_true (by omega)
   rw [if_pos (.inl hn12)]
   unfold ReadP bv bcs noIt
   simp only
   clear hn12 h1 h15 hle hed het hpc hek hUs hlt hk hvl12
   go_enter Tryz.func51,Tryz.ntmps51
   go_upto_region 1 with fail
   obtain ⟨W,hW⟩:∃ W,w.alloc (.cells #[.int .u8 0,.int .i64 0,.string ⟨#[]⟩,.bool false] 23)=W:=⟨_,rfl⟩
   rw [hW] at hN hr ⊢
   obtain ⟨B,hB⟩:∃ B,w.heap.size=B:=⟨_,rfl⟩
   have hBw:w.heap.size ≤ B:=by omega
   rw [hB] at hr ⊢
   clear hW hB
   obtain ⟨⟨c0,c1,c2,c3⟩,f0,f1,f2,f3⟩:=row_facts hr
   go_upto_region 3 with fail
   go_region
   have hN:=hN.drew
   have hr:W.drew.heap[B]? = some (.cells #[.int .u8 0,.int .i64 0,.string ⟨#[]⟩,.bool false] 23 (0,0)):=hr
   obtain ⟨W,hW⟩:∃ V,W.drew=V:=⟨_,rfl⟩
   rw [hW] at hN hr ⊢
   clear hW c0 c1 c2 c3 f0 f1 f2 f3
   obtain ⟨⟨c0,c1,c2,c3⟩,f0,f1,f2,f3⟩:=row_facts hr
   go_upto_region 10 with (first | (go_at_call 107;refine (HR.out _).mono ?_;rintro e w' ⟨rfl,rfl⟩) | (go_at_call 108;refine (HA.out _).mono ?_;rintro e wa ⟨rfl,hNa⟩))
   have hN:=hN.trans hNa
   have hr:=hNa.heap hr id
   clear c0 c1 c2 c3 f0 f1 f2 f3 hNa
   obtain ⟨⟨c0,c1,c2,c3⟩,f0,f1,f2,f3⟩:=row_facts hr
   go_upto_region 12 with (go_at_call 107;refine (HU.out _).mono ?_;rintro e w' ⟨rfl,rfl⟩)
   go_wp2_with fail
   obtain ⟨hN2,hr2⟩:=set4 hN hBw hr (.int .u8 0) (.int .i64 0) (.string ⟨#[]⟩) (.bool false)
   obtain ⟨W2,hW2⟩:∃ W2,((((wa.setCell ⟨B,0,none⟩ (.int .u8 0)).setCell ⟨B,1,none⟩ (.int .i64 0)).setCell ⟨B,2,none⟩ (.string ⟨#[]⟩)).setCell ⟨B,3,none⟩ (.bool false))=W2:=⟨_,rfl⟩
   rw [hW2] at hN2 hr2 ⊢
   exact read_end (by kernel_rfl) rfl rfl rfl hr2 ⟨rfl,hN2⟩
  have d4:decide (12 < (n:Int))=false:=decide_eq_false (by omega)
  by_cases hk1:k < 1
  ·have d5:decide ((k:Int) < 1)=true:=decide_eq_true (by omega)
   rw [if_pos (.inr (.inl hk1))]
   unfold ReadP bv bcs noIt
   simp only
   clear hn12 hk1 h1 h15 hle hed het hpc hek hUs hlt hk hvl12
   go_enter Tryz.func51,Tryz.ntmps51
   go_upto_region 1 with fail
   obtain ⟨W,hW⟩:∃ W,w.alloc (.cells #[.int .u8 0,.int .i64 0,.string ⟨#[]⟩,.bool false] 23)=W:=⟨_,rfl⟩
   rw [hW] at hN hr ⊢
   obtain ⟨B,hB⟩:∃ B,w.heap.size=B:=⟨_,rfl⟩
   have hBw:w.heap.size ≤ B:=by omega
   rw [hB] at hr ⊢
   clear hW hB
   obtain ⟨⟨c0,c1,c2,c3⟩,f0,f1,f2,f3⟩:=row_facts hr
   go_upto_region 3 with fail
   go_region
   have hN:=hN.drew
   have hr:W.drew.heap[B]? = some (.cells #[.int .u8 0,.int .i64 0,.string ⟨#[]⟩,.bool false] 23 (0,0)):=hr
   obtain ⟨W,hW⟩:∃ V,W.drew=V:=⟨_,rfl⟩
   rw [hW] at hN hr ⊢
   clear hW c0 c1 c2 c3 f0 f1 f2 f3
   obtain ⟨⟨c0,c1,c2,c3⟩,f0,f1,f2,f3⟩:=row_facts hr
   go_upto_region 10 with (first | (go_at_call 107;refine (HR.out _).mono ?_;rintro e w' ⟨rfl,rfl⟩) | (go_at_call 108;refine (HA.out _).mono ?_;rintro e wa ⟨rfl,hNa⟩))
   have hN:=hN.trans hNa
   have hr:=hNa.heap hr id
   clear c0 c1 c2 c3 f0 f1 f2 f3 hNa
   obtain ⟨⟨c0,c1,c2,c3⟩,f0,f1,f2,f3⟩:=row_facts hr
   go_upto_region 12 with (go_at_call 107;refine (HU.out _).mono ?_;rintro e w' ⟨rfl,rfl⟩)
   go_wp2_with fail
   obtain ⟨hN2,hr2⟩:=set4 hN hBw hr (.int .u8 0) (.int .i64 0) (.string ⟨#[]⟩) (.bool false)
   obtain ⟨W2,hW2⟩:∃ W2,((((wa.setCell ⟨B,0,none⟩ (.int .u8 0)).setCell ⟨B,1,none⟩ (.int .i64 0)).setCell ⟨B,2,none⟩ (.string ⟨#[]⟩)).setCell ⟨B,3,none⟩ (.bool false))=W2:=⟨_,rfl⟩
   rw [hW2] at hN2 hr2 ⊢
   exact read_end (by kernel_rfl) rfl rfl rfl hr2 ⟨rfl,hN2⟩
  have d5:decide ((k:Int) < 1)=false:=decide_eq_false (by omega)
  by_cases hk3:3 < k
  ·have d6:decide (3 < (k:Int))=true:=decide_eq_true (by omega)
   rw [if_pos (.inr (.inr hk3))]
   unfold ReadP bv bcs noIt
   simp only
   clear hn12 hk1 hk3 h1 h15 hle hed het hpc hek hUs hlt hk hvl12
   go_enter Tryz.func51,Tryz.ntmps51
   go_upto_region 1 with fail
   obtain ⟨W,hW⟩:∃ W,w.alloc (.cells #[.int .u8 0,.int .i64 0,.string ⟨#[]⟩,.bool false] 23)=W:=⟨_,rfl⟩
   rw [hW] at hN hr ⊢
   obtain ⟨B,hB⟩:∃ B,w.heap.size=B:=⟨_,rfl⟩
   have hBw:w.heap.size ≤ B:=by omega
   rw [hB] at hr ⊢
   clear hW hB
   obtain ⟨⟨c0,c1,c2,c3⟩,f0,f1,f2,f3⟩:=row_facts hr
   go_upto_region 3 with fail
   go_region
   have hN:=hN.drew
   have hr:W.drew.heap[B]? = some (.cells #[.int .u8 0,.int .i64 0,.string ⟨#[]⟩,.bool false] 23 (0,0)):=hr
   obtain ⟨W,hW⟩:∃ V,W.drew=V:=⟨_,rfl⟩
   rw [hW] at hN hr ⊢
   clear hW c0 c1 c2 c3 f0 f1 f2 f3
   obtain ⟨⟨c0,c1,c2,c3⟩,f0,f1,f2,f3⟩:=row_facts hr
   go_upto_region 10 with (first | (go_at_call 107;refine (HR.out _).mono ?_;rintro e w' ⟨rfl,rfl⟩) | (go_at_call 108;refine (HA.out _).mono ?_;rintro e wa ⟨rfl,hNa⟩))
   have hN:=hN.trans hNa
   have hr:=hNa.heap hr id
   clear c0 c1 c2 c3 f0 f1 f2 f3 hNa
   obtain ⟨⟨c0,c1,c2,c3⟩,f0,f1,f2,f3⟩:=row_facts hr
   go_upto_region 12 with (go_at_call 107;refine (HU.out _).mono ?_;rintro e w' ⟨rfl,rfl⟩)
   go_wp2_with fail
   obtain ⟨hN2,hr2⟩:=set4 hN hBw hr (.int .u8 0) (.int .i64 0) (.string ⟨#[]⟩) (.bool false)
   obtain ⟨W2,hW2⟩:∃ W2,((((wa.setCell ⟨B,0,none⟩ (.int .u8 0)).setCell ⟨B,1,none⟩ (.int .i64 0)).setCell ⟨B,2,none⟩ (.string ⟨#[]⟩)).setCell ⟨B,3,none⟩ (.bool false))=W2:=⟨_,rfl⟩
   rw [hW2] at hN2 hr2 ⊢
   exact read_end (by kernel_rfl) rfl rfl rfl hr2 ⟨rfl,hN2⟩
  have d6:decide (3 < (k:Int))=false:=decide_eq_false (by omega)
  rw [if_neg (by omega)]
  have hv12:=hvl12 (by omega)
  simp at hv12
  have hsl2:∀ W,(Instr.slice 9 (.string T) (some (.int .i64 ((n:Int) + 1))) (some (.int .i64 ((n:Int) + 1 + (k:Int)))) none).run Tryz.prog W = .ok (.string (piec T (n + 1) (n + 1 + k))) W:=fun W=>run_sl T (n + 1) (n + 1 + k) (by omega) (by omega) W
  rw [hpc,het] at hsl2
  have hxx:(tx e ++ ⟨#[48,48]⟩).extract 0 3=tx ((e ++ [48,48]).take 3):=by
   rw [extract_piec,piec_head]
   rfl
  have hz1:1 ≤ (tx e).size:=by rw [tx_size,hk];omega
  have hz3:(tx e).size ≤ 3:=by rw [tx_size,hk];omega
  have hed2:((e ++ [48,48]).take 3).all Bare.digB=true:=by
   rw [List.all_eq_true] at hed ⊢
   intro x hx
   rcases List.mem_append.1 (List.mem_of_mem_take hx) with h | h
   ·exact hed x h
   ·simp at h;subst h;decide
  have hl3:((e ++ [48,48]).take 3).length=3:=by rw [List.length_take,List.length_append];show min 3 (e.length + 2)=3;omega
  have HA2:=Lib.hid (fun W=>atoi_any _ hed2 (fun h=>by rw [h] at hl3;cases hl3) (by omega) W)
  have hv2:=val_lt hed2 3 (by omega)
  obtain ⟨v2,hv2e⟩:∃ v2,Bare.valD ((e ++ [48,48]).take 3)=v2:=⟨_,rfl⟩
  rw [hv2e] at HA2 hv2 ⊢
  simp at hv2
  rw [← hxx] at HA2
  obtain ⟨x1,hx1⟩:∃ x1,tx e=x1:=⟨_,rfl⟩
  rw [hx1] at hsl2 HA2 hz1 hz3
  have hsl3:∀ W,(Instr.slice 9 (.string T) (some (.int .i64 ((n:Int) + 1 + (k:Int)))) none none).run Tryz.prog W = .ok (.string (tx ((bl T).drop (n + 1 + k)))) W:=fun W=>run_sl_l T (n + 1 + k) (by omega) W
  obtain ⟨x,hx⟩:∃ x,tx ((bl T).drop (n + 1 + k))=x:=⟨_,rfl⟩
  rw [hx] at hsl3
  clear hv2e hxx hx1 hl3 hed2 hed het hpc hk hk1 hk3 hn12 hek hUs hlt hsl hvl hvl12 h1 h15 hle
  unfold ReadP bv bcs
  simp only
  rw [hx,Int.neg_one_mul]
  clear hx
  go_enter Tryz.func51,Tryz.ntmps51
  go_upto_region 1 with fail
  obtain ⟨W,hW⟩:∃ W,w.alloc (.cells #[.int .u8 0,.int .i64 0,.string ⟨#[]⟩,.bool false] 23)=W:=⟨_,rfl⟩
  rw [hW] at hN hr ⊢
  obtain ⟨B,hB⟩:∃ B,w.heap.size=B:=⟨_,rfl⟩
  have hBw:w.heap.size ≤ B:=by omega
  rw [hB] at hr ⊢
  clear hW hB
  obtain ⟨⟨c0,c1,c2,c3⟩,f0,f1,f2,f3⟩:=row_facts hr
  go_upto_region 3 with fail
  go_region
  have hN:=hN.drew
  have hr:W.drew.heap[B]? = some (.cells #[.int .u8 0,.int .i64 0,.string ⟨#[]⟩,.bool false] 23 (0,0)):=hr
  obtain ⟨W,hW⟩:∃ V,W.drew=V:=⟨_,rfl⟩
  rw [hW] at hN hr ⊢
  clear hW c0 c1 c2 c3 f0 f1 f2 f3
  obtain ⟨⟨c0,c1,c2,c3⟩,f0,f1,f2,f3⟩:=row_facts hr
  go_upto_region 10 with (first | (go_at_call 107;refine (HR.out _).mono ?_;rintro e w' ⟨rfl,rfl⟩) | (go_at_call 108;refine (HA.out _).mono ?_;rintro e wa ⟨rfl,hNa⟩))
  have hN:=hN.trans hNa
  have hr:=hNa.heap hr id
  clear c0 c1 c2 c3 f0 f1 f2 f3 hNa
  obtain ⟨⟨c0,c1,c2,c3⟩,f0,f1,f2,f3⟩:=row_facts hr
  go_upto_region 14 with (first | (go_at_call 107;refine (HU.out _).mono ?_;rintro e w' ⟨rfl,rfl⟩) | (go_at_call 108;refine (HA2.out _).mono ?_;rintro e wb ⟨rfl,hNb⟩))
  have hN:=hN.trans hNb
  have hr:=hNb.heap hr id
  clear c0 c1 c2 c3 f0 f1 f2 f3 hNb
  obtain ⟨⟨c0,c1,c2,c3⟩,f0,f1,f2,f3⟩:=row_facts hr
  go_region
  obtain ⟨hN2,hr2⟩:=set4 hN hBw hr (.int .u8 2) (.int .i64 (-(1000 * (v:Int) + (v2:Int)))) (.string ⟨#[]⟩) (.bool false)
  have hN2:=hN2.drew
  have hr2:((((wb.setCell ⟨B,0,none⟩ (.int .u8 2)).setCell ⟨B,1,none⟩ (.int .i64 (-(1000 * (v:Int) + (v2:Int))))).setCell ⟨B,2,none⟩ (.string ⟨#[]⟩)).setCell ⟨B,3,none⟩ (.bool false)).drew.heap[B]? = some (.cells #[(.int .u8 2),(.int .i64 (-(1000 * (v:Int) + (v2:Int)))),(.string ⟨#[]⟩),(.bool false)] 23 (0,0)):=hr2
  obtain ⟨W2,hW2⟩:∃ W2,((((wb.setCell ⟨B,0,none⟩ (.int .u8 2)).setCell ⟨B,1,none⟩ (.int .i64 (-(1000 * (v:Int) + (v2:Int))))).setCell ⟨B,2,none⟩ (.string ⟨#[]⟩)).setCell ⟨B,3,none⟩ (.bool false)).drew=W2:=⟨_,rfl⟩
  rw [hW2] at hN2 hr2 ⊢
  go_wp2_with fail
  exact read_end (by kernel_rfl) rfl rfl rfl hr2 ⟨rfl,hN2⟩
theorem number_read (s:ByteArray) (w:World) (hs:s.size ≤ 1000000) (h0:0 < s.size):Calls Tryz.prog 51 #[.string s] w (ReadP (Bare.number (bl s)) w):=by
 by_cases h:gb s 0=45
 ·exact number_neg s w hs h0 h
 ·exact number_pos s w hs h0 h


theorem readP_open (r:Option (Bare.It × Bare.Bs)):∃ (k n:Int) (t:ByteArray) (y:Bool) (x:ByteArray) (ec:Int),∀ w e w',ReadP r w e w' ↔ (e = .returned (.tuple #[.agg #[.int .u8 k,.int .i64 n,.string t,.bool y],.string x,.int .i64 ec])∧New w w'):=by
 cases r with
 | none=>exact ⟨0,0,⟨#[]⟩,false,⟨#[]⟩,120,fun w e w'=>Iff.rfl⟩
 | some p=>exact ⟨p.1.kind,p.1.int,tx p.1.text,p.1.yes,tx p.2,0,fun w e w'=>Iff.rfl⟩
theorem parseI_at (s:ByteArray) (h:0 < s.size):Bare.parseI (bl s)=(if Bare.digB (gb s 0) || decide (gb s 0=45) then Bare.number (bl s)
  else if Bare.letB (gb s 0) || decide (gb s 0=42) then some (⟨4,0,(bl s).takeWhile Bare.inTok,false⟩,(bl s).drop ((bl s).takeWhile Bare.inTok).length)
  else if gb s 0=34 then Bare.quoted [] ((bl s).drop 1)
  else if gb s 0=58 then Bare.packed ((bl s).drop 1)
  else if gb s 0=63 then ansR (bl s)
  else none):=by
 have hdr:bl s=gb s 0::(bl s).drop 1:=by
  have:=gb_get s 0 h
  obtain ⟨h1,h2⟩:=List.getElem?_eq_some_iff.1 this
  conv=>lhs;rw [← List.drop_zero (l:=bl s),List.drop_eq_getElem_cons h1,h2]
 have e45:(gb s 0 == 45)=decide (gb s 0=45):=by rw [Bool.eq_iff_iff,beq_iff_eq,decide_eq_true_eq]
 have e42:(gb s 0 == 42)=decide (gb s 0=42):=by rw [Bool.eq_iff_iff,beq_iff_eq,decide_eq_true_eq]
 obtain ⟨c,hc⟩:∃ c,gb s 0=c:=⟨_,rfl⟩
 obtain ⟨r,hr⟩:∃ r,(bl s).drop 1=r:=⟨_,rfl⟩
 rw [hc,hr] at hdr
 rw [hc] at e45 e42
 rw [hc,hr,hdr,Bare.parseI_cons]
 unfold Bare.headTok
 rw [e45,e42]
 congr 1
 congr 1
 congr 1
 congr 1
 congr 1
 unfold ansR
 cases r <;> rfl
theorem parse_read (s:ByteArray) (w:World) (hs:s.size ≤ 1000000) (hT:Tab w) :
  Calls Tryz.prog 9 #[.string s] w (ReadP (Bare.parseI (bl s)) w):=by
 obtain ⟨hN,hr⟩:=no_row w
 have hem:=empty_toList s
 by_cases h0:s.size=0
 ·have e:Bare.parseI (bl s)=none:=by
   have:bl s = []:=List.length_eq_zero_iff.1 (by rw [bl_len];exact h0)
   rw [this];rfl
  rw [e]
  rw [decide_eq_true h0] at hem
  unfold ReadP bv bcs noIt
  simp only
  clear h0 e
  go_enter Tryz.func9,Tryz.ntmps9
  go_upto_region 1 with fail
  obtain ⟨W,hW⟩:∃ W,w.alloc (.cells #[.int .u8 0,.int .i64 0,.string ⟨#[]⟩,.bool false] 23)=W:=⟨_,rfl⟩
  rw [hW] at hN hr ⊢
  obtain ⟨B,hB⟩:∃ B,w.heap.size=B:=⟨_,rfl⟩
  have hBw:w.heap.size ≤ B:=by omega
  rw [hB] at hr ⊢
  clear hW hB
  obtain ⟨⟨c0,c1,c2,c3⟩,f0,f1,f2,f3⟩:=row_facts hr
  go_wp2_with fail
  obtain ⟨hN2,hr2⟩:=set4 hN hBw hr (.int .u8 0) (.int .i64 0) (.string ⟨#[]⟩) (.bool false)
  obtain ⟨W2,hW2⟩:∃ W2,((((W.setCell ⟨B,0,none⟩ (.int .u8 0)).setCell ⟨B,1,none⟩ (.int .i64 0)).setCell ⟨B,2,none⟩ (.string ⟨#[]⟩)).setCell ⟨B,3,none⟩ (.bool false))=W2:=⟨_,rfl⟩
  rw [hW2] at hN2 hr2 ⊢
  exact read_end (by kernel_rfl) rfl rfl rfl hr2 ⟨rfl,hN2⟩
 rw [decide_eq_false h0] at hem
 rw [parseI_at s (by omega)]
 have hix0:∀ W,(Instr.index 9 (.string s) (.int .i64 0)).run Tryz.prog W = .ok (.int .u8 ((gb s 0).toNat:Nat)) W:=run_idx s 0 (by omega)
 have HD:=Lib.hid (fun W=>(digit_p (gb s 0) W).mono fun e w' h=>show e = _∧W=w' from ⟨h.1,h.2.symm⟩)
 have HL:=Lib.hid (fun W=>(letter_p (gb s 0) W).mono fun e w' h=>show e = _∧W=w' from ⟨h.1,h.2.symm⟩)
 have HNum:=Lib.hid (fun W=>number_read s W hs (by omega))
 have HTok:=Lib.hid (fun W=>token_read s W hs)
 have HQuo:=Lib.hid (fun W=>quoted_read s W hs (by omega))
 have HPac:=Lib.hid (fun W (hN:New w W)=>packed_read s W hs (by omega) (hT.new hN))
 have HAns:=Lib.hid (fun W=>answer_read s W hs)
 obtain ⟨n,hn⟩:∃ n,(gb s 0).toNat=n:=⟨_,rfl⟩
 have t45:=(byte_test (gb s 0) 45 (by decide) n hn).1
 rw [show UInt8.ofNat 45=45 from rfl] at t45
 have t45:((n:Int) == 45)=decide (gb s 0=45):=t45
 have t42:=(byte_test (gb s 0) 42 (by decide) n hn).1
 rw [show UInt8.ofNat 42=42 from rfl] at t42
 have t42:((n:Int) == 42)=decide (gb s 0=42):=t42
 have t34:=(byte_test (gb s 0) 34 (by decide) n hn).1
 rw [show UInt8.ofNat 34=34 from rfl] at t34
 have t34:((n:Int) == 34)=decide (gb s 0=34):=t34
 have t58:=(byte_test (gb s 0) 58 (by decide) n hn).1
 rw [show UInt8.ofNat 58=58 from rfl] at t58
 have t58:((n:Int) == 58)=decide (gb s 0=58):=t58
 have t63:=(byte_test (gb s 0) 63 (by decide) n hn).1
 rw [show UInt8.ofNat 63=63 from rfl] at t63
 have t63:((n:Int) == 63)=decide (gb s 0=63):=t63
 rw [hn] at hix0 HD HL
 clear hn h0
 obtain ⟨D,hD⟩:∃ x,Bare.digB (gb s 0)=x:=⟨_,rfl⟩
 obtain ⟨L,hL⟩:∃ x,Bare.letB (gb s 0)=x:=⟨_,rfl⟩
 rw [hD] at HD ⊢
 rw [hL] at HL ⊢
 clear hD hL
 obtain ⟨x45,hx45⟩:∃ x,decide (gb s 0=45)=x:=⟨_,rfl⟩
 rw [hx45] at t45 ⊢
 clear hx45
 obtain ⟨x42,hx42⟩:∃ x,decide (gb s 0=42)=x:=⟨_,rfl⟩
 rw [hx42] at t42 ⊢
 clear hx42
 cases D with
 | true =>
  rw [Bool.true_or,if_pos rfl]
  obtain ⟨k,nn,tt,y,x,ec,hv⟩:=readP_open (Bare.number (bl s))
  refine Calls.mono (R:=fun e w'=>e = .returned (.tuple #[.agg #[.int .u8 k,.int .i64 nn,.string tt,.bool y],.string x,.int .i64 ec])∧New w w') ?_ fun e w' h=>(hv w e w').2 h
  have HX:=Lib.hid (fun W (hN:New w W)=>(HNum.out W).mono fun e w' h=>(hv W e w').1 h)
  clear hv HNum HTok HQuo HPac HAns
  go_enter Tryz.func9,Tryz.ntmps9
  go_upto_region 1 with fail
  obtain ⟨W,hW⟩:∃ W,w.alloc (.cells #[.int .u8 0,.int .i64 0,.string ⟨#[]⟩,.bool false] 23)=W:=⟨_,rfl⟩
  rw [hW] at hN hr ⊢
  obtain ⟨B,hB⟩:∃ B,w.heap.size=B:=⟨_,rfl⟩
  have hBw:w.heap.size ≤ B:=by omega
  rw [hB] at hr ⊢
  clear hW hB
  obtain ⟨⟨c0,c1,c2,c3⟩,f0,f1,f2,f3⟩:=row_facts hr
  clear c0 c1 c2 c3 f0 f1 f2 f3
  go_upto_region 6 with (first | (go_at_call 50;refine (HD.out _).mono ?_;rintro e w' ⟨rfl,rfl⟩) | (go_at_call 52;refine (HL.out _).mono ?_;rintro e w' ⟨rfl,rfl⟩))
  go_wp2_with fail
  refine (HX.out _ hN).mono ?_
  rintro e w1 ⟨rfl,hN1⟩
  have hN:=hN.trans hN1
  have hr:=hN1.heap hr id
  obtain ⟨⟨c0,c1,c2,c3⟩,f0,f1,f2,f3⟩:=row_facts hr
  go_wp2_with fail
  obtain ⟨hN2,hr2⟩:=set4 hN hBw hr (.int .u8 k) (.int .i64 nn) (.string tt) (.bool y)
  obtain ⟨W2,hW2⟩:∃ W2,((((w1.setCell ⟨B,0,none⟩ (.int .u8 k)).setCell ⟨B,1,none⟩ (.int .i64 nn)).setCell ⟨B,2,none⟩ (.string tt)).setCell ⟨B,3,none⟩ (.bool y))=W2:=⟨_,rfl⟩
  rw [hW2] at hN2 hr2 ⊢
  exact read_end (by kernel_rfl) rfl rfl rfl hr2 ⟨rfl,hN2⟩
 | false =>
  rw [Bool.false_or]
  cases x45 with
  | true =>
   rw [if_pos rfl]
   obtain ⟨k,nn,tt,y,x,ec,hv⟩:=readP_open (Bare.number (bl s))
   refine Calls.mono (R:=fun e w'=>e = .returned (.tuple #[.agg #[.int .u8 k,.int .i64 nn,.string tt,.bool y],.string x,.int .i64 ec])∧New w w') ?_ fun e w' h=>(hv w e w').2 h
   have HX:=Lib.hid (fun W (hN:New w W)=>(HNum.out W).mono fun e w' h=>(hv W e w').1 h)
   clear hv HNum HTok HQuo HPac HAns
   go_enter Tryz.func9,Tryz.ntmps9
   go_upto_region 1 with fail
   obtain ⟨W,hW⟩:∃ W,w.alloc (.cells #[.int .u8 0,.int .i64 0,.string ⟨#[]⟩,.bool false] 23)=W:=⟨_,rfl⟩
   rw [hW] at hN hr ⊢
   obtain ⟨B,hB⟩:∃ B,w.heap.size=B:=⟨_,rfl⟩
   have hBw:w.heap.size ≤ B:=by omega
   rw [hB] at hr ⊢
   clear hW hB
   obtain ⟨⟨c0,c1,c2,c3⟩,f0,f1,f2,f3⟩:=row_facts hr
   clear c0 c1 c2 c3 f0 f1 f2 f3
   go_upto_region 6 with (first | (go_at_call 50;refine (HD.out _).mono ?_;rintro e w' ⟨rfl,rfl⟩) | (go_at_call 52;refine (HL.out _).mono ?_;rintro e w' ⟨rfl,rfl⟩))
   go_wp2_with fail
   refine (HX.out _ hN).mono ?_
   rintro e w1 ⟨rfl,hN1⟩
   have hN:=hN.trans hN1
   have hr:=hN1.heap hr id
   obtain ⟨⟨c0,c1,c2,c3⟩,f0,f1,f2,f3⟩:=row_facts hr
   go_wp2_with fail
   obtain ⟨hN2,hr2⟩:=set4 hN hBw hr (.int .u8 k) (.int .i64 nn) (.string tt) (.bool y)
   obtain ⟨W2,hW2⟩:∃ W2,((((w1.setCell ⟨B,0,none⟩ (.int .u8 k)).setCell ⟨B,1,none⟩ (.int .i64 nn)).setCell ⟨B,2,none⟩ (.string tt)).setCell ⟨B,3,none⟩ (.bool y))=W2:=⟨_,rfl⟩
   rw [hW2] at hN2 hr2 ⊢
   exact read_end (by kernel_rfl) rfl rfl rfl hr2 ⟨rfl,hN2⟩
  | false =>
   rw [if_neg (by decide)]
   cases L with
   | true =>
    rw [Bool.true_or,if_pos rfl]
    obtain ⟨k,nn,tt,y,x,ec,hv⟩:=readP_open (some (⟨4,0,(bl s).takeWhile Bare.inTok,false⟩,(bl s).drop ((bl s).takeWhile Bare.inTok).length))
    refine Calls.mono (R:=fun e w'=>e = .returned (.tuple #[.agg #[.int .u8 k,.int .i64 nn,.string tt,.bool y],.string x,.int .i64 ec])∧New w w') ?_ fun e w' h=>(hv w e w').2 h
    have HX:=Lib.hid (fun W (hN:New w W)=>(HTok.out W).mono fun e w' h=>(hv W e w').1 h)
    clear hv HNum HTok HQuo HPac HAns
    go_enter Tryz.func9,Tryz.ntmps9
    go_upto_region 1 with fail
    obtain ⟨W,hW⟩:∃ W,w.alloc (.cells #[.int .u8 0,.int .i64 0,.string ⟨#[]⟩,.bool false] 23)=W:=⟨_,rfl⟩
    rw [hW] at hN hr ⊢
    obtain ⟨B,hB⟩:∃ B,w.heap.size=B:=⟨_,rfl⟩
    have hBw:w.heap.size ≤ B:=by omega
    rw [hB] at hr ⊢
    clear hW hB
    obtain ⟨⟨c0,c1,c2,c3⟩,f0,f1,f2,f3⟩:=row_facts hr
    clear c0 c1 c2 c3 f0 f1 f2 f3
    go_upto_region 9 with (first | (go_at_call 50;refine (HD.out _).mono ?_;rintro e w' ⟨rfl,rfl⟩) | (go_at_call 52;refine (HL.out _).mono ?_;rintro e w' ⟨rfl,rfl⟩))
    go_wp2_with fail
    refine (HX.out _ hN).mono ?_
    rintro e w1 ⟨rfl,hN1⟩
    have hN:=hN.trans hN1
    have hr:=hN1.heap hr id
    obtain ⟨⟨c0,c1,c2,c3⟩,f0,f1,f2,f3⟩:=row_facts hr
    go_wp2_with fail
    obtain ⟨hN2,hr2⟩:=set4 hN hBw hr (.int .u8 k) (.int .i64 nn) (.string tt) (.bool y)
    obtain ⟨W2,hW2⟩:∃ W2,((((w1.setCell ⟨B,0,none⟩ (.int .u8 k)).setCell ⟨B,1,none⟩ (.int .i64 nn)).setCell ⟨B,2,none⟩ (.string tt)).setCell ⟨B,3,none⟩ (.bool y))=W2:=⟨_,rfl⟩
    rw [hW2] at hN2 hr2 ⊢
    exact read_end (by kernel_rfl) rfl rfl rfl hr2 ⟨rfl,hN2⟩
   | false =>
    rw [Bool.false_or]
    cases x42 with
    | true =>
     rw [if_pos rfl]
     obtain ⟨k,nn,tt,y,x,ec,hv⟩:=readP_open (some (⟨4,0,(bl s).takeWhile Bare.inTok,false⟩,(bl s).drop ((bl s).takeWhile Bare.inTok).length))
     refine Calls.mono (R:=fun e w'=>e = .returned (.tuple #[.agg #[.int .u8 k,.int .i64 nn,.string tt,.bool y],.string x,.int .i64 ec])∧New w w') ?_ fun e w' h=>(hv w e w').2 h
     have HX:=Lib.hid (fun W (hN:New w W)=>(HTok.out W).mono fun e w' h=>(hv W e w').1 h)
     clear hv HNum HTok HQuo HPac HAns
     go_enter Tryz.func9,Tryz.ntmps9
     go_upto_region 1 with fail
     obtain ⟨W,hW⟩:∃ W,w.alloc (.cells #[.int .u8 0,.int .i64 0,.string ⟨#[]⟩,.bool false] 23)=W:=⟨_,rfl⟩
     rw [hW] at hN hr ⊢
     obtain ⟨B,hB⟩:∃ B,w.heap.size=B:=⟨_,rfl⟩
     have hBw:w.heap.size ≤ B:=by omega
     rw [hB] at hr ⊢
     clear hW hB
     obtain ⟨⟨c0,c1,c2,c3⟩,f0,f1,f2,f3⟩:=row_facts hr
     clear c0 c1 c2 c3 f0 f1 f2 f3
     go_upto_region 9 with (first | (go_at_call 50;refine (HD.out _).mono ?_;rintro e w' ⟨rfl,rfl⟩) | (go_at_call 52;refine (HL.out _).mono ?_;rintro e w' ⟨rfl,rfl⟩))
     go_wp2_with fail
     refine (HX.out _ hN).mono ?_
     rintro e w1 ⟨rfl,hN1⟩
     have hN:=hN.trans hN1
     have hr:=hN1.heap hr id
     obtain ⟨⟨c0,c1,c2,c3⟩,f0,f1,f2,f3⟩:=row_facts hr
     go_wp2_with fail
     obtain ⟨hN2,hr2⟩:=set4 hN hBw hr (.int .u8 k) (.int .i64 nn) (.string tt) (.bool y)
     obtain ⟨W2,hW2⟩:∃ W2,((((w1.setCell ⟨B,0,none⟩ (.int .u8 k)).setCell ⟨B,1,none⟩ (.int .i64 nn)).setCell ⟨B,2,none⟩ (.string tt)).setCell ⟨B,3,none⟩ (.bool y))=W2:=⟨_,rfl⟩
     rw [hW2] at hN2 hr2 ⊢
     exact read_end (by kernel_rfl) rfl rfl rfl hr2 ⟨rfl,hN2⟩
    | false =>
     rw [if_neg (by decide)]
     by_cases h34:gb s 0=34
     ·rw [if_pos h34]
      rw [decide_eq_true h34] at t34
      clear h34 t58 t63
      obtain ⟨k,nn,tt,y,x,ec,hv⟩:=readP_open (Bare.quoted [] ((bl s).drop 1))
      refine Calls.mono (R:=fun e w'=>e = .returned (.tuple #[.agg #[.int .u8 k,.int .i64 nn,.string tt,.bool y],.string x,.int .i64 ec])∧New w w') ?_ fun e w' h=>(hv w e w').2 h
      have HX:=Lib.hid (fun W (hN:New w W)=>(HQuo.out W).mono fun e w' h=>(hv W e w').1 h)
      clear hv HNum HTok HQuo HPac HAns
      go_enter Tryz.func9,Tryz.ntmps9
      go_upto_region 1 with fail
      obtain ⟨W,hW⟩:∃ W,w.alloc (.cells #[.int .u8 0,.int .i64 0,.string ⟨#[]⟩,.bool false] 23)=W:=⟨_,rfl⟩
      rw [hW] at hN hr ⊢
      obtain ⟨B,hB⟩:∃ B,w.heap.size=B:=⟨_,rfl⟩
      have hBw:w.heap.size ≤ B:=by omega
      rw [hB] at hr ⊢
      clear hW hB
      obtain ⟨⟨c0,c1,c2,c3⟩,f0,f1,f2,f3⟩:=row_facts hr
      clear c0 c1 c2 c3 f0 f1 f2 f3
      go_upto_region 11 with (first | (go_at_call 50;refine (HD.out _).mono ?_;rintro e w' ⟨rfl,rfl⟩) | (go_at_call 52;refine (HL.out _).mono ?_;rintro e w' ⟨rfl,rfl⟩))
      go_wp2_with fail
      refine (HX.out _ hN).mono ?_
      rintro e w1 ⟨rfl,hN1⟩
      have hN:=hN.trans hN1
      have hr:=hN1.heap hr id
      obtain ⟨⟨c0,c1,c2,c3⟩,f0,f1,f2,f3⟩:=row_facts hr
      go_wp2_with fail
      obtain ⟨hN2,hr2⟩:=set4 hN hBw hr (.int .u8 k) (.int .i64 nn) (.string tt) (.bool y)
      obtain ⟨W2,hW2⟩:∃ W2,((((w1.setCell ⟨B,0,none⟩ (.int .u8 k)).setCell ⟨B,1,none⟩ (.int .i64 nn)).setCell ⟨B,2,none⟩ (.string tt)).setCell ⟨B,3,none⟩ (.bool y))=W2:=⟨_,rfl⟩
      rw [hW2] at hN2 hr2 ⊢
      exact read_end (by kernel_rfl) rfl rfl rfl hr2 ⟨rfl,hN2⟩
     rw [if_neg h34]
     rw [decide_eq_false h34] at t34
     by_cases h58:gb s 0=58
     ·rw [if_pos h58]
      rw [decide_eq_true h58] at t58
      clear h58 t63 h34
      obtain ⟨k,nn,tt,y,x,ec,hv⟩:=readP_open (Bare.packed ((bl s).drop 1))
      refine Calls.mono (R:=fun e w'=>e = .returned (.tuple #[.agg #[.int .u8 k,.int .i64 nn,.string tt,.bool y],.string x,.int .i64 ec])∧New w w') ?_ fun e w' h=>(hv w e w').2 h
      have HX:=Lib.hid (fun W (hN:New w W)=>(HPac.out W hN).mono fun e w' h=>(hv W e w').1 h)
      clear hv HNum HTok HQuo HPac HAns
      go_enter Tryz.func9,Tryz.ntmps9
      go_upto_region 1 with fail
      obtain ⟨W,hW⟩:∃ W,w.alloc (.cells #[.int .u8 0,.int .i64 0,.string ⟨#[]⟩,.bool false] 23)=W:=⟨_,rfl⟩
      rw [hW] at hN hr ⊢
      obtain ⟨B,hB⟩:∃ B,w.heap.size=B:=⟨_,rfl⟩
      have hBw:w.heap.size ≤ B:=by omega
      rw [hB] at hr ⊢
      clear hW hB
      obtain ⟨⟨c0,c1,c2,c3⟩,f0,f1,f2,f3⟩:=row_facts hr
      clear c0 c1 c2 c3 f0 f1 f2 f3
      go_upto_region 13 with (first | (go_at_call 50;refine (HD.out _).mono ?_;rintro e w' ⟨rfl,rfl⟩) | (go_at_call 52;refine (HL.out _).mono ?_;rintro e w' ⟨rfl,rfl⟩))
      go_wp2_with fail
      refine (HX.out _ hN).mono ?_
      rintro e w1 ⟨rfl,hN1⟩
      have hN:=hN.trans hN1
      have hr:=hN1.heap hr id
      obtain ⟨⟨c0,c1,c2,c3⟩,f0,f1,f2,f3⟩:=row_facts hr
      go_wp2_with fail
      obtain ⟨hN2,hr2⟩:=set4 hN hBw hr (.int .u8 k) (.int .i64 nn) (.string tt) (.bool y)
      obtain ⟨W2,hW2⟩:∃ W2,((((w1.setCell ⟨B,0,none⟩ (.int .u8 k)).setCell ⟨B,1,none⟩ (.int .i64 nn)).setCell ⟨B,2,none⟩ (.string tt)).setCell ⟨B,3,none⟩ (.bool y))=W2:=⟨_,rfl⟩
      rw [hW2] at hN2 hr2 ⊢
      exact read_end (by kernel_rfl) rfl rfl rfl hr2 ⟨rfl,hN2⟩
     rw [if_neg h58]
     rw [decide_eq_false h58] at t58
     by_cases h63:gb s 0=63
     ·rw [if_pos h63]
      rw [decide_eq_true h63] at t63
      clear h63 h34 h58
      obtain ⟨k,nn,tt,y,x,ec,hv⟩:=readP_open (ansR (bl s))
      refine Calls.mono (R:=fun e w'=>e = .returned (.tuple #[.agg #[.int .u8 k,.int .i64 nn,.string tt,.bool y],.string x,.int .i64 ec])∧New w w') ?_ fun e w' h=>(hv w e w').2 h
      have HX:=Lib.hid (fun W (hN:New w W)=>(HAns.out W).mono fun e w' h=>(hv W e w').1 h)
      clear hv HNum HTok HQuo HPac HAns
      go_enter Tryz.func9,Tryz.ntmps9
      go_upto_region 1 with fail
      obtain ⟨W,hW⟩:∃ W,w.alloc (.cells #[.int .u8 0,.int .i64 0,.string ⟨#[]⟩,.bool false] 23)=W:=⟨_,rfl⟩
      rw [hW] at hN hr ⊢
      obtain ⟨B,hB⟩:∃ B,w.heap.size=B:=⟨_,rfl⟩
      have hBw:w.heap.size ≤ B:=by omega
      rw [hB] at hr ⊢
      clear hW hB
      obtain ⟨⟨c0,c1,c2,c3⟩,f0,f1,f2,f3⟩:=row_facts hr
      clear c0 c1 c2 c3 f0 f1 f2 f3
      go_upto_region 15 with (first | (go_at_call 50;refine (HD.out _).mono ?_;rintro e w' ⟨rfl,rfl⟩) | (go_at_call 52;refine (HL.out _).mono ?_;rintro e w' ⟨rfl,rfl⟩))
      go_wp2_with fail
      refine (HX.out _ hN).mono ?_
      rintro e w1 ⟨rfl,hN1⟩
      have hN:=hN.trans hN1
      have hr:=hN1.heap hr id
      obtain ⟨⟨c0,c1,c2,c3⟩,f0,f1,f2,f3⟩:=row_facts hr
      go_wp2_with fail
      obtain ⟨hN2,hr2⟩:=set4 hN hBw hr (.int .u8 k) (.int .i64 nn) (.string tt) (.bool y)
      obtain ⟨W2,hW2⟩:∃ W2,((((w1.setCell ⟨B,0,none⟩ (.int .u8 k)).setCell ⟨B,1,none⟩ (.int .i64 nn)).setCell ⟨B,2,none⟩ (.string tt)).setCell ⟨B,3,none⟩ (.bool y))=W2:=⟨_,rfl⟩
      rw [hW2] at hN2 hr2 ⊢
      exact read_end (by kernel_rfl) rfl rfl rfl hr2 ⟨rfl,hN2⟩
     rw [if_neg h63]
     rw [decide_eq_false h63] at t63
     unfold ReadP bv bcs noIt
     simp only
     clear h63 h34 h58 HNum HTok HQuo HPac HAns
     go_enter Tryz.func9,Tryz.ntmps9
     go_upto_region 1 with fail
     obtain ⟨W,hW⟩:∃ W,w.alloc (.cells #[.int .u8 0,.int .i64 0,.string ⟨#[]⟩,.bool false] 23)=W:=⟨_,rfl⟩
     rw [hW] at hN hr ⊢
     obtain ⟨B,hB⟩:∃ B,w.heap.size=B:=⟨_,rfl⟩
     have hBw:w.heap.size ≤ B:=by omega
     rw [hB] at hr ⊢
     clear hW hB
     obtain ⟨⟨c0,c1,c2,c3⟩,f0,f1,f2,f3⟩:=row_facts hr
     go_wp2_with (first | (go_at_call 50;refine (HD.out _).mono ?_;rintro e w' ⟨rfl,rfl⟩) | (go_at_call 52;refine (HL.out _).mono ?_;rintro e w' ⟨rfl,rfl⟩))
     obtain ⟨hN2,hr2⟩:=set4 hN hBw hr (.int .u8 0) (.int .i64 0) (.string ⟨#[]⟩) (.bool false)
     obtain ⟨W2,hW2⟩:∃ W2,((((W.setCell ⟨B,0,none⟩ (.int .u8 0)).setCell ⟨B,1,none⟩ (.int .i64 0)).setCell ⟨B,2,none⟩ (.string ⟨#[]⟩)).setCell ⟨B,3,none⟩ (.bool false))=W2:=⟨_,rfl⟩
     rw [hW2] at hN2 hr2 ⊢
     exact read_end (by kernel_rfl) rfl rfl rfl hr2 ⟨rfl,hN2⟩


theorem eq_item (d:Nat) (p q:Bare.It) (w:World):(Op.equalIn (d + 2) 23 (bv p) (bv q)).run Tryz.prog w = .ok (decide (p=q)) w:=by
 unfold bv bcs
 rw [show d + 2=(d + 1) + 1 from rfl,run_equalIn_agg w (d + 1) 23 _ _ (by unfold Program.fieldsOf;rw [Tryz.underlying23]) (by kernel_rfl)]
 unfold Program.fieldsOf
 rw [Tryz.underlying23]
 have h0:=fun (k n:Int) (s:ByteArray) (y:Bool) w=>partAt 5 _ Tryz.underlying5 rfl #[.int .u8 k,.int .i64 n,.string s,.bool y] 0 (.int .u8 k) w rfl
 have h1:=fun (k n:Int) (s:ByteArray) (y:Bool) w=>partAt 3 _ Tryz.underlying3 rfl #[.int .u8 k,.int .i64 n,.string s,.bool y] 1 (.int .i64 n) w rfl
 have h2:=fun (k n:Int) (s:ByteArray) (y:Bool) w=>partAt 9 _ Tryz.underlying9 rfl #[.int .u8 k,.int .i64 n,.string s,.bool y] 2 (.string s) w rfl
 have h3:=fun (k n:Int) (s:ByteArray) (y:Bool) w=>partAt 4 _ Tryz.underlying4 rfl #[.int .u8 k,.int .i64 n,.string s,.bool y] 3 (.bool y) w rfl
 have e5:=fun w (a b:Int)=>run_equalIn_int w d 5 .u8 .u8 a b Tryz.underlying5
 have e3:=fun w (a b:Int)=>run_equalIn_int w d 3 .i64 .i64 a b Tryz.underlying3
 have e9:=fun w (a b:ByteArray)=>run_equalIn_string w d 9 a b Tryz.underlying9
 have e4:=fun w (a b:Bool)=>run_equalIn_bool w d 4 a b Tryz.underlying4
 have n1 : ("Kind" ≠ "_") = True := by simp
 have n2 : ("Int" ≠ "_") = True := by simp
 have n3 : ("Text" ≠ "_") = True := by simp
 have n4 : ("Yes" ≠ "_") = True := by simp
 obtain ⟨k,n,t,y⟩:=p
 obtain ⟨k',n',t',y'⟩:=q
 have et:=eq_tx (tx t) (tx t')
 rw [bl_tx,bl_tx] at et
 simp only [Op.eqFields,n1,n2,n3,n4,if_true,Sem.run_bind,h0,e5,Result.andThen_ok]
 by_cases hk:k=k' <;> by_cases hn:n=n' <;> by_cases ht:t=t' <;> by_cases hy:y=y' <;> simp [hk,hn,ht,hy,Sem.run_bind,h1,h2,h3,e3,e9,e4,et]
theorem binop_item (p q:Bare.It) (w:World):(binOp .eql 23 (bv p) (bv q)).run Tryz.prog w = .ok (.bool (decide (p=q))) w:=by
 have h:=eq_item 9998 p q w
 simp only [binOp]
 unfold bv at h ⊢
 simp [Op.equal,Op.maxDepth,h]


theorem yes_any (w:World):Calls Tryz.prog 138 #[] w fun e w'=>e = .returned (bv Bare.yesI)∧New w w':=by
 unfold bv bcs Bare.yesI
 simp only
 go_enter Tryz.func138,Tryz.ntmps138
 go_wp2_with fail
 have hr:=World.alloc_heap_new w (.cells #[.int .u8 6,.int .i64 0,.string ⟨#[]⟩,.bool true] 23)
 refine bodyPost_ret (v:=.agg #[.int .u8 6,.int .i64 0,.string ⟨#[]⟩,.bool true]) (results_cell_row rfl _ _ w.heap.size 23 _ (0,0) _ rfl hr Tryz.underlying23 rfl info_bare) rfl ?_
 exact ⟨rfl,(Mods.refl _ _).alloc _⟩
theorem esc_len:∀ t:Bare.Bs,(Bare.esc t).length ≤ 2 * t.length
 | []=>by simp [Bare.esc]
 | c::r=>by
  have ih:=esc_len r
  unfold Bare.esc
  split <;> simp <;> omega
theorem text_len (b:Bare.It):(Bare.textI b).length ≤ 4 * b.text.length + 100:=by
 cases hr:Bare.rightI b with
 | false =>
  have:Bare.textI b = []:=by unfold Bare.textI Bare.printI;rw [if_pos hr];rfl
  rw [this];simp
 | true =>
  by_cases hk:b.kind=1 ∨ b.kind=2
  ·have h:=(Bare.text_back hr (x:=[]) (fun c hc=>by cases hc)).1
   obtain ⟨-,u,hu,-,h17⟩:=Bare.may h
   rw [List.append_nil,List.append_nil] at hu
   have:=h17 hk
   rw [hu];omega
  ·unfold Bare.textI Bare.printI
   rw [if_neg (by rw [hr];decide),if_neg (fun e=>hk (.inl e)),if_neg (fun e=>hk (.inr e))]
   split
   ·have:=esc_len b.text
    simp;omega
   ·split
    ·have:=Bare.sixes_len b.text
     simp;omega
    ·split
     ·simp
     ·simp;omega
theorem valued_len (b:Bare.It):(Bare.valued b).length ≤ 4 * b.text.length + 101:=by
 unfold Bare.valued
 have:=text_len b
 split
 ·simp
 ·simp;omega
theorem printV_text (b:Bare.It):∃ z,printV (Bare.printI b) = .tuple #[.string (tx (Bare.textI b)),.int .i64 z]:=by
 unfold printV Bare.textI
 cases Bare.printI b with
 | none=>exact ⟨2,rfl⟩
 | some l=>exact ⟨0,rfl⟩
theorem valued_any (b:Bare.It) (hs:0 ≤ b.kind∧b.text.length ≤ 10000) (w:World) (hT:Tab w) :
  Calls Tryz.prog 80 #[bv b] w fun e w'=>e = .returned (.string (tx (Bare.valued b)))∧New w w':=by
 obtain ⟨hN,hr⟩:=box_row w b
 have HP:=Lib.hid (fun W (hW:New w W)=>print_any b hs.1 hs.2 W (hT.new hW))
 have HY:=Lib.hid yes_any
 have HE:=Lib.hid (fun W=>binop_item b Bare.yesI W)
 obtain ⟨r,hr0⟩:∃ r,Bare.valued b=r:=⟨_,rfl⟩
 have HR:=Lib.hid hr0
 rw [hr0]
 obtain ⟨zc,ho⟩:=printV_text b
 rw [ho] at HP
 have htl:=text_len b
 have hval:Hid (Bare.valued b=if b=Bare.yesI then [] else 61::Bare.textI b):=Lib.hid rfl
 obtain ⟨tt,htt⟩:∃ x,tx (Bare.textI b)=x:=⟨_,rfl⟩
 have Htt:=Lib.hid htt
 have hts:tt.size ≤ 4 * b.text.length + 100:=by rw [← htt,tx_size];exact htl
 rw [htt] at HP
 obtain ⟨e,he⟩:∃ e,decide (b=Bare.yesI)=e:=⟨_,rfl⟩
 have Hee:=Lib.hid he
 rw [he] at HE
 unfold bv bcs at HP
 unfold bv bcs Bare.yesI at HY HE
 unfold bv
 unfold bcs at *
 obtain ⟨k,n,l,y⟩:=b
 simp only at HP HY HE hN hr hs hts ⊢
 obtain ⟨s,hse⟩:∃ s,tx l=s:=⟨_,rfl⟩
 rw [hse] at HP HE hN hr ⊢
 have Hr:=Lib.hid hr
 clear hr0 ho he hse hT htl htt
 go_enter Tryz.func80,Tryz.ntmps80
 go_upto_region 1 with fail
 obtain ⟨W,hW⟩:∃ W,w.alloc (.cells #[.int .u8 k,.int .i64 n,.string s,.bool y] 23)=W:=⟨_,rfl⟩
 rw [hW] at hN hr Hr ⊢
 obtain ⟨B,hB⟩:∃ B,w.heap.size=B:=⟨_,rfl⟩
 rw [hB] at hr Hr ⊢
 obtain ⟨⟨c0,c1,c2,c3⟩,-⟩:=row_facts hr
 have hEl:∀ W',(binOp .eql 23 (.agg #[.int .u8 k,.int .i64 n,.string s,.bool y]) (.agg #[.int .u8 6,.int .i64 0,.string ⟨#[]⟩,.bool true])).run Tryz.prog W' = .ok (.bool e) W':=HE.out
 clear hW hr hB
 go_region_with (refine (HY.out _).mono ?_;rintro e1 w1 ⟨rfl,hN1⟩;obtain ⟨⟨q0,q1,q2,q3⟩,-⟩:=row_facts (hN1.heap (show W.drew.heap[B]? = _ from Hr.out) id))
 all_goals
  have hNN:=hN.trans ((Mods.refl (fun _=>False) W).drew.trans hN1)
  cases e with
  | true =>
   go_wp2_with fail
   go_ret
   refine ⟨?_,hNN⟩
   rw [← HR.out,hval.out,if_pos (of_decide_eq_true Hee.out)]
   rfl
  | false =>
   go_wp2_with fail
   refine (HP.out _ hNN).mono ?_
   rintro e2 w2 ⟨rfl,hN2⟩
   go_wp2_with fail
   go_ret
   refine ⟨?_,hNN.trans hN2⟩
   rw [← HR.out,hval.out,if_neg (of_decide_eq_false Hee.out)]
   show Ending.returned (.string (⟨#[61]⟩ ++ tt)) = _
   rw [← Htt.out,cat_bl]
   rfl


def Rdr (W:World) (R:Nat) (s:Bare.Bs) (bad:Bool):Prop:=W.heap[R]? = some (.cells #[.string (tx s),.bool bad] 90 (0,0))
abbrev ModR (R:Nat) (w w':World):Prop:=Mods (fun b=>b=R) w w'
theorem Rdr.facts {W:World} {R:Nat} {s:Bare.Bs} {bad:Bool} (h:Rdr W R s bad):(W.cell? ⟨R,0,none⟩=some (.string (tx s))∧W.cell? ⟨R,1,none⟩=some (.bool bad))∧W.frozen? ⟨R,0,none⟩=false∧W.frozen? ⟨R,1,none⟩=false :=
 ⟨⟨cell_of_row _ _ 0 _ _ _ h,cell_of_row _ _ 1 _ _ _ h⟩,frozen_row (i:=0) h,frozen_row (i:=1) h⟩
theorem Rdr.new {W W':World} {R:Nat} {s:Bare.Bs} {bad:Bool} (h:Rdr W R s bad) (hN:New W W'):Rdr W' R s bad:=hN.heap h id
theorem Rdr.lt {W:World} {R:Nat} {s:Bare.Bs} {bad:Bool} (h:Rdr W R s bad):R < W.heap.size:=(Array.getElem?_eq_some_iff.1 h).1
theorem Rdr.set0 {W:World} {R:Nat} {s:Bare.Bs} {bad:Bool} (h:Rdr W R s bad) (s':Bare.Bs):Rdr (W.setCell ⟨R,0,none⟩ (.string (tx s'))) R s' bad:=setCell_heap h _
theorem Rdr.set1 {W:World} {R:Nat} {s:Bare.Bs} {bad:Bool} (h:Rdr W R s bad) (b:Bool):Rdr (W.setCell ⟨R,1,none⟩ (.bool b)) R s b:=setCell_heap h _
theorem ModR.refl (R:Nat) (w:World):ModR R w w:=Mods.refl _ w
theorem ModR.set (W:World) (R o:Nat) (u:Value):ModR R W (W.setCell ⟨R,o,none⟩ u):=setMods W R o u
theorem see_any (R:Nat) (s c:Bare.Bs) (bad:Bool) (w:World) (h:Rdr w R s bad) :
  Calls Tryz.prog 133 #[.pointer (some ⟨R,0,none⟩),.string (tx c)] w fun e w'=>e = .returned (.bool (Lib.hasPrefix s c))∧Rdr w' R (Lib.trimPrefix s c) bad∧ModR R w w':=by
 obtain ⟨⟨c0,c1⟩,f0,f1⟩:=h.facts
 have HC:=Lib.hid (Tryz.strings_CutPrefix (tx s) (tx c) w)
 obtain ⟨S,hS⟩:∃ x,tx s=x:=⟨_,rfl⟩
 obtain ⟨C,hC⟩:∃ x,tx c=x:=⟨_,rfl⟩
 obtain ⟨b,hb⟩:∃ x,Lib.hasPrefix s c=x:=⟨_,rfl⟩
 have e1:Lib.hasPrefix (tx s).data.toList (tx c).data.toList=b:=hb
 rw [e1] at HC
 have H:=Lib.hid (h.set0 (Lib.trimPrefix s c))
 have e2:(⟨(Lib.trimPrefix (tx s).data.toList (tx c).data.toList).toArray⟩:ByteArray)=tx (Lib.trimPrefix s c):=rfl
 rw [e2] at HC
 obtain ⟨T,hT⟩:∃ x,tx (Lib.trimPrefix s c)=x:=⟨_,rfl⟩
 rw [hT] at HC H
 rw [hS] at c0 HC
 rw [hC] at HC ⊢
 rw [hb]
 clear e1 e2 hb hS hC hT h
 go_enter Tryz.func133,Tryz.ntmps133
 go_wp2_with fail
 refine HC.out.mono ?_
 rintro e w' ⟨rfl,rfl⟩
 go_wp2_with fail
 go_ret
 exact ⟨rfl,H.out,ModR.set _ _ _ _⟩
theorem infoA:(Tryz.prog.info? 138).map (fun i=>(i.zero,i.size))=some (some (.agg (Array.replicate 256 (.bool false))),256):=by kernel_rfl
theorem trimLeft_any (s c:Bare.Bs) (hc:c.length ≤ 100) (ha:∀ b ∈ c,b.toNat < 128) (w:World) :
  Calls Tryz.prog 170 #[.string (tx s),.string (tx c)] w fun e w'=>e = .returned (.string (tx (Bare.skipB c s)))∧New w w' :=
 (Any.strings_TrimLeft_laid Tryz.lays161 infoA (tx s) (tx c) w (by rw [tx_size];omega) (fun j b hb=>ha b (List.mem_of_getElem? hb))).mono fun e w' ⟨he,hB⟩=>⟨he,Mods.below hB (Nat.le_refl _)⟩
theorem skip_any (R:Nat) (s c:Bare.Bs) (bad:Bool) (w:World) (hc:c.length ≤ 100) (ha:∀ b ∈ c,b.toNat < 128) (h:Rdr w R s bad) :
  Calls Tryz.prog 132 #[.pointer (some ⟨R,0,none⟩),.string (tx c)] w fun e w'=>(∃ v,e = .returned v)∧Rdr w' R (Bare.skipB c s) bad∧ModR R w w':=by
 obtain ⟨⟨c0,c1⟩,f0,f1⟩:=h.facts
 have HC:=Lib.hid (trimLeft_any s c hc ha w)
 have Hr:=Lib.hid h
 obtain ⟨S,hS⟩:∃ x,tx s=x:=⟨_,rfl⟩
 obtain ⟨C,hC⟩:∃ x,tx c=x:=⟨_,rfl⟩
 rw [hS] at c0 HC
 rw [hC] at HC ⊢
 clear h
 go_enter Tryz.func132,Tryz.ntmps132
 go_wp2_with fail
 refine HC.out.mono ?_
 rintro e w' ⟨rfl,hN⟩
 have H:=Lib.hid ((Hr.out.new hN).set0 (Bare.skipB c s))
 obtain ⟨⟨d0,d1⟩,g0,g1⟩:=(Hr.out.new hN).facts
 obtain ⟨T,hT⟩:∃ x,tx (Bare.skipB c s)=x:=⟨_,rfl⟩
 rw [hT] at H ⊢
 rw [hS] at d0
 go_wp2_with fail
 go_end0
 exact ⟨⟨_,rfl⟩,H.out,(Mods.ofNew hN).trans (ModR.set _ _ _ _)⟩
theorem keyOf_upto:∀ (s:Bare.Bs) (n:Nat),n ≤ s.length→(∀ j,j < n→∀ c,s[j]? = some c→keyAt j c=true)→(∀ c,s[n]? = some c→keyAt n c=false)→Bare.keyOf s=s.take n
 | [],n,hn,_,_=>by
  obtain rfl:n=0:=by simpa using hn
  rfl
 | a::r,0,_,_,h2=>by
  have:=h2 a rfl
  have e:Bare.smlB a=false:=this
  simp [Bare.keyOf,e]
 | a::r,n + 1,hn,h1,h2=>by
  have e:Bare.smlB a=true:=h1 0 (by omega) a rfl
  have hw:=Bare.while_at Bare.inKey r n (by simpa using hn) (fun j hj c hc=>by
   have:=h1 (j + 1) (by omega) c (by simpa using hc)
   simpa [keyAt] using this) (fun c hc=>by
   have:=h2 c (by simpa using hc)
   simpa [keyAt] using this)
  simp only [Bare.keyOf,e,if_true,List.take_succ_cons]
  have:=Bare.takeWhile_take Bare.inKey r
  rw [hw] at this
  rw [this]
end Go.Proofs.YtnknmmbnhoanfaaGreatDoor
