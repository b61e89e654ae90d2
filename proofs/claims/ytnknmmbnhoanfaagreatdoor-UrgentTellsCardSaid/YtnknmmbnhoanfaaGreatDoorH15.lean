/- Texts joined. -/
import Derived.Test.YtnknmmbnhoanfaaGreatDoorH13
import Derived.Test.YtnknmmbnhoanfaaGreatDoorH03
import Derived.Test.YtnknmmbnhoanfaaGreatDoorH14
import Derived.Test.YtnknmmbnhoanfaaGreatDoorH07
set_option linter.unusedSimpArgs false
set_option linter.unusedVariables false
set_option maxHeartbeats 16000000
set_option maxRecDepth 100000
namespace Go.Proofs.YtnknmmbnhoanfaaGreatDoor
open Go.RowKit Go.Shelf Go.Cs
attribute [local go_sem] Oper.semAt_some


theorem number_neg_r (s0:ByteArray) (w:World) (hs0:s0.size ≤ 1000000) (h0:0 < s0.size) (hng:gb s0 0=45) :
  Calls Tryz.prog 59 #[.string s0] w (ReadP (Bare.number (bl s0)) w):=by
 have hc45:decide (gb s0 0=45)=true:=decide_eq_true hng
 rw [u8_eq] at hc45
 have hix0:∀ W,(Instr.index 9 (.string s0) (.int .i64 0)).run Tryz.prog W = .ok (.int .u8 ((gb s0 0).toNat:Nat)) W:=run_idx s0 0 (by omega)
 have e0:Bare.number (bl s0)=numR (-1) ((bl s0).drop 1):=by
  have hh:(bl s0).head? = some (gb s0 0):=by have:=head_drop s0 0 h0;rwa [List.drop_zero] at this
  rw [number_numR,hh]
  simp [hng]
 rw [e0]
 clear e0
 have hs1:∀ W,(Instr.slice 9 (.string s0) (some (.int .i64 1)) none none).run Tryz.prog W = .ok (.string (tx ((bl s0).drop 1))) W:=run_sl_l s0 1 (by omega)
 obtain ⟨s,hT⟩:∃ T,tx ((bl s0).drop 1)=T:=⟨_,rfl⟩
 have hTl:(bl s0).drop 1=bl s:=by rw [← hT]
 have hs:s.size ≤ 1000000:=by rw [← hT,tx_size,List.length_drop,bl_len];omega
 rw [hT] at hs1
 rw [hTl]
 clear hT hTl
 obtain ⟨c,hc⟩:∃ c,(gb s0 0).toNat=c:=⟨_,rfl⟩
 rw [hc] at hc45 hix0
 have hceq:((c:Int) == 45)=true:=hc45
 clear hc hc45 hng
 have HNo:=Lib.hid (fun W=>none_r W)
 unfold ReadP bv bcs noIt at HNo
 simp only at HNo
 have HR:=Lib.hid (fun W=>(run_r s W (by omega)).mono fun e w' h=>show e = _∧W=w' from ⟨h.1,h.2.symm⟩)
 have hle:=Bare.takeWhile_len Bare.digB (bl s)
 have htk:=Bare.takeWhile_take Bare.digB (bl s)
 have hdg:=digs_take (bl s)
 unfold numR
 simp only
 obtain ⟨d,hd⟩:∃ d,(bl s).takeWhile Bare.digB=d:=⟨_,rfl⟩
 rw [hd] at HR hle htk hdg ⊢
 obtain ⟨n,hn⟩:∃ n,d.length=n:=⟨_,rfl⟩
 rw [hn] at HR hle htk ⊢
 rw [bl_len] at hle
 clear hd
 obtain ⟨hN,hr⟩:=no_row w
 by_cases h1:n < 1
 ·have d1:decide ((n:Int)=0)=true:=decide_eq_true (by omega)
  have d1':((n:Int) == 0)=true:=d1
  rw [if_pos (.inl h1)]
  unfold ReadP bv bcs noIt
  simp only
  clear htk h1 hn hle
  go_enter Tryz.func59,Tryz.ntmps59
  go_upto_region 1 with fail
  obtain ⟨W,hW⟩:∃ W,w.alloc (.cells #[.int .u8 0,.int .i64 0,.string ⟨#[]⟩,.bool false] 23)=W:=⟨_,rfl⟩
  rw [hW] at hN hr ⊢
  obtain ⟨B,hB⟩:∃ B,w.heap.size=B:=⟨_,rfl⟩
  have hBw:w.heap.size ≤ B:=by omega
  rw [hB] at hr ⊢
  clear hW hB
  obtain ⟨⟨c0,c1,c2,c3⟩,f0,f1,f2,f3⟩:=row_facts hr
  go_wp2_with (go_at_call 112;refine (HR.out _).mono ?_;rintro e w' ⟨rfl,rfl⟩)
  refine (HNo.out _).mono ?_
  rintro e wn ⟨rfl,hNn⟩
  have hN:=hN.trans hNn
  have hr:=hNn.heap hr id
  clear c0 c1 c2 c3 f0 f1 f2 f3 hNn
  obtain ⟨⟨c0,c1,c2,c3⟩,f0,f1,f2,f3⟩:=row_facts hr
  go_wp2_with fail
  obtain ⟨hN2,hr2⟩:=set4 hN hBw hr (.int .u8 0) (.int .i64 0) (.string ⟨#[]⟩) (.bool false)
  obtain ⟨W2,hW2⟩:∃ W2,((((wn.setCell ⟨B,0,none⟩ (.int .u8 0)).setCell ⟨B,1,none⟩ (.int .i64 0)).setCell ⟨B,2,none⟩ (.string ⟨#[]⟩)).setCell ⟨B,3,none⟩ (.bool false))=W2:=⟨_,rfl⟩
  rw [hW2] at hN2 hr2 ⊢
  exact read_end (by kernel_rfl) rfl rfl rfl hr2 ⟨rfl,hN2⟩
 have d1:decide ((n:Int)=0)=false:=decide_eq_false (by omega)
 have d1':((n:Int) == 0)=false:=d1
 by_cases h15:15 < n
 ·have d2:decide (15 < (n:Int))=true:=decide_eq_true (by omega)
  rw [if_pos (.inr h15)]
  unfold ReadP bv bcs noIt
  simp only
  clear htk h1 hn hle
  go_enter Tryz.func59,Tryz.ntmps59
  go_upto_region 1 with fail
  obtain ⟨W,hW⟩:∃ W,w.alloc (.cells #[.int .u8 0,.int .i64 0,.string ⟨#[]⟩,.bool false] 23)=W:=⟨_,rfl⟩
  rw [hW] at hN hr ⊢
  obtain ⟨B,hB⟩:∃ B,w.heap.size=B:=⟨_,rfl⟩
  have hBw:w.heap.size ≤ B:=by omega
  rw [hB] at hr ⊢
  clear hW hB
  obtain ⟨⟨c0,c1,c2,c3⟩,f0,f1,f2,f3⟩:=row_facts hr
  go_wp2_with (go_at_call 112;refine (HR.out _).mono ?_;rintro e w' ⟨rfl,rfl⟩)
  refine (HNo.out _).mono ?_
  rintro e wn ⟨rfl,hNn⟩
  have hN:=hN.trans hNn
  have hr:=hNn.heap hr id
  clear c0 c1 c2 c3 f0 f1 f2 f3 hNn
  obtain ⟨⟨c0,c1,c2,c3⟩,f0,f1,f2,f3⟩:=row_facts hr
  go_wp2_with fail
  obtain ⟨hN2,hr2⟩:=set4 hN hBw hr (.int .u8 0) (.int .i64 0) (.string ⟨#[]⟩) (.bool false)
  obtain ⟨W2,hW2⟩:∃ W2,((((wn.setCell ⟨B,0,none⟩ (.int .u8 0)).setCell ⟨B,1,none⟩ (.int .i64 0)).setCell ⟨B,2,none⟩ (.string ⟨#[]⟩)).setCell ⟨B,3,none⟩ (.bool false))=W2:=⟨_,rfl⟩
  rw [hW2] at hN2 hr2 ⊢
  exact read_end (by kernel_rfl) rfl rfl rfl hr2 ⟨rfl,hN2⟩
 have d2:decide (15 < (n:Int))=false:=decide_eq_false (by omega)
 rw [if_neg (by omega)]
 have HA:=Lib.hid (fun W=>(value_r (tx d) W (by rw [tx_size];omega) (by rw [bl_tx];exact hdg)).mono fun e w' h=>show e = _∧W=w' from ⟨h.1,h.2.symm⟩)
 rw [bl_tx] at HA
 have hsh:=run_sl_h s n hle
 have hvl:=val_lt hdg 15 (by omega)
 have hvl12:=fun h=>val_lt hdg 12 h
 rw [htk] at hsh
 have hsl:=run_sl_l s n hle
 obtain ⟨v,hv⟩:∃ v,Bare.valD d=v:=⟨_,rfl⟩
 rw [hv] at HA hvl hvl12 ⊢
 obtain ⟨dx,hdx⟩:∃ dx,tx d=dx:=⟨_,rfl⟩
 rw [hdx] at HA hsh
 rw [hn] at hvl12
 clear hv hdx htk hdg hn
 simp at hvl
 have hgv:(-1) * (v:Int)=(-(v:Int)):=by omega
 by_cases hend:n=s.size
 ·have d3:decide ((n:Int)=(s.size:Int))=true:=decide_eq_true (by omega)
  have d3':((n:Int) == (s.size:Int))=true:=d3
  have hhd:((bl s).drop n).head? ≠ some 46:=by rw [hend,head_end];simp
  rw [if_pos hhd]
  obtain ⟨x,hx⟩:∃ x,tx ((bl s).drop n)=x:=⟨_,rfl⟩
  rw [hx] at hsl
  rw [hgv]
  clear hend
  unfold ReadP bv bcs noIt
  simp only
  rw [hx]
  clear hhd hx h1 h15 hle hvl12
  go_enter Tryz.func59,Tryz.ntmps59
  go_upto_region 1 with fail
  obtain ⟨W,hW⟩:∃ W,w.alloc (.cells #[.int .u8 0,.int .i64 0,.string ⟨#[]⟩,.bool false] 23)=W:=⟨_,rfl⟩
  rw [hW] at hN hr ⊢
  obtain ⟨B,hB⟩:∃ B,w.heap.size=B:=⟨_,rfl⟩
  have hBw:w.heap.size ≤ B:=by omega
  rw [hB] at hr ⊢
  clear hW hB
  obtain ⟨⟨c0,c1,c2,c3⟩,f0,f1,f2,f3⟩:=row_facts hr
  go_upto_region 9 with (go_at_call 112;refine (HR.out _).mono ?_;rintro e w' ⟨rfl,rfl⟩)
  go_region_with (go_at_call 113;refine (HA.out _).mono ?_;rintro e w' ⟨rfl,rfl⟩)
  have hwr:IntKind.i64.wrap (-(v:Int))=(-(v:Int)):=by rw [IntKind.wrap_i64];omega
  rw [hwr]
  obtain ⟨hN2,hr2⟩:=set4 hN hBw hr (.int .u8 1) (.int .i64 (-(v:Int))) (.string ⟨#[]⟩) (.bool false)
  have hN2:=hN2.drew
  have hr2:((((W.setCell ⟨B,0,none⟩ (.int .u8 1)).setCell ⟨B,1,none⟩ (.int .i64 (-(v:Int)))).setCell ⟨B,2,none⟩ (.string ⟨#[]⟩)).setCell ⟨B,3,none⟩ (.bool false)).drew.heap[B]? = some (.cells #[(.int .u8 1),(.int .i64 (-(v:Int))),(.string ⟨#[]⟩),(.bool false)] 23 (0,0)):=hr2
  obtain ⟨W2,hW2⟩:∃ W2,((((W.setCell ⟨B,0,none⟩ (.int .u8 1)).setCell ⟨B,1,none⟩ (.int .i64 (-(v:Int)))).setCell ⟨B,2,none⟩ (.string ⟨#[]⟩)).setCell ⟨B,3,none⟩ (.bool false)).drew=W2:=⟨_,rfl⟩
  rw [hW2] at hN2 hr2 ⊢
  go_wp2_with fail
  exact read_end (by kernel_rfl) rfl rfl rfl hr2 ⟨rfl,hN2⟩
 have hlt:n < s.size:=by omega
 have d3:decide ((n:Int)=(s.size:Int))=false:=decide_eq_false (by omega)
 have d3':((n:Int) == (s.size:Int))=false:=d3
 have hixn:=run_idx s n hlt
 have hhn:=head_drop s n hlt
 have hq46:=u8_eq (gb s n) 46
 by_cases hq:gb s n=46
 case neg =>
  rw [decide_eq_false hq] at hq46
  have hhd:((bl s).drop n).head? ≠ some 46:=by rw [hhn];simpa using hq
  rw [if_pos hhd]
  obtain ⟨x,hx⟩:∃ x,tx ((bl s).drop n)=x:=⟨_,rfl⟩
  rw [hx] at hsl
  obtain ⟨q,hqn⟩:∃ q,(gb s n).toNat=q:=⟨_,rfl⟩
  rw [hqn] at hixn hq46
  have hq1:((q:Int) == 46)=false:=hq46.symm
  have hq2:((q:Int) != 46)=true:=by simp [bne,hq1]
  clear hq hqn hq46 hhd hhn hend hlt
  rw [hgv]
  unfold ReadP bv bcs noIt
  simp only
  rw [hx]
  clear hx h1 h15 hle hvl12
  go_enter Tryz.func59,Tryz.ntmps59
  go_upto_region 1 with fail
  obtain ⟨W,hW⟩:∃ W,w.alloc (.cells #[.int .u8 0,.int .i64 0,.string ⟨#[]⟩,.bool false] 23)=W:=⟨_,rfl⟩
  rw [hW] at hN hr ⊢
  obtain ⟨B,hB⟩:∃ B,w.heap.size=B:=⟨_,rfl⟩
  have hBw:w.heap.size ≤ B:=by omega
  rw [hB] at hr ⊢
  clear hW hB
  obtain ⟨⟨c0,c1,c2,c3⟩,f0,f1,f2,f3⟩:=row_facts hr
  go_upto_region 9 with (go_at_call 112;refine (HR.out _).mono ?_;rintro e w' ⟨rfl,rfl⟩)
  go_region_with (go_at_call 113;refine (HA.out _).mono ?_;rintro e w' ⟨rfl,rfl⟩)
  have hwr:IntKind.i64.wrap (-(v:Int))=(-(v:Int)):=by rw [IntKind.wrap_i64];omega
  rw [hwr]
  obtain ⟨hN2,hr2⟩:=set4 hN hBw hr (.int .u8 1) (.int .i64 (-(v:Int))) (.string ⟨#[]⟩) (.bool false)
  have hN2:=hN2.drew
  have hr2:((((W.setCell ⟨B,0,none⟩ (.int .u8 1)).setCell ⟨B,1,none⟩ (.int .i64 (-(v:Int)))).setCell ⟨B,2,none⟩ (.string ⟨#[]⟩)).setCell ⟨B,3,none⟩ (.bool false)).drew.heap[B]? = some (.cells #[(.int .u8 1),(.int .i64 (-(v:Int))),(.string ⟨#[]⟩),(.bool false)] 23 (0,0)):=hr2
  obtain ⟨W2,hW2⟩:∃ W2,((((W.setCell ⟨B,0,none⟩ (.int .u8 1)).setCell ⟨B,1,none⟩ (.int .i64 (-(v:Int)))).setCell ⟨B,2,none⟩ (.string ⟨#[]⟩)).setCell ⟨B,3,none⟩ (.bool false)).drew=W2:=⟨_,rfl⟩
  rw [hW2] at hN2 hr2 ⊢
  go_wp2_with fail
  exact read_end (by kernel_rfl) rfl rfl rfl hr2 ⟨rfl,hN2⟩
 case pos =>
  rw [decide_eq_true hq] at hq46
  have hhd:¬ ((bl s).drop n).head? ≠ some 46:=by rw [hhn,hq];simp
  rw [if_neg hhd]
  obtain ⟨q,hqn⟩:∃ q,(gb s n).toNat=q:=⟨_,rfl⟩
  rw [hqn] at hixn hq46
  have hq1:((q:Int) == 46)=true:=hq46.symm
  have hq2:((q:Int) != 46)=false:=by simp [bne,hq1]
  have hnb:(n:Int) ≤ 1000000:=by omega
  clear hq hqn hq46 hhd hhn hend hgv
  have hsl1:∀ W,(Instr.slice 9 (.string s) (some (.int .i64 ((n:Int) + 1))) none none).run Tryz.prog W = .ok (.string (tx ((bl s).drop (n + 1)))) W:=fun W=>run_sl_l s (n + 1) (by omega) W
  obtain ⟨U,hU⟩:∃ U,tx ((bl s).drop (n + 1))=U:=⟨_,rfl⟩
  have hUl:((bl s).drop n).drop 1=bl U:=by rw [← hU,List.drop_drop]
  have hUs:U.size=s.size - (n + 1):=by rw [← hU,tx_size,List.length_drop,bl_len]
  have hdd:∀ k,((bl s).drop n).drop (1 + k)=(bl s).drop (n + 1 + k):=fun k=>by rw [List.drop_drop];congr 1;omega
  have hpc:∀ k,piec s (n + 1) (n + 1 + k)=tx ((bl U).take k):=fun k=>by unfold piec;rw [← hU,Nat.add_sub_cancel_left]
  rw [hU] at hsl1
  rw [hUl]
  have HU:=Lib.hid (fun W=>(run_r U W (by omega)).mono fun e w' h=>show e = _∧W=w' from ⟨h.1,h.2.symm⟩)
  have hek:=Bare.takeWhile_len Bare.digB (bl U)
  have het:=Bare.takeWhile_take Bare.digB (bl U)
  have hed:=digs_take (bl U)
  obtain ⟨e,he⟩:∃ e,(bl U).takeWhile Bare.digB=e:=⟨_,rfl⟩
  rw [he] at HU hek het hed ⊢
  obtain ⟨k,hk⟩:∃ k,e.length=k:=⟨_,rfl⟩
  rw [hk] at HU hek het ⊢
  rw [bl_len,hUs] at hek
  rw [hdd]
  have hkb:(k:Int) ≤ 1000000:=by omega
  clear he hU hUl hdd
  by_cases hn12:12 < n
  ·have d4:decide (12 < (n:Int))=true:=decide_eq_true (by omega)
   rw [if_pos (.inl hn12)]
   unfold ReadP bv bcs noIt
   simp only
   clear hn12 h1 h15 hle hed het hpc hek hUs hlt hk hvl12
   go_enter Tryz.func59,Tryz.ntmps59
   go_upto_region 1 with fail
   obtain ⟨W,hW⟩:∃ W,w.alloc (.cells #[.int .u8 0,.int .i64 0,.string ⟨#[]⟩,.bool false] 23)=W:=⟨_,rfl⟩
   rw [hW] at hN hr ⊢
   obtain ⟨B,hB⟩:∃ B,w.heap.size=B:=⟨_,rfl⟩
   have hBw:w.heap.size ≤ B:=by omega
   rw [hB] at hr ⊢
   clear hW hB
   obtain ⟨⟨c0,c1,c2,c3⟩,f0,f1,f2,f3⟩:=row_facts hr
   go_wp2_with (first | (go_at_call 112;with_reducible refine (HR.out _).mono ?_;rintro e w' ⟨rfl,rfl⟩) | (go_at_call 112;refine (HU.out _).mono ?_;rintro e w' ⟨rfl,rfl⟩))
   refine (HNo.out _).mono ?_
   rintro e wn ⟨rfl,hNn⟩
   have hN:=hN.trans hNn
   have hr:=hNn.heap hr id
   clear c0 c1 c2 c3 f0 f1 f2 f3 hNn
   obtain ⟨⟨c0,c1,c2,c3⟩,f0,f1,f2,f3⟩:=row_facts hr
   go_wp2_with fail
   obtain ⟨hN2,hr2⟩:=set4 hN hBw hr (.int .u8 0) (.int .i64 0) (.string ⟨#[]⟩) (.bool false)
   obtain ⟨W2,hW2⟩:∃ W2,((((wn.setCell ⟨B,0,none⟩ (.int .u8 0)).setCell ⟨B,1,none⟩ (.int .i64 0)).setCell ⟨B,2,none⟩ (.string ⟨#[]⟩)).setCell ⟨B,3,none⟩ (.bool false))=W2:=⟨_,rfl⟩
   rw [hW2] at hN2 hr2 ⊢
   exact read_end (by kernel_rfl) rfl rfl rfl hr2 ⟨rfl,hN2⟩
  have d4:decide (12 < (n:Int))=false:=decide_eq_false (by omega)
  by_cases hk1:k < 1
  ·have d5:decide ((k:Int) < 1)=true:=decide_eq_true (by omega)
   rw [if_pos (.inr (.inl hk1))]
   unfold ReadP bv bcs noIt
   simp only
   clear hn12 h1 h15 hle hed het hpc hek hUs hlt hk hvl12 hk1
   go_enter Tryz.func59,Tryz.ntmps59
   go_upto_region 1 with fail
   obtain ⟨W,hW⟩:∃ W,w.alloc (.cells #[.int .u8 0,.int .i64 0,.string ⟨#[]⟩,.bool false] 23)=W:=⟨_,rfl⟩
   rw [hW] at hN hr ⊢
   obtain ⟨B,hB⟩:∃ B,w.heap.size=B:=⟨_,rfl⟩
   have hBw:w.heap.size ≤ B:=by omega
   rw [hB] at hr ⊢
   clear hW hB
   obtain ⟨⟨c0,c1,c2,c3⟩,f0,f1,f2,f3⟩:=row_facts hr
   go_wp2_with (first | (go_at_call 112;with_reducible refine (HR.out _).mono ?_;rintro e w' ⟨rfl,rfl⟩) | (go_at_call 112;refine (HU.out _).mono ?_;rintro e w' ⟨rfl,rfl⟩))
   refine (HNo.out _).mono ?_
   rintro e wn ⟨rfl,hNn⟩
   have hN:=hN.trans hNn
   have hr:=hNn.heap hr id
   clear c0 c1 c2 c3 f0 f1 f2 f3 hNn
   obtain ⟨⟨c0,c1,c2,c3⟩,f0,f1,f2,f3⟩:=row_facts hr
   go_wp2_with fail
   obtain ⟨hN2,hr2⟩:=set4 hN hBw hr (.int .u8 0) (.int .i64 0) (.string ⟨#[]⟩) (.bool false)
   obtain ⟨W2,hW2⟩:∃ W2,((((wn.setCell ⟨B,0,none⟩ (.int .u8 0)).setCell ⟨B,1,none⟩ (.int .i64 0)).setCell ⟨B,2,none⟩ (.string ⟨#[]⟩)).setCell ⟨B,3,none⟩ (.bool false))=W2:=⟨_,rfl⟩
   rw [hW2] at hN2 hr2 ⊢
   exact read_end (by kernel_rfl) rfl rfl rfl hr2 ⟨rfl,hN2⟩
  have d5:decide ((k:Int) < 1)=false:=decide_eq_false (by omega)
  by_cases hk3:3 < k
  ·have d6:decide (3 < (k:Int))=true:=decide_eq_true (by omega)
   rw [if_pos (.inr (.inr hk3))]
   unfold ReadP bv bcs noIt
   simp only
   clear hn12 h1 h15 hle hed het hpc hek hUs hlt hk hvl12 hk1 hk3
   go_enter Tryz.func59,Tryz.ntmps59
   go_upto_region 1 with fail
   obtain ⟨W,hW⟩:∃ W,w.alloc (.cells #[.int .u8 0,.int .i64 0,.string ⟨#[]⟩,.bool false] 23)=W:=⟨_,rfl⟩
   rw [hW] at hN hr ⊢
   obtain ⟨B,hB⟩:∃ B,w.heap.size=B:=⟨_,rfl⟩
   have hBw:w.heap.size ≤ B:=by omega
   rw [hB] at hr ⊢
   clear hW hB
   obtain ⟨⟨c0,c1,c2,c3⟩,f0,f1,f2,f3⟩:=row_facts hr
   go_wp2_with (first | (go_at_call 112;with_reducible refine (HR.out _).mono ?_;rintro e w' ⟨rfl,rfl⟩) | (go_at_call 112;refine (HU.out _).mono ?_;rintro e w' ⟨rfl,rfl⟩))
   refine (HNo.out _).mono ?_
   rintro e wn ⟨rfl,hNn⟩
   have hN:=hN.trans hNn
   have hr:=hNn.heap hr id
   clear c0 c1 c2 c3 f0 f1 f2 f3 hNn
   obtain ⟨⟨c0,c1,c2,c3⟩,f0,f1,f2,f3⟩:=row_facts hr
   go_wp2_with fail
   obtain ⟨hN2,hr2⟩:=set4 hN hBw hr (.int .u8 0) (.int .i64 0) (.string ⟨#[]⟩) (.bool false)
   obtain ⟨W2,hW2⟩:∃ W2,((((wn.setCell ⟨B,0,none⟩ (.int .u8 0)).setCell ⟨B,1,none⟩ (.int .i64 0)).setCell ⟨B,2,none⟩ (.string ⟨#[]⟩)).setCell ⟨B,3,none⟩ (.bool false))=W2:=⟨_,rfl⟩
   rw [hW2] at hN2 hr2 ⊢
   exact read_end (by kernel_rfl) rfl rfl rfl hr2 ⟨rfl,hN2⟩
  have d6:decide (3 < (k:Int))=false:=decide_eq_false (by omega)
  rw [if_neg (by omega)]
  have hv12:=hvl12 (by omega)
  simp at hv12
  have hsl2:∀ W,(Instr.slice 9 (.string s) (some (.int .i64 ((n:Int) + 1))) (some (.int .i64 ((n:Int) + 1 + (k:Int)))) none).run Tryz.prog W = .ok (.string (piec s (n + 1) (n + 1 + k))) W:=fun W=>run_sl s (n + 1) (n + 1 + k) (by omega) (by omega) W
  rw [hpc,het] at hsl2
  have hxx:(tx e ++ ⟨#[48,48]⟩).extract 0 3=tx ((e ++ [48,48]).take 3):=by
   rw [extract_piec,piec_head]
   rfl
  have hz1:1 ≤ (tx e).size:=by rw [tx_size,hk];omega
  have hz3:(tx e).size ≤ 3:=by rw [tx_size,hk];omega
  have hed2:((e ++ [48,48]).take 3).all Bare.digB=true:=by
   rw [List.all_eq_true] at hed ⊢
   intro x hx
   rcases List.mem_append.1 (List.mem_of_mem_take hx) with h | h
   ·exact hed x h
   ·simp at h;subst h;decide
  have hl3:((e ++ [48,48]).take 3).length=3:=by rw [List.length_take,List.length_append];show min 3 (e.length + 2)=3;omega
  have HA2:=Lib.hid (fun W=>(value_r (tx ((e ++ [48,48]).take 3)) W (by rw [tx_size];omega) (by rw [bl_tx];exact hed2)).mono fun e w' h=>show e = _∧W=w' from ⟨h.1,h.2.symm⟩)
  rw [bl_tx] at HA2
  have hv2:=val_lt hed2 3 (by omega)
  obtain ⟨v2,hv2e⟩:∃ v2,Bare.valD ((e ++ [48,48]).take 3)=v2:=⟨_,rfl⟩
  rw [hv2e] at HA2 hv2 ⊢
  simp at hv2
  rw [← hxx] at HA2
  obtain ⟨x1,hx1⟩:∃ x1,tx e=x1:=⟨_,rfl⟩
  rw [hx1] at hsl2 HA2 hz1 hz3
  have hsl3:∀ W,(Instr.slice 9 (.string s) (some (.int .i64 ((n:Int) + 1 + (k:Int)))) none none).run Tryz.prog W = .ok (.string (tx ((bl s).drop (n + 1 + k)))) W:=fun W=>run_sl_l s (n + 1 + k) (by omega) W
  obtain ⟨x,hx⟩:∃ x,tx ((bl s).drop (n + 1 + k))=x:=⟨_,rfl⟩
  rw [hx] at hsl3
  have hgv:(-1) * (1000 * (v:Int) + (v2:Int))=(-(1000 * (v:Int) + (v2:Int))):=by omega
  rw [hgv]
  clear hgv hv2e hxx hx1 hl3 hed2 hed het hpc hk hk1 hk3 hn12 hek hUs hlt hsl
  unfold ReadP bv bcs noIt
  simp only
  rw [hx]
  clear hx h1 h15 hle hvl12 hvl
  go_enter Tryz.func59,Tryz.ntmps59
  go_upto_region 1 with fail
  obtain ⟨W,hW⟩:∃ W,w.alloc (.cells #[.int .u8 0,.int .i64 0,.string ⟨#[]⟩,.bool false] 23)=W:=⟨_,rfl⟩
  rw [hW] at hN hr ⊢
  obtain ⟨B,hB⟩:∃ B,w.heap.size=B:=⟨_,rfl⟩
  have hBw:w.heap.size ≤ B:=by omega
  rw [hB] at hr ⊢
  clear hW hB
  obtain ⟨⟨c0,c1,c2,c3⟩,f0,f1,f2,f3⟩:=row_facts hr
  have hw1:IntKind.i64.wrap ((n:Int) + 1)=(n:Int) + 1:=by rw [IntKind.wrap_i64];omega
  have hw2:IntKind.i64.wrap ((n:Int) + 1 + (k:Int))=(n:Int) + 1 + (k:Int):=by rw [IntKind.wrap_i64];omega
  have hw3:IntKind.i64.wrap (1000 * (v:Int))=1000 * (v:Int):=by rw [IntKind.wrap_i64];omega
  have hw4:IntKind.i64.wrap (1000 * (v:Int) + (v2:Int))=1000 * (v:Int) + (v2:Int):=by rw [IntKind.wrap_i64];omega
  have hw5:IntKind.i64.wrap (-(1000 * (v:Int) + (v2:Int)))=(-(1000 * (v:Int) + (v2:Int))):=by rw [IntKind.wrap_i64];omega
  go_upto_region 14 with (first | (go_at_call 112;with_reducible refine (HR.out _).mono ?_;rintro e w' ⟨rfl,rfl⟩) | (go_at_call 112;refine (HU.out _).mono ?_;rintro e w' ⟨rfl,rfl⟩))
  go_region_with (first | (go_at_call 113;with_reducible refine (HA.out _).mono ?_;rintro e w' ⟨rfl,rfl⟩) | (go_at_call 113;refine (HA2.out _).mono ?_;rintro e w' ⟨rfl,rfl⟩))
  all_goals
   obtain ⟨hN2,hr2⟩:=set4 hN hBw hr (.int .u8 2) (.int .i64 (-(1000 * (v:Int) + (v2:Int)))) (.string ⟨#[]⟩) (.bool false)
   have hN2:=hN2.drew
   have hr2:((((W.setCell ⟨B,0,none⟩ (.int .u8 2)).setCell ⟨B,1,none⟩ (.int .i64 (-(1000 * (v:Int) + (v2:Int))))).setCell ⟨B,2,none⟩ (.string ⟨#[]⟩)).setCell ⟨B,3,none⟩ (.bool false)).drew.heap[B]? = some (.cells #[(.int .u8 2),(.int .i64 (-(1000 * (v:Int) + (v2:Int)))),(.string ⟨#[]⟩),(.bool false)] 23 (0,0)):=hr2
   obtain ⟨W2,hW2⟩:∃ W2,((((W.setCell ⟨B,0,none⟩ (.int .u8 2)).setCell ⟨B,1,none⟩ (.int .i64 (-(1000 * (v:Int) + (v2:Int))))).setCell ⟨B,2,none⟩ (.string ⟨#[]⟩)).setCell ⟨B,3,none⟩ (.bool false)).drew=W2:=⟨_,rfl⟩
   rw [hW2] at hN2 hr2 ⊢
   go_wp2_with fail
   exact read_end (by kernel_rfl) rfl rfl rfl hr2 ⟨rfl,hN2⟩


theorem drop_one (s:ByteArray) (k:Nat) (h:k < s.size):(bl s).drop k=gb s k::(bl s).drop (k + 1):=by
 have hl:k < (bl s).length:=by rw [bl_len];exact h
 rw [List.drop_eq_getElem_cons hl]
 have:=gb_get s k h
 rw [List.getElem?_eq_getElem hl] at this
 rw [Option.some.inj this]
def un (c:Nat→UInt8):Nat→Nat
 | 0=>0
 | m + 1=>un c m * 64 + (Bare.v6 (c m)).getD 0
def uh (c:Nat→UInt8):Nat→Nat
 | 0=>0
 | m + 1=>uh c m + if (Bare.v6 (c m)).isSome then 1 else 0
theorem v6_lt (c:UInt8):(Bare.v6 c).getD 0 < 64:=by
 cases h:Bare.v6 c with
 | none=>decide
 | some v=>exact (Bare.v6_facts h).1
theorem un_lt (c:Nat→UInt8):∀ m,un c m < 64 ^ m
 | 0=>by show 0 < 1;decide
 | m + 1=>by
  have:=un_lt c m
  have:=v6_lt (c m)
  unfold un
  rw [Nat.pow_succ]
  omega
theorem uh_le (c:Nat→UInt8):∀ m,uh c m ≤ m
 | 0=>Nat.le_refl _
 | m + 1=>by
  have:=uh_le c m
  unfold uh
  split <;> omega
theorem refOut_short:∀ {l:Bare.Bs},l.length < 4→Bare.refOut l=some []
 | [],_=>rfl
 | [_],_=>rfl
 | [_,_],_=>rfl
 | [_,_,_],_=>rfl
 | _::_::_::_::_,h=>by simp at h;omega
theorem refOut_four (c:Nat→UInt8) (r:Bare.Bs):Bare.refOut (c 0::c 1::c 2::c 3::r)=if uh c 4 < 2 then none else (Bare.refOut r).map (([UInt8.ofNat (un c 4 / 65536),UInt8.ofNat (un c 4 / 256 % 256),UInt8.ofNat (un c 4 % 256)].take (uh c 4 - 1)) ++ ·):=by
 have e1:Bare.val4 (c 0) (c 1) (c 2) (c 3)=un c 4:=by unfold Bare.val4 un un un un un;simp
 have e2:Bare.have4 (c 0) (c 1) (c 2) (c 3)=uh c 4:=by unfold Bare.have4 uh uh uh uh uh;simp
 rw [Bare.refOut,e1,e2]
theorem unsix_r (s:ByteArray) (w:World) (hs:s.size ≤ 1000000) :
  Calls Tryz.prog 12 #[.string s] w fun e w'=>e = .returned (unsixV (Bare.unsix (bl s)))∧New w w':=by
 obtain ⟨i0,hi,hz0,hz1,hz2⟩:=info_parts infoB'
 obtain ⟨R,hR⟩:∃ R,Bare.unsix (bl s)=R:=⟨_,rfl⟩
 have HN:Hid (Bare.refOut (bl s)=none→R=none):=Lib.hid fun h=>by
  rw [← hR,← Bare.refUnsix_eq]
  unfold Bare.refUnsix
  rw [h]
 have HS:Hid (∀ acc,Bare.refOut (bl s)=some acc→R=if Bare.sixes acc=bl s then some acc else none):=Lib.hid fun acc h=>by
  rw [← hR,← Bare.refUnsix_eq]
  unfold Bare.refUnsix
  rw [h]
 have HR:Hid (Bare.refOut (bl s)=(Bare.refOut ((bl s).drop 0)).map (([]:Bare.Bs) ++ ·)):=Lib.hid (by
  rw [List.drop_zero]
  cases Bare.refOut (bl s) <;> rfl)
 rw [hR]
 clear hR
 have hN0:New w w:=Mods.refl _ _
 obtain ⟨B,hB⟩:∃ B,w.heap.size=B:=⟨_,rfl⟩
 have hown0:=World.ownsRow_nil w B 5 1
 have hNs:∀ W,New w W→B ≤ W.heap.size:=fun W h=>by have:=h.size;omega
 go_enter Tryz.func12,Tryz.ntmps12
 go_upto_region 3 with fail
 go_loopw [4,5] (fun v i W=>∃ (j:Nat) (acc:Bare.Bs),j ≤ s.size∧i = .int .i64 j∧acc.length ≤ j∧W.ownsRow B 5 1 v acc.length (u8s acc)∧New w W∧Hid (Bare.refOut (bl s)=(Bare.refOut ((bl s).drop j)).map (acc ++ ·))) (fun _ i _=>s.size + 3 - (intOf i).toNat)
 case atStart=>exact ⟨0,[],by omega,rfl,by simp,hown0,hN0,HR⟩
 case round =>
  clear HR hN0 hown0
  obtain ⟨wo,hwo⟩:∃ x,x=wr:=⟨_,rfl⟩
  subst hwo
  obtain ⟨j,acc,hj,rfl,hal,hown,hN,HR⟩:=hrel
  by_cases hlt:j + 3 < s.size
  ·have hd:(j:Int) + 3 < (s.size:Int):=by omega
   obtain ⟨c,hc⟩:∃ c:Nat→UInt8,(fun m=>gb s (j + m))=c:=⟨_,rfl⟩
   have hci:∀ m:Nat,m < 4→∀ W,(Instr.index 9 (.string s) (.int .i64 ((j:Int) + (m:Int)))).run Tryz.prog W = .ok (.int .u8 ((c m).toNat:Nat)) W:=fun m hm W=>by rw [← hc];exact run_idx s (j + m) (by omega) W
   have hR2:Bare.refOut (bl s)=(if uh c 4 < 2 then none else (Bare.refOut ((bl s).drop (j + 4))).map (([UInt8.ofNat (un c 4 / 65536),UInt8.ofNat (un c 4 / 256 % 256),UInt8.ofNat (un c 4 % 256)].take (uh c 4 - 1)) ++ ·)).map (acc ++ ·):=by
    rw [HR.out,drop_one s j (by omega),drop_one s (j + 1) (by omega),drop_one s (j + 1 + 1) (by omega),drop_one s (j + 1 + 1 + 1) (by omega)]
    have:=refOut_four c ((bl s).drop (j + 4))
    rw [← this,← hc]
    rfl
   have HR2:=Lib.hid hR2
   have HCI:=Lib.hid hci
   have HOW:=Lib.hid hown
   clear hR2 hci hown HR hc
   go_upto_region 7 with fail
   go_loop [6,7,8] (fun a b t=>∃ m:Nat,m ≤ 4∧a = .int .i64 (un c m:Nat)∧b = .int .i64 (uh c m:Nat)∧t = .int .i64 m) (fun _ _ t=>4 - (intOf t).toNat)
   case atStart=>exact ⟨0,by omega,rfl,rfl,rfl⟩
   case round =>
    obtain ⟨m,hm,rfl,rfl,rfl⟩:=hrel
    by_cases hm4:m < 4
    ·have hb:un c m ≤ 262143:=by
      have:=un_lt c m
      have h2:64 ^ m ≤ 64 ^ 3:=Nat.pow_le_pow_right (by decide) (by omega)
      omega
     have hb2:uh c m ≤ 4:=by have:=uh_le c m;omega
     have hix:=HCI.out m hm4
     have HP:=Lib.hid (six_r (c m))
     have hx1:un c (m + 1)=un c m * 64 + (Bare.v6 (c m)).getD 0:=rfl
     have hy1:uh c (m + 1)=uh c m + if (Bare.v6 (c m)).isSome then 1 else 0:=rfl
     obtain ⟨x,hx⟩:∃ x,un c m=x:=⟨_,rfl⟩
     obtain ⟨y,hy⟩:∃ x,uh c m=x:=⟨_,rfl⟩
     rw [hx] at hb hx1 ⊢
     rw [hy] at hb2 hy1 ⊢
     obtain ⟨b,hbb⟩:∃ b,(c m).toNat=b:=⟨_,rfl⟩
     rw [hbb] at hix HP
     unfold sixV at HP
     cases hv:Bare.v6 (c m) with
     | none =>
      rw [hv] at HP hx1 hy1
      simp only [Option.getD_none,Nat.add_zero,Option.isSome_none,if_false,Bool.false_eq_true] at hx1 hy1 HP
      clear hv hbb hx hy
      go_wp2_with (go_at_call 64;refine (HP.out _).mono ?_;rintro e w' ⟨rfl,rfl⟩)
      go_round
      case rel=>exact ⟨m + 1,by omega,by rw [hx1];go_num,by rw [hy1],by go_num⟩
      case measure=>simp [intOf];omega
     | some v =>
      have hv64:=(Bare.v6_facts hv).1
      rw [hv] at HP hx1 hy1
      simp only [Option.getD_some,Option.isSome_some,if_true] at hx1 hy1 HP
      clear hv hbb hx hy
      go_wp2_with (go_at_call 64;refine (HP.out _).mono ?_;rintro e w' ⟨rfl,rfl⟩)
      go_round
      case rel=>exact ⟨m + 1,by omega,by rw [hx1];go_num,by rw [hy1];go_num,by go_num⟩
      case measure=>simp [intOf];omega
    ·obtain rfl:m=4:=by omega
     have hnl:un c 4 < 16777216:=un_lt c 4
     have hhl:uh c 4 ≤ 4:=uh_le c 4
     have HR3:=HR2.out
     obtain ⟨n,hn⟩:∃ n,un c 4=n:=⟨_,rfl⟩
     obtain ⟨h,hh⟩:∃ n,uh c 4=n:=⟨_,rfl⟩
     rw [hn] at hnl HR3 ⊢
     rw [hh] at hhl HR3 ⊢
     clear hn hh hm hm4 HR2
     by_cases h2:h < 2
     ·have hd2:decide ((h:Int) < 2)=true:=decide_eq_true (by omega)
      rw [if_pos h2] at HR3
      obtain rfl:R=none:=HN.out (by rw [HR3];rfl)
      clear h2 HR3
      go_wp2_with fail
      go_ret2
      exact ⟨rfl,hN⟩
     ·have hd2:decide ((h:Int) < 2)=false:=decide_eq_false (by omega)
      rw [if_neg h2] at HR3
      obtain ⟨x0,e0,l0⟩:∃ a:Nat,(n:Int) / 65536=(a:Int)∧a < 256:=⟨n / 65536,by omega,by omega⟩
      obtain ⟨x1,e1,l1⟩:∃ a:Nat,(n:Int) / 256 % 256=(a:Int)∧a < 256:=⟨n / 256 % 256,by omega,by omega⟩
      obtain ⟨x2,e2,l2⟩:∃ a:Nat,(n:Int) % 256=(a:Int)∧a < 256:=⟨n % 256,by omega,by omega⟩
      have f0:n / 65536=x0:=by omega
      have f1:n / 256 % 256=x1:=by omega
      have f2:n % 256=x2:=by omega
      rw [f0,f1,f2] at HR3
      obtain ⟨g,hg⟩:∃ g:Nat,h=g + 1:=⟨h - 1,by omega⟩
      have hgs:(h:Int) - 1=(g:Int):=by omega
      have hg13:1 ≤ g∧g ≤ 3:=by omega
      obtain ⟨hg1,hg3⟩:=hg13
      rw [hg,Nat.add_sub_cancel] at HR3
      have HR4:=Lib.hid HR3
      have w0:IntKind.u8.wrap (x0:Int)=x0:=IntWalk.u8_in _ ⟨by omega,by omega⟩
      have w1:IntKind.u8.wrap (x1:Int)=x1:=IntWalk.u8_in _ ⟨by omega,by omega⟩
      have w2:IntKind.u8.wrap (x2:Int)=x2:=IntWalk.u8_in _ ⟨by omega,by omega⟩
      clear f0 f1 f2 HR3 hg h2
      go_upto_region 17 with fail
      have hA:New wo (wo.alloc (.cells #[.int .u8 x0,.int .u8 x1,.int .u8 x2] 5)):=(Mods.refl _ _).alloc _
      have rX:=World.alloc_heap_new wo (.cells #[.int .u8 x0,.int .u8 x1,.int .u8 x2] 5)
      obtain ⟨V,hV⟩:∃ V,wo.alloc (.cells #[.int .u8 x0,.int .u8 x1,.int .u8 x2] 5)=V:=⟨_,rfl⟩
      obtain ⟨X,hX⟩:∃ X,wo.heap.size=X:=⟨_,rfl⟩
      rw [hV] at hA rX ⊢
      rw [hX] at rX ⊢
      have HO2:=Lib.hid (Mods.ownsRow hA HOW.out (fun _ _ h=>h))
      have hN2:=hN.trans hA
      have hBW:=hNs _ hN2
      obtain ⟨F0,hF0⟩:∃ F:Bare.Bs,[UInt8.ofNat x0,UInt8.ofNat x1,UInt8.ofNat x2]=F:=⟨_,rfl⟩
      have hu0:([.int .u8 x0,.int .u8 x1,.int .u8 x2]:List Value)=u8s F0:=by
       rw [← hF0]
       simp [u8s,Nat.mod_eq_of_lt l0,Nat.mod_eq_of_lt l1,Nat.mod_eq_of_lt l2]
      have hF0l:F0.length=3:=by rw [← hF0];rfl
      have rX3:V.heap[X]? = some (.cells (u8s F0).toArray 5 (0,0)):=by rw [← hu0];exact rX
      have HR5:=HR4.out
      rw [hF0] at HR5
      obtain ⟨F,hF⟩:∃ F,F0.take g=F:=⟨_,rfl⟩
      rw [hF] at HR5
      have hFl:F.length=g:=by rw [← hF,List.length_take];omega
      have hlu:(u8s F).length=g:=by rw [u8s_len];exact hFl
      have hou:∀ u ∈ u8s F,u.oneCell'=true:=fun u hu=>by
       obtain ⟨c,-,rfl⟩:=List.mem_map.1 hu
       rfl
      have hcl:Hid (∀ (k:Nat) (u:Value),(u8s F)[k]? = some u→(u8s F0)[k]? = some u):=Lib.hid fun k u hk=>by
       have e:u8s F=(u8s F0).take g:=by rw [← hF];simp [u8s]
       rw [e,List.getElem?_take] at hk
       split at hk
       ·exact hk
       ·cases hk
      have HRX:=Lib.hid rX3
      have HRR:=Lib.hid HR5
      clear rX rX3 hu0 hF hF0 HR4 HR5 hV hX hA e0 e1 e2 w0 w1 w2 hF0l
      go_wp2_with (at_builtin;refine wpList_append_own _ rfl _ _ 62 rfl B 5 i0 _ 1 1 Tryz.underlying62 hi hz0 hz1 hz2 rfl (by decide) _ _ _ rfl HO2.out ⟨X,0,none⟩ g 3 (u8s F) rfl (by rw [hlu];omega) (fun k u hk=>by rw [add_at,cell_of_row _ _ _ _ _ _ HRX.out];simpa using hcl.out k u hk) hou (by unfold maxLen;omega) (by have:=HO2.out.1;omega) (by omega) ?_)
      intro v' W3 hown' hgrow _
      have hN3:New w W3:=hN2.grown hgrow (fun g hg=>.inl (by have:=(HO2.out.lt g hg).1;omega))
      have hown3:W3.ownsRow B 5 1 v' (acc ++ F).length (u8s (acc ++ F)):=by
       have:u8s (acc ++ F)=u8s acc ++ u8s F:=by simp [u8s]
       rw [this,List.length_append,hFl]
       exact hown'
      clear hown' hgrow
      go_wp2_with fail
      go_roundw
      case rel=>exact ⟨j + 4,acc ++ F,by omega,by go_num,by rw [List.length_append,hFl];omega,hown3,hN3,Lib.hid (by
       rw [HRR.out,Option.map_map]
       congr 1
       funext x
       simp)⟩
      case measure=>simp [intOf];omega
  ·have hd:¬ (j:Int) + 3 < (s.size:Int):=by omega
   have hro:=HR.out
   have hsh:=refOut_short (l:=(bl s).drop j) (by rw [List.length_drop,bl_len];omega)
   rw [hsh] at hro
   simp only [Option.map_some,List.append_nil] at hro
   have hRR:=HS.out acc hro
   have hcv:=conv_own (w:=wo) hown
   have hbt:bl (tx acc)=acc:=bl_tx acc
   have hsx:=sixes_r (tx acc) wo (by rw [tx_size];omega)
   rw [hbt] at hsx
   have heq:=eq_tx (tx (Bare.sixes acc)) s
   rw [bl_tx] at heq
   have HSX:=Lib.hid hsx
   have HOW:=Lib.hid hown
   clear hro HR hown hbt hsx
   by_cases hsame:Bare.sixes acc=bl s
   ·rw [if_pos hsame] at hRR
    rw [decide_eq_true hsame] at heq
    subst hRR
    obtain ⟨x,hx⟩:∃ x,tx acc=x:=⟨_,rfl⟩
    obtain ⟨y,hy⟩:∃ x,tx (Bare.sixes acc)=x:=⟨_,rfl⟩
    have Hx:=Lib.hid hx
    rw [hx] at hcv HSX
    rw [hy] at heq HSX
    clear hsame hx hy
    go_wp2_with fail
    refine HSX.out.mono ?_
    rintro e w5 ⟨rfl,hk⟩
    have hcv2:=conv_own (w:=w5) (Mods.ownsRow hk HOW.out (fun _ _ h=>h))
    rw [Hx.out] at hcv2
    go_wp2_with fail
    go_ret2
    exact ⟨by rw [← Hx.out];rfl,hN.trans hk⟩
   ·rw [if_neg hsame] at hRR
    rw [decide_eq_false hsame] at heq
    subst hRR
    obtain ⟨x,hx⟩:∃ x,tx acc=x:=⟨_,rfl⟩
    obtain ⟨y,hy⟩:∃ x,tx (Bare.sixes acc)=x:=⟨_,rfl⟩
    rw [hx] at hcv HSX
    rw [hy] at heq HSX
    clear hsame hx hy
    go_wp2_with fail
    refine HSX.out.mono ?_
    rintro e w5 ⟨rfl,hk⟩
    go_wp2_with fail
    go_ret2
    exact ⟨rfl,hN.trans hk⟩


theorem first_drop (s:ByteArray) (h:0 < s.size):bl s=gb s 0::(bl s).drop 1:=by
 have:=drop_one s 0 h
 rw [List.drop_zero] at this
 exact this
theorem head_in {c:UInt8} (h:Bare.headTok c=true):Bare.inTok c=true:=by
 unfold Bare.headTok at h
 unfold Bare.inTok
 rcases Bool.or_eq_true_iff.1 h with h | h
 ·rw [h];rfl
 ·rw [beq_iff_eq] at h;subst h;decide
theorem tok_take (s:ByteArray) (k:Nat) (h1:1 ≤ k) (h:k < s.size) (hh:Bare.headTok (gb s 0)=true) (hb:∀ j,j < k→Bare.inTok (gb s j)=true):Bare.tokB ((bl s).take (k + 1))=Bare.inTok (gb s k):=by
 rw [first_drop s (by omega),List.take_succ_cons]
 show (Bare.headTok (gb s 0) && (((bl s).drop 1).take k).all Bare.inTok)=Bare.inTok (gb s k)
 rw [hh,Bool.true_and,Bool.eq_iff_iff,List.all_eq_true]
 constructor
 ·intro ha
  refine ha _ ?_
  refine List.mem_iff_getElem?.2 ⟨k - 1,?_⟩
  rw [List.getElem?_take,if_pos (by omega),List.getElem?_drop,show 1 + (k - 1)=k by omega]
  exact gb_get s k h
 ·intro hk x hx
  obtain ⟨i,hi⟩:=List.mem_iff_getElem?.1 hx
  rw [List.getElem?_take] at hi
  split at hi
  ·rw [List.getElem?_drop] at hi
   obtain ⟨hl,rfl⟩:=get_gb hi
   by_cases e:1 + i=k
   ·rw [e];exact hk
   ·exact hb _ (by omega)
  ·cases hi
theorem packed_at (s:ByteArray) (k:Nat) (h0:0 < s.size) (h1:1 ≤ k) (h:k ≤ s.size) (hb:∀ j,1 ≤ j→j < k→gb s j ≠ 58) (hs:k < s.size→gb s k=58) :
  Bare.packed ((bl s).drop 1)=if k=s.size then none else (Bare.unsix (bl (piec s 1 k))).map fun t=>(⟨5,0,t,false⟩,(bl s).drop (k + 1)):=by
 have hw:=Bare.while_at (· != 58) ((bl s).drop 1) (k - 1) (by rw [List.length_drop,bl_len];omega) (fun j hj c hc=>by
  rw [List.getElem?_drop] at hc
  obtain ⟨-,rfl⟩:=get_gb hc
  have:=hb (1 + j) (by omega) (by omega)
  simpa using this) (fun c hc=>by
  rw [List.getElem?_drop,show 1 + (k - 1)=k by omega] at hc
  obtain ⟨hl,rfl⟩:=get_gb hc
  rw [hs hl];rfl)
 have ht:=Bare.takeWhile_take (· != 58) ((bl s).drop 1)
 rw [hw] at ht
 unfold Bare.packed
 simp only
 rw [← ht,← bl_piec]
 have hpl:(bl (piec s 1 k)).length=k - 1:=by rw [bl_len,piec_size s 1 k h]
 rw [hpl,List.length_drop,bl_len]
 by_cases e:k=s.size
 ·rw [if_pos (by omega),if_pos e]
 ·rw [if_neg (by omega),if_neg e,List.drop_drop,show 1 + (k - 1 + 1)=k + 1 by omega]
theorem parse_r (s:ByteArray) (w:World) (hs:s.size ≤ 1000000) :
  Calls Tryz.prog 10 #[.string s] w (ReadP (Bare.parseI (bl s)) w):=by
 obtain ⟨hN,hr⟩:=no_row w
 have HNo:=Lib.hid (fun W=>none_r W)
 unfold ReadP bv bcs noIt at HNo
 simp only at HNo
 by_cases h0:s.size=0
 ·have e:Bare.parseI (bl s)=none:=by
   have:bl s = []:=List.length_eq_zero_iff.1 (by rw [bl_len];exact h0)
   rw [this];rfl
  rw [e]
  have hd0:((s.size:Int) == 0)=true:=by simp [h0]
  clear e h0
  refine Calls.mono (R:=fun e w'=>e = .returned (.tuple #[.agg #[.int .u8 0,.int .i64 0,.string ⟨#[]⟩,.bool false],.string ⟨#[]⟩,.int .i64 120])∧New w w') ?_ fun e w' h=>h
  go_enter Tryz.func10,Tryz.ntmps10
  go_upto_region 1 with fail
  obtain ⟨W,hW⟩:∃ W,w.alloc (.cells #[.int .u8 0,.int .i64 0,.string ⟨#[]⟩,.bool false] 23)=W:=⟨_,rfl⟩
  rw [hW] at hN hr ⊢
  obtain ⟨B,hB⟩:∃ B,w.heap.size=B:=⟨_,rfl⟩
  have hBw:w.heap.size ≤ B:=by omega
  rw [hB] at hr ⊢
  clear hW hB
  go_wp2_with (first | (go_at_call 58;refine (HD.out _).mono ?_;rintro e w' ⟨rfl,rfl⟩) | (go_at_call 61;refine (HL.out _).mono ?_;rintro e w' ⟨rfl,rfl⟩))
  refine (HNo.out _).mono ?_
  rintro e wn ⟨rfl,hNn⟩
  have hN:=hN.trans hNn
  have hr:=hNn.heap hr id
  obtain ⟨⟨c0,c1,c2,c3⟩,f0,f1,f2,f3⟩:=row_facts hr
  go_wp2_with fail
  obtain ⟨hN2,hr2⟩:=set4 hN hBw hr (.int .u8 0) (.int .i64 0) (.string ⟨#[]⟩) (.bool false)
  obtain ⟨W2,hW2⟩:∃ W2,((((wn.setCell ⟨B,0,none⟩ (.int .u8 0)).setCell ⟨B,1,none⟩ (.int .i64 0)).setCell ⟨B,2,none⟩ (.string ⟨#[]⟩)).setCell ⟨B,3,none⟩ (.bool false))=W2:=⟨_,rfl⟩
  rw [hW2] at hN2 hr2 ⊢
  exact read_end (by kernel_rfl) rfl rfl rfl hr2 ⟨rfl,hN2⟩
 have hd0:((s.size:Int) == 0)=false:=by simp [h0]
 rw [parseI_at s (by omega)]
 have hix0:∀ W,(Instr.index 9 (.string s) (.int .i64 0)).run Tryz.prog W = .ok (.int .u8 ((gb s 0).toNat:Nat)) W:=run_idx s 0 (by omega)
 have HD:=Lib.hid (fun W=>(digit_r (gb s 0) W).mono fun e w' h=>show e = _∧W=w' from ⟨h.1,h.2.symm⟩)
 have HL:=Lib.hid (fun W=>(letter_r (gb s 0) W).mono fun e w' h=>show e = _∧W=w' from ⟨h.1,h.2.symm⟩)
 have HQuo:=Lib.hid (fun W=>quoted_r s W hs (by omega))
 obtain ⟨n,hn⟩:∃ n,(gb s 0).toNat=n:=⟨_,rfl⟩
 have t45:=(byte_test (gb s 0) 45 (by decide) n hn).1
 rw [show UInt8.ofNat 45=45 from rfl] at t45
 have t45:((n:Int) == 45)=decide (gb s 0=45):=t45
 have t42:=(byte_test (gb s 0) 42 (by decide) n hn).1
 rw [show UInt8.ofNat 42=42 from rfl] at t42
 have t42:((n:Int) == 42)=decide (gb s 0=42):=t42
 have t34:=(byte_test (gb s 0) 34 (by decide) n hn).1
 rw [show UInt8.ofNat 34=34 from rfl] at t34
 have t34:((n:Int) == 34)=decide (gb s 0=34):=t34
 have t58:=(byte_test (gb s 0) 58 (by decide) n hn).1
 rw [show UInt8.ofNat 58=58 from rfl] at t58
 have t58:((n:Int) == 58)=decide (gb s 0=58):=t58
 have t63:=(byte_test (gb s 0) 63 (by decide) n hn).1
 rw [show UInt8.ofNat 63=63 from rfl] at t63
 have t63:((n:Int) == 63)=decide (gb s 0=63):=t63
 rw [hn] at hix0 HD HL
 obtain ⟨D,hD⟩:∃ x,Bare.digB (gb s 0)=x:=⟨_,rfl⟩
 rw [hD] at HD ⊢
 by_cases hnum:(D || decide (gb s 0=45))=true
 ·rw [if_pos hnum]
  have HNum:=Lib.hid (fun W=>show Calls Tryz.prog 59 #[.string s] W (ReadP (Bare.number (bl s)) W) from if h:gb s 0=45 then number_neg_r s W hs (by omega) h else number_pos_r s W hs (by omega) h)
  obtain ⟨x45,hx45⟩:∃ x,decide (gb s 0=45)=x:=⟨_,rfl⟩
  rw [hx45] at t45 hnum
  clear hx45 hD
  cases D with
  | true =>
   clear hnum
   obtain ⟨k,nn,tt,y,x,ec,hv⟩:=readP_open (Bare.number (bl s))
   refine Calls.mono (R:=fun e w'=>e = .returned (.tuple #[.agg #[.int .u8 k,.int .i64 nn,.string tt,.bool y],.string x,.int .i64 ec])∧New w w') ?_ fun e w' h=>(hv w e w').2 h
   have HX:=Lib.hid (fun W=>(HNum.out W).mono fun e w' h=>(hv W e w').1 h)
   clear hv HNum HQuo
   go_enter Tryz.func10,Tryz.ntmps10
   go_upto_region 1 with fail
   obtain ⟨W,hW⟩:∃ W,w.alloc (.cells #[.int .u8 0,.int .i64 0,.string ⟨#[]⟩,.bool false] 23)=W:=⟨_,rfl⟩
   rw [hW] at hN hr ⊢
   obtain ⟨B,hB⟩:∃ B,w.heap.size=B:=⟨_,rfl⟩
   have hBw:w.heap.size ≤ B:=by omega
   rw [hB] at hr ⊢
   clear hW hB
   go_upto_region 5 with (first | (go_at_call 58;refine (HD.out _).mono ?_;rintro e w' ⟨rfl,rfl⟩) | (go_at_call 61;refine (HL.out _).mono ?_;rintro e w' ⟨rfl,rfl⟩))
   clear hix0
   go_wp2_with fail
   refine (HX.out _).mono ?_
   rintro e w1 ⟨rfl,hN1⟩
   have hN:=hN.trans hN1
   have hr:=hN1.heap hr id
   obtain ⟨⟨c0,c1,c2,c3⟩,f0,f1,f2,f3⟩:=row_facts hr
   go_wp2_with fail
   obtain ⟨hN2,hr2⟩:=set4 hN hBw hr (.int .u8 k) (.int .i64 nn) (.string tt) (.bool y)
   obtain ⟨W2,hW2⟩:∃ W2,((((w1.setCell ⟨B,0,none⟩ (.int .u8 k)).setCell ⟨B,1,none⟩ (.int .i64 nn)).setCell ⟨B,2,none⟩ (.string tt)).setCell ⟨B,3,none⟩ (.bool y))=W2:=⟨_,rfl⟩
   rw [hW2] at hN2 hr2 ⊢
   exact read_end (by kernel_rfl) rfl rfl rfl hr2 ⟨rfl,hN2⟩
  | false =>
   obtain rfl:x45=true:=by simpa using hnum
   clear hnum
   obtain ⟨k,nn,tt,y,x,ec,hv⟩:=readP_open (Bare.number (bl s))
   refine Calls.mono (R:=fun e w'=>e = .returned (.tuple #[.agg #[.int .u8 k,.int .i64 nn,.string tt,.bool y],.string x,.int .i64 ec])∧New w w') ?_ fun e w' h=>(hv w e w').2 h
   have HX:=Lib.hid (fun W=>(HNum.out W).mono fun e w' h=>(hv W e w').1 h)
   clear hv HNum HQuo
   go_enter Tryz.func10,Tryz.ntmps10
   go_upto_region 1 with fail
   obtain ⟨W,hW⟩:∃ W,w.alloc (.cells #[.int .u8 0,.int .i64 0,.string ⟨#[]⟩,.bool false] 23)=W:=⟨_,rfl⟩
   rw [hW] at hN hr ⊢
   obtain ⟨B,hB⟩:∃ B,w.heap.size=B:=⟨_,rfl⟩
   have hBw:w.heap.size ≤ B:=by omega
   rw [hB] at hr ⊢
   clear hW hB
   go_upto_region 5 with (first | (go_at_call 58;refine (HD.out _).mono ?_;rintro e w' ⟨rfl,rfl⟩) | (go_at_call 61;refine (HL.out _).mono ?_;rintro e w' ⟨rfl,rfl⟩))
   clear hix0
   go_wp2_with fail
   refine (HX.out _).mono ?_
   rintro e w1 ⟨rfl,hN1⟩
   have hN:=hN.trans hN1
   have hr:=hN1.heap hr id
   obtain ⟨⟨c0,c1,c2,c3⟩,f0,f1,f2,f3⟩:=row_facts hr
   go_wp2_with fail
   obtain ⟨hN2,hr2⟩:=set4 hN hBw hr (.int .u8 k) (.int .i64 nn) (.string tt) (.bool y)
   obtain ⟨W2,hW2⟩:∃ W2,((((w1.setCell ⟨B,0,none⟩ (.int .u8 k)).setCell ⟨B,1,none⟩ (.int .i64 nn)).setCell ⟨B,2,none⟩ (.string tt)).setCell ⟨B,3,none⟩ (.bool y))=W2:=⟨_,rfl⟩
   rw [hW2] at hN2 hr2 ⊢
   exact read_end (by kernel_rfl) rfl rfl rfl hr2 ⟨rfl,hN2⟩
 rw [if_neg hnum]
 obtain rfl:D=false:=by cases D;rfl;exact absurd rfl hnum
 have h45:decide (gb s 0=45)=false:=by simpa using hnum
 rw [h45] at t45
 clear hnum h45 hD
 by_cases h34:gb s 0=34
 ·rw [decide_eq_true h34] at t34
  rw [if_neg (by rw [h34];decide),if_pos h34]
  clear h34
  obtain ⟨k,nn,tt,y,x,ec,hv⟩:=readP_open (Bare.quoted [] ((bl s).drop 1))
  refine Calls.mono (R:=fun e w'=>e = .returned (.tuple #[.agg #[.int .u8 k,.int .i64 nn,.string tt,.bool y],.string x,.int .i64 ec])∧New w w') ?_ fun e w' h=>(hv w e w').2 h
  have HX:=Lib.hid (fun W=>(HQuo.out W).mono fun e w' h=>(hv W e w').1 h)
  clear hv HQuo
  go_enter Tryz.func10,Tryz.ntmps10
  go_upto_region 1 with fail
  obtain ⟨W,hW⟩:∃ W,w.alloc (.cells #[.int .u8 0,.int .i64 0,.string ⟨#[]⟩,.bool false] 23)=W:=⟨_,rfl⟩
  rw [hW] at hN hr ⊢
  obtain ⟨B,hB⟩:∃ B,w.heap.size=B:=⟨_,rfl⟩
  have hBw:w.heap.size ≤ B:=by omega
  rw [hB] at hr ⊢
  clear hW hB
  go_upto_region 7 with (first | (go_at_call 58;refine (HD.out _).mono ?_;rintro e w' ⟨rfl,rfl⟩) | (go_at_call 61;refine (HL.out _).mono ?_;rintro e w' ⟨rfl,rfl⟩))
  clear hix0
  go_wp2_with fail
  refine (HX.out _).mono ?_
  rintro e w1 ⟨rfl,hN1⟩
  have hN:=hN.trans hN1
  have hr:=hN1.heap hr id
  obtain ⟨⟨c0,c1,c2,c3⟩,f0,f1,f2,f3⟩:=row_facts hr
  go_wp2_with fail
  obtain ⟨hN2,hr2⟩:=set4 hN hBw hr (.int .u8 k) (.int .i64 nn) (.string tt) (.bool y)
  obtain ⟨W2,hW2⟩:∃ W2,((((w1.setCell ⟨B,0,none⟩ (.int .u8 k)).setCell ⟨B,1,none⟩ (.int .i64 nn)).setCell ⟨B,2,none⟩ (.string tt)).setCell ⟨B,3,none⟩ (.bool y))=W2:=⟨_,rfl⟩
  rw [hW2] at hN2 hr2 ⊢
  exact read_end (by kernel_rfl) rfl rfl rfl hr2 ⟨rfl,hN2⟩
 rw [decide_eq_false h34] at t34
 obtain ⟨L,hL⟩:∃ x,Bare.letB (gb s 0)=x:=⟨_,rfl⟩
 rw [hL] at HL ⊢
 by_cases htok:(L || decide (gb s 0=42))=true
 ·rw [if_pos htok]
  have hh:Bare.headTok (gb s 0)=true:=by
   unfold Bare.headTok
   rw [hL]
   have e42:(gb s 0 == 42)=decide (gb s 0=42):=by rw [Bool.eq_iff_iff,beq_iff_eq,decide_eq_true_eq]
   rw [e42];exact htok
  have hin:=head_in hh
  obtain ⟨x42,hx42⟩:∃ x,decide (gb s 0=42)=x:=⟨_,rfl⟩
  rw [hx42] at t42 htok
  have HB:=Lib.hid (Bare.while_at Bare.inTok (bl s))
  have HTk:=Lib.hid (fun (k:Nat) (h1:1 ≤ k) (h:k < s.size) hb=>tok_take s k h1 h hh hb)
  have HTr:=Lib.hid (fun (k:Nat) W=>token_r (tx ((bl s).take k)) W (by rw [tx_size,List.length_take,bl_len];omega))
  obtain ⟨r,hr'⟩:∃ r,((bl s).takeWhile Bare.inTok).length=r:=⟨_,rfl⟩
  have htt:=Bare.takeWhile_take Bare.inTok (bl s)
  rw [hr'] at HB htt ⊢
  rw [← htt]
  have h1s:1 ≤ s.size:=by omega
  clear hx42 hr' htt h34 hL hh h0
  cases L with
  | true =>
   clear htok
   obtain ⟨k,nn,tt,y,x,ec,hv⟩:=readP_open (some (⟨4,0,(bl s).take r,false⟩,(bl s).drop r))
   refine Calls.mono (R:=fun e w'=>ReadP (some (⟨4,0,(bl s).take r,false⟩,(bl s).drop r)) w e w') ?_ fun e w' h=>h
   clear hv k nn tt y x ec
   go_enter Tryz.func10,Tryz.ntmps10
   go_upto_region 1 with fail
   obtain ⟨W,hW⟩:∃ W,w.alloc (.cells #[.int .u8 0,.int .i64 0,.string ⟨#[]⟩,.bool false] 23)=W:=⟨_,rfl⟩
   rw [hW] at hN hr ⊢
   obtain ⟨B,hB⟩:∃ B,w.heap.size=B:=⟨_,rfl⟩
   have hBw:w.heap.size ≤ B:=by omega
   rw [hB] at hr ⊢
   clear hW hB
   go_upto_region 10 with (first | (go_at_call 58;refine (HD.out _).mono ?_;rintro e w' ⟨rfl,rfl⟩) | (go_at_call 61;refine (HL.out _).mono ?_;rintro e w' ⟨rfl,rfl⟩))
   clear hix0
   have HR:=Lib.hid hr
   go_loop [6] (fun c=>∃ k:Nat,1 ≤ k∧k ≤ s.size∧c = .int .i64 k∧Hid (∀ j,j < k→Bare.inTok (gb s j)=true)) (fun c=>s.size - (intOf c).toNat)
   case atStart=>exact ⟨1,by omega,h1s,rfl,Lib.hid fun j hj=>(by omega:j=0) ▸ hin⟩
   case round =>
    obtain ⟨k,hk1,hk,rfl,hbef⟩:=hrel
    by_cases hlt:k < s.size
    ·have hkd:decide ((k:Int) < (s.size:Int))=true:=decide_eq_true (by omega)
     have hsl:=run_sl_h s (k + 1) (by omega)
     have hsl2:∀ W,(Instr.slice 9 (.string s) none (some (.int .i64 ((k:Int) + 1))) none).run Tryz.prog W = .ok (.string (tx ((bl s).take (k + 1)))) W:=hsl
     have htk:=HTk.out k hk1 hlt hbef.out
     have HT:=Lib.hid (fun W=>(HTr.out (k + 1) W).mono fun e w' h=>show e = .returned (.bool (Bare.inTok (gb s k)))∧W=w' from ⟨by rw [h.1,bl_tx,htk],h.2.symm⟩)
     obtain ⟨q,hq⟩:∃ q,tx ((bl s).take (k + 1))=q:=⟨_,rfl⟩
     rw [hq] at hsl2 HT
     have hnext:Bare.inTok (gb s k)=true→Hid (∀ j,j < k + 1→Bare.inTok (gb s j)=true):=fun hg=>Lib.hid fun i hi=>by
      by_cases hik:i < k
      ·exact hbef.out i hik
      ·obtain rfl:i=k:=by omega
       exact hg
     have hstop:Bare.inTok (gb s k)=false→r=k:=fun hg=>by
      refine HB.out k (by rw [bl_len];exact hk) (fun j hj c hc=>?_) (fun c hc=>?_)
      ·obtain ⟨_,rfl⟩:=get_gb hc
       exact hbef.out j hj
      ·obtain ⟨_,rfl⟩:=get_gb hc
       exact hg
     obtain ⟨b,hb⟩:∃ b,Bare.inTok (gb s k)=b:=⟨_,rfl⟩
     rw [hb] at HT hnext hstop
     clear hsl htk hq hb hbef hin
     cases b with
     | true =>
      have hh:=hnext rfl
      clear hnext hstop
      go_wp2_with (go_at_call 16;refine (HT.out _).mono ?_;rintro e w' ⟨rfl,rfl⟩)
      go_round
      case rel=>exact ⟨k + 1,by omega,by omega,by go_num,hh⟩
      case measure=>simp [intOf];omega
     | false =>
      have hh:=hstop rfl
      clear hnext hstop
      subst hh
      go_upto_region 12 with (go_at_call 16;refine (HT.out _).mono ?_;rintro e w' ⟨rfl,rfl⟩)
      clear hsl2 HT hkd
      have hr:=HR.out
      obtain ⟨x,hx⟩:∃ x,tx ((bl s).take r)=x:=⟨_,rfl⟩
      obtain ⟨y,hy⟩:∃ y,tx ((bl s).drop r)=y:=⟨_,rfl⟩
      have hr:=HR.out
      obtain ⟨⟨c0,c1,c2,c3⟩,f0,f1,f2,f3⟩:=row_facts hr
      have Hx:=Lib.hid hx
      have Hy:=Lib.hid hy
      have hsh:=run_sl_h s r (by omega)
      have hsl:=run_sl_l s r (by omega)
      rw [hx] at hsh
      rw [hy] at hsl
      clear hx hy HB
      go_region
      obtain ⟨hN2,hr2⟩:=set4 hN hBw hr (.int .u8 4) (.int .i64 0) (.string x) (.bool false)
      have hN2:=hN2.drew
      have hr2:((((W.setCell ⟨B,0,none⟩ (.int .u8 4)).setCell ⟨B,1,none⟩ (.int .i64 0)).setCell ⟨B,2,none⟩ (.string x)).setCell ⟨B,3,none⟩ (.bool false)).drew.heap[B]? = some (.cells #[.int .u8 4,.int .i64 0,.string x,.bool false] 23 (0,0)):=hr2
      obtain ⟨W2,hW2⟩:∃ W2,((((W.setCell ⟨B,0,none⟩ (.int .u8 4)).setCell ⟨B,1,none⟩ (.int .i64 0)).setCell ⟨B,2,none⟩ (.string x)).setCell ⟨B,3,none⟩ (.bool false)).drew=W2:=⟨_,rfl⟩
      rw [hW2] at hN2 hr2 ⊢
      go_wp2_with fail
      exact read_end (by kernel_rfl) rfl rfl rfl hr2 ⟨by rw [← Hx.out,← Hy.out];rfl,hN2⟩
    ·obtain rfl:k=s.size:=by omega
     have hkd:decide ((s.size:Int) < (s.size:Int))=false:=decide_eq_false (by omega)
     have hh:r=s.size:=HB.out s.size (by rw [bl_len];exact Nat.le_refl _) (fun j hj c hc=>by obtain ⟨_,rfl⟩:=get_gb hc;exact hbef.out j hj) (fun c hc=>by obtain ⟨h1,_⟩:=get_gb hc;omega)
     subst hh
     clear hbef hin HB
     go_upto_region 12 with fail
     clear hkd
     have hr:=HR.out
     obtain ⟨x,hx⟩:∃ x,tx ((bl s).take s.size)=x:=⟨_,rfl⟩
     obtain ⟨y,hy⟩:∃ y,tx ((bl s).drop s.size)=y:=⟨_,rfl⟩
     have hr:=HR.out
     obtain ⟨⟨c0,c1,c2,c3⟩,f0,f1,f2,f3⟩:=row_facts hr
     have Hx:=Lib.hid hx
     have Hy:=Lib.hid hy
     have hsh:=run_sl_h s s.size (by omega)
     have hsl:=run_sl_l s s.size (by omega)
     rw [hx] at hsh
     rw [hy] at hsl
     clear hx hy
     go_region
     obtain ⟨hN2,hr2⟩:=set4 hN hBw hr (.int .u8 4) (.int .i64 0) (.string x) (.bool false)
     have hN2:=hN2.drew
     have hr2:((((W.setCell ⟨B,0,none⟩ (.int .u8 4)).setCell ⟨B,1,none⟩ (.int .i64 0)).setCell ⟨B,2,none⟩ (.string x)).setCell ⟨B,3,none⟩ (.bool false)).drew.heap[B]? = some (.cells #[.int .u8 4,.int .i64 0,.string x,.bool false] 23 (0,0)):=hr2
     obtain ⟨W2,hW2⟩:∃ W2,((((W.setCell ⟨B,0,none⟩ (.int .u8 4)).setCell ⟨B,1,none⟩ (.int .i64 0)).setCell ⟨B,2,none⟩ (.string x)).setCell ⟨B,3,none⟩ (.bool false)).drew=W2:=⟨_,rfl⟩
     rw [hW2] at hN2 hr2 ⊢
     go_wp2_with fail
     exact read_end (by kernel_rfl) rfl rfl rfl hr2 ⟨by rw [← Hx.out,← Hy.out];rfl,hN2⟩
  | false =>
   obtain rfl:x42=true:=by simpa using htok
   clear htok
   obtain ⟨k,nn,tt,y,x,ec,hv⟩:=readP_open (some (⟨4,0,(bl s).take r,false⟩,(bl s).drop r))
   refine Calls.mono (R:=fun e w'=>ReadP (some (⟨4,0,(bl s).take r,false⟩,(bl s).drop r)) w e w') ?_ fun e w' h=>h
   clear hv k nn tt y x ec
   go_enter Tryz.func10,Tryz.ntmps10
   go_upto_region 1 with fail
   obtain ⟨W,hW⟩:∃ W,w.alloc (.cells #[.int .u8 0,.int .i64 0,.string ⟨#[]⟩,.bool false] 23)=W:=⟨_,rfl⟩
   rw [hW] at hN hr ⊢
   obtain ⟨B,hB⟩:∃ B,w.heap.size=B:=⟨_,rfl⟩
   have hBw:w.heap.size ≤ B:=by omega
   rw [hB] at hr ⊢
   clear hW hB
   go_upto_region 10 with (first | (go_at_call 58;refine (HD.out _).mono ?_;rintro e w' ⟨rfl,rfl⟩) | (go_at_call 61;refine (HL.out _).mono ?_;rintro e w' ⟨rfl,rfl⟩))
   clear hix0
   have HR:=Lib.hid hr
   go_loop [6] (fun c=>∃ k:Nat,1 ≤ k∧k ≤ s.size∧c = .int .i64 k∧Hid (∀ j,j < k→Bare.inTok (gb s j)=true)) (fun c=>s.size - (intOf c).toNat)
   case atStart=>exact ⟨1,by omega,h1s,rfl,Lib.hid fun j hj=>(by omega:j=0) ▸ hin⟩
   case round =>
    obtain ⟨k,hk1,hk,rfl,hbef⟩:=hrel
    by_cases hlt:k < s.size
    ·have hkd:decide ((k:Int) < (s.size:Int))=true:=decide_eq_true (by omega)
     have hsl:=run_sl_h s (k + 1) (by omega)
     have hsl2:∀ W,(Instr.slice 9 (.string s) none (some (.int .i64 ((k:Int) + 1))) none).run Tryz.prog W = .ok (.string (tx ((bl s).take (k + 1)))) W:=hsl
     have htk:=HTk.out k hk1 hlt hbef.out
     have HT:=Lib.hid (fun W=>(HTr.out (k + 1) W).mono fun e w' h=>show e = .returned (.bool (Bare.inTok (gb s k)))∧W=w' from ⟨by rw [h.1,bl_tx,htk],h.2.symm⟩)
     obtain ⟨q,hq⟩:∃ q,tx ((bl s).take (k + 1))=q:=⟨_,rfl⟩
     rw [hq] at hsl2 HT
     have hnext:Bare.inTok (gb s k)=true→Hid (∀ j,j < k + 1→Bare.inTok (gb s j)=true):=fun hg=>Lib.hid fun i hi=>by
      by_cases hik:i < k
      ·exact hbef.out i hik
      ·obtain rfl:i=k:=by omega
       exact hg
     have hstop:Bare.inTok (gb s k)=false→r=k:=fun hg=>by
      refine HB.out k (by rw [bl_len];exact hk) (fun j hj c hc=>?_) (fun c hc=>?_)
      ·obtain ⟨_,rfl⟩:=get_gb hc
       exact hbef.out j hj
      ·obtain ⟨_,rfl⟩:=get_gb hc
       exact hg
     obtain ⟨b,hb⟩:∃ b,Bare.inTok (gb s k)=b:=⟨_,rfl⟩
     rw [hb] at HT hnext hstop
     clear hsl htk hq hb hbef hin
     cases b with
     | true =>
      have hh:=hnext rfl
      clear hnext hstop
      go_wp2_with (go_at_call 16;refine (HT.out _).mono ?_;rintro e w' ⟨rfl,rfl⟩)
      go_round
      case rel=>exact ⟨k + 1,by omega,by omega,by go_num,hh⟩
      case measure=>simp [intOf];omega
     | false =>
      have hh:=hstop rfl
      clear hnext hstop
      subst hh
      go_upto_region 12 with (go_at_call 16;refine (HT.out _).mono ?_;rintro e w' ⟨rfl,rfl⟩)
      clear hsl2 HT hkd
      have hr:=HR.out
      obtain ⟨x,hx⟩:∃ x,tx ((bl s).take r)=x:=⟨_,rfl⟩
      obtain ⟨y,hy⟩:∃ y,tx ((bl s).drop r)=y:=⟨_,rfl⟩
      have hr:=HR.out
      obtain ⟨⟨c0,c1,c2,c3⟩,f0,f1,f2,f3⟩:=row_facts hr
      have Hx:=Lib.hid hx
      have Hy:=Lib.hid hy
      have hsh:=run_sl_h s r (by omega)
      have hsl:=run_sl_l s r (by omega)
      rw [hx] at hsh
      rw [hy] at hsl
      clear hx hy HB
      go_region
      obtain ⟨hN2,hr2⟩:=set4 hN hBw hr (.int .u8 4) (.int .i64 0) (.string x) (.bool false)
      have hN2:=hN2.drew
      have hr2:((((W.setCell ⟨B,0,none⟩ (.int .u8 4)).setCell ⟨B,1,none⟩ (.int .i64 0)).setCell ⟨B,2,none⟩ (.string x)).setCell ⟨B,3,none⟩ (.bool false)).drew.heap[B]? = some (.cells #[.int .u8 4,.int .i64 0,.string x,.bool false] 23 (0,0)):=hr2
      obtain ⟨W2,hW2⟩:∃ W2,((((W.setCell ⟨B,0,none⟩ (.int .u8 4)).setCell ⟨B,1,none⟩ (.int .i64 0)).setCell ⟨B,2,none⟩ (.string x)).setCell ⟨B,3,none⟩ (.bool false)).drew=W2:=⟨_,rfl⟩
      rw [hW2] at hN2 hr2 ⊢
      go_wp2_with fail
      exact read_end (by kernel_rfl) rfl rfl rfl hr2 ⟨by rw [← Hx.out,← Hy.out];rfl,hN2⟩
    ·obtain rfl:k=s.size:=by omega
     have hkd:decide ((s.size:Int) < (s.size:Int))=false:=decide_eq_false (by omega)
     have hh:r=s.size:=HB.out s.size (by rw [bl_len];exact Nat.le_refl _) (fun j hj c hc=>by obtain ⟨_,rfl⟩:=get_gb hc;exact hbef.out j hj) (fun c hc=>by obtain ⟨h1,_⟩:=get_gb hc;omega)
     subst hh
     clear hbef hin HB
     go_upto_region 12 with fail
     clear hkd
     have hr:=HR.out
     obtain ⟨x,hx⟩:∃ x,tx ((bl s).take s.size)=x:=⟨_,rfl⟩
     obtain ⟨y,hy⟩:∃ y,tx ((bl s).drop s.size)=y:=⟨_,rfl⟩
     have hr:=HR.out
     obtain ⟨⟨c0,c1,c2,c3⟩,f0,f1,f2,f3⟩:=row_facts hr
     have Hx:=Lib.hid hx
     have Hy:=Lib.hid hy
     have hsh:=run_sl_h s s.size (by omega)
     have hsl:=run_sl_l s s.size (by omega)
     rw [hx] at hsh
     rw [hy] at hsl
     clear hx hy
     go_region
     obtain ⟨hN2,hr2⟩:=set4 hN hBw hr (.int .u8 4) (.int .i64 0) (.string x) (.bool false)
     have hN2:=hN2.drew
     have hr2:((((W.setCell ⟨B,0,none⟩ (.int .u8 4)).setCell ⟨B,1,none⟩ (.int .i64 0)).setCell ⟨B,2,none⟩ (.string x)).setCell ⟨B,3,none⟩ (.bool false)).drew.heap[B]? = some (.cells #[.int .u8 4,.int .i64 0,.string x,.bool false] 23 (0,0)):=hr2
     obtain ⟨W2,hW2⟩:∃ W2,((((W.setCell ⟨B,0,none⟩ (.int .u8 4)).setCell ⟨B,1,none⟩ (.int .i64 0)).setCell ⟨B,2,none⟩ (.string x)).setCell ⟨B,3,none⟩ (.bool false)).drew=W2:=⟨_,rfl⟩
     rw [hW2] at hN2 hr2 ⊢
     go_wp2_with fail
     exact read_end (by kernel_rfl) rfl rfl rfl hr2 ⟨by rw [← Hx.out,← Hy.out];rfl,hN2⟩
 rw [if_neg htok,if_neg h34]
 obtain rfl:L=false:=by cases L;rfl;exact absurd rfl htok
 have h42:decide (gb s 0=42)=false:=by simpa using htok
 rw [h42] at t42
 clear htok h42 hL h34
 by_cases h58:gb s 0=58
 ·rw [decide_eq_true h58] at t58
  rw [if_pos h58]
  have HPk:=Lib.hid (fun (k:Nat) (h1:1 ≤ k) (h:k ≤ s.size) hb hss=>packed_at s k (by omega) h1 h hb hss)
  have h1s:1 ≤ s.size:=by omega
  obtain ⟨P,hP⟩:∃ P,Bare.packed ((bl s).drop 1)=P:=⟨_,rfl⟩
  rw [hP] at HPk ⊢
  have HUn:=Lib.hid (fun (k:Nat) (hk:k ≤ s.size) W=>unsix_r (piec s 1 k) W (by rw [piec_size s 1 k hk];omega))
  clear h58 hP h0
  go_enter Tryz.func10,Tryz.ntmps10
  go_upto_region 1 with fail
  obtain ⟨W,hW⟩:∃ W,w.alloc (.cells #[.int .u8 0,.int .i64 0,.string ⟨#[]⟩,.bool false] 23)=W:=⟨_,rfl⟩
  rw [hW] at hN hr ⊢
  obtain ⟨B,hB⟩:∃ B,w.heap.size=B:=⟨_,rfl⟩
  have hBw:w.heap.size ≤ B:=by omega
  rw [hB] at hr ⊢
  clear hW hB
  go_upto_region 15 with (first | (go_at_call 58;refine (HD.out _).mono ?_;rintro e w' ⟨rfl,rfl⟩) | (go_at_call 61;refine (HL.out _).mono ?_;rintro e w' ⟨rfl,rfl⟩))
  clear hix0
  have HR:=Lib.hid hr
  go_loop [7] (fun c=>∃ k:Nat,1 ≤ k∧k ≤ s.size∧c = .int .i64 k∧Hid (∀ j,1 ≤ j→j < k→gb s j ≠ 58)) (fun c=>s.size - (intOf c).toNat)
  case atStart=>exact ⟨1,by omega,h1s,rfl,Lib.hid fun j h1 hj=>by omega⟩
  case round =>
   obtain ⟨k,hk1,hk,rfl,hbef⟩:=hrel
   by_cases hlt:k < s.size
   ·have hkd:decide ((k:Int) < (s.size:Int))=true:=decide_eq_true (by omega)
    have hge:decide ((s.size:Int) ≤ (k:Int))=false:=decide_eq_false (by omega)
    have hix:=run_idx s k hlt
    obtain ⟨m,hm⟩:∃ m,(gb s k).toNat=m:=⟨_,rfl⟩
    have tk:=(byte_test (gb s k) 58 (by decide) m hm).2
    rw [show UInt8.ofNat 58=58 from rfl] at tk
    have tk:((m:Int) != 58) = !decide (gb s k=58):=tk
    rw [hm] at hix
    by_cases hc:gb s k=58
    ·rw [decide_eq_true hc,Bool.not_true] at tk
     have hpk:=HPk.out k hk1 hk hbef.out (fun _=>hc)
     rw [if_neg (by omega)] at hpk
     have HU:=Lib.hid (HUn.out k hk)
     have hsl:∀ W,(Instr.slice 9 (.string s) (some (.int .i64 1)) (some (.int .i64 (k:Int))) none).run Tryz.prog W = .ok (.string (piec s 1 k)) W:=run_sl s 1 k hk1 hk
     obtain ⟨q,hq⟩:∃ q,piec s 1 k=q:=⟨_,rfl⟩
     rw [hq] at hsl HU hpk
     clear hbef hm hc hq
     cases hu:Bare.unsix (bl q) with
     | none =>
      rw [hu] at HU hpk
      subst hpk
      clear hu
      go_wp2_with fail
      refine (HU.out _).mono ?_
      rintro e w5 ⟨rfl,hk5⟩
      unfold unsixV
      simp only
      have hN:=hN.trans hk5
      have hr:=hk5.heap HR.out id
      clear hsl hix tk HU
      go_wp2_with fail
      refine (HNo.out _).mono ?_
      rintro e wn ⟨rfl,hNn⟩
      have hN:=hN.trans hNn
      have hr:=hNn.heap hr id
      obtain ⟨⟨c0,c1,c2,c3⟩,f0,f1,f2,f3⟩:=row_facts hr
      go_wp2_with fail
      obtain ⟨hN2,hr2⟩:=set4 hN hBw hr (.int .u8 0) (.int .i64 0) (.string ⟨#[]⟩) (.bool false)
      obtain ⟨W2,hW2⟩:∃ W2,((((wn.setCell ⟨B,0,none⟩ (.int .u8 0)).setCell ⟨B,1,none⟩ (.int .i64 0)).setCell ⟨B,2,none⟩ (.string ⟨#[]⟩)).setCell ⟨B,3,none⟩ (.bool false))=W2:=⟨_,rfl⟩
      rw [hW2] at hN2 hr2 ⊢
      exact read_end (by kernel_rfl) rfl rfl rfl hr2 ⟨rfl,hN2⟩
     | some t =>
      rw [hu] at HU hpk
      subst hpk
      clear hu
      go_wp2_with fail
      refine (HU.out _).mono ?_
      rintro e w5 ⟨rfl,hk5⟩
      unfold unsixV
      simp only
      have hN:=hN.trans hk5
      have hr:=hk5.heap HR.out id
      clear hsl hix tk HU
      go_upto_region 20 with fail
      obtain ⟨x,hx⟩:∃ x,tx t=x:=⟨_,rfl⟩
      obtain ⟨y,hy⟩:∃ y,tx ((bl s).drop (k + 1))=y:=⟨_,rfl⟩
      obtain ⟨⟨c0,c1,c2,c3⟩,f0,f1,f2,f3⟩:=row_facts hr
      have Hx:=Lib.hid hx
      have Hy:=Lib.hid hy
      have hsl:∀ W,(Instr.slice 9 (.string s) (some (.int .i64 ((k:Int) + 1))) none none).run Tryz.prog W = .ok (.string (tx ((bl s).drop (k + 1)))) W:=run_sl_l s (k + 1) (by omega)
      rw [hy] at hsl
      rw [hx]
      clear hx hy hge
      go_region
      obtain ⟨hN2,hr2⟩:=set4 hN hBw hr (.int .u8 5) (.int .i64 0) (.string x) (.bool false)
      have hN2:=hN2.drew
      have hr2:((((w5.setCell ⟨B,0,none⟩ (.int .u8 5)).setCell ⟨B,1,none⟩ (.int .i64 0)).setCell ⟨B,2,none⟩ (.string x)).setCell ⟨B,3,none⟩ (.bool false)).drew.heap[B]? = some (.cells #[.int .u8 5,.int .i64 0,.string x,.bool false] 23 (0,0)):=hr2
      obtain ⟨W2,hW2⟩:∃ W2,((((w5.setCell ⟨B,0,none⟩ (.int .u8 5)).setCell ⟨B,1,none⟩ (.int .i64 0)).setCell ⟨B,2,none⟩ (.string x)).setCell ⟨B,3,none⟩ (.bool false)).drew=W2:=⟨_,rfl⟩
      rw [hW2] at hN2 hr2 ⊢
      go_wp2_with fail
      exact read_end (by kernel_rfl) rfl rfl rfl hr2 ⟨by rw [← Hx.out,← Hy.out];rfl,hN2⟩
    ·rw [decide_eq_false hc,Bool.not_false] at tk
     have hh:Hid (∀ j,1 ≤ j→j < k + 1→gb s j ≠ 58):=Lib.hid fun i h1 hi=>by
      by_cases hik:i < k
      ·exact hbef.out i h1 hik
      ·obtain rfl:i=k:=by omega
       exact hc
     clear hbef hm hc hge
     go_wp2_with fail
     go_round
     case rel=>exact ⟨k + 1,by omega,by omega,by go_num,hh⟩
     case measure=>simp [intOf];omega
   ·obtain rfl:k=s.size:=by omega
    have hkd:decide ((s.size:Int) < (s.size:Int))=false:=decide_eq_false (by omega)
    have hge:decide ((s.size:Int) ≤ (s.size:Int))=true:=decide_eq_true (by omega)
    have hpk:=HPk.out s.size hk1 hk hbef.out (fun h=>by omega)
    rw [if_pos rfl] at hpk
    subst hpk
    have HU:=Lib.hid (HUn.out s.size hk)
    have hsl:∀ W,(Instr.slice 9 (.string s) (some (.int .i64 1)) (some (.int .i64 (s.size:Int))) none).run Tryz.prog W = .ok (.string (piec s 1 s.size)) W:=run_sl s 1 s.size hk1 hk
    obtain ⟨q,hq⟩:∃ q,piec s 1 s.size=q:=⟨_,rfl⟩
    rw [hq] at hsl HU
    obtain ⟨U,hU⟩:∃ U,Bare.unsix (bl q)=U:=⟨_,rfl⟩
    rw [hU] at HU
    obtain ⟨a,b,hab⟩:∃ a b,unsixV U = .tuple #[.string a,.bool b]:=by cases U <;> exact ⟨_,_,rfl⟩
    rw [hab] at HU
    clear hbef hq hU hab
    go_wp2_with fail
    refine (HU.out _).mono ?_
    rintro e w5 ⟨rfl,hk5⟩
    have hN:=hN.trans hk5
    have hr:=hk5.heap HR.out id
    clear hsl HU
    go_wp2_with fail
    refine (HNo.out _).mono ?_
    rintro e wn ⟨rfl,hNn⟩
    have hN:=hN.trans hNn
    have hr:=hNn.heap hr id
    obtain ⟨⟨c0,c1,c2,c3⟩,f0,f1,f2,f3⟩:=row_facts hr
    go_wp2_with fail
    obtain ⟨hN2,hr2⟩:=set4 hN hBw hr (.int .u8 0) (.int .i64 0) (.string ⟨#[]⟩) (.bool false)
    obtain ⟨W2,hW2⟩:∃ W2,((((wn.setCell ⟨B,0,none⟩ (.int .u8 0)).setCell ⟨B,1,none⟩ (.int .i64 0)).setCell ⟨B,2,none⟩ (.string ⟨#[]⟩)).setCell ⟨B,3,none⟩ (.bool false))=W2:=⟨_,rfl⟩
    rw [hW2] at hN2 hr2 ⊢
    exact read_end (by kernel_rfl) rfl rfl rfl hr2 ⟨rfl,hN2⟩
 rw [decide_eq_false h58] at t58
 rw [if_neg h58]
 by_cases h63:gb s 0=63
 ·rw [decide_eq_true h63] at t63
  rw [if_pos h63]
  clear h63 h58
  by_cases h1:s.size=1
  ·have e:ansR (bl s)=none:=by
    obtain ⟨c,hc⟩:=List.length_eq_one_iff.1 (show (bl s).length=1 by rw [bl_len];exact h1)
    rw [hc];rfl
   rw [e]
   have hd1:decide ((1:Int) < (s.size:Int))=false:=decide_eq_false (by omega)
   clear e h1
   refine Calls.mono (R:=fun e w'=>e = .returned (.tuple #[.agg #[.int .u8 0,.int .i64 0,.string ⟨#[]⟩,.bool false],.string ⟨#[]⟩,.int .i64 120])∧New w w') ?_ fun e w' h=>h
   clear HQuo
   go_enter Tryz.func10,Tryz.ntmps10
   go_upto_region 1 with fail
   obtain ⟨W,hW⟩:∃ W,w.alloc (.cells #[.int .u8 0,.int .i64 0,.string ⟨#[]⟩,.bool false] 23)=W:=⟨_,rfl⟩
   rw [hW] at hN hr ⊢
   obtain ⟨B,hB⟩:∃ B,w.heap.size=B:=⟨_,rfl⟩
   have hBw:w.heap.size ≤ B:=by omega
   rw [hB] at hr ⊢
   clear hW hB
   go_wp2_with (first | (go_at_call 58;refine (HD.out _).mono ?_;rintro e w' ⟨rfl,rfl⟩) | (go_at_call 61;refine (HL.out _).mono ?_;rintro e w' ⟨rfl,rfl⟩))
   refine (HNo.out _).mono ?_
   rintro e wn ⟨rfl,hNn⟩
   have hN:=hN.trans hNn
   have hr:=hNn.heap hr id
   obtain ⟨⟨c0,c1,c2,c3⟩,f0,f1,f2,f3⟩:=row_facts hr
   go_wp2_with fail
   obtain ⟨hN2,hr2⟩:=set4 hN hBw hr (.int .u8 0) (.int .i64 0) (.string ⟨#[]⟩) (.bool false)
   obtain ⟨W2,hW2⟩:∃ W2,((((wn.setCell ⟨B,0,none⟩ (.int .u8 0)).setCell ⟨B,1,none⟩ (.int .i64 0)).setCell ⟨B,2,none⟩ (.string ⟨#[]⟩)).setCell ⟨B,3,none⟩ (.bool false))=W2:=⟨_,rfl⟩
   rw [hW2] at hN2 hr2 ⊢
   exact read_end (by kernel_rfl) rfl rfl rfl hr2 ⟨rfl,hN2⟩
  have hd1:decide ((1:Int) < (s.size:Int))=true:=decide_eq_true (by omega)
  have hix1:∀ W,(Instr.index 9 (.string s) (.int .i64 1)).run Tryz.prog W = .ok (.int .u8 ((gb s 1).toNat:Nat)) W:=run_idx s 1 (by omega)
  have e:ansR (bl s)=if gb s 1=48 ∨ gb s 1=49 then some (⟨6,0,[],gb s 1 == 49⟩,(bl s).drop 2) else none:=by
   have e1:=first_drop s (by omega)
   rw [drop_one s 1 (by omega)] at e1
   conv=>lhs;rw [e1]
   rfl
  rw [e]
  obtain ⟨m,hm⟩:∃ m,(gb s 1).toNat=m:=⟨_,rfl⟩
  have m48:=(byte_test (gb s 1) 48 (by decide) m hm).1
  rw [show UInt8.ofNat 48=48 from rfl] at m48
  have m48:((m:Int) == 48)=decide (gb s 1=48):=m48
  have m49:=(byte_test (gb s 1) 49 (by decide) m hm).1
  rw [show UInt8.ofNat 49=49 from rfl] at m49
  have m49:((m:Int) == 49)=decide (gb s 1=49):=m49
  rw [hm] at hix1
  have hsl2:∀ W,(Instr.slice 9 (.string s) (some (.int .i64 2)) none none).run Tryz.prog W = .ok (.string (tx ((bl s).drop 2))) W:=run_sl_l s 2 (by omega)
  by_cases g48:gb s 1=48
  ·rw [decide_eq_true g48] at m48
   rw [decide_eq_false (show ¬ gb s 1=49 by rw [g48];decide)] at m49
   rw [if_pos (.inl g48),show (gb s 1 == 49)=false by rw [g48];decide]
   clear g48 hm e h1
   go_enter Tryz.func10,Tryz.ntmps10
   go_upto_region 1 with fail
   obtain ⟨W,hW⟩:∃ W,w.alloc (.cells #[.int .u8 0,.int .i64 0,.string ⟨#[]⟩,.bool false] 23)=W:=⟨_,rfl⟩
   rw [hW] at hN hr ⊢
   obtain ⟨B,hB⟩:∃ B,w.heap.size=B:=⟨_,rfl⟩
   have hBw:w.heap.size ≤ B:=by omega
   rw [hB] at hr ⊢
   clear hW hB
   go_upto_region 22 with (first | (go_at_call 58;refine (HD.out _).mono ?_;rintro e w' ⟨rfl,rfl⟩) | (go_at_call 61;refine (HL.out _).mono ?_;rintro e w' ⟨rfl,rfl⟩))
   obtain ⟨y,hy⟩:∃ y,tx ((bl s).drop 2)=y:=⟨_,rfl⟩
   obtain ⟨⟨c0,c1,c2,c3⟩,f0,f1,f2,f3⟩:=row_facts hr
   have Hy:=Lib.hid hy
   rw [hy] at hsl2
   clear hy
   go_region
   obtain ⟨hN2,hr2⟩:=set4 hN hBw hr (.int .u8 6) (.int .i64 0) (.string ⟨#[]⟩) (.bool false)
   have hN2:=hN2.drew
   have hr2:((((W.setCell ⟨B,0,none⟩ (.int .u8 6)).setCell ⟨B,1,none⟩ (.int .i64 0)).setCell ⟨B,2,none⟩ (.string ⟨#[]⟩)).setCell ⟨B,3,none⟩ (.bool false)).drew.heap[B]? = some (.cells #[.int .u8 6,.int .i64 0,.string ⟨#[]⟩,.bool false] 23 (0,0)):=hr2
   obtain ⟨W2,hW2⟩:∃ W2,((((W.setCell ⟨B,0,none⟩ (.int .u8 6)).setCell ⟨B,1,none⟩ (.int .i64 0)).setCell ⟨B,2,none⟩ (.string ⟨#[]⟩)).setCell ⟨B,3,none⟩ (.bool false)).drew=W2:=⟨_,rfl⟩
   rw [hW2] at hN2 hr2 ⊢
   go_wp2_with fail
   exact read_end (by kernel_rfl) rfl rfl rfl hr2 ⟨by rw [← Hy.out];rfl,hN2⟩
  ·rw [decide_eq_false g48] at m48
   by_cases g49:gb s 1=49
   ·rw [decide_eq_true g49] at m49
    rw [if_pos (.inr g49),show (gb s 1 == 49)=true by rw [g49];decide]
    clear g48 g49 hm e h1
    go_enter Tryz.func10,Tryz.ntmps10
    go_upto_region 1 with fail
    obtain ⟨W,hW⟩:∃ W,w.alloc (.cells #[.int .u8 0,.int .i64 0,.string ⟨#[]⟩,.bool false] 23)=W:=⟨_,rfl⟩
    rw [hW] at hN hr ⊢
    obtain ⟨B,hB⟩:∃ B,w.heap.size=B:=⟨_,rfl⟩
    have hBw:w.heap.size ≤ B:=by omega
    rw [hB] at hr ⊢
    clear hW hB
    go_upto_region 22 with (first | (go_at_call 58;refine (HD.out _).mono ?_;rintro e w' ⟨rfl,rfl⟩) | (go_at_call 61;refine (HL.out _).mono ?_;rintro e w' ⟨rfl,rfl⟩))
    obtain ⟨y,hy⟩:∃ y,tx ((bl s).drop 2)=y:=⟨_,rfl⟩
    obtain ⟨⟨c0,c1,c2,c3⟩,f0,f1,f2,f3⟩:=row_facts hr
    have Hy:=Lib.hid hy
    rw [hy] at hsl2
    clear hy
    go_region
    obtain ⟨hN2,hr2⟩:=set4 hN hBw hr (.int .u8 6) (.int .i64 0) (.string ⟨#[]⟩) (.bool true)
    have hN2:=hN2.drew
    have hr2:((((W.setCell ⟨B,0,none⟩ (.int .u8 6)).setCell ⟨B,1,none⟩ (.int .i64 0)).setCell ⟨B,2,none⟩ (.string ⟨#[]⟩)).setCell ⟨B,3,none⟩ (.bool true)).drew.heap[B]? = some (.cells #[.int .u8 6,.int .i64 0,.string ⟨#[]⟩,.bool true] 23 (0,0)):=hr2
    obtain ⟨W2,hW2⟩:∃ W2,((((W.setCell ⟨B,0,none⟩ (.int .u8 6)).setCell ⟨B,1,none⟩ (.int .i64 0)).setCell ⟨B,2,none⟩ (.string ⟨#[]⟩)).setCell ⟨B,3,none⟩ (.bool true)).drew=W2:=⟨_,rfl⟩
    rw [hW2] at hN2 hr2 ⊢
    go_wp2_with fail
    exact read_end (by kernel_rfl) rfl rfl rfl hr2 ⟨by rw [← Hy.out];rfl,hN2⟩
   ·rw [decide_eq_false g49] at m49
    rw [if_neg (by rintro (h | h);exact g48 h;exact g49 h)]
    clear g48 g49 hm e h1
    refine Calls.mono (R:=fun e w'=>e = .returned (.tuple #[.agg #[.int .u8 0,.int .i64 0,.string ⟨#[]⟩,.bool false],.string ⟨#[]⟩,.int .i64 120])∧New w w') ?_ fun e w' h=>h
    clear HQuo
    go_enter Tryz.func10,Tryz.ntmps10
    go_upto_region 1 with fail
    obtain ⟨W,hW⟩:∃ W,w.alloc (.cells #[.int .u8 0,.int .i64 0,.string ⟨#[]⟩,.bool false] 23)=W:=⟨_,rfl⟩
    rw [hW] at hN hr ⊢
    obtain ⟨B,hB⟩:∃ B,w.heap.size=B:=⟨_,rfl⟩
    have hBw:w.heap.size ≤ B:=by omega
    rw [hB] at hr ⊢
    clear hW hB
    go_wp2_with (first | (go_at_call 58;refine (HD.out _).mono ?_;rintro e w' ⟨rfl,rfl⟩) | (go_at_call 61;refine (HL.out _).mono ?_;rintro e w' ⟨rfl,rfl⟩))
    refine (HNo.out _).mono ?_
    rintro e wn ⟨rfl,hNn⟩
    have hN:=hN.trans hNn
    have hr:=hNn.heap hr id
    obtain ⟨⟨c0,c1,c2,c3⟩,f0,f1,f2,f3⟩:=row_facts hr
    go_wp2_with fail
    obtain ⟨hN2,hr2⟩:=set4 hN hBw hr (.int .u8 0) (.int .i64 0) (.string ⟨#[]⟩) (.bool false)
    obtain ⟨W2,hW2⟩:∃ W2,((((wn.setCell ⟨B,0,none⟩ (.int .u8 0)).setCell ⟨B,1,none⟩ (.int .i64 0)).setCell ⟨B,2,none⟩ (.string ⟨#[]⟩)).setCell ⟨B,3,none⟩ (.bool false))=W2:=⟨_,rfl⟩
    rw [hW2] at hN2 hr2 ⊢
    exact read_end (by kernel_rfl) rfl rfl rfl hr2 ⟨rfl,hN2⟩
 rw [decide_eq_false h63] at t63
 rw [if_neg h63]
 clear h63 h58
 refine Calls.mono (R:=fun e w'=>e = .returned (.tuple #[.agg #[.int .u8 0,.int .i64 0,.string ⟨#[]⟩,.bool false],.string ⟨#[]⟩,.int .i64 120])∧New w w') ?_ fun e w' h=>h
 clear HQuo
 go_enter Tryz.func10,Tryz.ntmps10
 go_upto_region 1 with fail
 obtain ⟨W,hW⟩:∃ W,w.alloc (.cells #[.int .u8 0,.int .i64 0,.string ⟨#[]⟩,.bool false] 23)=W:=⟨_,rfl⟩
 rw [hW] at hN hr ⊢
 obtain ⟨B,hB⟩:∃ B,w.heap.size=B:=⟨_,rfl⟩
 have hBw:w.heap.size ≤ B:=by omega
 rw [hB] at hr ⊢
 clear hW hB
 go_wp2_with (first | (go_at_call 58;refine (HD.out _).mono ?_;rintro e w' ⟨rfl,rfl⟩) | (go_at_call 61;refine (HL.out _).mono ?_;rintro e w' ⟨rfl,rfl⟩))
 refine (HNo.out _).mono ?_
 rintro e wn ⟨rfl,hNn⟩
 have hN:=hN.trans hNn
 have hr:=hNn.heap hr id
 obtain ⟨⟨c0,c1,c2,c3⟩,f0,f1,f2,f3⟩:=row_facts hr
 go_wp2_with fail
 obtain ⟨hN2,hr2⟩:=set4 hN hBw hr (.int .u8 0) (.int .i64 0) (.string ⟨#[]⟩) (.bool false)
 obtain ⟨W2,hW2⟩:∃ W2,((((wn.setCell ⟨B,0,none⟩ (.int .u8 0)).setCell ⟨B,1,none⟩ (.int .i64 0)).setCell ⟨B,2,none⟩ (.string ⟨#[]⟩)).setCell ⟨B,3,none⟩ (.bool false))=W2:=⟨_,rfl⟩
 rw [hW2] at hN2 hr2 ⊢
 exact read_end (by kernel_rfl) rfl rfl rfl hr2 ⟨rfl,hN2⟩
end Go.Proofs.YtnknmmbnhoanfaaGreatDoor
