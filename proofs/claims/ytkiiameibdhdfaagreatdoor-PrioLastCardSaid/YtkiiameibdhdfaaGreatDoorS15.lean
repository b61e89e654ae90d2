/- Texts joined. -/
import Derived.Test.YtkiiameibdhdfaaGreatDoorS14
import Derived.Test.YtkiiameibdhdfaaGreatDoorS04
import Derived.Test.YtkiiameibdhdfaaGreatDoorS02
import Derived.Test.YtkiiameibdhdfaaGreatDoorS06
import Derived.Test.YtkiiameibdhdfaaGreatDoorS03
set_option linter.unusedSimpArgs false
set_option linter.unusedVariables false
set_option maxHeartbeats 16000000
set_option maxRecDepth 100000
namespace Go.Proofs.YtkiiameibdhdfaaGreatDoor
open Go.RowKit Go.Shelf Go.Cs
attribute [local go_sem] Oper.semAt_some


theorem number_pos_r (s:ByteArray) (w:World) (hs:s.size ≤ 1000000) (h0:0 < s.size) (hng:gb s 0 ≠ 45) :
  Calls Tryz.prog 185 #[.string s] w (ReadP (Bare.number (bl s)) w):=by
 have hc45:decide (gb s 0=45)=false:=decide_eq_false hng
 rw [u8_eq] at hc45
 have hix0:∀ W,(Instr.index 9 (.string s) (.int .i64 0)).run Tryz.prog W = .ok (.int .u8 ((gb s 0).toNat:Nat)) W:=run_idx s 0 (by omega)
 have e0:Bare.number (bl s)=numR 1 (bl s):=by
  have hh:(bl s).head? = some (gb s 0):=by have:=head_drop s 0 h0;rwa [List.drop_zero] at this
  rw [number_numR,hh]
  simp [hng]
 rw [e0]
 clear e0
 obtain ⟨c,hc⟩:∃ c,(gb s 0).toNat=c:=⟨_,rfl⟩
 rw [hc] at hc45 hix0
 have hceq:((c:Int) == 45)=false:=hc45
 clear hc hc45 hng
 have HNo:=Lib.hid (fun W=>none_r W)
 unfold ReadP bv bcs noIt at HNo
 simp only at HNo
 have HR:=Lib.hid (fun W=>(run_r s W (by omega)).mono fun e w' h=>show e = _∧W=w' from ⟨h.1,h.2.symm⟩)
 have hle:=Bare.takeWhile_len Bare.digB (bl s)
 have htk:=Bare.takeWhile_take Bare.digB (bl s)
 have hdg:=digs_take (bl s)
 unfold numR
 simp only
 obtain ⟨d,hd⟩:∃ d,(bl s).takeWhile Bare.digB=d:=⟨_,rfl⟩
 rw [hd] at HR hle htk hdg ⊢
 obtain ⟨n,hn⟩:∃ n,d.length=n:=⟨_,rfl⟩
 rw [hn] at HR hle htk ⊢
 rw [bl_len] at hle
 clear hd
 obtain ⟨hN,hr⟩:=no_row w
 by_cases h1:n < 1
 ·have d1:decide ((n:Int)=0)=true:=decide_eq_true (by omega)
  have d1':((n:Int) == 0)=true:=d1
  rw [if_pos (.inl h1)]
  unfold ReadP bv bcs noIt
  simp only
  clear htk h1 hn hle
  go_enter Tryz.func185,Tryz.ntmps185
  go_upto_region 1 with fail
  obtain ⟨W,hW⟩:∃ W,w.alloc (.cells #[.int .u8 0,.int .i64 0,.string ⟨#[]⟩,.bool false] 66)=W:=⟨_,rfl⟩
  rw [hW] at hN hr ⊢
  obtain ⟨B,hB⟩:∃ B,w.heap.size=B:=⟨_,rfl⟩
  have hBw:w.heap.size ≤ B:=by omega
  rw [hB] at hr ⊢
  clear hW hB
  obtain ⟨⟨c0,c1,c2,c3⟩,f0,f1,f2,f3⟩:=row_facts hr
  go_wp2_with (go_at_call 200;refine (HR.out _).mono ?_;rintro e w' ⟨rfl,rfl⟩)
  refine (HNo.out _).mono ?_
  rintro e wn ⟨rfl,hNn⟩
  have hN:=hN.trans hNn
  have hr:=hNn.heap hr id
  clear c0 c1 c2 c3 f0 f1 f2 f3 hNn
  obtain ⟨⟨c0,c1,c2,c3⟩,f0,f1,f2,f3⟩:=row_facts hr
  go_wp2_with fail
  obtain ⟨hN2,hr2⟩:=set4 hN hBw hr (.int .u8 0) (.int .i64 0) (.string ⟨#[]⟩) (.bool false)
  obtain ⟨W2,hW2⟩:∃ W2,((((wn.setCell ⟨B,0,none⟩ (.int .u8 0)).setCell ⟨B,1,none⟩ (.int .i64 0)).setCell ⟨B,2,none⟩ (.string ⟨#[]⟩)).setCell ⟨B,3,none⟩ (.bool false))=W2:=⟨_,rfl⟩
  rw [hW2] at hN2 hr2 ⊢
  exact read_end (by kernel_rfl) rfl rfl rfl hr2 ⟨rfl,hN2⟩
 have d1:decide ((n:Int)=0)=false:=decide_eq_false (by omega)
 have d1':((n:Int) == 0)=false:=d1
 by_cases h15:15 < n
 ·have d2:decide (15 < (n:Int))=true:=decide_eq_true (by omega)
  rw [if_pos (.inr h15)]
  unfold ReadP bv bcs noIt
  simp only
  clear htk h1 hn hle
  go_enter Tryz.func185,Tryz.ntmps185
  go_upto_region 1 with fail
  obtain ⟨W,hW⟩:∃ W,w.alloc (.cells #[.int .u8 0,.int .i64 0,.string ⟨#[]⟩,.bool false] 66)=W:=⟨_,rfl⟩
  rw [hW] at hN hr ⊢
  obtain ⟨B,hB⟩:∃ B,w.heap.size=B:=⟨_,rfl⟩
  have hBw:w.heap.size ≤ B:=by omega
  rw [hB] at hr ⊢
  clear hW hB
  obtain ⟨⟨c0,c1,c2,c3⟩,f0,f1,f2,f3⟩:=row_facts hr
  go_wp2_with (go_at_call 200;refine (HR.out _).mono ?_;rintro e w' ⟨rfl,rfl⟩)
  refine (HNo.out _).mono ?_
  rintro e wn ⟨rfl,hNn⟩
  have hN:=hN.trans hNn
  have hr:=hNn.heap hr id
  clear c0 c1 c2 c3 f0 f1 f2 f3 hNn
  obtain ⟨⟨c0,c1,c2,c3⟩,f0,f1,f2,f3⟩:=row_facts hr
  go_wp2_with fail
  obtain ⟨hN2,hr2⟩:=set4 hN hBw hr (.int .u8 0) (.int .i64 0) (.string ⟨#[]⟩) (.bool false)
  obtain ⟨W2,hW2⟩:∃ W2,((((wn.setCell ⟨B,0,none⟩ (.int .u8 0)).setCell ⟨B,1,none⟩ (.int .i64 0)).setCell ⟨B,2,none⟩ (.string ⟨#[]⟩)).setCell ⟨B,3,none⟩ (.bool false))=W2:=⟨_,rfl⟩
  rw [hW2] at hN2 hr2 ⊢
  exact read_end (by kernel_rfl) rfl rfl rfl hr2 ⟨rfl,hN2⟩
 have d2:decide (15 < (n:Int))=false:=decide_eq_false (by omega)
 rw [if_neg (by omega)]
 have HA:=Lib.hid (fun W=>(value_r (tx d) W (by rw [tx_size];omega) (by rw [bl_tx];exact hdg)).mono fun e w' h=>show e = _∧W=w' from ⟨h.1,h.2.symm⟩)
 rw [bl_tx] at HA
 have hsh:=run_sl_h s n hle
 have hvl:=val_lt hdg 15 (by omega)
 have hvl12:=fun h=>val_lt hdg 12 h
 rw [htk] at hsh
 have hsl:=run_sl_l s n hle
 obtain ⟨v,hv⟩:∃ v,Bare.valD d=v:=⟨_,rfl⟩
 rw [hv] at HA hvl hvl12 ⊢
 obtain ⟨dx,hdx⟩:∃ dx,tx d=dx:=⟨_,rfl⟩
 rw [hdx] at HA hsh
 rw [hn] at hvl12
 clear hv hdx htk hdg hn
 simp at hvl
 have hgv:1 * (v:Int)=(v:Int):=by omega
 by_cases hend:n=s.size
 ·have d3:decide ((n:Int)=(s.size:Int))=true:=decide_eq_true (by omega)
  have d3':((n:Int) == (s.size:Int))=true:=d3
  have hhd:((bl s).drop n).head? ≠ some 46:=by rw [hend,head_end];simp
  rw [if_pos hhd]
  obtain ⟨x,hx⟩:∃ x,tx ((bl s).drop n)=x:=⟨_,rfl⟩
  rw [hx] at hsl
  rw [hgv]
  clear hend
  unfold ReadP bv bcs noIt
  simp only
  rw [hx]
  clear hhd hx h1 h15 hle hvl12
  go_enter Tryz.func185,Tryz.ntmps185
  go_upto_region 1 with fail
  obtain ⟨W,hW⟩:∃ W,w.alloc (.cells #[.int .u8 0,.int .i64 0,.string ⟨#[]⟩,.bool false] 66)=W:=⟨_,rfl⟩
  rw [hW] at hN hr ⊢
  obtain ⟨B,hB⟩:∃ B,w.heap.size=B:=⟨_,rfl⟩
  have hBw:w.heap.size ≤ B:=by omega
  rw [hB] at hr ⊢
  clear hW hB
  obtain ⟨⟨c0,c1,c2,c3⟩,f0,f1,f2,f3⟩:=row_facts hr
  go_upto_region 9 with (go_at_call 200;refine (HR.out _).mono ?_;rintro e w' ⟨rfl,rfl⟩)
  go_region_with (go_at_call 201;refine (HA.out _).mono ?_;rintro e w' ⟨rfl,rfl⟩)
  have hwr:IntKind.i64.wrap (v:Int)=(v:Int):=by rw [IntKind.wrap_i64];omega
  rw [hwr]
  obtain ⟨hN2,hr2⟩:=set4 hN hBw hr (.int .u8 1) (.int .i64 (v:Int)) (.string ⟨#[]⟩) (.bool false)
  have hN2:=hN2.drew
  have hr2:((((W.setCell ⟨B,0,none⟩ (.int .u8 1)).setCell ⟨B,1,none⟩ (.int .i64 (v:Int))).setCell ⟨B,2,none⟩ (.string ⟨#[]⟩)).setCell ⟨B,3,none⟩ (.bool false)).drew.heap[B]? = some (.cells #[(.int .u8 1),(.int .i64 (v:Int)),(.string ⟨#[]⟩),(.bool false)] 66 (0,0)):=hr2
  obtain ⟨W2,hW2⟩:∃ W2,((((W.setCell ⟨B,0,none⟩ (.int .u8 1)).setCell ⟨B,1,none⟩ (.int .i64 (v:Int))).setCell ⟨B,2,none⟩ (.string ⟨#[]⟩)).setCell ⟨B,3,none⟩ (.bool false)).drew=W2:=⟨_,rfl⟩
  rw [hW2] at hN2 hr2 ⊢
  go_wp2_with fail
  exact read_end (by kernel_rfl) rfl rfl rfl hr2 ⟨rfl,hN2⟩
 have hlt:n < s.size:=by omega
 have d3:decide ((n:Int)=(s.size:Int))=false:=decide_eq_false (by omega)
 have d3':((n:Int) == (s.size:Int))=false:=d3
 have hixn:=run_idx s n hlt
 have hhn:=head_drop s n hlt
 have hq46:=u8_eq (gb s n) 46
 by_cases hq:gb s n=46
 case neg =>
  rw [decide_eq_false hq] at hq46
  have hhd:((bl s).drop n).head? ≠ some 46:=by rw [hhn];simpa using hq
  rw [if_pos hhd]
  obtain ⟨x,hx⟩:∃ x,tx ((bl s).drop n)=x:=⟨_,rfl⟩
  rw [hx] at hsl
  obtain ⟨q,hqn⟩:∃ q,(gb s n).toNat=q:=⟨_,rfl⟩
  rw [hqn] at hixn hq46
  have hq1:((q:Int) == 46)=false:=hq46.symm
  have hq2:((q:Int) != 46)=true:=by simp [bne,hq1]
  clear hq hqn hq46 hhd hhn hend hlt
  rw [hgv]
  unfold ReadP bv bcs noIt
  simp only
  rw [hx]
  clear hx h1 h15 hle hvl12
  go_enter Tryz.func185,Tryz.ntmps185
  go_upto_region 1 with fail
  obtain ⟨W,hW⟩:∃ W,w.alloc (.cells #[.int .u8 0,.int .i64 0,.string ⟨#[]⟩,.bool false] 66)=W:=⟨_,rfl⟩
  rw [hW] at hN hr ⊢
  obtain ⟨B,hB⟩:∃ B,w.heap.size=B:=⟨_,rfl⟩
  have hBw:w.heap.size ≤ B:=by omega
  rw [hB] at hr ⊢
  clear hW hB
  obtain ⟨⟨c0,c1,c2,c3⟩,f0,f1,f2,f3⟩:=row_facts hr
  go_upto_region 9 with (go_at_call 200;refine (HR.out _).mono ?_;rintro e w' ⟨rfl,rfl⟩)
  go_region_with (go_at_call 201;refine (HA.out _).mono ?_;rintro e w' ⟨rfl,rfl⟩)
  have hwr:IntKind.i64.wrap (v:Int)=(v:Int):=by rw [IntKind.wrap_i64];omega
  rw [hwr]
  obtain ⟨hN2,hr2⟩:=set4 hN hBw hr (.int .u8 1) (.int .i64 (v:Int)) (.string ⟨#[]⟩) (.bool false)
  have hN2:=hN2.drew
  have hr2:((((W.setCell ⟨B,0,none⟩ (.int .u8 1)).setCell ⟨B,1,none⟩ (.int .i64 (v:Int))).setCell ⟨B,2,none⟩ (.string ⟨#[]⟩)).setCell ⟨B,3,none⟩ (.bool false)).drew.heap[B]? = some (.cells #[(.int .u8 1),(.int .i64 (v:Int)),(.string ⟨#[]⟩),(.bool false)] 66 (0,0)):=hr2
  obtain ⟨W2,hW2⟩:∃ W2,((((W.setCell ⟨B,0,none⟩ (.int .u8 1)).setCell ⟨B,1,none⟩ (.int .i64 (v:Int))).setCell ⟨B,2,none⟩ (.string ⟨#[]⟩)).setCell ⟨B,3,none⟩ (.bool false)).drew=W2:=⟨_,rfl⟩
  rw [hW2] at hN2 hr2 ⊢
  go_wp2_with fail
  exact read_end (by kernel_rfl) rfl rfl rfl hr2 ⟨rfl,hN2⟩
 case pos =>
  rw [decide_eq_true hq] at hq46
  have hhd:¬ ((bl s).drop n).head? ≠ some 46:=by rw [hhn,hq];simp
  rw [if_neg hhd]
  obtain ⟨q,hqn⟩:∃ q,(gb s n).toNat=q:=⟨_,rfl⟩
  rw [hqn] at hixn hq46
  have hq1:((q:Int) == 46)=true:=hq46.symm
  have hq2:((q:Int) != 46)=false:=by simp [bne,hq1]
  have hnb:(n:Int) ≤ 1000000:=by omega
  clear hq hqn hq46 hhd hhn hend hgv
  have hsl1:∀ W,(Instr.slice 9 (.string s) (some (.int .i64 ((n:Int) + 1))) none none).run Tryz.prog W = .ok (.string (tx ((bl s).drop (n + 1)))) W:=fun W=>run_sl_l s (n + 1) (by omega) W
  obtain ⟨U,hU⟩:∃ U,tx ((bl s).drop (n + 1))=U:=⟨_,rfl⟩
  have hUl:((bl s).drop n).drop 1=bl U:=by rw [← hU,List.drop_drop]
  have hUs:U.size=s.size - (n + 1):=by rw [← hU,tx_size,List.length_drop,bl_len]
  have hdd:∀ k,((bl s).drop n).drop (1 + k)=(bl s).drop (n + 1 + k):=fun k=>by rw [List.drop_drop];congr 1;omega
  have hpc:∀ k,piec s (n + 1) (n + 1 + k)=tx ((bl U).take k):=fun k=>by unfold piec;rw [← hU,Nat.add_sub_cancel_left]
  rw [hU] at hsl1
  rw [hUl]
  have HU:=Lib.hid (fun W=>(run_r U W (by omega)).mono fun e w' h=>show e = _∧W=w' from ⟨h.1,h.2.symm⟩)
  have hek:=Bare.takeWhile_len Bare.digB (bl U)
  have het:=Bare.takeWhile_take Bare.digB (bl U)
  have hed:=digs_take (bl U)
  obtain ⟨e,he⟩:∃ e,(bl U).takeWhile Bare.digB=e:=⟨_,rfl⟩
  rw [he] at HU hek het hed ⊢
  obtain ⟨k,hk⟩:∃ k,e.length=k:=⟨_,rfl⟩
  rw [hk] at HU hek het ⊢
  rw [bl_len,hUs] at hek
  rw [hdd]
  have hkb:(k:Int) ≤ 1000000:=by omega
  clear he hU hUl hdd
  by_cases hn12:12 < n
  ·have d4:decide (12 < (n:Int))=true:=decide_eq_true (by omega)
   rw [if_pos (.inl hn12)]
   unfold ReadP bv bcs noIt
   simp only
   clear hn12 h1 h15 hle hed het hpc hek hUs hlt hk hvl12
   go_enter Tryz.func185,Tryz.ntmps185
   go_upto_region 1 with fail
   obtain ⟨W,hW⟩:∃ W,w.alloc (.cells #[.int .u8 0,.int .i64 0,.string ⟨#[]⟩,.bool false] 66)=W:=⟨_,rfl⟩
   rw [hW] at hN hr ⊢
   obtain ⟨B,hB⟩:∃ B,w.heap.size=B:=⟨_,rfl⟩
   have hBw:w.heap.size ≤ B:=by omega
   rw [hB] at hr ⊢
   clear hW hB
   obtain ⟨⟨c0,c1,c2,c3⟩,f0,f1,f2,f3⟩:=row_facts hr
   go_wp2_with (first | (go_at_call 200;with_reducible refine (HR.out _).mono ?_;rintro e w' ⟨rfl,rfl⟩) | (go_at_call 200;refine (HU.out _).mono ?_;rintro e w' ⟨rfl,rfl⟩))
   refine (HNo.out _).mono ?_
   rintro e wn ⟨rfl,hNn⟩
   have hN:=hN.trans hNn
   have hr:=hNn.heap hr id
   clear c0 c1 c2 c3 f0 f1 f2 f3 hNn
   obtain ⟨⟨c0,c1,c2,c3⟩,f0,f1,f2,f3⟩:=row_facts hr
   go_wp2_with fail
   obtain ⟨hN2,hr2⟩:=set4 hN hBw hr (.int .u8 0) (.int .i64 0) (.string ⟨#[]⟩) (.bool false)
   obtain ⟨W2,hW2⟩:∃ W2,((((wn.setCell ⟨B,0,none⟩ (.int .u8 0)).setCell ⟨B,1,none⟩ (.int .i64 0)).setCell ⟨B,2,none⟩ (.string ⟨#[]⟩)).setCell ⟨B,3,none⟩ (.bool false))=W2:=⟨_,rfl⟩
   rw [hW2] at hN2 hr2 ⊢
   exact read_end (by kernel_rfl) rfl rfl rfl hr2 ⟨rfl,hN2⟩
  have d4:decide (12 < (n:Int))=false:=decide_eq_false (by omega)
  by_cases hk1:k < 1
  ·have d5:decide ((k:Int) < 1)=true:=decide_eq_true (by omega)
   rw [if_pos (.inr (.inl hk1))]
   unfold ReadP bv bcs noIt
   simp only
   clear hn12 h1 h15 hle hed het hpc hek hUs hlt hk hvl12 hk1
   go_enter Tryz.func185,Tryz.ntmps185
   go_upto_region 1 with fail
   obtain ⟨W,hW⟩:∃ W,w.alloc (.cells #[.int .u8 0,.int .i64 0,.string ⟨#[]⟩,.bool false] 66)=W:=⟨_,rfl⟩
   rw [hW] at hN hr ⊢
   obtain ⟨B,hB⟩:∃ B,w.heap.size=B:=⟨_,rfl⟩
   have hBw:w.heap.size ≤ B:=by omega
   rw [hB] at hr ⊢
   clear hW hB
   obtain ⟨⟨c0,c1,c2,c3⟩,f0,f1,f2,f3⟩:=row_facts hr
   go_wp2_with (first | (go_at_call 200;with_reducible refine (HR.out _).mono ?_;rintro e w' ⟨rfl,rfl⟩) | (go_at_call 200;refine (HU.out _).mono ?_;rintro e w' ⟨rfl,rfl⟩))
   refine (HNo.out _).mono ?_
   rintro e wn ⟨rfl,hNn⟩
   have hN:=hN.trans hNn
   have hr:=hNn.heap hr id
   clear c0 c1 c2 c3 f0 f1 f2 f3 hNn
   obtain ⟨⟨c0,c1,c2,c3⟩,f0,f1,f2,f3⟩:=row_facts hr
   go_wp2_with fail
   obtain ⟨hN2,hr2⟩:=set4 hN hBw hr (.int .u8 0) (.int .i64 0) (.string ⟨#[]⟩) (.bool false)
   obtain ⟨W2,hW2⟩:∃ W2,((((wn.setCell ⟨B,0,none⟩ (.int .u8 0)).setCell ⟨B,1,none⟩ (.int .i64 0)).setCell ⟨B,2,none⟩ (.string ⟨#[]⟩)).setCell ⟨B,3,none⟩ (.bool false))=W2:=⟨_,rfl⟩
   rw [hW2] at hN2 hr2 ⊢
   exact read_end (by kernel_rfl) rfl rfl rfl hr2 ⟨rfl,hN2⟩
  have d5:decide ((k:Int) < 1)=false:=decide_eq_false (by omega)
  by_cases hk3:3 < k
  ·have d6:decide (3 < (k:Int))=true:=decide_eq_true (by omega)
   rw [if_pos (.inr (.inr hk3))]
   unfold ReadP bv bcs noIt
   simp only
   clear hn12 h1 h15 hle hed het hpc hek hUs hlt hk hvl12 hk1 hk3
   go_enter Tryz.func185,Tryz.ntmps185
   go_upto_region 1 with fail
   obtain ⟨W,hW⟩:∃ W,w.alloc (.cells #[.int .u8 0,.int .i64 0,.string ⟨#[]⟩,.bool false] 66)=W:=⟨_,rfl⟩
   rw [hW] at hN hr ⊢
   obtain ⟨B,hB⟩:∃ B,w.heap.size=B:=⟨_,rfl⟩
   have hBw:w.heap.size ≤ B:=by omega
   rw [hB] at hr ⊢
   clear hW hB
   obtain ⟨⟨c0,c1,c2,c3⟩,f0,f1,f2,f3⟩:=row_facts hr
   go_wp2_with (first | (go_at_call 200;with_reducible refine (HR.out _).mono ?_;rintro e w' ⟨rfl,rfl⟩) | (go_at_call 200;refine (HU.out _).mono ?_;rintro e w' ⟨rfl,rfl⟩))
   refine (HNo.out _).mono ?_
   rintro e wn ⟨rfl,hNn⟩
   have hN:=hN.trans hNn
   have hr:=hNn.heap hr id
   clear c0 c1 c2 c3 f0 f1 f2 f3 hNn
   obtain ⟨⟨c0,c1,c2,c3⟩,f0,f1,f2,f3⟩:=row_facts hr
   go_wp2_with fail
   obtain ⟨hN2,hr2⟩:=set4 hN hBw hr (.int .u8 0) (.int .i64 0) (.string ⟨#[]⟩) (.bool false)
   obtain ⟨W2,hW2⟩:∃ W2,((((wn.setCell ⟨B,0,none⟩ (.int .u8 0)).setCell ⟨B,1,none⟩ (.int .i64 0)).setCell ⟨B,2,none⟩ (.string ⟨#[]⟩)).setCell ⟨B,3,none⟩ (.bool false))=W2:=⟨_,rfl⟩
   rw [hW2] at hN2 hr2 ⊢
   exact read_end (by kernel_rfl) rfl rfl rfl hr2 ⟨rfl,hN2⟩
  have d6:decide (3 < (k:Int))=false:=decide_eq_false (by omega)
  rw [if_neg (by omega)]
  have hv12:=hvl12 (by omega)
  simp at hv12
  have hsl2:∀ W,(Instr.slice 9 (.string s) (some (.int .i64 ((n:Int) + 1))) (some (.int .i64 ((n:Int) + 1 + (k:Int)))) none).run Tryz.prog W = .ok (.string (piec s (n + 1) (n + 1 + k))) W:=fun W=>run_sl s (n + 1) (n + 1 + k) (by omega) (by omega) W
  rw [hpc,het] at hsl2
  have hxx:(tx e ++ ⟨#[48,48]⟩).extract 0 3=tx ((e ++ [48,48]).take 3):=by
   rw [extract_piec,piec_head]
   rfl
  have hz1:1 ≤ (tx e).size:=by rw [tx_size,hk];omega
  have hz3:(tx e).size ≤ 3:=by rw [tx_size,hk];omega
  have hed2:((e ++ [48,48]).take 3).all Bare.digB=true:=by
   rw [List.all_eq_true] at hed ⊢
   intro x hx
   rcases List.mem_append.1 (List.mem_of_mem_take hx) with h | h
   ·exact hed x h
   ·simp at h;subst h;decide
  have hl3:((e ++ [48,48]).take 3).length=3:=by rw [List.length_take,List.length_append];show min 3 (e.length + 2)=3;omega
  have HA2:=Lib.hid (fun W=>(value_r (tx ((e ++ [48,48]).take 3)) W (by rw [tx_size];omega) (by rw [bl_tx];exact hed2)).mono fun e w' h=>show e = _∧W=w' from ⟨h.1,h.2.symm⟩)
  rw [bl_tx] at HA2
  have hv2:=val_lt hed2 3 (by omega)
  obtain ⟨v2,hv2e⟩:∃ v2,Bare.valD ((e ++ [48,48]).take 3)=v2:=⟨_,rfl⟩
  rw [hv2e] at HA2 hv2 ⊢
  simp at hv2
  rw [← hxx] at HA2
  obtain ⟨x1,hx1⟩:∃ x1,tx e=x1:=⟨_,rfl⟩
  rw [hx1] at hsl2 HA2 hz1 hz3
  have hsl3:∀ W,(Instr.slice 9 (.string s) (some (.int .i64 ((n:Int) + 1 + (k:Int)))) none none).run Tryz.prog W = .ok (.string (tx ((bl s).drop (n + 1 + k)))) W:=fun W=>run_sl_l s (n + 1 + k) (by omega) W
  obtain ⟨x,hx⟩:∃ x,tx ((bl s).drop (n + 1 + k))=x:=⟨_,rfl⟩
  rw [hx] at hsl3
  have hgv:1 * (1000 * (v:Int) + (v2:Int))=(1000 * (v:Int) + (v2:Int)):=by omega
  rw [hgv]
  clear hgv hv2e hxx hx1 hl3 hed2 hed het hpc hk hk1 hk3 hn12 hek hUs hlt hsl
  unfold ReadP bv bcs noIt
  simp only
  rw [hx]
  clear hx h1 h15 hle hvl12 hvl
  go_enter Tryz.func185,Tryz.ntmps185
  go_upto_region 1 with fail
  obtain ⟨W,hW⟩:∃ W,w.alloc (.cells #[.int .u8 0,.int .i64 0,.string ⟨#[]⟩,.bool false] 66)=W:=⟨_,rfl⟩
  rw [hW] at hN hr ⊢
  obtain ⟨B,hB⟩:∃ B,w.heap.size=B:=⟨_,rfl⟩
  have hBw:w.heap.size ≤ B:=by omega
  rw [hB] at hr ⊢
  clear hW hB
  obtain ⟨⟨c0,c1,c2,c3⟩,f0,f1,f2,f3⟩:=row_facts hr
  have hw1:IntKind.i64.wrap ((n:Int) + 1)=(n:Int) + 1:=by rw [IntKind.wrap_i64];omega
  have hw2:IntKind.i64.wrap ((n:Int) + 1 + (k:Int))=(n:Int) + 1 + (k:Int):=by rw [IntKind.wrap_i64];omega
  have hw3:IntKind.i64.wrap (1000 * (v:Int))=1000 * (v:Int):=by rw [IntKind.wrap_i64];omega
  have hw4:IntKind.i64.wrap (1000 * (v:Int) + (v2:Int))=1000 * (v:Int) + (v2:Int):=by rw [IntKind.wrap_i64];omega
  have hw5:IntKind.i64.wrap (1000 * (v:Int) + (v2:Int))=(1000 * (v:Int) + (v2:Int)):=by rw [IntKind.wrap_i64];omega
  go_upto_region 14 with (first | (go_at_call 200;with_reducible refine (HR.out _).mono ?_;rintro e w' ⟨rfl,rfl⟩) | (go_at_call 200;refine (HU.out _).mono ?_;rintro e w' ⟨rfl,rfl⟩))
  go_region_with (first | (go_at_call 201;with_reducible refine (HA.out _).mono ?_;rintro e w' ⟨rfl,rfl⟩) | (go_at_call 201;refine (HA2.out _).mono ?_;rintro e w' ⟨rfl,rfl⟩))
  all_goals
   obtain ⟨hN2,hr2⟩:=set4 hN hBw hr (.int .u8 2) (.int .i64 (1000 * (v:Int) + (v2:Int))) (.string ⟨#[]⟩) (.bool false)
   have hN2:=hN2.drew
   have hr2:((((W.setCell ⟨B,0,none⟩ (.int .u8 2)).setCell ⟨B,1,none⟩ (.int .i64 (1000 * (v:Int) + (v2:Int)))).setCell ⟨B,2,none⟩ (.string ⟨#[]⟩)).setCell ⟨B,3,none⟩ (.bool false)).drew.heap[B]? = some (.cells #[(.int .u8 2),(.int .i64 (1000 * (v:Int) + (v2:Int))),(.string ⟨#[]⟩),(.bool false)] 66 (0,0)):=hr2
   obtain ⟨W2,hW2⟩:∃ W2,((((W.setCell ⟨B,0,none⟩ (.int .u8 2)).setCell ⟨B,1,none⟩ (.int .i64 (1000 * (v:Int) + (v2:Int)))).setCell ⟨B,2,none⟩ (.string ⟨#[]⟩)).setCell ⟨B,3,none⟩ (.bool false)).drew=W2:=⟨_,rfl⟩
   rw [hW2] at hN2 hr2 ⊢
   go_wp2_with fail
   exact read_end (by kernel_rfl) rfl rfl rfl hr2 ⟨rfl,hN2⟩


theorem number_neg_r (s0:ByteArray) (w:World) (hs0:s0.size ≤ 1000000) (h0:0 < s0.size) (hng:gb s0 0=45) :
  Calls Tryz.prog 185 #[.string s0] w (ReadP (Bare.number (bl s0)) w):=by
 have hc45:decide (gb s0 0=45)=true:=decide_eq_true hng
 rw [u8_eq] at hc45
 have hix0:∀ W,(Instr.index 9 (.string s0) (.int .i64 0)).run Tryz.prog W = .ok (.int .u8 ((gb s0 0).toNat:Nat)) W:=run_idx s0 0 (by omega)
 have e0:Bare.number (bl s0)=numR (-1) ((bl s0).drop 1):=by
  have hh:(bl s0).head? = some (gb s0 0):=by have:=head_drop s0 0 h0;rwa [List.drop_zero] at this
  rw [number_numR,hh]
  simp [hng]
 rw [e0]
 clear e0
 have hs1:∀ W,(Instr.slice 9 (.string s0) (some (.int .i64 1)) none none).run Tryz.prog W = .ok (.string (tx ((bl s0).drop 1))) W:=run_sl_l s0 1 (by omega)
 obtain ⟨s,hT⟩:∃ T,tx ((bl s0).drop 1)=T:=⟨_,rfl⟩
 have hTl:(bl s0).drop 1=bl s:=by rw [← hT]
 have hs:s.size ≤ 1000000:=by rw [← hT,tx_size,List.length_drop,bl_len];omega
 rw [hT] at hs1
 rw [hTl]
 clear hT hTl
 obtain ⟨c,hc⟩:∃ c,(gb s0 0).toNat=c:=⟨_,rfl⟩
 rw [hc] at hc45 hix0
 have hceq:((c:Int) == 45)=true:=hc45
 clear hc hc45 hng
 have HNo:=Lib.hid (fun W=>none_r W)
 unfold ReadP bv bcs noIt at HNo
 simp only at HNo
 have HR:=Lib.hid (fun W=>(run_r s W (by omega)).mono fun e w' h=>show e = _∧W=w' from ⟨h.1,h.2.symm⟩)
 have hle:=Bare.takeWhile_len Bare.digB (bl s)
 have htk:=Bare.takeWhile_take Bare.digB (bl s)
 have hdg:=digs_take (bl s)
 unfold numR
 simp only
 obtain ⟨d,hd⟩:∃ d,(bl s).takeWhile Bare.digB=d:=⟨_,rfl⟩
 rw [hd] at HR hle htk hdg ⊢
 obtain ⟨n,hn⟩:∃ n,d.length=n:=⟨_,rfl⟩
 rw [hn] at HR hle htk ⊢
 rw [bl_len] at hle
 clear hd
 obtain ⟨hN,hr⟩:=no_row w
 by_cases h1:n < 1
 ·have d1:decide ((n:Int)=0)=true:=decide_eq_true (by omega)
  have d1':((n:Int) == 0)=true:=d1
  rw [if_pos (.inl h1)]
  unfold ReadP bv bcs noIt
  simp only
  clear htk h1 hn hle
  go_enter Tryz.func185,Tryz.ntmps185
  go_upto_region 1 with fail
  obtain ⟨W,hW⟩:∃ W,w.alloc (.cells #[.int .u8 0,.int .i64 0,.string ⟨#[]⟩,.bool false] 66)=W:=⟨_,rfl⟩
  rw [hW] at hN hr ⊢
  obtain ⟨B,hB⟩:∃ B,w.heap.size=B:=⟨_,rfl⟩
  have hBw:w.heap.size ≤ B:=by omega
  rw [hB] at hr ⊢
  clear hW hB
  obtain ⟨⟨c0,c1,c2,c3⟩,f0,f1,f2,f3⟩:=row_facts hr
  go_wp2_with (go_at_call 200;refine (HR.out _).mono ?_;rintro e w' ⟨rfl,rfl⟩)
  refine (HNo.out _).mono ?_
  rintro e wn ⟨rfl,hNn⟩
  have hN:=hN.trans hNn
  have hr:=hNn.heap hr id
  clear c0 c1 c2 c3 f0 f1 f2 f3 hNn
  obtain ⟨⟨c0,c1,c2,c3⟩,f0,f1,f2,f3⟩:=row_facts hr
  go_wp2_with fail
  obtain ⟨hN2,hr2⟩:=set4 hN hBw hr (.int .u8 0) (.int .i64 0) (.string ⟨#[]⟩) (.bool false)
  obtain ⟨W2,hW2⟩:∃ W2,((((wn.setCell ⟨B,0,none⟩ (.int .u8 0)).setCell ⟨B,1,none⟩ (.int .i64 0)).setCell ⟨B,2,none⟩ (.string ⟨#[]⟩)).setCell ⟨B,3,none⟩ (.bool false))=W2:=⟨_,rfl⟩
  rw [hW2] at hN2 hr2 ⊢
  exact read_end (by kernel_rfl) rfl rfl rfl hr2 ⟨rfl,hN2⟩
 have d1:decide ((n:Int)=0)=false:=decide_eq_false (by omega)
 have d1':((n:Int) == 0)=false:=d1
 by_cases h15:15 < n
 ·have d2:decide (15 < (n:Int))=true:=decide_eq_true (by omega)
  rw [if_pos (.inr h15)]
  unfold ReadP bv bcs noIt
  simp only
  clear htk h1 hn hle
  go_enter Tryz.func185,Tryz.ntmps185
  go_upto_region 1 with fail
  obtain ⟨W,hW⟩:∃ W,w.alloc (.cells #[.int .u8 0,.int .i64 0,.string ⟨#[]⟩,.bool false] 66)=W:=⟨_,rfl⟩
  rw [hW] at hN hr ⊢
  obtain ⟨B,hB⟩:∃ B,w.heap.size=B:=⟨_,rfl⟩
  have hBw:w.heap.size ≤ B:=by omega
  rw [hB] at hr ⊢
  clear hW hB
  obtain ⟨⟨c0,c1,c2,c3⟩,f0,f1,f2,f3⟩:=row_facts hr
  go_wp2_with (go_at_call 200;refine (HR.out _).mono ?_;rintro e w' ⟨rfl,rfl⟩)
  refine (HNo.out _).mono ?_
  rintro e wn ⟨rfl,hNn⟩
  have hN:=hN.trans hNn
  have hr:=hNn.heap hr id
  clear c0 c1 c2 c3 f0 f1 f2 f3 hNn
  obtain ⟨⟨c0,c1,c2,c3⟩,f0,f1,f2,f3⟩:=row_facts hr
  go_wp2_with fail
  obtain ⟨hN2,hr2⟩:=set4 hN hBw hr (.int .u8 0) (.int .i64 0) (.string ⟨#[]⟩) (.bool false)
  obtain ⟨W2,hW2⟩:∃ W2,((((wn.setCell ⟨B,0,none⟩ (.int .u8 0)).setCell ⟨B,1,none⟩ (.int .i64 0)).setCell ⟨B,2,none⟩ (.string ⟨#[]⟩)).setCell ⟨B,3,none⟩ (.bool false))=W2:=⟨_,rfl⟩
  rw [hW2] at hN2 hr2 ⊢
  exact read_end (by kernel_rfl) rfl rfl rfl hr2 ⟨rfl,hN2⟩
 have d2:decide (15 < (n:Int))=false:=decide_eq_false (by omega)
 rw [if_neg (by omega)]
 have HA:=Lib.hid (fun W=>(value_r (tx d) W (by rw [tx_size];omega) (by rw [bl_tx];exact hdg)).mono fun e w' h=>show e = _∧W=w' from ⟨h.1,h.2.symm⟩)
 rw [bl_tx] at HA
 have hsh:=run_sl_h s n hle
 have hvl:=val_lt hdg 15 (by omega)
 have hvl12:=fun h=>val_lt hdg 12 h
 rw [htk] at hsh
 have hsl:=run_sl_l s n hle
 obtain ⟨v,hv⟩:∃ v,Bare.valD d=v:=⟨_,rfl⟩
 rw [hv] at HA hvl hvl12 ⊢
 obtain ⟨dx,hdx⟩:∃ dx,tx d=dx:=⟨_,rfl⟩
 rw [hdx] at HA hsh
 rw [hn] at hvl12
 clear hv hdx htk hdg hn
 simp at hvl
 have hgv:(-1) * (v:Int)=(-(v:Int)):=by omega
 by_cases hend:n=s.size
 ·have d3:decide ((n:Int)=(s.size:Int))=true:=decide_eq_true (by omega)
  have d3':((n:Int) == (s.size:Int))=true:=d3
  have hhd:((bl s).drop n).head? ≠ some 46:=by rw [hend,head_end];simp
  rw [if_pos hhd]
  obtain ⟨x,hx⟩:∃ x,tx ((bl s).drop n)=x:=⟨_,rfl⟩
  rw [hx] at hsl
  rw [hgv]
  clear hend
  unfold ReadP bv bcs noIt
  simp only
  rw [hx]
  clear hhd hx h1 h15 hle hvl12
  go_enter Tryz.func185,Tryz.ntmps185
  go_upto_region 1 with fail
  obtain ⟨W,hW⟩:∃ W,w.alloc (.cells #[.int .u8 0,.int .i64 0,.string ⟨#[]⟩,.bool false] 66)=W:=⟨_,rfl⟩
  rw [hW] at hN hr ⊢
  obtain ⟨B,hB⟩:∃ B,w.heap.size=B:=⟨_,rfl⟩
  have hBw:w.heap.size ≤ B:=by omega
  rw [hB] at hr ⊢
  clear hW hB
  obtain ⟨⟨c0,c1,c2,c3⟩,f0,f1,f2,f3⟩:=row_facts hr
  go_upto_region 9 with (go_at_call 200;refine (HR.out _).mono ?_;rintro e w' ⟨rfl,rfl⟩)
  go_region_with (go_at_call 201;refine (HA.out _).mono ?_;rintro e w' ⟨rfl,rfl⟩)
  have hwr:IntKind.i64.wrap (-(v:Int))=(-(v:Int)):=by rw [IntKind.wrap_i64];omega
  rw [hwr]
  obtain ⟨hN2,hr2⟩:=set4 hN hBw hr (.int .u8 1) (.int .i64 (-(v:Int))) (.string ⟨#[]⟩) (.bool false)
  have hN2:=hN2.drew
  have hr2:((((W.setCell ⟨B,0,none⟩ (.int .u8 1)).setCell ⟨B,1,none⟩ (.int .i64 (-(v:Int)))).setCell ⟨B,2,none⟩ (.string ⟨#[]⟩)).setCell ⟨B,3,none⟩ (.bool false)).drew.heap[B]? = some (.cells #[(.int .u8 1),(.int .i64 (-(v:Int))),(.string ⟨#[]⟩),(.bool false)] 66 (0,0)):=hr2
  obtain ⟨W2,hW2⟩:∃ W2,((((W.setCell ⟨B,0,none⟩ (.int .u8 1)).setCell ⟨B,1,none⟩ (.int .i64 (-(v:Int)))).setCell ⟨B,2,none⟩ (.string ⟨#[]⟩)).setCell ⟨B,3,none⟩ (.bool false)).drew=W2:=⟨_,rfl⟩
  rw [hW2] at hN2 hr2 ⊢
  go_wp2_with fail
  exact read_end (by kernel_rfl) rfl rfl rfl hr2 ⟨rfl,hN2⟩
 have hlt:n < s.size:=by omega
 have d3:decide ((n:Int)=(s.size:Int))=false:=decide_eq_false (by omega)
 have d3':((n:Int) == (s.size:Int))=false:=d3
 have hixn:=run_idx s n hlt
 have hhn:=head_drop s n hlt
 have hq46:=u8_eq (gb s n) 46
 by_cases hq:gb s n=46
 case neg =>
  rw [decide_eq_false hq] at hq46
  have hhd:((bl s).drop n).head? ≠ some 46:=by rw [hhn];simpa using hq
  rw [if_pos hhd]
  obtain ⟨x,hx⟩:∃ x,tx ((bl s).drop n)=x:=⟨_,rfl⟩
  rw [hx] at hsl
  obtain ⟨q,hqn⟩:∃ q,(gb s n).toNat=q:=⟨_,rfl⟩
  rw [hqn] at hixn hq46
  have hq1:((q:Int) == 46)=false:=hq46.symm
  have hq2:((q:Int) != 46)=true:=by simp [bne,hq1]
  clear hq hqn hq46 hhd hhn hend hlt
  rw [hgv]
  unfold ReadP bv bcs noIt
  simp only
  rw [hx]
  clear hx h1 h15 hle hvl12
  go_enter Tryz.func185,Tryz.ntmps185
  go_upto_region 1 with fail
  obtain ⟨W,hW⟩:∃ W,w.alloc (.cells #[.int .u8 0,.int .i64 0,.string ⟨#[]⟩,.bool false] 66)=W:=⟨_,rfl⟩
  rw [hW] at hN hr ⊢
  obtain ⟨B,hB⟩:∃ B,w.heap.size=B:=⟨_,rfl⟩
  have hBw:w.heap.size ≤ B:=by omega
  rw [hB] at hr ⊢
  clear hW hB
  obtain ⟨⟨c0,c1,c2,c3⟩,f0,f1,f2,f3⟩:=row_facts hr
  go_upto_region 9 with (go_at_call 200;refine (HR.out _).mono ?_;rintro e w' ⟨rfl,rfl⟩)
  go_region_with (go_at_call 201;refine (HA.out _).mono ?_;rintro e w' ⟨rfl,rfl⟩)
  have hwr:IntKind.i64.wrap (-(v:Int))=(-(v:Int)):=by rw [IntKind.wrap_i64];omega
  rw [hwr]
  obtain ⟨hN2,hr2⟩:=set4 hN hBw hr (.int .u8 1) (.int .i64 (-(v:Int))) (.string ⟨#[]⟩) (.bool false)
  have hN2:=hN2.drew
  have hr2:((((W.setCell ⟨B,0,none⟩ (.int .u8 1)).setCell ⟨B,1,none⟩ (.int .i64 (-(v:Int)))).setCell ⟨B,2,none⟩ (.string ⟨#[]⟩)).setCell ⟨B,3,none⟩ (.bool false)).drew.heap[B]? = some (.cells #[(.int .u8 1),(.int .i64 (-(v:Int))),(.string ⟨#[]⟩),(.bool false)] 66 (0,0)):=hr2
  obtain ⟨W2,hW2⟩:∃ W2,((((W.setCell ⟨B,0,none⟩ (.int .u8 1)).setCell ⟨B,1,none⟩ (.int .i64 (-(v:Int)))).setCell ⟨B,2,none⟩ (.string ⟨#[]⟩)).setCell ⟨B,3,none⟩ (.bool false)).drew=W2:=⟨_,rfl⟩
  rw [hW2] at hN2 hr2 ⊢
  go_wp2_with fail
  exact read_end (by kernel_rfl) rfl rfl rfl hr2 ⟨rfl,hN2⟩
 case pos =>
  rw [decide_eq_true hq] at hq46
  have hhd:¬ ((bl s).drop n).head? ≠ some 46:=by rw [hhn,hq];simp
  rw [if_neg hhd]
  obtain ⟨q,hqn⟩:∃ q,(gb s n).toNat=q:=⟨_,rfl⟩
  rw [hqn] at hixn hq46
  have hq1:((q:Int) == 46)=true:=hq46.symm
  have hq2:((q:Int) != 46)=false:=by simp [bne,hq1]
  have hnb:(n:Int) ≤ 1000000:=by omega
  clear hq hqn hq46 hhd hhn hend hgv
  have hsl1:∀ W,(Instr.slice 9 (.string s) (some (.int .i64 ((n:Int) + 1))) none none).run Tryz.prog W = .ok (.string (tx ((bl s).drop (n + 1)))) W:=fun W=>run_sl_l s (n + 1) (by omega) W
  obtain ⟨U,hU⟩:∃ U,tx ((bl s).drop (n + 1))=U:=⟨_,rfl⟩
  have hUl:((bl s).drop n).drop 1=bl U:=by rw [← hU,List.drop_drop]
  have hUs:U.size=s.size - (n + 1):=by rw [← hU,tx_size,List.length_drop,bl_len]
  have hdd:∀ k,((bl s).drop n).drop (1 + k)=(bl s).drop (n + 1 + k):=fun k=>by rw [List.drop_drop];congr 1;omega
  have hpc:∀ k,piec s (n + 1) (n + 1 + k)=tx ((bl U).take k):=fun k=>by unfold piec;rw [← hU,Nat.add_sub_cancel_left]
  rw [hU] at hsl1
  rw [hUl]
  have HU:=Lib.hid (fun W=>(run_r U W (by omega)).mono fun e w' h=>show e = _∧W=w' from ⟨h.1,h.2.symm⟩)
  have hek:=Bare.takeWhile_len Bare.digB (bl U)
  have het:=Bare.takeWhile_take Bare.digB (bl U)
  have hed:=digs_take (bl U)
  obtain ⟨e,he⟩:∃ e,(bl U).takeWhile Bare.digB=e:=⟨_,rfl⟩
  rw [he] at HU hek het hed ⊢
  obtain ⟨k,hk⟩:∃ k,e.length=k:=⟨_,rfl⟩
  rw [hk] at HU hek het ⊢
  rw [bl_len,hUs] at hek
  rw [hdd]
  have hkb:(k:Int) ≤ 1000000:=by omega
  clear he hU hUl hdd
  by_cases hn12:12 < n
  ·have d4:decide (12 < (n:Int))=true:=decide_eq_true (by omega)
   rw [if_pos (.inl hn12)]
   unfold ReadP bv bcs noIt
   simp only
   clear hn12 h1 h15 hle hed het hpc hek hUs hlt hk hvl12
   go_enter Tryz.func185,Tryz.ntmps185
   go_upto_region 1 with fail
   obtain ⟨W,hW⟩:∃ W,w.alloc (.cells #[.int .u8 0,.int .i64 0,.string ⟨#[]⟩,.bool false] 66)=W:=⟨_,rfl⟩
   rw [hW] at hN hr ⊢
   obtain ⟨B,hB⟩:∃ B,w.heap.size=B:=⟨_,rfl⟩
   have hBw:w.heap.size ≤ B:=by omega
   rw [hB] at hr ⊢
   clear hW hB
   obtain ⟨⟨c0,c1,c2,c3⟩,f0,f1,f2,f3⟩:=row_facts hr
   go_wp2_with (first | (go_at_call 200;with_reducible refine (HR.out _).mono ?_;rintro e w' ⟨rfl,rfl⟩) | (go_at_call 200;refine (HU.out _).mono ?_;rintro e w' ⟨rfl,rfl⟩))
   refine (HNo.out _).mono ?_
   rintro e wn ⟨rfl,hNn⟩
   have hN:=hN.trans hNn
   have hr:=hNn.heap hr id
   clear c0 c1 c2 c3 f0 f1 f2 f3 hNn
   obtain ⟨⟨c0,c1,c2,c3⟩,f0,f1,f2,f3⟩:=row_facts hr
   go_wp2_with fail
   obtain ⟨hN2,hr2⟩:=set4 hN hBw hr (.int .u8 0) (.int .i64 0) (.string ⟨#[]⟩) (.bool false)
   obtain ⟨W2,hW2⟩:∃ W2,((((wn.setCell ⟨B,0,none⟩ (.int .u8 0)).setCell ⟨B,1,none⟩ (.int .i64 0)).setCell ⟨B,2,none⟩ (.string ⟨#[]⟩)).setCell ⟨B,3,none⟩ (.bool false))=W2:=⟨_,rfl⟩
   rw [hW2] at hN2 hr2 ⊢
   exact read_end (by kernel_rfl) rfl rfl rfl hr2 ⟨rfl,hN2⟩
  have d4:decide (12 < (n:Int))=false:=decide_eq_false (by omega)
  by_cases hk1:k < 1
  ·have d5:decide ((k:Int) < 1)=true:=decide_eq_true (by omega)
   rw [if_pos (.inr (.inl hk1))]
   unfold ReadP bv bcs noIt
   simp only
   clear hn12 h1 h15 hle hed het hpc hek hUs hlt hk hvl12 hk1
   go_enter Tryz.func185,Tryz.ntmps185
   go_upto_region 1 with fail
   obtain ⟨W,hW⟩:∃ W,w.alloc (.cells #[.int .u8 0,.int .i64 0,.string ⟨#[]⟩,.bool false] 66)=W:=⟨_,rfl⟩
   rw [hW] at hN hr ⊢
   obtain ⟨B,hB⟩:∃ B,w.heap.size=B:=⟨_,rfl⟩
   have hBw:w.heap.size ≤ B:=by omega
   rw [hB] at hr ⊢
   clear hW hB
   obtain ⟨⟨c0,c1,c2,c3⟩,f0,f1,f2,f3⟩:=row_facts hr
   go_wp2_with (first | (go_at_call 200;with_reducible refine (HR.out _).mono ?_;rintro e w' ⟨rfl,rfl⟩) | (go_at_call 200;refine (HU.out _).mono ?_;rintro e w' ⟨rfl,rfl⟩))
   refine (HNo.out _).mono ?_
   rintro e wn ⟨rfl,hNn⟩
   have hN:=hN.trans hNn
   have hr:=hNn.heap hr id
   clear c0 c1 c2 c3 f0 f1 f2 f3 hNn
   obtain ⟨⟨c0,c1,c2,c3⟩,f0,f1,f2,f3⟩:=row_facts hr
   go_wp2_with fail
   obtain ⟨hN2,hr2⟩:=set4 hN hBw hr (.int .u8 0) (.int .i64 0) (.string ⟨#[]⟩) (.bool false)
   obtain ⟨W2,hW2⟩:∃ W2,((((wn.setCell ⟨B,0,none⟩ (.int .u8 0)).setCell ⟨B,1,none⟩ (.int .i64 0)).setCell ⟨B,2,none⟩ (.string ⟨#[]⟩)).setCell ⟨B,3,none⟩ (.bool false))=W2:=⟨_,rfl⟩
   rw [hW2] at hN2 hr2 ⊢
   exact read_end (by kernel_rfl) rfl rfl rfl hr2 ⟨rfl,hN2⟩
  have d5:decide ((k:Int) < 1)=false:=decide_eq_false (by omega)
  by_cases hk3:3 < k
  ·have d6:decide (3 < (k:Int))=true:=decide_eq_true (by omega)
   rw [if_pos (.inr (.inr hk3))]
   unfold ReadP bv bcs noIt
   simp only
   clear hn12 h1 h15 hle hed het hpc hek hUs hlt hk hvl12 hk1 hk3
   go_enter Tryz.func185,Tryz.ntmps185
   go_upto_region 1 with fail
   obtain ⟨W,hW⟩:∃ W,w.alloc (.cells #[.int .u8 0,.int .i64 0,.string ⟨#[]⟩,.bool false] 66)=W:=⟨_,rfl⟩
   rw [hW] at hN hr ⊢
   obtain ⟨B,hB⟩:∃ B,w.heap.size=B:=⟨_,rfl⟩
   have hBw:w.heap.size ≤ B:=by omega
   rw [hB] at hr ⊢
   clear hW hB
   obtain ⟨⟨c0,c1,c2,c3⟩,f0,f1,f2,f3⟩:=row_facts hr
   go_wp2_with (first | (go_at_call 200;with_reducible refine (HR.out _).mono ?_;rintro e w' ⟨rfl,rfl⟩) | (go_at_call 200;refine (HU.out _).mono ?_;rintro e w' ⟨rfl,rfl⟩))
   refine (HNo.out _).mono ?_
   rintro e wn ⟨rfl,hNn⟩
   have hN:=hN.trans hNn
   have hr:=hNn.heap hr id
   clear c0 c1 c2 c3 f0 f1 f2 f3 hNn
   obtain ⟨⟨c0,c1,c2,c3⟩,f0,f1,f2,f3⟩:=row_facts hr
   go_wp2_with fail
   obtain ⟨hN2,hr2⟩:=set4 hN hBw hr (.int .u8 0) (.int .i64 0) (.string ⟨#[]⟩) (.bool false)
   obtain ⟨W2,hW2⟩:∃ W2,((((wn.setCell ⟨B,0,none⟩ (.int .u8 0)).setCell ⟨B,1,none⟩ (.int .i64 0)).setCell ⟨B,2,none⟩ (.string ⟨#[]⟩)).setCell ⟨B,3,none⟩ (.bool false))=W2:=⟨_,rfl⟩
   rw [hW2] at hN2 hr2 ⊢
   exact read_end (by kernel_rfl) rfl rfl rfl hr2 ⟨rfl,hN2⟩
  have d6:decide (3 < (k:Int))=false:=decide_eq_false (by omega)
  rw [if_neg (by omega)]
  have hv12:=hvl12 (by omega)
  simp at hv12
  have hsl2:∀ W,(Instr.slice 9 (.string s) (some (.int .i64 ((n:Int) + 1))) (some (.int .i64 ((n:Int) + 1 + (k:Int)))) none).run Tryz.prog W = .ok (.string (piec s (n + 1) (n + 1 + k))) W:=fun W=>run_sl s (n + 1) (n + 1 + k) (by omega) (by omega) W
  rw [hpc,het] at hsl2
  have hxx:(tx e ++ ⟨#[48,48]⟩).extract 0 3=tx ((e ++ [48,48]).take 3):=by
   rw [extract_piec,piec_head]
   rfl
  have hz1:1 ≤ (tx e).size:=by rw [tx_size,hk];omega
  have hz3:(tx e).size ≤ 3:=by rw [tx_size,hk];omega
  have hed2:((e ++ [48,48]).take 3).all Bare.digB=true:=by
   rw [List.all_eq_true] at hed ⊢
   intro x hx
   rcases List.mem_append.1 (List.mem_of_mem_take hx) with h | h
   ·exact hed x h
   ·simp at h;subst h;decide
  have hl3:((e ++ [48,48]).take 3).length=3:=by rw [List.length_take,List.length_append];show min 3 (e.length + 2)=3;omega
  have HA2:=Lib.hid (fun W=>(value_r (tx ((e ++ [48,48]).take 3)) W (by rw [tx_size];omega) (by rw [bl_tx];exact hed2)).mono fun e w' h=>show e = _∧W=w' from ⟨h.1,h.2.symm⟩)
  rw [bl_tx] at HA2
  have hv2:=val_lt hed2 3 (by omega)
  obtain ⟨v2,hv2e⟩:∃ v2,Bare.valD ((e ++ [48,48]).take 3)=v2:=⟨_,rfl⟩
  rw [hv2e] at HA2 hv2 ⊢
  simp at hv2
  rw [← hxx] at HA2
  obtain ⟨x1,hx1⟩:∃ x1,tx e=x1:=⟨_,rfl⟩
  rw [hx1] at hsl2 HA2 hz1 hz3
  have hsl3:∀ W,(Instr.slice 9 (.string s) (some (.int .i64 ((n:Int) + 1 + (k:Int)))) none none).run Tryz.prog W = .ok (.string (tx ((bl s).drop (n + 1 + k)))) W:=fun W=>run_sl_l s (n + 1 + k) (by omega) W
  obtain ⟨x,hx⟩:∃ x,tx ((bl s).drop (n + 1 + k))=x:=⟨_,rfl⟩
  rw [hx] at hsl3
  have hgv:(-1) * (1000 * (v:Int) + (v2:Int))=(-(1000 * (v:Int) + (v2:Int))):=by omega
  rw [hgv]
  clear hgv hv2e hxx hx1 hl3 hed2 hed het hpc hk hk1 hk3 hn12 hek hUs hlt hsl
  unfold ReadP bv bcs noIt
  simp only
  rw [hx]
  clear hx h1 h15 hle hvl12 hvl
  go_enter Tryz.func185,Tryz.ntmps185
  go_upto_region 1 with fail
  obtain ⟨W,hW⟩:∃ W,w.alloc (.cells #[.int .u8 0,.int .i64 0,.string ⟨#[]⟩,.bool false] 66)=W:=⟨_,rfl⟩
  rw [hW] at hN hr ⊢
  obtain ⟨B,hB⟩:∃ B,w.heap.size=B:=⟨_,rfl⟩
  have hBw:w.heap.size ≤ B:=by omega
  rw [hB] at hr ⊢
  clear hW hB
  obtain ⟨⟨c0,c1,c2,c3⟩,f0,f1,f2,f3⟩:=row_facts hr
  have hw1:IntKind.i64.wrap ((n:Int) + 1)=(n:Int) + 1:=by rw [IntKind.wrap_i64];omega
  have hw2:IntKind.i64.wrap ((n:Int) + 1 + (k:Int))=(n:Int) + 1 + (k:Int):=by rw [IntKind.wrap_i64];omega
  have hw3:IntKind.i64.wrap (1000 * (v:Int))=1000 * (v:Int):=by rw [IntKind.wrap_i64];omega
  have hw4:IntKind.i64.wrap (1000 * (v:Int) + (v2:Int))=1000 * (v:Int) + (v2:Int):=by rw [IntKind.wrap_i64];omega
  have hw5:IntKind.i64.wrap (-(1000 * (v:Int) + (v2:Int)))=(-(1000 * (v:Int) + (v2:Int))):=by rw [IntKind.wrap_i64];omega
  go_upto_region 14 with (first | (go_at_call 200;with_reducible refine (HR.out _).mono ?_;rintro e w' ⟨rfl,rfl⟩) | (go_at_call 200;refine (HU.out _).mono ?_;rintro e w' ⟨rfl,rfl⟩))
  go_region_with (first | (go_at_call 201;with_reducible refine (HA.out _).mono ?_;rintro e w' ⟨rfl,rfl⟩) | (go_at_call 201;refine (HA2.out _).mono ?_;rintro e w' ⟨rfl,rfl⟩))
  all_goals
   obtain ⟨hN2,hr2⟩:=set4 hN hBw hr (.int .u8 2) (.int .i64 (-(1000 * (v:Int) + (v2:Int)))) (.string ⟨#[]⟩) (.bool false)
   have hN2:=hN2.drew
   have hr2:((((W.setCell ⟨B,0,none⟩ (.int .u8 2)).setCell ⟨B,1,none⟩ (.int .i64 (-(1000 * (v:Int) + (v2:Int))))).setCell ⟨B,2,none⟩ (.string ⟨#[]⟩)).setCell ⟨B,3,none⟩ (.bool false)).drew.heap[B]? = some (.cells #[(.int .u8 2),(.int .i64 (-(1000 * (v:Int) + (v2:Int)))),(.string ⟨#[]⟩),(.bool false)] 66 (0,0)):=hr2
   obtain ⟨W2,hW2⟩:∃ W2,((((W.setCell ⟨B,0,none⟩ (.int .u8 2)).setCell ⟨B,1,none⟩ (.int .i64 (-(1000 * (v:Int) + (v2:Int))))).setCell ⟨B,2,none⟩ (.string ⟨#[]⟩)).setCell ⟨B,3,none⟩ (.bool false)).drew=W2:=⟨_,rfl⟩
   rw [hW2] at hN2 hr2 ⊢
   go_wp2_with fail
   exact read_end (by kernel_rfl) rfl rfl rfl hr2 ⟨rfl,hN2⟩


theorem quoted_r (s:ByteArray) (w:World) (hs:s.size ≤ 1000000) (h0:0 < s.size) :
  Calls Tryz.prog 186 #[.string s] w (ReadP (Bare.quoted [] ((bl s).drop 1)) w):=by
 obtain ⟨i0,hi,hz0,hz1,hz2⟩:=info_parts infoB'
 have HNo:=Lib.hid (fun W=>none_r W)
 unfold ReadP bv bcs noIt at HNo
 simp only at HNo
 obtain ⟨r,hr'⟩:∃ r,Bare.quoted [] ((bl s).drop 1)=r:=⟨_,rfl⟩
 have HR:=Lib.hid hr'
 rw [hr']
 clear hr'
 obtain ⟨hN,hr⟩:=no_row w
 go_enter Tryz.func186,Tryz.ntmps186
 go_upto_region 1 with fail
 obtain ⟨W0,hW⟩:∃ W,w.alloc (.cells #[.int .u8 0,.int .i64 0,.string ⟨#[]⟩,.bool false] 66)=W:=⟨_,rfl⟩
 rw [hW] at hN hr ⊢
 obtain ⟨B,hB⟩:∃ B,w.heap.size=B:=⟨_,rfl⟩
 have hBw:w.heap.size ≤ B:=by omega
 rw [hB] at hr ⊢
 clear hW hB
 go_upto_region 3 with fail
 go_loopw [5,6,7] (fun v i _ W=>∃ (k:Nat) (acc:Bare.Bs),k ≤ s.size∧i = .int .i64 k∧acc.length ≤ k∧W.ownsRow (B + 1) 5 1 v acc.length (u8s acc)∧W.heap[B]? = some (.cells #[.int .u8 0,.int .i64 0,.string ⟨#[]⟩,.bool false] 66 (0,0))∧New w W∧Hid (Bare.quoted acc ((bl s).drop k)=r)) (fun _ i _ _=>s.size - (intOf i).toNat)
 case atStart=>exact ⟨1,[],by omega,rfl,by simp,World.ownsRow_nil _ _ _ _,hr,hN,HR⟩
 case round =>
  clear hr hN HR
  obtain ⟨W,hWW⟩:∃ W,W=wr:=⟨_,rfl⟩
  subst hWW
  obtain ⟨k,acc,hk,rfl,hacc,hown,hr,hN,HR⟩:=hrel
  obtain ⟨⟨c0,c1,c2,c3⟩,f0,f1,f2,f3⟩:=row_facts hr
  have hBl:B < W.heap.size:=(Array.getElem?_eq_some_iff.1 hr).1
  by_cases hlt:k < s.size
  ·have hix:=run_idx s k hlt
   have hqa:=quoted_at acc s k hlt
   rw [HR.out] at hqa
   obtain ⟨n,hn⟩:∃ n,(gb s k).toNat=n:=⟨_,rfl⟩
   obtain ⟨t34,t34n⟩:=byte_test (gb s k) 34 (by decide) n hn
   obtain ⟨t92,t92n⟩:=byte_test (gb s k) 92 (by decide) n hn
   rw [show UInt8.ofNat 34=34 from rfl] at t34
   rw [show UInt8.ofNat 92=92 from rfl] at t92
   have t34:((n:Int) == 34)=decide (gb s k=34):=t34
   have t92:((n:Int) == 92)=decide (gb s k=92):=t92
   have hnc:(gb s k).toNat=n:=hn
   have hp:Bare.plnB (gb s k)=(decide (32 ≤ n) && decide (n ≤ 126)):=by unfold Bare.plnB;rw [hn]
   rw [hn] at hix
   clear t34n t92n HR hn
   have hkb:(k:Int) ≤ 1000000:=by omega
   by_cases h34:gb s k=34
   ·have hp34:Bare.plnB (gb s k)=true:=by rw [h34];decide
    rw [hp34,if_neg (by decide),if_pos h34] at hqa
    rw [decide_eq_true h34] at t34
    clear hp34
    have hcv:=conv_own (w:=W.drew) hown
    have hsl:∀ W,(Instr.slice 9 (.string s) (some (.int .i64 ((k:Int) + 1))) none none).run Tryz.prog W = .ok (.string (tx ((bl s).drop (k + 1)))) W:=fun W=>run_sl_l s (k + 1) (by omega) W
    subst hqa
    unfold ReadP bv bcs
    simp only
    obtain ⟨x,hx⟩:∃ x,tx acc=x:=⟨_,rfl⟩
    obtain ⟨y,hy⟩:∃ y,tx ((bl s).drop (k + 1))=y:=⟨_,rfl⟩
    rw [hx] at hcv ⊢
    rw [hy] at hsl ⊢
    clear hx hy hp h34 t92 hacc hk
    go_upto_region 7 with fail
    go_region
    obtain ⟨hN2,hr2⟩:=set4 hN hBw hr (.int .u8 3) (.int .i64 0) (.string x) (.bool false)
    have hN2:=hN2.drew
    have hr2:((((W.setCell ⟨B,0,none⟩ (.int .u8 3)).setCell ⟨B,1,none⟩ (.int .i64 0)).setCell ⟨B,2,none⟩ (.string x)).setCell ⟨B,3,none⟩ (.bool false)).drew.heap[B]? = some (.cells #[(.int .u8 3),(.int .i64 0),(.string x),(.bool false)] 66 (0,0)):=hr2
    obtain ⟨W2,hW2⟩:∃ W2,((((W.setCell ⟨B,0,none⟩ (.int .u8 3)).setCell ⟨B,1,none⟩ (.int .i64 0)).setCell ⟨B,2,none⟩ (.string x)).setCell ⟨B,3,none⟩ (.bool false)).drew=W2:=⟨_,rfl⟩
    rw [hW2] at hN2 hr2 ⊢
    go_wp2_with fail
    exact read_end (by kernel_rfl) rfl rfl rfl hr2 ⟨rfl,hN2⟩
   rw [decide_eq_false h34] at t34
   by_cases h92:gb s k=92
   ·have hp92:Bare.plnB (gb s k)=true:=by rw [h92];decide
    rw [hp92,if_neg (by decide),if_neg h34,if_pos h92] at hqa
    rw [decide_eq_true h92] at t92
    clear hp92
    by_cases hk1:k + 1 < s.size
    ·have hge1:¬ (s.size:Int) ≤ (k:Int) + 1:=by omega
     have hix2:∀ W,(Instr.index 9 (.string s) (.int .i64 ((k:Int) + 1))).run Tryz.prog W = .ok (.int .u8 ((gb s (k + 1)).toNat:Nat)) W:=fun W=>run_idx s (k + 1) hk1 W
     obtain ⟨m,hm⟩:∃ m,(gb s (k + 1)).toNat=m:=⟨_,rfl⟩
     obtain ⟨-,m34⟩:=byte_test (gb s (k + 1)) 34 (by decide) m hm
     obtain ⟨-,m92⟩:=byte_test (gb s (k + 1)) 92 (by decide) m hm
     rw [show UInt8.ofNat 34=34 from rfl] at m34
     rw [show UInt8.ofNat 92=92 from rfl] at m92
     have m34:((m:Int) != 34) = !decide (gb s (k + 1)=34):=m34
     have m92:((m:Int) != 92) = !decide (gb s (k + 1)=92):=m92
     have hmc:(gb s (k + 1)).toNat=m:=hm
     rw [hm] at hix2
     by_cases hok:gb s (k + 1)=34 ∨ gb s (k + 1)=92
     ·rw [if_pos ⟨hk1,hok⟩] at hqa
      have hm32:32 ≤ m∧m ≤ 126:=by rw [← hmc];rcases hok with h | h <;> rw [h] <;> decide
      obtain ⟨hm32,hm126⟩:=hm32
      obtain ⟨a,ha⟩:∃ a,decide (gb s (k + 1)=34)=a:=⟨_,rfl⟩
      obtain ⟨b,hb⟩:∃ b,decide (gb s (k + 1)=92)=b:=⟨_,rfl⟩
      have hab:a=true ∨ (a=false∧b=true):=by
       rw [← ha,← hb]
       by_cases h:gb s (k + 1)=34
       ·exact .inl (decide_eq_true h)
       ·exact .inr ⟨decide_eq_false h,decide_eq_true (hok.resolve_left h)⟩
      rw [ha] at m34
      rw [hb] at m92
      clear ha hb hok hm hp h34 h92
      rcases hab with rfl | ⟨rfl,rfl⟩
      ·have m34:((m:Int) != 34)=false:=m34
       clear m92
       go_upto_region 15 with fail
       go_wp2_with (at_builtin;refine wpList_append_own _ rfl _ _ 113 rfl (B + 1) 5 i0 _ 1 1 Tryz.underlying113 hi hz0 hz1 hz2 rfl (by decide) _ _ _ rfl (hown.alloc _) ⟨W.heap.size,0,none⟩ 1 1 [.int .u8 (m:Nat)] rfl rfl (cell_one_new _ _ _) (by simp [Value.oneCell']) (by unfold maxLen;omega) (by have:=hown.1;simp;omega) (by simp;omega) ?_)
       intro v' W2 hown' hgrow _
       have hk2:New W (W.alloc (.cells #[.int .u8 (m:Nat)] 5)):=(Mods.refl _ _).alloc _
       have hN3:New w W2:=(hN.alloc _).grown hgrow (fun g hg=>.inl (by have:=(hown.lt g hg).1;omega))
       have hr3:W2.heap[B]? = some (.cells #[.int .u8 0,.int .i64 0,.string ⟨#[]⟩,.bool false] 66 (0,0)):=by
        have h2:=hk2.heap hr id
        have h3:Mods (fun b=>B + 1 ≤ b) (W.alloc (.cells #[.int .u8 (m:Nat)] 5)) W2:=(Mods.refl _ _).grown hgrow (fun g hg=>.inr ⟨(hown.lt g hg).1,own_cells (hown.alloc _) hg⟩)
        exact h3.heap h2 (by omega)
       have hown3:W2.ownsRow (B + 1) 5 1 v' (acc ++ [gb s (k + 1)]).length (u8s (acc ++ [gb s (k + 1)])):=by
        have:u8s (acc ++ [gb s (k + 1)])=u8s acc ++ [.int .u8 (m:Nat)]:=by rw [u8s_snoc,hmc]
        rw [this,List.length_append]
        exact hown'
       clear hown hown' hgrow c0 c1 c2 c3 f0 f1 f2 f3 hk2
       go_wp2_with fail
       go_round
       case rel=>exact ⟨k + 2,acc ++ [gb s (k + 1)],by omega,by go_num,by rw [List.length_append];show acc.length + 1 ≤ _;omega,hown3,hr3,hN3,Lib.hid hqa.symm⟩
       case measure=>simp [intOf];omega
      ·have m34:((m:Int) != 34)=true:=m34
       have m92:((m:Int) != 92)=false:=m92
       go_upto_region 15 with fail
       go_wp2_with (at_builtin;refine wpList_append_own _ rfl _ _ 113 rfl (B + 1) 5 i0 _ 1 1 Tryz.underlying113 hi hz0 hz1 hz2 rfl (by decide) _ _ _ rfl (hown.alloc _) ⟨W.heap.size,0,none⟩ 1 1 [.int .u8 (m:Nat)] rfl rfl (cell_one_new _ _ _) (by simp [Value.oneCell']) (by unfold maxLen;omega) (by have:=hown.1;simp;omega) (by simp;omega) ?_)
       intro v' W2 hown' hgrow _
       have hk2:New W (W.alloc (.cells #[.int .u8 (m:Nat)] 5)):=(Mods.refl _ _).alloc _
       have hN3:New w W2:=(hN.alloc _).grown hgrow (fun g hg=>.inl (by have:=(hown.lt g hg).1;omega))
       have hr3:W2.heap[B]? = some (.cells #[.int .u8 0,.int .i64 0,.string ⟨#[]⟩,.bool false] 66 (0,0)):=by
        have h2:=hk2.heap hr id
        have h3:Mods (fun b=>B + 1 ≤ b) (W.alloc (.cells #[.int .u8 (m:Nat)] 5)) W2:=(Mods.refl _ _).grown hgrow (fun g hg=>.inr ⟨(hown.lt g hg).1,own_cells (hown.alloc _) hg⟩)
        exact h3.heap h2 (by omega)
       have hown3:W2.ownsRow (B + 1) 5 1 v' (acc ++ [gb s (k + 1)]).length (u8s (acc ++ [gb s (k + 1)])):=by
        have:u8s (acc ++ [gb s (k + 1)])=u8s acc ++ [.int .u8 (m:Nat)]:=by rw [u8s_snoc,hmc]
        rw [this,List.length_append]
        exact hown'
       clear hown hown' hgrow c0 c1 c2 c3 f0 f1 f2 f3 hk2
       go_wp2_with fail
       go_round
       case rel=>exact ⟨k + 2,acc ++ [gb s (k + 1)],by omega,by go_num,by rw [List.length_append];show acc.length + 1 ≤ _;omega,hown3,hr3,hN3,Lib.hid hqa.symm⟩
       case measure=>simp [intOf];omega
     ·rw [if_neg (fun h=>hok h.2)] at hqa
      have n34:((m:Int) != 34)=true:=by rw [m34,decide_eq_false (fun h=>hok (.inl h))];rfl
      have n92:((m:Int) != 92)=true:=by rw [m92,decide_eq_false (fun h=>hok (.inr h))];rfl
      clear m34 m92
      subst hqa
      unfold ReadP bv bcs noIt
      simp only
      clear hok hm hmc hp h34 h92
      go_wp2_with fail
      refine (HNo.out _).mono ?_
      rintro e wn ⟨rfl,hNn⟩
      have hN:=hN.trans hNn
      have hr:=hNn.heap hr id
      clear c0 c1 c2 c3 f0 f1 f2 f3 hNn
      obtain ⟨⟨c0,c1,c2,c3⟩,f0,f1,f2,f3⟩:=row_facts hr
      go_wp2_with fail
      obtain ⟨hN2,hr2⟩:=set4 hN hBw hr (.int .u8 0) (.int .i64 0) (.string ⟨#[]⟩) (.bool false)
      obtain ⟨W2,hW2⟩:∃ W2,((((wn.setCell ⟨B,0,none⟩ (.int .u8 0)).setCell ⟨B,1,none⟩ (.int .i64 0)).setCell ⟨B,2,none⟩ (.string ⟨#[]⟩)).setCell ⟨B,3,none⟩ (.bool false))=W2:=⟨_,rfl⟩
      rw [hW2] at hN2 hr2 ⊢
      exact read_end (by kernel_rfl) rfl rfl rfl hr2 ⟨rfl,hN2⟩
    ·have hge1':(s.size:Int) ≤ (k:Int) + 1:=by omega
     rw [if_neg (fun h=>hk1 h.1)] at hqa
     subst hqa
     unfold ReadP bv bcs noIt
     simp only
     clear hp h34 h92 hk1
     go_wp2_with fail
     refine (HNo.out _).mono ?_
     rintro e wn ⟨rfl,hNn⟩
     have hN:=hN.trans hNn
     have hr:=hNn.heap hr id
     clear c0 c1 c2 c3 f0 f1 f2 f3 hNn
     obtain ⟨⟨c0,c1,c2,c3⟩,f0,f1,f2,f3⟩:=row_facts hr
     go_wp2_with fail
     obtain ⟨hN2,hr2⟩:=set4 hN hBw hr (.int .u8 0) (.int .i64 0) (.string ⟨#[]⟩) (.bool false)
     obtain ⟨W2,hW2⟩:∃ W2,((((wn.setCell ⟨B,0,none⟩ (.int .u8 0)).setCell ⟨B,1,none⟩ (.int .i64 0)).setCell ⟨B,2,none⟩ (.string ⟨#[]⟩)).setCell ⟨B,3,none⟩ (.bool false))=W2:=⟨_,rfl⟩
     rw [hW2] at hN2 hr2 ⊢
     exact read_end (by kernel_rfl) rfl rfl rfl hr2 ⟨rfl,hN2⟩
   rw [decide_eq_false h92] at t92
   by_cases h32:n < 32
   ·have hpf:Bare.plnB (gb s k)=false:=by rw [hp];simp;omega
    rw [hpf,if_pos rfl] at hqa
    subst hqa
    unfold ReadP bv bcs noIt
    simp only
    clear hp h34 h92 hpf
    go_wp2_with fail
    refine (HNo.out _).mono ?_
    rintro e wn ⟨rfl,hNn⟩
    have hN:=hN.trans hNn
    have hr:=hNn.heap hr id
    clear c0 c1 c2 c3 f0 f1 f2 f3 hNn
    obtain ⟨⟨c0,c1,c2,c3⟩,f0,f1,f2,f3⟩:=row_facts hr
    go_wp2_with fail
    obtain ⟨hN2,hr2⟩:=set4 hN hBw hr (.int .u8 0) (.int .i64 0) (.string ⟨#[]⟩) (.bool false)
    obtain ⟨W2,hW2⟩:∃ W2,((((wn.setCell ⟨B,0,none⟩ (.int .u8 0)).setCell ⟨B,1,none⟩ (.int .i64 0)).setCell ⟨B,2,none⟩ (.string ⟨#[]⟩)).setCell ⟨B,3,none⟩ (.bool false))=W2:=⟨_,rfl⟩
    rw [hW2] at hN2 hr2 ⊢
    exact read_end (by kernel_rfl) rfl rfl rfl hr2 ⟨rfl,hN2⟩
   by_cases h126:126 < n
   ·have hpf:Bare.plnB (gb s k)=false:=by rw [hp];simp;omega
    rw [hpf,if_pos rfl] at hqa
    subst hqa
    unfold ReadP bv bcs noIt
    simp only
    clear hp h34 h92 hpf
    go_wp2_with fail
    refine (HNo.out _).mono ?_
    rintro e wn ⟨rfl,hNn⟩
    have hN:=hN.trans hNn
    have hr:=hNn.heap hr id
    clear c0 c1 c2 c3 f0 f1 f2 f3 hNn
    obtain ⟨⟨c0,c1,c2,c3⟩,f0,f1,f2,f3⟩:=row_facts hr
    go_wp2_with fail
    obtain ⟨hN2,hr2⟩:=set4 hN hBw hr (.int .u8 0) (.int .i64 0) (.string ⟨#[]⟩) (.bool false)
    obtain ⟨W2,hW2⟩:∃ W2,((((wn.setCell ⟨B,0,none⟩ (.int .u8 0)).setCell ⟨B,1,none⟩ (.int .i64 0)).setCell ⟨B,2,none⟩ (.string ⟨#[]⟩)).setCell ⟨B,3,none⟩ (.bool false))=W2:=⟨_,rfl⟩
    rw [hW2] at hN2 hr2 ⊢
    exact read_end (by kernel_rfl) rfl rfl rfl hr2 ⟨rfl,hN2⟩
   have hpt:Bare.plnB (gb s k)=true:=by rw [hp];simp;omega
   rw [hpt,if_neg (by decide),if_neg h34,if_neg h92] at hqa
   clear hp h34 h92 hpt
   go_upto_region 15 with fail
   go_wp2_with (at_builtin;refine wpList_append_own _ rfl _ _ 113 rfl (B + 1) 5 i0 _ 1 1 Tryz.underlying113 hi hz0 hz1 hz2 rfl (by decide) _ _ _ rfl (hown.alloc _) ⟨W.heap.size,0,none⟩ 1 1 [.int .u8 (n:Nat)] rfl rfl (cell_one_new _ _ _) (by simp [Value.oneCell']) (by unfold maxLen;omega) (by have:=hown.1;simp;omega) (by simp;omega) ?_)
   intro v' W2 hown' hgrow _
   have hk2:New W (W.alloc (.cells #[.int .u8 (n:Nat)] 5)):=(Mods.refl _ _).alloc _
   have hN3:New w W2:=(hN.alloc _).grown hgrow (fun g hg=>.inl (by have:=(hown.lt g hg).1;omega))
   have hr3:W2.heap[B]? = some (.cells #[.int .u8 0,.int .i64 0,.string ⟨#[]⟩,.bool false] 66 (0,0)):=by
    have h2:=hk2.heap hr id
    have h3:Mods (fun b=>B + 1 ≤ b) (W.alloc (.cells #[.int .u8 (n:Nat)] 5)) W2:=(Mods.refl _ _).grown hgrow (fun g hg=>.inr ⟨(hown.lt g hg).1,own_cells (hown.alloc _) hg⟩)
    exact h3.heap h2 (by omega)
   have hown3:W2.ownsRow (B + 1) 5 1 v' (acc ++ [gb s k]).length (u8s (acc ++ [gb s k])):=by
    have:u8s (acc ++ [gb s k])=u8s acc ++ [.int .u8 (n:Nat)]:=by rw [u8s_snoc,hnc]
    rw [this,List.length_append]
    exact hown'
   clear hown hown' hgrow c0 c1 c2 c3 f0 f1 f2 f3 hk2
   go_wp2_with fail
   go_round
   case rel=>exact ⟨k + 1,acc ++ [gb s k],by omega,by go_num,by rw [List.length_append];show acc.length + 1 ≤ _;omega,hown3,hr3,hN3,Lib.hid hqa.symm⟩
   case measure=>simp [intOf];omega
  ·have hqa:=quoted_end acc s k (by omega)
   rw [HR.out] at hqa
   clear HR
   subst hqa
   unfold ReadP bv bcs noIt
   simp only
   go_wp2_with fail
   refine (HNo.out _).mono ?_
   rintro e wn ⟨rfl,hNn⟩
   have hN:=hN.trans hNn
   have hr:=hNn.heap hr id
   clear c0 c1 c2 c3 f0 f1 f2 f3 hNn
   obtain ⟨⟨c0,c1,c2,c3⟩,f0,f1,f2,f3⟩:=row_facts hr
   go_wp2_with fail
   obtain ⟨hN2,hr2⟩:=set4 hN hBw hr (.int .u8 0) (.int .i64 0) (.string ⟨#[]⟩) (.bool false)
   obtain ⟨W2,hW2⟩:∃ W2,((((wn.setCell ⟨B,0,none⟩ (.int .u8 0)).setCell ⟨B,1,none⟩ (.int .i64 0)).setCell ⟨B,2,none⟩ (.string ⟨#[]⟩)).setCell ⟨B,3,none⟩ (.bool false))=W2:=⟨_,rfl⟩
   rw [hW2] at hN2 hr2 ⊢
   exact read_end (by kernel_rfl) rfl rfl rfl hr2 ⟨rfl,hN2⟩


theorem tok_bad2 (k:Nat) (c:UInt8):((k == 0 && (!Bare.letB c && !(c == 42))) || (!Bare.letB c && (!Bare.digB c && !Bare.marks.contains c))) = !tokAt k c:=by
 have h42:c=42→Bare.marks.contains c=true:=by rintro rfl;decide
 unfold tokAt Bare.headTok Bare.inTok
 by_cases hk:k=0
 ·subst hk
  by_cases h:c=42
  ·have hm:=h42 h
   have hb:(c == 42)=true:=by simpa using h
   rw [hm,hb,if_pos rfl]
   cases Bare.letB c <;> cases Bare.digB c <;> rfl
  ·have hb:(c == 42)=false:=by simpa using h
   rw [hb,if_pos rfl]
   cases Bare.letB c <;> cases Bare.digB c <;> cases Bare.marks.contains c <;> rfl
 ·have:(k == 0)=false:=by simpa using hk
  rw [if_neg hk,this]
  cases Bare.letB c <;> cases Bare.digB c <;> cases Bare.marks.contains c <;> rfl
theorem token_r (s:ByteArray) (w:World) (hs:s.size ≤ 9223372036854775807) :
    Calls Tryz.prog 77 #[.string s] w fun e w'=>e = .returned (.bool (Bare.tokB (bl s)))∧w'=w:=by
  have HB:=Lib.hid (tokB_at (bl s))
  obtain ⟨r,hr⟩:∃ r,Bare.tokB (bl s)=r:=⟨_,rfl⟩
  rw [hr] at HB ⊢
  clear hr
  go_enter Tryz.func77,Tryz.ntmps77
  go_wp2_with fail
  go_loop [3,4] (fun c _=>∃ k:Nat,k ≤ s.size∧c = .int .i64 k∧Hid (∀ j,j < k→tokAt j (gb s j)=true)) (fun c _=>s.size - (intOf c).toNat)
  case atStart=>exact ⟨0,Nat.zero_le _,rfl,Lib.hid fun i hi=>by omega⟩
  case round =>
    obtain ⟨k,hk,rfl,hbef⟩:=hrel
    by_cases hlt:k < s.size
    · have hix:=run_idx s k hlt
      have hnext:tokAt k (gb s k)=true→Hid (∀ j,j < k + 1→tokAt j (gb s j)=true):=fun hg=>Lib.hid fun i hi=>by
        by_cases hik:i < k
        · exact hbef.out i hik
        · obtain rfl:i=k:=by omega
          exact hg
      have hstop:tokAt k (gb s k)=false→r=false:=fun hg=>by
        rw [Bool.eq_false_iff]
        intro h
        have:=(HB.out.1 h).2 k _ (gb_get s k hlt)
        rw [hg] at this;cases this
      have Hbad:=Lib.hid (tok_bad2 k (gb s k))
      have HL:=Lib.hid (letter_r (gb s k))
      have HD:=Lib.hid (digit_r (gb s k))
      have HM:∀ W,Calls Tryz.prog 128 (#[Value.int .u8 ((gb s k).toNat:Nat)] ++ #[]) W fun e w'=>e = .returned (.bool (Bare.marks.contains (gb s k)))∧w'=W:=mark_r (gb s k)
      replace HM:=Lib.hid HM
      have hEM:(gb s k == 42)=true→Bare.marks.contains (gb s k)=true:=fun h=>by rw [eq_of_beq h];decide
      have h42:((gb s k) == 42)=decide (((gb s k).toNat:Int)=42):=by
        rw [Bool.eq_iff_iff,beq_iff_eq,decide_eq_true_eq,← UInt8.toNat_inj]
        show (gb s k).toNat=42 ↔ _
        omega
      have hk0:(k == 0)=decide ((k:Int)=0):=by
        rw [Bool.eq_iff_iff,beq_iff_eq,decide_eq_true_eq];omega
      rw [h42,hk0] at Hbad
      rw [h42] at hEM
      clear hbef h42 hk0
      obtain ⟨T,hT⟩:∃ x,tokAt k (gb s k)=x:=⟨_,rfl⟩
      obtain ⟨L,hL⟩:∃ x,Bare.letB (gb s k)=x:=⟨_,rfl⟩
      obtain ⟨D,hD⟩:∃ x,Bare.digB (gb s k)=x:=⟨_,rfl⟩
      obtain ⟨M,hM⟩:∃ x,Bare.marks.contains (gb s k)=x:=⟨_,rfl⟩
      rw [hT] at Hbad hnext hstop
      rw [hL] at Hbad HL
      rw [hD] at Hbad HD
      rw [hM] at Hbad HM hEM
      obtain ⟨n,hn⟩:∃ x,(gb s k).toNat=x:=⟨_,rfl⟩
      rw [hn] at HL HD HM Hbad hix hEM
      clear hT hL hD hM hn
      obtain ⟨E,hE⟩:∃ x,decide ((n:Int)=42)=x:=⟨_,rfl⟩
      have hE2:((n:Int) == 42)=E:=hE
      have hE3:((n:Int) != 42) = !E:=by rw [← hE2];rfl
      obtain ⟨Z,hZ⟩:∃ x,decide ((k:Int)=0)=x:=⟨_,rfl⟩
      have hZ2:((k:Int) == 0)=Z:=hZ
      rw [hE,hZ] at Hbad
      rw [hE] at hEM
      have hcase:(Z=true∧L=true∧T=true) ∨ (Z=false∧L=true∧T=true) ∨ (Z=true∧L=false∧E=true∧D=true∧T=true) ∨ (Z=true∧L=false∧E=true∧D=false∧M=true∧T=true) ∨ (Z=true∧L=false∧E=false∧T=false) ∨ (Z=false∧L=false∧D=true∧T=true) ∨ (Z=false∧L=false∧D=false∧M=true∧T=true) ∨ (Z=false∧L=false∧D=false∧M=false∧T=false):=by
        have:=Hbad.out
        revert this hEM
        cases L <;> cases E <;> cases Z <;> cases D <;> cases M <;> cases T <;> simp
      clear Hbad hEM
      rcases hcase with ⟨rfl,rfl,rfl⟩ | ⟨rfl,rfl,rfl⟩ | ⟨rfl,rfl,rfl,rfl,rfl⟩ | ⟨rfl,rfl,rfl,rfl,rfl,rfl⟩ | ⟨rfl,rfl,rfl,rfl⟩ | ⟨rfl,rfl,rfl,rfl⟩ | ⟨rfl,rfl,rfl,rfl,rfl⟩ | ⟨rfl,rfl,rfl,rfl,rfl⟩
      all_goals
        try simp only [Bool.not_true,Bool.not_false] at hE3
        first
        | (have hh:=hnext rfl
           clear hnext hstop
           go_wp2_with (first | (go_at_call 126;refine (HL.out _).mono ?_;rintro e w' ⟨rfl,rfl⟩) | (go_at_call 127;refine (HD.out _).mono ?_;rintro e w' ⟨rfl,rfl⟩) | (go_at_call 128;refine (HM.out _).mono ?_;rintro e w' ⟨rfl,rfl⟩))
           go_round
           case rel=>exact ⟨k + 1,by omega,by go_num,hh⟩
           case measure=>simp [intOf];omega)
        | (have hh:=hstop rfl
           clear hnext hstop
           subst hh
           go_wp2_with (first | (go_at_call 126;refine (HL.out _).mono ?_;rintro e w' ⟨rfl,rfl⟩) | (go_at_call 127;refine (HD.out _).mono ?_;rintro e w' ⟨rfl,rfl⟩) | (go_at_call 128;refine (HM.out _).mono ?_;rintro e w' ⟨rfl,rfl⟩))
           go_ret
           exact ⟨rfl,rfl⟩)
    · obtain rfl:k=s.size:=by omega
      have hr:r=decide (0 < s.size):=by
        rw [Bool.eq_iff_iff,HB.out,decide_eq_true_eq]
        have hl:=bl_len s
        constructor
        · rintro ⟨h,-⟩
          have:=List.length_pos_iff.2 h
          omega
        · intro h
          refine ⟨fun e=>by rw [e] at hl;simp at hl;omega,fun k c hk=>?_⟩
          obtain ⟨h1,rfl⟩:=get_gb hk
          exact hbef.out k h1
      subst hr
      clear HB hbef
      by_cases h0:0 < s.size
      · go_wp2_with fail
        go_ret
        exact ⟨by simp [h0],rfl⟩
      · go_wp2_with fail
        go_ret
        exact ⟨by simp [h0],rfl⟩


theorem v6_s6:∀ k:Fin 64,Bare.v6 (Bare.s6 k.1)=some k.1:=by decide +kernel
theorem gb_six (k:Nat) (h:k < 64):gb (tx Bare.sx) k=Bare.s6 k:=by
 have:=gb_get (tx Bare.sx) k h
 rw [bl_tx] at this
 unfold Bare.s6
 rw [List.getD_eq_getElem?_getD,this]
 rfl
def sixV (c:UInt8):Int:=match Bare.v6 c with | some v=>(v:Int) | none=>-1
theorem six_r (c:UInt8) (w:World):Calls Tryz.prog 202 #[.int .u8 (c.toNat:Nat)] w fun e w'=>e = .returned (.int .i64 (sixV c))∧w'=w:=by
 obtain ⟨r,hr⟩:∃ r,sixV c=r:=⟨_,rfl⟩
 have hy:∀ k,k < 64→gb (tx Bare.sx) k=c→r=(k:Int):=fun k hk hg=>by
  rw [← hr,← hg,gb_six k hk]
  unfold sixV
  rw [v6_s6 ⟨k,hk⟩]
 have hn:(∀ k,k < 64→gb (tx Bare.sx) k ≠ c)→r = -1:=fun h=>by
  rw [← hr]
  unfold sixV
  cases hv:Bare.v6 c with
  | none=>rfl
  | some v =>
   obtain ⟨h1,h2⟩:=Bare.v6_facts hv
   exact absurd (by rw [gb_six v h1];exact h2) (h v h1)
 rw [hr]
 clear hr
 have hi:∀ k,k < 64→∀ W,(Instr.index 9 (.string ⟨#[65,66,67,68,69,70,71,72,73,74,75,76,77,78,79,80,81,82,83,84,85,86,87,88,89,90,97,98,99,100,101,102,103,104,105,106,107,108,109,110,111,112,113,114,115,116,117,118,119,120,121,122,48,49,50,51,52,53,54,55,56,57,43,47]⟩) (.int .i64 (k:Nat))).run Tryz.prog W = .ok (.int .u8 ((gb (tx Bare.sx) k).toNat:Nat)) W:=fun k hk=>run_idx (tx Bare.sx) k hk
 go_enter Tryz.func202,Tryz.ntmps202
 go_wp2_with fail
 go_loop [3] (fun c'=>∃ k:Nat,k ≤ 64∧c' = .int .i64 k∧Hid (∀ j,j < k→gb (tx Bare.sx) j ≠ c)) (fun c=>64 - (intOf c).toNat)
 case atStart=>exact ⟨0,Nat.zero_le _,rfl,Lib.hid fun i hi=>by omega⟩
 case round =>
  obtain ⟨k,hk,rfl,hbef⟩:=hrel
  by_cases hlt:k < 64
  ·have hix:=hi k hlt
   have hnext:gb (tx Bare.sx) k ≠ c→Hid (∀ j,j < k + 1→gb (tx Bare.sx) j ≠ c):=fun hg=>Lib.hid fun i hi=>by
    by_cases hik:i < k
    ·exact hbef.out i hik
    ·obtain rfl:i=k:=by omega
     exact hg
   have hstop:=hy k hlt
   by_cases hg:gb (tx Bare.sx) k=c
   ·have hh:=hstop hg
    rw [hg] at hix
    clear hnext hstop hg hbef hi hy hn
    subst hh
    obtain ⟨n,hn⟩:∃ n,c.toNat=n:=⟨_,rfl⟩
    rw [hn] at hix ⊢
    go_wp2_with fail
    go_ret
    exact ⟨rfl,rfl⟩
   ·have hh:=hnext hg
    have hne:((gb (tx Bare.sx) k).toNat:Int) ≠ (c.toNat:Int):=fun e=>hg (UInt8.toNat_inj.1 (Int.ofNat_inj.1 e))
    obtain ⟨m,hm⟩:∃ m,(gb (tx Bare.sx) k).toNat=m:=⟨_,rfl⟩
    rw [hm] at hix hne
    obtain ⟨n,hn⟩:∃ n,c.toNat=n:=⟨_,rfl⟩
    rw [hn] at hne ⊢
    have heq:((m:Int) == (n:Int))=false:=by simpa using hne
    clear hnext hstop hg hbef hi hy hm hne
    go_wp2_with fail
    go_round
    case rel=>exact ⟨k + 1,by omega,by go_num,hh⟩
    case measure=>simp [intOf];omega
  ·obtain rfl:k=64:=by omega
   have hh:=hn hbef.out
   clear hi hy hn hbef
   subst hh
   go_wp2_with fail
   go_ret
   exact ⟨rfl,rfl⟩


theorem run_sx (k:Nat) (h:k < 64) (W:World):(Instr.index 9 (.string ⟨#[65,66,67,68,69,70,71,72,73,74,75,76,77,78,79,80,81,82,83,84,85,86,87,88,89,90,97,98,99,100,101,102,103,104,105,106,107,108,109,110,111,112,113,114,115,116,117,118,119,120,121,122,48,49,50,51,52,53,54,55,56,57,43,47]⟩) (.int .i64 (k:Nat))).run Tryz.prog W = .ok (.int .u8 ((Bare.s6 k).toNat:Nat)) W:=by
 have:=run_idx (tx Bare.sx) k h W
 rw [gb_six k h] at this
 exact this
theorem lit67 (t:Array Value) (h:t.size=67):∃ u:Nat→Value,t=(u 0::u 1::u 2::u 3::u 4::u 5::u 6::u 7::u 8::u 9::u 10::u 11::u 12::u 13::u 14::u 15::u 16::u 17::u 18::u 19::u 20::u 21::u 22::u 23::u 24::u 25::u 26::u 27::u 28::u 29::u 30::u 31::u 32::u 33::u 34::u 35::u 36::u 37::u 38::u 39::u 40::u 41::u 42::u 43::u 44::u 45::u 46::u 47::u 48::u 49::u 50::u 51::u 52::u 53::u 54::u 55::u 56::u 57::u 58::u 59::u 60::u 61::u 62::u 63::u 64::u 65::u 66::([]:List Value)).toArray:=⟨fun i=>t.getD i undef,range_lit t 67 h⟩
noncomputable def reg_causeyref12_Sixes_13:Code:=((Tryz.f79.body.bind (regionOf 13)).getD .skip)
theorem sixes13 (t:Array Value) (hs:t.size=67) (w:World) {N a0 a1 a2 a3:Nat}
  (hq5:t.getD 5 undef = .int .i64 N)
  (e0:(N:Int) / 262144=(a0:Int)) (e1:(N:Int) / 4096 % 64=(a1:Int)) (e2:(N:Int) / 64 % 64=(a2:Int)) (e3:(N:Int) % 64=(a3:Int)) (h0:a0 < 64) (h1:a1 < 64) (h2:a2 < 64) (h3:a3 < 64) (w0:IntKind.i64.wrap (a0:Int)=(a0:Int)) (w1:IntKind.i64.wrap ((N:Int) / 4096)=(N:Int) / 4096) (w2:IntKind.i64.wrap ((N:Int) / 64)=(N:Int) / 64) :
  reg_causeyref12_Sixes_13.wp Tryz.prog (Only fun a' W'=>∃ z:Nat→Value,∃ X,a'=⟨((pz t z [38,39,40,41,42,43,44,45,46,47,48,49,50,51,52]).setIfInBounds 8 (.slice (some ⟨X,0,none⟩) 4 4)),[]⟩∧W'.heap[X]? = some (.cells #[.int .u8 ((Bare.s6 a0).toNat:Nat),.int .u8 ((Bare.s6 a1).toNat:Nat),.int .u8 ((Bare.s6 a2).toNat:Nat),.int .u8 ((Bare.s6 a3).toNat:Nat)] 5 (0,0))∧w.heap.size ≤ X∧New w W') ⟨t,[]⟩ w:=by
 conv=>arg 2;whnf
 obtain ⟨u,rfl⟩:=lit67 t hs
 have hq5:u 5 = _:=hq5
 rw [hq5]
 clear hq5 hs
 refine wp_region_held (S:=fun W=>New w W) (by kernel_rfl) ?_
 show wpAnyH _ _ _ _ _ 16 _ _ w.drew
 have hN:New w w.drew:=(Mods.refl _ _).drew
 have hS:New w w.drew:=(Mods.refl _ _).drew
 refine tkI 0 (some 38) (.int .i64 N) hS ?_
 simp only [pS]
 refine tkA 1 rfl (some 39) (.int .i64 a0) (.inl ⟨by rfl,fun W hW=>by go_simp;first | done | exact w0 | exact e0⟩) hS ?_
 simp only [pS]
 refine tkA 2 rfl (some 40) (.int .u8 ((Bare.s6 a0).toNat:Nat)) (.inl ⟨by rfl,fun W hW=>by have hz:=run_sx a0 h0 W;go_simp⟩) hS ?_
 simp only [pS]
 refine tkI 3 (some 41) (.int .i64 N) hS ?_
 simp only [pS]
 refine tkA 4 rfl (some 42) (.int .i64 ((N:Int) / 4096)) (.inl ⟨by rfl,fun W hW=>by go_simp;first | done | exact w1⟩) hS ?_
 simp only [pS]
 refine tkA 5 rfl (some 43) (.int .i64 a1) (.inl ⟨by rfl,fun W hW=>by go_simp;first | done | exact e1⟩) hS ?_
 simp only [pS]
 refine tkA 6 rfl (some 44) (.int .u8 ((Bare.s6 a1).toNat:Nat)) (.inl ⟨by rfl,fun W hW=>by have hz:=run_sx a1 h1 W;go_simp⟩) hS ?_
 simp only [pS]
 refine tkI 7 (some 45) (.int .i64 N) hS ?_
 simp only [pS]
 refine tkA 8 rfl (some 46) (.int .i64 ((N:Int) / 64)) (.inl ⟨by rfl,fun W hW=>by go_simp;first | done | exact w2⟩) hS ?_
 simp only [pS]
 refine tkA 9 rfl (some 47) (.int .i64 a2) (.inl ⟨by rfl,fun W hW=>by go_simp;first | done | exact e2⟩) hS ?_
 simp only [pS]
 refine tkA 10 rfl (some 48) (.int .u8 ((Bare.s6 a2).toNat:Nat)) (.inl ⟨by rfl,fun W hW=>by have hz:=run_sx a2 h2 W;go_simp⟩) hS ?_
 simp only [pS]
 refine tkI 11 (some 49) (.int .i64 N) hS ?_
 simp only [pS]
 refine tkA 12 rfl (some 50) (.int .i64 a3) (.inl ⟨by rfl,fun W hW=>by go_simp;first | done | exact e3⟩) hS ?_
 simp only [pS]
 refine tkA 13 rfl (some 51) (.int .u8 ((Bare.s6 a3).toNat:Nat)) (.inl ⟨by rfl,fun W hW=>by have hz:=run_sx a3 h3 W;go_simp⟩) hS ?_
 simp only [pS]
 refine tkO 14 ?_
 refine opH_value (some 52) rfl (by rfl) rfl (v:=.slice (some ⟨w.drew.heap.size,0,none⟩) 4 4) (w':=w.drew.alloc (.cells #[.int .u8 ((Bare.s6 a0).toNat:Nat),.int .u8 ((Bare.s6 a1).toNat:Nat),.int .u8 ((Bare.s6 a2).toNat:Nat),.int .u8 ((Bare.s6 a3).toNat:Nat)] 5)) (by go_simp) ?_
 have hA:New w.drew (w.drew.alloc (.cells #[.int .u8 ((Bare.s6 a0).toNat:Nat),.int .u8 ((Bare.s6 a1).toNat:Nat),.int .u8 ((Bare.s6 a2).toNat:Nat),.int .u8 ((Bare.s6 a3).toNat:Nat)] 5)):=(Mods.refl _ _).alloc _
 have rX:=World.alloc_heap_new w.drew (.cells #[.int .u8 ((Bare.s6 a0).toNat:Nat),.int .u8 ((Bare.s6 a1).toNat:Nat),.int .u8 ((Bare.s6 a2).toNat:Nat),.int .u8 ((Bare.s6 a3).toNat:Nat)] 5)
 have hS:=hS.trans hA
 refine ⟨hS,?_⟩
 simp only [pS]
 refine tkI 15 (some 8) (.slice (some ⟨w.drew.heap.size,0,none⟩) 4 4) hS ?_
 simp only [pS]
 refine wpAnyH_done (by kernel_rfl) ?_ _
 exact zc1 _ rfl ⟨rX,hN.size,hS⟩
def nv (l:Bare.Bs):Nat→Nat
 | 0=>0
 | m + 1=>nv l m * 256 + (l.getD m 0).toNat
theorem nv_chunk (l:Bare.Bs):(Bare.chunk l).1=nv l 3:=by
 unfold Bare.chunk nv nv nv nv
 simp only
 omega
theorem nv_lt (l:Bare.Bs):nv l 2 ≤ 65535∧nv l 1 ≤ 255∧nv l 0=0:=by
 unfold nv nv nv
 have h0:=UInt8.toNat_lt (l.getD 0 0)
 have h1:=UInt8.toNat_lt (l.getD 1 0)
 omega
theorem nv_small (l:Bare.Bs) {m:Nat} (h:m < 3):nv l m ≤ 65535:=by
 have:=nv_lt l
 rcases (by omega:m=0 ∨ m=1 ∨ m=2) with rfl | rfl | rfl <;> omega
theorem sixes_step {l:Bare.Bs} (h:l ≠ []):Bare.sixes l=Bare.four (Bare.chunk l) ++ Bare.sixes (l.drop 3):=by
 rw [Bare.sixes_four,Bare.chunks_cons h,List.flatMap_cons,← Bare.sixes_four]
theorem four_cells {N h a0 a1 a2 a3:Nat} (e0:(N:Int) / 262144=(a0:Int)) (e1:(N:Int) / 4096 % 64=(a1:Int)) (e2:(N:Int) / 64 % 64=(a2:Int)) (e3:(N:Int) % 64=(a3:Int)) (h0:a0 < 64) (hh:1 ≤ h) :
  u8s (Bare.four (N,h)) = [.int .u8 ((Bare.s6 a0).toNat:Nat),.int .u8 ((Bare.s6 a1).toNat:Nat),.int .u8 ((if h < 2 then 61 else Bare.s6 a2).toNat:Nat),.int .u8 ((if h < 3 then 61 else Bare.s6 a3).toNat:Nat)]:=by
 have f0:N / 2 ^ (18 - 6 * 0) % 64=a0:=by simp;omega
 have f1:N / 2 ^ (18 - 6 * 1) % 64=a1:=by simp;omega
 have f2:N / 2 ^ (18 - 6 * 2) % 64=a2:=by simp;omega
 have f3:N / 2 ^ (18 - 6 * 3) % 64=a3:=by simp;omega
 unfold Bare.four Bare.letterOf
 simp only [f0,f1,f2,f3]
 rw [if_neg (by omega:¬ h < 0),if_neg (by omega:¬ h < 1)]
 rfl
theorem sixes_r (s:ByteArray) (w:World) (hs:s.size ≤ 1000000) :
  Calls Tryz.prog 79 #[.string s] w fun e w'=>e = .returned (.string (tx (Bare.sixes (bl s))))∧New w w':=by
 obtain ⟨i0,hi,hz0,hz1,hz2⟩:=info_parts infoB'
 obtain ⟨R,hR⟩:∃ R,Bare.sixes (bl s)=R:=⟨_,rfl⟩
 have HR:Hid (([]:Bare.Bs) ++ Bare.sixes ((bl s).drop 0)=R):=Lib.hid (by simpa using hR)
 rw [hR]
 clear hR
 have hN0:New w w:=Mods.refl _ _
 obtain ⟨B,hB⟩:∃ B,w.heap.size=B:=⟨_,rfl⟩
 have hown0:=World.ownsRow_nil w B 5 1
 have hNs:∀ W,New w W→B ≤ W.heap.size:=fun W h=>by have:=h.size;omega
 go_enter Tryz.func79,Tryz.ntmps79
 go_upto_region 3 with fail
 go_loopw [3,4] (fun v i W=>∃ (j:Nat) (acc:Bare.Bs),j ≤ s.size + 2∧i = .int .i64 j∧acc.length ≤ 2 * j∧W.ownsRow B 5 1 v acc.length (u8s acc)∧New w W∧Hid (acc ++ Bare.sixes ((bl s).drop j)=R)) (fun _ i _=>s.size + 3 - (intOf i).toNat)
 case atStart=>exact ⟨0,[],by omega,rfl,by simp,hown0,hN0,HR⟩
 case round =>
  clear HR hN0 hown0
  obtain ⟨wo,hwo⟩:∃ x,x=wr:=⟨_,rfl⟩
  subst hwo
  obtain ⟨j,acc,hj,rfl,hal,hown,hN,HR⟩:=hrel
  by_cases hlt:j < s.size
  ·obtain ⟨l,hl⟩:∃ l,(bl s).drop j=l:=⟨_,rfl⟩
   have hll:l.length=s.size - j:=by rw [← hl,List.length_drop,bl_len]
   have hlg:∀ m,j + m < s.size→l.getD m 0=gb s (j + m):=fun m hm=>by
    rw [← hl,List.getD_eq_getElem?_getD,List.getElem?_drop,gb_get s (j + m) hm];rfl
   have hl0:∀ m,¬ j + m < s.size→l.getD m 0=0:=fun m hm=>by
    rw [List.getD_eq_getElem?_getD,List.getElem?_eq_none (by omega)];rfl
   have hst:=sixes_step (l:=l) (by intro e;rw [e] at hll;simp at hll;omega)
   have hR2:acc ++ (Bare.four (Bare.chunk l) ++ Bare.sixes ((bl s).drop (j + 3)))=R:=by
    rw [← HR.out,hl,hst,← hl,List.drop_drop]
   have HR2:=Lib.hid hR2
   obtain ⟨hv,hhv⟩:∃ h,s.size - j=h:=⟨_,rfl⟩
   have hv1:1 ≤ hv:=by omega
   have hjv:s.size=j + hv:=by omega
   have HL:=Lib.hid (And.intro hlg hl0)
   have HOW:=Lib.hid hown
   have hch:Bare.chunk l=(nv l 3,min 3 hv):=by
    rw [← nv_chunk]
    unfold Bare.chunk
    rw [hll,hhv]
   have HCH:=Lib.hid hch
   have HJV:=Lib.hid hjv
   have hsj:(s.size:Int)=(j:Int) + (hv:Int):=by omega
   have hjb:(j:Int) + (hv:Int) ≤ 1000000:=by omega
   clear hst hR2 hlg hl0 hown HR hl hll hhv hch hjv
   go_upto_region 7 with fail
   go_loop [5,6,7] (fun a b c=>∃ m:Nat,m ≤ 3∧a = .int .i64 (nv l m:Nat)∧b = .int .i64 (min m hv:Nat)∧c = .int .i64 m) (fun _ _ c=>3 - (intOf c).toNat)
   case atStart=>exact ⟨0,by omega,rfl,by simp,rfl⟩
   case round =>
    obtain ⟨m,hm,rfl,rfl,rfl⟩:=hrel
    by_cases hm3:m < 3
    ·have hb:=nv_small l hm3
     obtain ⟨x,hx⟩:∃ x,nv l m=x:=⟨_,rfl⟩
     have hx1:nv l (m + 1)=x * 256 + (l.getD m 0).toNat:=by rw [← hx];rfl
     rw [hx] at hb ⊢
     by_cases hin:m < hv
     ·have hmi:min m hv=m:=by omega
      have hmi2:min (m + 1) hv=m + 1:=by omega
      have hsz:=HJV.out
      have hix:=run_idx s (j + m) (by omega)
      have hg:=HL.out.1 m (by omega)
      have hix2:∀ W,(Instr.index 9 (.string s) (.int .i64 ((j:Int) + (m:Int)))).run Tryz.prog W = .ok (.int .u8 ((l.getD m 0).toNat:Nat)) W:=fun W=>by rw [hg];exact hix W
      obtain ⟨b,hbb⟩:∃ b,(l.getD m 0).toNat=b:=⟨_,rfl⟩
      have hb256:b < 256:=by rw [← hbb];exact UInt8.toNat_lt _
      rw [hbb] at hix2 hx1
      rw [hmi]
      have hlj:(j:Int) + (m:Int) < (j:Int) + (hv:Int):=by omega
      clear hmi hix hg hbb hx hsz
      go_wp2_with fail
      go_round
      case rel=>exact ⟨m + 1,by omega,by rw [hx1];go_num,by rw [hmi2];go_num,by go_num⟩
      case measure=>simp [intOf];omega
     ·have hmi:min m hv=hv:=by omega
      have hmi2:min (m + 1) hv=hv:=by omega
      have hg:=HL.out.2 m (by have:=HJV.out;omega)
      rw [hg] at hx1
      rw [hmi]
      have hlj:¬ (j:Int) + (m:Int) < (j:Int) + (hv:Int):=by omega
      clear hmi hg hx
      go_wp2_with fail
      go_round
      case rel=>exact ⟨m + 1,by omega,by rw [hx1];simp,by rw [hmi2],by go_num⟩
      case measure=>simp [intOf];omega
    ·obtain rfl:m=3:=by omega
     have hNlt:nv l 3 < 16777216:=by rw [← nv_chunk];exact Bare.chunk_lt l
     have HCH2:=HCH.out
     obtain ⟨N,hNN⟩:∃ N,nv l 3=N:=⟨_,rfl⟩
     obtain ⟨h,hh⟩:∃ h,min 3 hv=h:=⟨_,rfl⟩
     have hh13:1 ≤ h∧h ≤ 3:=by omega
     obtain ⟨hh1,hh3⟩:=hh13
     rw [hNN] at hNlt HCH2 ⊢
     rw [hh] at HCH2 ⊢
     replace HCH2:=Lib.hid HCH2
     clear hNN hh hm hm3
     obtain ⟨a0,e0,h0⟩:∃ a:Nat,(N:Int) / 262144=(a:Int)∧a < 64:=⟨N / 262144,by omega,by omega⟩
     obtain ⟨a1,e1,h1⟩:∃ a:Nat,(N:Int) / 4096 % 64=(a:Int)∧a < 64:=⟨N / 4096 % 64,by omega,by omega⟩
     obtain ⟨a2,e2,h2⟩:∃ a:Nat,(N:Int) / 64 % 64=(a:Int)∧a < 64:=⟨N / 64 % 64,by omega,by omega⟩
     obtain ⟨a3,e3,h3⟩:∃ a:Nat,(N:Int) % 64=(a:Int)∧a < 64:=⟨N % 64,by omega,by omega⟩
     have HF:=Lib.hid (four_cells e0 e1 e2 e3 h0 hh1)
     go_upto_region 13 with fail
     refine piece (fun _=>_) (sixes13 _ rfl wo rfl e0 e1 e2 e3 h0 h1 h2 h3 (IntWalk.i64_in _ ⟨by omega,by omega⟩) (IntWalk.i64_in _ ⟨by omega,by omega⟩) (IntWalk.i64_in _ ⟨by omega,by omega⟩)) ?_
     rintro a' W1 ⟨z,X,rfl,rX,hXw,hN1⟩
     simp only [pS]
     have ho1:=Mods.ownsRow hN1 HOW.out (fun _ _ h=>h)
     have HOlt:=Lib.hid HOW.out.lt
     have HO1:=Lib.hid ho1
     clear e0 e1 e2 e3 h0 h1 h2 h3 hNlt ho1
     go_upto_region 15 with fail
     go_loopw [9] (fun t W=>∃ m:Nat,h + 1 ≤ m∧m ≤ 4∧t = .int .i64 m∧W.heap[X]? = some (.cells #[.int .u8 ((Bare.s6 a0).toNat:Nat),.int .u8 ((Bare.s6 a1).toNat:Nat),.int .u8 ((if h < 2∧2 < m then 61 else Bare.s6 a2).toNat:Nat),.int .u8 ((if h < 3∧3 < m then 61 else Bare.s6 a3).toNat:Nat)] 5 (0,0))∧Mods (fun b=>b=X) W1 W) (fun t _=>4 - (intOf t).toNat)
     case atStart=>exact ⟨h + 1,by omega,by omega,by go_num,by rw [if_neg (by omega),if_neg (by omega)];exact rX,Mods.refl _ _⟩
     case round =>
      obtain ⟨m,hm1,hm4,rfl,rX2,hM⟩:=hrel
      clear rX
      have hXl:=(Array.getElem?_eq_some_iff.1 rX2).1
      by_cases hlt4:m < 4
      ·have hmd:decide ((m:Int) < 4)=true:=decide_eq_true (by omega)
       rcases (by omega:m=2 ∨ m=3) with rfl | rfl
       ·have c2:=cell_of_row _ _ 2 _ _ _ rX2
        have f2:=frozen_row (i:=2) rX2
        have s2:=setCell_heap (i:=2) rX2 (.int .u8 61)
        simp only [List.getElem?_toArray,List.getElem?_cons_zero,List.getElem?_cons_succ] at c2
        simp only [pS] at s2
        have hM2:=hM.trans (setMods wr X 2 (.int .u8 61))
        clear rX2
        go_wp2_with fail
        go_roundw
        case rel=>exact ⟨3,by omega,by omega,by go_num,by rw [s2,if_pos (show h < 2∧2 < 3 by omega),if_neg (show ¬ (h < 3∧3 < 3) by omega),if_neg (show ¬ (h < 3∧3 < 2) by omega)];rfl,hM2⟩
        case measure=>simp [intOf]
       ·have c2:=cell_of_row _ _ 3 _ _ _ rX2
        have f2:=frozen_row (i:=3) rX2
        have s2:=setCell_heap (i:=3) rX2 (.int .u8 61)
        simp only [List.getElem?_toArray,List.getElem?_cons_zero,List.getElem?_cons_succ] at c2
        simp only [pS] at s2
        have hM2:=hM.trans (setMods wr X 3 (.int .u8 61))
        clear rX2
        go_wp2_with fail
        go_roundw
        case rel=>exact ⟨4,by omega,by omega,by go_num,by rw [s2,if_pos (show h < 3∧3 < 4 by omega)];congr 6;simp,hM2⟩
        case measure=>simp [intOf]
      ·obtain rfl:m=4:=by omega
       have ho2:=Mods.ownsRow hM HO1.out (fun g hg e=>by have:=(HOlt.out g hg).2;omega)
       have hN2:New w wr:=((Mods.ofNew (hN.trans hN1)).trans hM).new (fun g hg=>by have:=hNs _ hN;omega)
       have hf:=HF.out
       have e2:(if h < 2∧2 < 4 then (61:UInt8) else Bare.s6 a2)=if h < 2 then 61 else Bare.s6 a2:=by congr 1;simp
       have e3:(if h < 3∧3 < 4 then (61:UInt8) else Bare.s6 a3)=if h < 3 then 61 else Bare.s6 a3:=by congr 1;simp
       rw [e2,e3] at rX2
       have rX3:wr.heap[X]? = some (.cells (u8s (Bare.four (N,h))).toArray 5 (0,0)):=by rw [hf];exact rX2
       obtain ⟨F,hF⟩:∃ F,Bare.four (N,h)=F:=⟨_,rfl⟩
       have hFl:F.length=4:=by rw [← hF];rfl
       rw [hF] at rX3
       have HFF:=Lib.hid hF
       have hlu:(u8s F).length=4:=by rw [u8s_len];exact hFl
       have hou:∀ u ∈ u8s F,u.oneCell'=true:=fun u hu=>by
        obtain ⟨c,-,rfl⟩:=List.mem_map.1 hu
        rfl
       have HRX:=Lib.hid rX3
       have HO2:=Lib.hid ho2
       have hBW:=hNs _ hN2
       clear rX2 e2 e3 hf hF HF hm1 hm4 hlt4 rX3 ho2
       go_wp2_with (at_builtin;refine wpList_append_own _ rfl _ _ 113 rfl B 5 i0 _ 1 1 Tryz.underlying113 hi hz0 hz1 hz2 rfl (by decide) _ _ _ rfl HO2.out ⟨X,0,none⟩ 4 4 (u8s F) rfl (by rw [hlu]) (fun k u hk=>by rw [add_at,cell_of_row _ _ _ _ _ _ HRX.out];simpa using hk) hou (by unfold maxLen;omega) (by have:=HO2.out.1;omega) (by omega) ?_)
       intro v' W3 hown' hgrow _
       have hN3:New w W3:=hN2.grown hgrow (fun g hg=>.inl (by have:=(HO2.out.lt g hg).1;omega))
       have hown3:W3.ownsRow B 5 1 v' (acc ++ F).length (u8s (acc ++ F)):=by
        have:u8s (acc ++ F)=u8s acc ++ u8s F:=by simp [u8s]
        rw [this,List.length_append,hFl]
        exact hown'
       clear hown' hgrow
       go_wp2_with fail
       go_roundw
       case rel=>exact ⟨j + 3,acc ++ F,by omega,by go_num,by rw [List.length_append,hFl];omega,hown3,hN3,Lib.hid (by
        have:=HR2.out
        rw [HCH2.out,HFF.out] at this
        rw [List.append_assoc]
        exact this)⟩
       case measure=>simp [intOf];omega
  ·have hlj:¬ (j:Int) < (s.size:Int):=by omega
   have hnil:(bl s).drop j = []:=List.drop_eq_nil_of_le (by rw [bl_len];omega)
   have hac:acc=R:=by rw [← HR.out,hnil];simp [Bare.sixes]
   subst hac
   have hcv:=conv_own (w:=wo) hown
   clear HR hnil
   go_wp2_with fail
   go_ret
   exact ⟨rfl,hN⟩
end Go.Proofs.YtkiiameibdhdfaaGreatDoor
