/- Texts joined. -/
import Derived.Test.YtnknmmbnhoanfaaGreatDoorC16
import Derived.Test.YtnknmmbnhoanfaaGreatDoorC14
import Derived.Test.YtnknmmbnhoanfaaGreatDoorC07
import Derived.Test.YtnknmmbnhoanfaaGreatDoorC06
import Derived.Test.YtnknmmbnhoanfaaGreatDoorC13
import Derived.Test.YtnknmmbnhoanfaaGreatDoorC05
set_option linter.unusedSimpArgs false
set_option linter.unusedVariables false
set_option maxHeartbeats 16000000
set_option maxRecDepth 100000
namespace Go.Proofs.YtnknmmbnhoanfaaGreatDoor
open Go.RowKit Go.Shelf Go.Cs
attribute [local go_sem] Oper.semAt_some


theorem first_drop (s:ByteArray) (h:0 < s.size):bl s=gb s 0::(bl s).drop 1:=by
 have:=drop_one s 0 h
 rw [List.drop_zero] at this
 exact this
theorem head_in {c:UInt8} (h:Bare.headTok c=true):Bare.inTok c=true:=by
 unfold Bare.headTok at h
 unfold Bare.inTok
 rcases Bool.or_eq_true_iff.1 h with h | h
 ·rw [h];rfl
 ·rw [beq_iff_eq] at h;subst h;decide
theorem tok_take (s:ByteArray) (k:Nat) (h1:1 ≤ k) (h:k < s.size) (hh:Bare.headTok (gb s 0)=true) (hb:∀ j,j < k→Bare.inTok (gb s j)=true):Bare.tokB ((bl s).take (k + 1))=Bare.inTok (gb s k):=by
 rw [first_drop s (by omega),List.take_succ_cons]
 show (Bare.headTok (gb s 0) && (((bl s).drop 1).take k).all Bare.inTok)=Bare.inTok (gb s k)
 rw [hh,Bool.true_and,Bool.eq_iff_iff,List.all_eq_true]
 constructor
 ·intro ha
  refine ha _ ?_
  refine List.mem_iff_getElem?.2 ⟨k - 1,?_⟩
  rw [List.getElem?_take,if_pos (by omega),List.getElem?_drop,show 1 + (k - 1)=k by omega]
  exact gb_get s k h
 ·intro hk x hx
  obtain ⟨i,hi⟩:=List.mem_iff_getElem?.1 hx
  rw [List.getElem?_take] at hi
  split at hi
  ·rw [List.getElem?_drop] at hi
   obtain ⟨hl,rfl⟩:=get_gb hi
   by_cases e:1 + i=k
   ·rw [e];exact hk
   ·exact hb _ (by omega)
  ·cases hi
theorem packed_at (s:ByteArray) (k:Nat) (h0:0 < s.size) (h1:1 ≤ k) (h:k ≤ s.size) (hb:∀ j,1 ≤ j→j < k→gb s j ≠ 58) (hs:k < s.size→gb s k=58) :
  Bare.packed ((bl s).drop 1)=if k=s.size then none else (Bare.unsix (bl (piec s 1 k))).map fun t=>(⟨5,0,t,false⟩,(bl s).drop (k + 1)):=by
 have hw:=Bare.while_at (· != 58) ((bl s).drop 1) (k - 1) (by rw [List.length_drop,bl_len];omega) (fun j hj c hc=>by
  rw [List.getElem?_drop] at hc
  obtain ⟨-,rfl⟩:=get_gb hc
  have:=hb (1 + j) (by omega) (by omega)
  simpa using this) (fun c hc=>by
  rw [List.getElem?_drop,show 1 + (k - 1)=k by omega] at hc
  obtain ⟨hl,rfl⟩:=get_gb hc
  rw [hs hl];rfl)
 have ht:=Bare.takeWhile_take (· != 58) ((bl s).drop 1)
 rw [hw] at ht
 unfold Bare.packed
 simp only
 rw [← ht,← bl_piec]
 have hpl:(bl (piec s 1 k)).length=k - 1:=by rw [bl_len,piec_size s 1 k h]
 rw [hpl,List.length_drop,bl_len]
 by_cases e:k=s.size
 ·rw [if_pos (by omega),if_pos e]
 ·rw [if_neg (by omega),if_neg e,List.drop_drop,show 1 + (k - 1 + 1)=k + 1 by omega]
theorem parse_r (s:ByteArray) (w:World) (hs:s.size ≤ 1000000) :
  Calls Tryz.prog 10 #[.string s] w (ReadP (Bare.parseI (bl s)) w):=by
 obtain ⟨hN,hr⟩:=no_row w
 have HNo:=Lib.hid (fun W=>none_r W)
 unfold ReadP bv bcs noIt at HNo
 simp only at HNo
 by_cases h0:s.size=0
 ·have e:Bare.parseI (bl s)=none:=by
   have:bl s = []:=List.length_eq_zero_iff.1 (by rw [bl_len];exact h0)
   rw [this];rfl
  rw [e]
  have hd0:((s.size:Int) == 0)=true:=by simp [h0]
  clear e h0
  refine Calls.mono (R:=fun e w'=>e = .returned (.tuple #[.agg #[.int .u8 0,.int .i64 0,.string ⟨#[]⟩,.bool false],.string ⟨#[]⟩,.int .i64 120])∧New w w') ?_ fun e w' h=>h
  go_enter Tryz.func10,Tryz.ntmps10
  go_upto_region 1 with fail
  obtain ⟨W,hW⟩:∃ W,w.alloc (.cells #[.int .u8 0,.int .i64 0,.string ⟨#[]⟩,.bool false] 23)=W:=⟨_,rfl⟩
  rw [hW] at hN hr ⊢
  obtain ⟨B,hB⟩:∃ B,w.heap.size=B:=⟨_,rfl⟩
  have hBw:w.heap.size ≤ B:=by omega
  rw [hB] at hr ⊢
  clear hW hB
  go_wp2_with (first | (go_at_call 58;refine (HD.out _).mono ?_;rintro e w' ⟨rfl,rfl⟩) | (go_at_call 61;refine (HL.out _).mono ?_;rintro e w' ⟨rfl,rfl⟩))
  refine (HNo.out _).mono ?_
  rintro e wn ⟨rfl,hNn⟩
  have hN:=hN.trans hNn
  have hr:=hNn.heap hr id
  obtain ⟨⟨c0,c1,c2,c3⟩,f0,f1,f2,f3⟩:=row_facts hr
  go_wp2_with fail
  obtain ⟨hN2,hr2⟩:=set4 hN hBw hr (.int .u8 0) (.int .i64 0) (.string ⟨#[]⟩) (.bool false)
  obtain ⟨W2,hW2⟩:∃ W2,((((wn.setCell ⟨B,0,none⟩ (.int .u8 0)).setCell ⟨B,1,none⟩ (.int .i64 0)).setCell ⟨B,2,none⟩ (.string ⟨#[]⟩)).setCell ⟨B,3,none⟩ (.bool false))=W2:=⟨_,rfl⟩
  rw [hW2] at hN2 hr2 ⊢
  exact read_end (by kernel_rfl) rfl rfl rfl hr2 ⟨rfl,hN2⟩
 have hd0:((s.size:Int) == 0)=false:=by simp [h0]
 rw [parseI_at s (by omega)]
 have hix0:∀ W,(Instr.index 9 (.string s) (.int .i64 0)).run Tryz.prog W = .ok (.int .u8 ((gb s 0).toNat:Nat)) W:=run_idx s 0 (by omega)
 have HD:=Lib.hid (fun W=>(digit_r (gb s 0) W).mono fun e w' h=>show e = _∧W=w' from ⟨h.1,h.2.symm⟩)
 have HL:=Lib.hid (fun W=>(letter_r (gb s 0) W).mono fun e w' h=>show e = _∧W=w' from ⟨h.1,h.2.symm⟩)
 have HQuo:=Lib.hid (fun W=>quoted_r s W hs (by omega))
 obtain ⟨n,hn⟩:∃ n,(gb s 0).toNat=n:=⟨_,rfl⟩
 have t45:=(byte_test (gb s 0) 45 (by decide) n hn).1
 rw [show UInt8.ofNat 45=45 from rfl] at t45
 have t45:((n:Int) == 45)=decide (gb s 0=45):=t45
 have t42:=(byte_test (gb s 0) 42 (by decide) n hn).1
 rw [show UInt8.ofNat 42=42 from rfl] at t42
 have t42:((n:Int) == 42)=decide (gb s 0=42):=t42
 have t34:=(byte_test (gb s 0) 34 (by decide) n hn).1
 rw [show UInt8.ofNat 34=34 from rfl] at t34
 have t34:((n:Int) == 34)=decide (gb s 0=34):=t34
 have t58:=(byte_test (gb s 0) 58 (by decide) n hn).1
 rw [show UInt8.ofNat 58=58 from rfl] at t58
 have t58:((n:Int) == 58)=decide (gb s 0=58):=t58
 have t63:=(byte_test (gb s 0) 63 (by decide) n hn).1
 rw [show UInt8.ofNat 63=63 from rfl] at t63
 have t63:((n:Int) == 63)=decide (gb s 0=63):=t63
 rw [hn] at hix0 HD HL
 obtain ⟨D,hD⟩:∃ x,Bare.digB (gb s 0)=x:=⟨_,rfl⟩
 rw [hD] at HD ⊢
 by_cases hnum:(D || decide (gb s 0=45))=true
 ·rw [if_pos hnum]
  have HNum:=Lib.hid (fun W=>show Calls Tryz.prog 59 #[.string s] W (ReadP (Bare.number (bl s)) W) from if h:gb s 0=45 then number_neg_r s W hs (by omega) h else number_pos_r s W hs (by omega) h)
  obtain ⟨x45,hx45⟩:∃ x,decide (gb s 0=45)=x:=⟨_,rfl⟩
  rw [hx45] at t45 hnum
  clear hx45 hD
  cases D with
  | true =>
   clear hnum
   obtain ⟨k,nn,tt,y,x,ec,hv⟩:=readP_open (Bare.number (bl s))
   refine Calls.mono (R:=fun e w'=>e = .returned (.tuple #[.agg #[.int .u8 k,.int .i64 nn,.string tt,.bool y],.string x,.int .i64 ec])∧New w w') ?_ fun e w' h=>(hv w e w').2 h
   have HX:=Lib.hid (fun W=>(HNum.out W).mono fun e w' h=>(hv W e w').1 h)
   clear hv HNum HQuo
   go_enter Tryz.func10,Tryz.ntmps10
   go_upto_region 1 with fail
   obtain ⟨W,hW⟩:∃ W,w.alloc (.cells #[.int .u8 0,.int .i64 0,.string ⟨#[]⟩,.bool false] 23)=W:=⟨_,rfl⟩
   rw [hW] at hN hr ⊢
   obtain ⟨B,hB⟩:∃ B,w.heap.size=B:=⟨_,rfl⟩
   have hBw:w.heap.size ≤ B:=by omega
   rw [hB] at hr ⊢
   clear hW hB
   go_upto_region 5 with (first | (go_at_call 58;refine (HD.out _).mono ?_;rintro e w' ⟨rfl,rfl⟩) | (go_at_call 61;refine (HL.out _).mono ?_;rintro e w' ⟨rfl,rfl⟩))
   clear hix0
   go_wp2_with fail
   refine (HX.out _).mono ?_
   rintro e w1 ⟨rfl,hN1⟩
   have hN:=hN.trans hN1
   have hr:=hN1.heap hr id
   obtain ⟨⟨c0,c1,c2,c3⟩,f0,f1,f2,f3⟩:=row_facts hr
   go_wp2_with fail
   obtain ⟨hN2,hr2⟩:=set4 hN hBw hr (.int .u8 k) (.int .i64 nn) (.string tt) (.bool y)
   obtain ⟨W2,hW2⟩:∃ W2,((((w1.setCell ⟨B,0,none⟩ (.int .u8 k)).setCell ⟨B,1,none⟩ (.int .i64 nn)).setCell ⟨B,2,none⟩ (.string tt)).setCell ⟨B,3,none⟩ (.bool y))=W2:=⟨_,rfl⟩
   rw [hW2] at hN2 hr2 ⊢
   exact read_end (by kernel_rfl) rfl rfl rfl hr2 ⟨rfl,hN2⟩
  | false =>
   obtain rfl:x45=true:=by simpa using hnum
   clear hnum
   obtain ⟨k,nn,tt,y,x,ec,hv⟩:=readP_open (Bare.number (bl s))
   refine Calls.mono (R:=fun e w'=>e = .returned (.tuple #[.agg #[.int .u8 k,.int .i64 nn,.string tt,.bool y],.string x,.int .i64 ec])∧New w w') ?_ fun e w' h=>(hv w e w').2 h
   have HX:=Lib.hid (fun W=>(HNum.out W).mono fun e w' h=>(hv W e w').1 h)
   clear hv HNum HQuo
   go_enter Tryz.func10,Tryz.ntmps10
   go_upto_region 1 with fail
   obtain ⟨W,hW⟩:∃ W,w.alloc (.cells #[.int .u8 0,.int .i64 0,.string ⟨#[]⟩,.bool false] 23)=W:=⟨_,rfl⟩
   rw [hW] at hN hr ⊢
   obtain ⟨B,hB⟩:∃ B,w.heap.size=B:=⟨_,rfl⟩
   have hBw:w.heap.size ≤ B:=by omega
   rw [hB] at hr ⊢
   clear hW hB
   go_upto_region 5 with (first | (go_at_call 58;refine (HD.out _).mono ?_;rintro e w' ⟨rfl,rfl⟩) | (go_at_call 61;refine (HL.out _).mono ?_;rintro e w' ⟨rfl,rfl⟩))
   clear hix0
   go_wp2_with fail
   refine (HX.out _).mono ?_
   rintro e w1 ⟨rfl,hN1⟩
   have hN:=hN.trans hN1
   have hr:=hN1.heap hr id
   obtain ⟨⟨c0,c1,c2,c3⟩,f0,f1,f2,f3⟩:=row_facts hr
   go_wp2_with fail
   obtain ⟨hN2,hr2⟩:=set4 hN hBw hr (.int .u8 k) (.int .i64 nn) (.string tt) (.bool y)
   obtain ⟨W2,hW2⟩:∃ W2,((((w1.setCell ⟨B,0,none⟩ (.int .u8 k)).setCell ⟨B,1,none⟩ (.int .i64 nn)).setCell ⟨B,2,none⟩ (.string tt)).setCell ⟨B,3,none⟩ (.bool y))=W2:=⟨_,rfl⟩
   rw [hW2] at hN2 hr2 ⊢
   exact read_end (by kernel_rfl) rfl rfl rfl hr2 ⟨rfl,hN2⟩
 rw [if_neg hnum]
 obtain rfl:D=false:=by cases D;rfl;exact absurd rfl hnum
 have h45:decide (gb s 0=45)=false:=by simpa using hnum
 rw [h45] at t45
 clear hnum h45 hD
 by_cases h34:gb s 0=34
 ·rw [decide_eq_true h34] at t34
  rw [if_neg (by rw [h34];decide),if_pos h34]
  clear h34
  obtain ⟨k,nn,tt,y,x,ec,hv⟩:=readP_open (Bare.quoted [] ((bl s).drop 1))
  refine Calls.mono (R:=fun e w'=>e = .returned (.tuple #[.agg #[.int .u8 k,.int .i64 nn,.string tt,.bool y],.string x,.int .i64 ec])∧New w w') ?_ fun e w' h=>(hv w e w').2 h
  have HX:=Lib.hid (fun W=>(HQuo.out W).mono fun e w' h=>(hv W e w').1 h)
  clear hv HQuo
  go_enter Tryz.func10,Tryz.ntmps10
  go_upto_region 1 with fail
  obtain ⟨W,hW⟩:∃ W,w.alloc (.cells #[.int .u8 0,.int .i64 0,.string ⟨#[]⟩,.bool false] 23)=W:=⟨_,rfl⟩
  rw [hW] at hN hr ⊢
  obtain ⟨B,hB⟩:∃ B,w.heap.size=B:=⟨_,rfl⟩
  have hBw:w.heap.size ≤ B:=by omega
  rw [hB] at hr ⊢
  clear hW hB
  go_upto_region 7 with (first | (go_at_call 58;refine (HD.out _).mono ?_;rintro e w' ⟨rfl,rfl⟩) | (go_at_call 61;refine (HL.out _).mono ?_;rintro e w' ⟨rfl,rfl⟩))
  clear hix0
  go_wp2_with fail
  refine (HX.out _).mono ?_
  rintro e w1 ⟨rfl,hN1⟩
  have hN:=hN.trans hN1
  have hr:=hN1.heap hr id
  obtain ⟨⟨c0,c1,c2,c3⟩,f0,f1,f2,f3⟩:=row_facts hr
  go_wp2_with fail
  obtain ⟨hN2,hr2⟩:=set4 hN hBw hr (.int .u8 k) (.int .i64 nn) (.string tt) (.bool y)
  obtain ⟨W2,hW2⟩:∃ W2,((((w1.setCell ⟨B,0,none⟩ (.int .u8 k)).setCell ⟨B,1,none⟩ (.int .i64 nn)).setCell ⟨B,2,none⟩ (.string tt)).setCell ⟨B,3,none⟩ (.bool y))=W2:=⟨_,rfl⟩
  rw [hW2] at hN2 hr2 ⊢
  exact read_end (by kernel_rfl) rfl rfl rfl hr2 ⟨rfl,hN2⟩
 rw [decide_eq_false h34] at t34
 obtain ⟨L,hL⟩:∃ x,Bare.letB (gb s 0)=x:=⟨_,rfl⟩
 rw [hL] at HL ⊢
 by_cases htok:(L || decide (gb s 0=42))=true
 ·rw [if_pos htok]
  have hh:Bare.headTok (gb s 0)=true:=by
   unfold Bare.headTok
   rw [hL]
   have e42:(gb s 0 == 42)=decide (gb s 0=42):=by rw [Bool.eq_iff_iff,beq_iff_eq,decide_eq_true_eq]
   rw [e42];exact htok
  have hin:=head_in hh
  obtain ⟨x42,hx42⟩:∃ x,decide (gb s 0=42)=x:=⟨_,rfl⟩
  rw [hx42] at t42 htok
  have HB:=Lib.hid (Bare.while_at Bare.inTok (bl s))
  have HTk:=Lib.hid (fun (k:Nat) (h1:1 ≤ k) (h:k < s.size) hb=>tok_take s k h1 h hh hb)
  have HTr:=Lib.hid (fun (k:Nat) W=>token_r (tx ((bl s).take k)) W (by rw [tx_size,List.length_take,bl_len];omega))
  obtain ⟨r,hr'⟩:∃ r,((bl s).takeWhile Bare.inTok).length=r:=⟨_,rfl⟩
  have htt:=Bare.takeWhile_take Bare.inTok (bl s)
  rw [hr'] at HB htt ⊢
  rw [← htt]
  have h1s:1 ≤ s.size:=by omega
  clear hx42 hr' htt h34 hL hh h0
  cases L with
  | true =>
   clear htok
   obtain ⟨k,nn,tt,y,x,ec,hv⟩:=readP_open (some (⟨4,0,(bl s).take r,false⟩,(bl s).drop r))
   refine Calls.mono (R:=fun e w'=>ReadP (some (⟨4,0,(bl s).take r,false⟩,(bl s).drop r)) w e w') ?_ fun e w' h=>h
   clear hv k nn tt y x ec
   go_enter Tryz.func10,Tryz.ntmps10
   go_upto_region 1 with fail
   obtain ⟨W,hW⟩:∃ W,w.alloc (.cells #[.int .u8 0,.int .i64 0,.string ⟨#[]⟩,.bool false] 23)=W:=⟨_,rfl⟩
   rw [hW] at hN hr ⊢
   obtain ⟨B,hB⟩:∃ B,w.heap.size=B:=⟨_,rfl⟩
   have hBw:w.heap.size ≤ B:=by omega
   rw [hB] at hr ⊢
   clear hW hB
   go_upto_region 10 with (first | (go_at_call 58;refine (HD.out _).mono ?_;rintro e w' ⟨rfl,rfl⟩) | (go_at_call 61;refine (HL.out _).mono ?_;rintro e w' ⟨rfl,rfl⟩))
   clear hix0
   have HR:=Lib.hid hr
   go_loop [6] (fun c=>∃ k:Nat,1 ≤ k∧k ≤ s.size∧c = .int .i64 k∧Hid (∀ j,j < k→Bare.inTok (gb s j)=true)) (fun c=>s.size - (intOf c).toNat)
   case atStart=>exact ⟨1,by omega,h1s,rfl,Lib.hid fun j hj=>(by omega:j=0) ▸ hin⟩
   case round =>
    obtain ⟨k,hk1,hk,rfl,hbef⟩:=hrel
    by_cases hlt:k < s.size
    ·have hkd:decide ((k:Int) < (s.size:Int))=true:=decide_eq_true (by omega)
     have hsl:=run_sl_h s (k + 1) (by omega)
     have hsl2:∀ W,(Instr.slice 9 (.string s) none (some (.int .i64 ((k:Int) + 1))) none).run Tryz.prog W = .ok (.string (tx ((bl s).take (k + 1)))) W:=hsl
     have htk:=HTk.out k hk1 hlt hbef.out
     have HT:=Lib.hid (fun W=>(HTr.out (k + 1) W).mono fun e w' h=>show e = .returned (.bool (Bare.inTok (gb s k)))∧W=w' from ⟨by rw [h.1,bl_tx,htk],h.2.symm⟩)
     obtain ⟨q,hq⟩:∃ q,tx ((bl s).take (k + 1))=q:=⟨_,rfl⟩
     rw [hq] at hsl2 HT
     have hnext:Bare.inTok (gb s k)=true→Hid (∀ j,j < k + 1→Bare.inTok (gb s j)=true):=fun hg=>Lib.hid fun i hi=>by
      by_cases hik:i < k
      ·exact hbef.out i hik
      ·obtain rfl:i=k:=by omega
       exact hg
     have hstop:Bare.inTok (gb s k)=false→r=k:=fun hg=>by
      refine HB.out k (by rw [bl_len];exact hk) (fun j hj c hc=>?_) (fun c hc=>?_)
      ·obtain ⟨_,rfl⟩:=get_gb hc
       exact hbef.out j hj
      ·obtain ⟨_,rfl⟩:=get_gb hc
       exact hg
     obtain ⟨b,hb⟩:∃ b,Bare.inTok (gb s k)=b:=⟨_,rfl⟩
     rw [hb] at HT hnext hstop
     clear hsl htk hq hb hbef hin
     cases b with
     | true =>
      have hh:=hnext rfl
      clear hnext hstop
      go_wp2_with (go_at_call 16;refine (HT.out _).mono ?_;rintro e w' ⟨rfl,rfl⟩)
      go_round
      case rel=>exact ⟨k + 1,by omega,by omega,by go_num,hh⟩
      case measure=>simp [intOf];omega
     | false =>
      have hh:=hstop rfl
      clear hnext hstop
      subst hh
      go_upto_region 12 with (go_at_call 16;refine (HT.out _).mono ?_;rintro e w' ⟨rfl,rfl⟩)
      clear hsl2 HT hkd
      have hr:=HR.out
      obtain ⟨x,hx⟩:∃ x,tx ((bl s).take r)=x:=⟨_,rfl⟩
      obtain ⟨y,hy⟩:∃ y,tx ((bl s).drop r)=y:=⟨_,rfl⟩
      have hr:=HR.out
      obtain ⟨⟨c0,c1,c2,c3⟩,f0,f1,f2,f3⟩:=row_facts hr
      have Hx:=Lib.hid hx
      have Hy:=Lib.hid hy
      have hsh:=run_sl_h s r (by omega)
      have hsl:=run_sl_l s r (by omega)
      rw [hx] at hsh
      rw [hy] at hsl
      clear hx hy HB
      go_region
      obtain ⟨hN2,hr2⟩:=set4 hN hBw hr (.int .u8 4) (.int .i64 0) (.string x) (.bool false)
      have hN2:=hN2.drew
      have hr2:((((W.setCell ⟨B,0,none⟩ (.int .u8 4)).setCell ⟨B,1,none⟩ (.int .i64 0)).setCell ⟨B,2,none⟩ (.string x)).setCell ⟨B,3,none⟩ (.bool false)).drew.heap[B]? = some (.cells #[.int .u8 4,.int .i64 0,.string x,.bool false] 23 (0,0)):=hr2
      obtain ⟨W2,hW2⟩:∃ W2,((((W.setCell ⟨B,0,none⟩ (.int .u8 4)).setCell ⟨B,1,none⟩ (.int .i64 0)).setCell ⟨B,2,none⟩ (.string x)).setCell ⟨B,3,none⟩ (.bool false)).drew=W2:=⟨_,rfl⟩
      rw [hW2] at hN2 hr2 ⊢
      go_wp2_with fail
      exact read_end (by kernel_rfl) rfl rfl rfl hr2 ⟨by rw [← Hx.out,← Hy.out];rfl,hN2⟩
    ·obtain rfl:k=s.size:=by omega
     have hkd:decide ((s.size:Int) < (s.size:Int))=false:=decide_eq_false (by omega)
     have hh:r=s.size:=HB.out s.size (by rw [bl_len];exact Nat.le_refl _) (fun j hj c hc=>by obtain ⟨_,rfl⟩:=get_gb hc;exact hbef.out j hj) (fun c hc=>by obtain ⟨h1,_⟩:=get_gb hc;omega)
     subst hh
     clear hbef hin HB
     go_upto_region 12 with fail
     clear hkd
     have hr:=HR.out
     obtain ⟨x,hx⟩:∃ x,tx ((bl s).take s.size)=x:=⟨_,rfl⟩
     obtain ⟨y,hy⟩:∃ y,tx ((bl s).drop s.size)=y:=⟨_,rfl⟩
     have hr:=HR.out
     obtain ⟨⟨c0,c1,c2,c3⟩,f0,f1,f2,f3⟩:=row_facts hr
     have Hx:=Lib.hid hx
     have Hy:=Lib.hid hy
     have hsh:=run_sl_h s s.size (by omega)
     have hsl:=run_sl_l s s.size (by omega)
     rw [hx] at hsh
     rw [hy] at hsl
     clear hx hy
     go_region
     obtain ⟨hN2,hr2⟩:=set4 hN hBw hr (.int .u8 4) (.int .i64 0) (.string x) (.bool false)
     have hN2:=hN2.drew
     have hr2:((((W.setCell ⟨B,0,none⟩ (.int .u8 4)).setCell ⟨B,1,none⟩ (.int .i64 0)).setCell ⟨B,2,none⟩ (.string x)).setCell ⟨B,3,none⟩ (.bool false)).drew.heap[B]? = some (.cells #[.int .u8 4,.int .i64 0,.string x,.bool false] 23 (0,0)):=hr2
     obtain ⟨W2,hW2⟩:∃ W2,((((W.setCell ⟨B,0,none⟩ (.int .u8 4)).setCell ⟨B,1,none⟩ (.int .i64 0)).setCell ⟨B,2,none⟩ (.string x)).setCell ⟨B,3,none⟩ (.bool false)).drew=W2:=⟨_,rfl⟩
     rw [hW2] at hN2 hr2 ⊢
     go_wp2_with fail
     exact read_end (by kernel_rfl) rfl rfl rfl hr2 ⟨by rw [← Hx.out,← Hy.out];rfl,hN2⟩
  | false =>
   obtain rfl:x42=true:=by simpa using htok
   clear htok
   obtain ⟨k,nn,tt,y,x,ec,hv⟩:=readP_open (some (⟨4,0,(bl s).take r,false⟩,(bl s).drop r))
   refine Calls.mono (R:=fun e w'=>ReadP (some (⟨4,0,(bl s).take r,false⟩,(bl s).drop r)) w e w') ?_ fun e w' h=>h
   clear hv k nn tt y x ec
   go_enter Tryz.func10,Tryz.ntmps10
   go_upto_region 1 with fail
   obtain ⟨W,hW⟩:∃ W,w.alloc (.cells #[.int .u8 0,.int .i64 0,.string ⟨#[]⟩,.bool false] 23)=W:=⟨_,rfl⟩
   rw [hW] at hN hr ⊢
   obtain ⟨B,hB⟩:∃ B,w.heap.size=B:=⟨_,rfl⟩
   have hBw:w.heap.size ≤ B:=by omega
   rw [hB] at hr ⊢
   clear hW hB
   go_upto_region 10 with (first | (go_at_call 58;refine (HD.out _).mono ?_;rintro e w' ⟨rfl,rfl⟩) | (go_at_call 61;refine (HL.out _).mono ?_;rintro e w' ⟨rfl,rfl⟩))
   clear hix0
   have HR:=Lib.hid hr
   go_loop [6] (fun c=>∃ k:Nat,1 ≤ k∧k ≤ s.size∧c = .int .i64 k∧Hid (∀ j,j < k→Bare.inTok (gb s j)=true)) (fun c=>s.size - (intOf c).toNat)
   case atStart=>exact ⟨1,by omega,h1s,rfl,Lib.hid fun j hj=>(by omega:j=0) ▸ hin⟩
   case round =>
    obtain ⟨k,hk1,hk,rfl,hbef⟩:=hrel
    by_cases hlt:k < s.size
    ·have hkd:decide ((k:Int) < (s.size:Int))=true:=decide_eq_true (by omega)
     have hsl:=run_sl_h s (k + 1) (by omega)
     have hsl2:∀ W,(Instr.slice 9 (.string s) none (some (.int .i64 ((k:Int) + 1))) none).run Tryz.prog W = .ok (.string (tx ((bl s).take (k + 1)))) W:=hsl
     have htk:=HTk.out k hk1 hlt hbef.out
     have HT:=Lib.hid (fun W=>(HTr.out (k + 1) W).mono fun e w' h=>show e = .returned (.bool (Bare.inTok (gb s k)))∧W=w' from ⟨by rw [h.1,bl_tx,htk],h.2.symm⟩)
     obtain ⟨q,hq⟩:∃ q,tx ((bl s).take (k + 1))=q:=⟨_,rfl⟩
     rw [hq] at hsl2 HT
     have hnext:Bare.inTok (gb s k)=true→Hid (∀ j,j < k + 1→Bare.inTok (gb s j)=true):=fun hg=>Lib.hid fun i hi=>by
      by_cases hik:i < k
      ·exact hbef.out i hik
      ·obtain rfl:i=k:=by omega
       exact hg
     have hstop:Bare.inTok (gb s k)=false→r=k:=fun hg=>by
      refine HB.out k (by rw [bl_len];exact hk) (fun j hj c hc=>?_) (fun c hc=>?_)
      ·obtain ⟨_,rfl⟩:=get_gb hc
       exact hbef.out j hj
      ·obtain ⟨_,rfl⟩:=get_gb hc
       exact hg
     obtain ⟨b,hb⟩:∃ b,Bare.inTok (gb s k)=b:=⟨_,rfl⟩
     rw [hb] at HT hnext hstop
     clear hsl htk hq hb hbef hin
     cases b with
     | true =>
      have hh:=hnext rfl
      clear hnext hstop
      go_wp2_with (go_at_call 16;refine (HT.out _).mono ?_;rintro e w' ⟨rfl,rfl⟩)
      go_round
      case rel=>exact ⟨k + 1,by omega,by omega,by go_num,hh⟩
      case measure=>simp [intOf];omega
     | false =>
      have hh:=hstop rfl
      clear hnext hstop
      subst hh
      go_upto_region 12 with (go_at_call 16;refine (HT.out _).mono ?_;rintro e w' ⟨rfl,rfl⟩)
      clear hsl2 HT hkd
      have hr:=HR.out
      obtain ⟨x,hx⟩:∃ x,tx ((bl s).take r)=x:=⟨_,rfl⟩
      obtain ⟨y,hy⟩:∃ y,tx ((bl s).drop r)=y:=⟨_,rfl⟩
      have hr:=HR.out
      obtain ⟨⟨c0,c1,c2,c3⟩,f0,f1,f2,f3⟩:=row_facts hr
      have Hx:=Lib.hid hx
      have Hy:=Lib.hid hy
      have hsh:=run_sl_h s r (by omega)
      have hsl:=run_sl_l s r (by omega)
      rw [hx] at hsh
      rw [hy] at hsl
      clear hx hy HB
      go_region
      obtain ⟨hN2,hr2⟩:=set4 hN hBw hr (.int .u8 4) (.int .i64 0) (.string x) (.bool false)
      have hN2:=hN2.drew
      have hr2:((((W.setCell ⟨B,0,none⟩ (.int .u8 4)).setCell ⟨B,1,none⟩ (.int .i64 0)).setCell ⟨B,2,none⟩ (.string x)).setCell ⟨B,3,none⟩ (.bool false)).drew.heap[B]? = some (.cells #[.int .u8 4,.int .i64 0,.string x,.bool false] 23 (0,0)):=hr2
      obtain ⟨W2,hW2⟩:∃ W2,((((W.setCell ⟨B,0,none⟩ (.int .u8 4)).setCell ⟨B,1,none⟩ (.int .i64 0)).setCell ⟨B,2,none⟩ (.string x)).setCell ⟨B,3,none⟩ (.bool false)).drew=W2:=⟨_,rfl⟩
      rw [hW2] at hN2 hr2 ⊢
      go_wp2_with fail
      exact read_end (by kernel_rfl) rfl rfl rfl hr2 ⟨by rw [← Hx.out,← Hy.out];rfl,hN2⟩
    ·obtain rfl:k=s.size:=by omega
     have hkd:decide ((s.size:Int) < (s.size:Int))=false:=decide_eq_false (by omega)
     have hh:r=s.size:=HB.out s.size (by rw [bl_len];exact Nat.le_refl _) (fun j hj c hc=>by obtain ⟨_,rfl⟩:=get_gb hc;exact hbef.out j hj) (fun c hc=>by obtain ⟨h1,_⟩:=get_gb hc;omega)
     subst hh
     clear hbef hin HB
     go_upto_region 12 with fail
     clear hkd
     have hr:=HR.out
     obtain ⟨x,hx⟩:∃ x,tx ((bl s).take s.size)=x:=⟨_,rfl⟩
     obtain ⟨y,hy⟩:∃ y,tx ((bl s).drop s.size)=y:=⟨_,rfl⟩
     have hr:=HR.out
     obtain ⟨⟨c0,c1,c2,c3⟩,f0,f1,f2,f3⟩:=row_facts hr
     have Hx:=Lib.hid hx
     have Hy:=Lib.hid hy
     have hsh:=run_sl_h s s.size (by omega)
     have hsl:=run_sl_l s s.size (by omega)
     rw [hx] at hsh
     rw [hy] at hsl
     clear hx hy
     go_region
     obtain ⟨hN2,hr2⟩:=set4 hN hBw hr (.int .u8 4) (.int .i64 0) (.string x) (.bool false)
     have hN2:=hN2.drew
     have hr2:((((W.setCell ⟨B,0,none⟩ (.int .u8 4)).setCell ⟨B,1,none⟩ (.int .i64 0)).setCell ⟨B,2,none⟩ (.string x)).setCell ⟨B,3,none⟩ (.bool false)).drew.heap[B]? = some (.cells #[.int .u8 4,.int .i64 0,.string x,.bool false] 23 (0,0)):=hr2
     obtain ⟨W2,hW2⟩:∃ W2,((((W.setCell ⟨B,0,none⟩ (.int .u8 4)).setCell ⟨B,1,none⟩ (.int .i64 0)).setCell ⟨B,2,none⟩ (.string x)).setCell ⟨B,3,none⟩ (.bool false)).drew=W2:=⟨_,rfl⟩
     rw [hW2] at hN2 hr2 ⊢
     go_wp2_with fail
     exact read_end (by kernel_rfl) rfl rfl rfl hr2 ⟨by rw [← Hx.out,← Hy.out];rfl,hN2⟩
 rw [if_neg htok,if_neg h34]
 obtain rfl:L=false:=by cases L;rfl;exact absurd rfl htok
 have h42:decide (gb s 0=42)=false:=by simpa using htok
 rw [h42] at t42
 clear htok h42 hL h34
 by_cases h58:gb s 0=58
 ·rw [decide_eq_true h58] at t58
  rw [if_pos h58]
  have HPk:=Lib.hid (fun (k:Nat) (h1:1 ≤ k) (h:k ≤ s.size) hb hss=>packed_at s k (by omega) h1 h hb hss)
  have h1s:1 ≤ s.size:=by omega
  obtain ⟨P,hP⟩:∃ P,Bare.packed ((bl s).drop 1)=P:=⟨_,rfl⟩
  rw [hP] at HPk ⊢
  have HUn:=Lib.hid (fun (k:Nat) (hk:k ≤ s.size) W=>unsix_r (piec s 1 k) W (by rw [piec_size s 1 k hk];omega))
  clear h58 hP h0
  go_enter Tryz.func10,Tryz.ntmps10
  go_upto_region 1 with fail
  obtain ⟨W,hW⟩:∃ W,w.alloc (.cells #[.int .u8 0,.int .i64 0,.string ⟨#[]⟩,.bool false] 23)=W:=⟨_,rfl⟩
  rw [hW] at hN hr ⊢
  obtain ⟨B,hB⟩:∃ B,w.heap.size=B:=⟨_,rfl⟩
  have hBw:w.heap.size ≤ B:=by omega
  rw [hB] at hr ⊢
  clear hW hB
  go_upto_region 15 with (first | (go_at_call 58;refine (HD.out _).mono ?_;rintro e w' ⟨rfl,rfl⟩) | (go_at_call 61;refine (HL.out _).mono ?_;rintro e w' ⟨rfl,rfl⟩))
  clear hix0
  have HR:=Lib.hid hr
  go_loop [7] (fun c=>∃ k:Nat,1 ≤ k∧k ≤ s.size∧c = .int .i64 k∧Hid (∀ j,1 ≤ j→j < k→gb s j ≠ 58)) (fun c=>s.size - (intOf c).toNat)
  case atStart=>exact ⟨1,by omega,h1s,rfl,Lib.hid fun j h1 hj=>by omega⟩
  case round =>
   obtain ⟨k,hk1,hk,rfl,hbef⟩:=hrel
   by_cases hlt:k < s.size
   ·have hkd:decide ((k:Int) < (s.size:Int))=true:=decide_eq_true (by omega)
    have hge:decide ((s.size:Int) ≤ (k:Int))=false:=decide_eq_false (by omega)
    have hix:=run_idx s k hlt
    obtain ⟨m,hm⟩:∃ m,(gb s k).toNat=m:=⟨_,rfl⟩
    have tk:=(byte_test (gb s k) 58 (by decide) m hm).2
    rw [show UInt8.ofNat 58=58 from rfl] at tk
    have tk:((m:Int) != 58) = !decide (gb s k=58):=tk
    rw [hm] at hix
    by_cases hc:gb s k=58
    ·rw [decide_eq_true hc,Bool.not_true] at tk
     have hpk:=HPk.out k hk1 hk hbef.out (fun _=>hc)
     rw [if_neg (by omega)] at hpk
     have HU:=Lib.hid (HUn.out k hk)
     have hsl:∀ W,(Instr.slice 9 (.string s) (some (.int .i64 1)) (some (.int .i64 (k:Int))) none).run Tryz.prog W = .ok (.string (piec s 1 k)) W:=run_sl s 1 k hk1 hk
     obtain ⟨q,hq⟩:∃ q,piec s 1 k=q:=⟨_,rfl⟩
     rw [hq] at hsl HU hpk
     clear hbef hm hc hq
     cases hu:Bare.unsix (bl q) with
     | none =>
      rw [hu] at HU hpk
      subst hpk
      clear hu
      go_wp2_with fail
      refine (HU.out _).mono ?_
      rintro e w5 ⟨rfl,hk5⟩
      unfold unsixV
      simp only
      have hN:=hN.trans hk5
      have hr:=hk5.heap HR.out id
      clear hsl hix tk HU
      go_wp2_with fail
      refine (HNo.out _).mono ?_
      rintro e wn ⟨rfl,hNn⟩
      have hN:=hN.trans hNn
      have hr:=hNn.heap hr id
      obtain ⟨⟨c0,c1,c2,c3⟩,f0,f1,f2,f3⟩:=row_facts hr
      go_wp2_with fail
      obtain ⟨hN2,hr2⟩:=set4 hN hBw hr (.int .u8 0) (.int .i64 0) (.string ⟨#[]⟩) (.bool false)
      obtain ⟨W2,hW2⟩:∃ W2,((((wn.setCell ⟨B,0,none⟩ (.int .u8 0)).setCell ⟨B,1,none⟩ (.int .i64 0)).setCell ⟨B,2,none⟩ (.string ⟨#[]⟩)).setCell ⟨B,3,none⟩ (.bool false))=W2:=⟨_,rfl⟩
      rw [hW2] at hN2 hr2 ⊢
      exact read_end (by kernel_rfl) rfl rfl rfl hr2 ⟨rfl,hN2⟩
     | some t =>
      rw [hu] at HU hpk
      subst hpk
      clear hu
      go_wp2_with fail
      refine (HU.out _).mono ?_
      rintro e w5 ⟨rfl,hk5⟩
      unfold unsixV
      simp only
      have hN:=hN.trans hk5
      have hr:=hk5.heap HR.out id
      clear hsl hix tk HU
      go_upto_region 20 with fail
      obtain ⟨x,hx⟩:∃ x,tx t=x:=⟨_,rfl⟩
      obtain ⟨y,hy⟩:∃ y,tx ((bl s).drop (k + 1))=y:=⟨_,rfl⟩
      obtain ⟨⟨c0,c1,c2,c3⟩,f0,f1,f2,f3⟩:=row_facts hr
      have Hx:=Lib.hid hx
      have Hy:=Lib.hid hy
      have hsl:∀ W,(Instr.slice 9 (.string s) (some (.int .i64 ((k:Int) + 1))) none none).run Tryz.prog W = .ok (.string (tx ((bl s).drop (k + 1)))) W:=run_sl_l s (k + 1) (by omega)
      rw [hy] at hsl
      rw [hx]
      clear hx hy hge
      go_region
      obtain ⟨hN2,hr2⟩:=set4 hN hBw hr (.int .u8 5) (.int .i64 0) (.string x) (.bool false)
      have hN2:=hN2.drew
      have hr2:((((w5.setCell ⟨B,0,none⟩ (.int .u8 5)).setCell ⟨B,1,none⟩ (.int .i64 0)).setCell ⟨B,2,none⟩ (.string x)).setCell ⟨B,3,none⟩ (.bool false)).drew.heap[B]? = some (.cells #[.int .u8 5,.int .i64 0,.string x,.bool false] 23 (0,0)):=hr2
      obtain ⟨W2,hW2⟩:∃ W2,((((w5.setCell ⟨B,0,none⟩ (.int .u8 5)).setCell ⟨B,1,none⟩ (.int .i64 0)).setCell ⟨B,2,none⟩ (.string x)).setCell ⟨B,3,none⟩ (.bool false)).drew=W2:=⟨_,rfl⟩
      rw [hW2] at hN2 hr2 ⊢
      go_wp2_with fail
      exact read_end (by kernel_rfl) rfl rfl rfl hr2 ⟨by rw [← Hx.out,← Hy.out];rfl,hN2⟩
    ·rw [decide_eq_false hc,Bool.not_false] at tk
     have hh:Hid (∀ j,1 ≤ j→j < k + 1→gb s j ≠ 58):=Lib.hid fun i h1 hi=>by
      by_cases hik:i < k
      ·exact hbef.out i h1 hik
      ·obtain rfl:i=k:=by omega
       exact hc
     clear hbef hm hc hge
     go_wp2_with fail
     go_round
     case rel=>exact ⟨k + 1,by omega,by omega,by go_num,hh⟩
     case measure=>simp [intOf];omega
   ·obtain rfl:k=s.size:=by omega
    have hkd:decide ((s.size:Int) < (s.size:Int))=false:=decide_eq_false (by omega)
    have hge:decide ((s.size:Int) ≤ (s.size:Int))=true:=decide_eq_true (by omega)
    have hpk:=HPk.out s.size hk1 hk hbef.out (fun h=>by omega)
    rw [if_pos rfl] at hpk
    subst hpk
    have HU:=Lib.hid (HUn.out s.size hk)
    have hsl:∀ W,(Instr.slice 9 (.string s) (some (.int .i64 1)) (some (.int .i64 (s.size:Int))) none).run Tryz.prog W = .ok (.string (piec s 1 s.size)) W:=run_sl s 1 s.size hk1 hk
    obtain ⟨q,hq⟩:∃ q,piec s 1 s.size=q:=⟨_,rfl⟩
    rw [hq] at hsl HU
    obtain ⟨U,hU⟩:∃ U,Bare.unsix (bl q)=U:=⟨_,rfl⟩
    rw [hU] at HU
    obtain ⟨a,b,hab⟩:∃ a b,unsixV U = .tuple #[.string a,.bool b]:=by cases U <;> exact ⟨_,_,rfl⟩
    rw [hab] at HU
    clear hbef hq hU hab
    go_wp2_with fail
    refine (HU.out _).mono ?_
    rintro e w5 ⟨rfl,hk5⟩
    have hN:=hN.trans hk5
    have hr:=hk5.heap HR.out id
    clear hsl HU
    go_wp2_with fail
    refine (HNo.out _).mono ?_
    rintro e wn ⟨rfl,hNn⟩
    have hN:=hN.trans hNn
    have hr:=hNn.heap hr id
    obtain ⟨⟨c0,c1,c2,c3⟩,f0,f1,f2,f3⟩:=row_facts hr
    go_wp2_with fail
    obtain ⟨hN2,hr2⟩:=set4 hN hBw hr (.int .u8 0) (.int .i64 0) (.string ⟨#[]⟩) (.bool false)
    obtain ⟨W2,hW2⟩:∃ W2,((((wn.setCell ⟨B,0,none⟩ (.int .u8 0)).setCell ⟨B,1,none⟩ (.int .i64 0)).setCell ⟨B,2,none⟩ (.string ⟨#[]⟩)).setCell ⟨B,3,none⟩ (.bool false))=W2:=⟨_,rfl⟩
    rw [hW2] at hN2 hr2 ⊢
    exact read_end (by kernel_rfl) rfl rfl rfl hr2 ⟨rfl,hN2⟩
 rw [decide_eq_false h58] at t58
 rw [if_neg h58]
 by_cases h63:gb s 0=63
 ·rw [decide_eq_true h63] at t63
  rw [if_pos h63]
  clear h63 h58
  by_cases h1:s.size=1
  ·have e:ansR (bl s)=none:=by
    obtain ⟨c,hc⟩:=List.length_eq_one_iff.1 (show (bl s).length=1 by rw [bl_len];exact h1)
    rw [hc];rfl
   rw [e]
   have hd1:decide ((1:Int) < (s.size:Int))=false:=decide_eq_false (by omega)
   clear e h1
   refine Calls.mono (R:=fun e w'=>e = .returned (.tuple #[.agg #[.int .u8 0,.int .i64 0,.string ⟨#[]⟩,.bool false],.string ⟨#[]⟩,.int .i64 120])∧New w w') ?_ fun e w' h=>h
   clear HQuo
   go_enter Tryz.func10,Tryz.ntmps10
   go_upto_region 1 with fail
   obtain ⟨W,hW⟩:∃ W,w.alloc (.cells #[.int .u8 0,.int .i64 0,.string ⟨#[]⟩,.bool false] 23)=W:=⟨_,rfl⟩
   rw [hW] at hN hr ⊢
   obtain ⟨B,hB⟩:∃ B,w.heap.size=B:=⟨_,rfl⟩
   have hBw:w.heap.size ≤ B:=by omega
   rw [hB] at hr ⊢
   clear hW hB
   go_wp2_with (first | (go_at_call 58;refine (HD.out _).mono ?_;rintro e w' ⟨rfl,rfl⟩) | (go_at_call 61;refine (HL.out _).mono ?_;rintro e w' ⟨rfl,rfl⟩))
   refine (HNo.out _).mono ?_
   rintro e wn ⟨rfl,hNn⟩
   have hN:=hN.trans hNn
   have hr:=hNn.heap hr id
   obtain ⟨⟨c0,c1,c2,c3⟩,f0,f1,f2,f3⟩:=row_facts hr
   go_wp2_with fail
   obtain ⟨hN2,hr2⟩:=set4 hN hBw hr (.int .u8 0) (.int .i64 0) (.string ⟨#[]⟩) (.bool false)
   obtain ⟨W2,hW2⟩:∃ W2,((((wn.setCell ⟨B,0,none⟩ (.int .u8 0)).setCell ⟨B,1,none⟩ (.int .i64 0)).setCell ⟨B,2,none⟩ (.string ⟨#[]⟩)).setCell ⟨B,3,none⟩ (.bool false))=W2:=⟨_,rfl⟩
   rw [hW2] at hN2 hr2 ⊢
   exact read_end (by kernel_rfl) rfl rfl rfl hr2 ⟨rfl,hN2⟩
  have hd1:decide ((1:Int) < (s.size:Int))=true:=decide_eq_true (by omega)
  have hix1:∀ W,(Instr.index 9 (.string s) (.int .i64 1)).run Tryz.prog W = .ok (.int .u8 ((gb s 1).toNat:Nat)) W:=run_idx s 1 (by omega)
  have e:ansR (bl s)=if gb s 1=48 ∨ gb s 1=49 then some (⟨6,0,[],gb s 1 == 49⟩,(bl s).drop 2) else none:=by
   have e1:=first_drop s (by omega)
   rw [drop_one s 1 (by omega)] at e1
   conv=>lhs;rw [e1]
   rfl
  rw [e]
  obtain ⟨m,hm⟩:∃ m,(gb s 1).toNat=m:=⟨_,rfl⟩
  have m48:=(byte_test (gb s 1) 48 (by decide) m hm).1
  rw [show UInt8.ofNat 48=48 from rfl] at m48
  have m48:((m:Int) == 48)=decide (gb s 1=48):=m48
  have m49:=(byte_test (gb s 1) 49 (by decide) m hm).1
  rw [show UInt8.ofNat 49=49 from rfl] at m49
  have m49:((m:Int) == 49)=decide (gb s 1=49):=m49
  rw [hm] at hix1
  have hsl2:∀ W,(Instr.slice 9 (.string s) (some (.int .i64 2)) none none).run Tryz.prog W = .ok (.string (tx ((bl s).drop 2))) W:=run_sl_l s 2 (by omega)
  by_cases g48:gb s 1=48
  ·rw [decide_eq_true g48] at m48
   rw [decide_eq_false (show ¬ gb s 1=49 by rw [g48];decide)] at m49
   rw [if_pos (.inl g48),show (gb s 1 == 49)=false by rw [g48];decide]
   clear g48 hm e h1
   go_enter Tryz.func10,Tryz.ntmps10
   go_upto_region 1 with fail
   obtain ⟨W,hW⟩:∃ W,w.alloc (.cells #[.int .u8 0,.int .i64 0,.string ⟨#[]⟩,.bool false] 23)=W:=⟨_,rfl⟩
   rw [hW] at hN hr ⊢
   obtain ⟨B,hB⟩:∃ B,w.heap.size=B:=⟨_,rfl⟩
   have hBw:w.heap.size ≤ B:=by omega
   rw [hB] at hr ⊢
   clear hW hB
   go_upto_region 22 with (first | (go_at_call 58;refine (HD.out _).mono ?_;rintro e w' ⟨rfl,rfl⟩) | (go_at_call 61;refine (HL.out _).mono ?_;rintro e w' ⟨rfl,rfl⟩))
   obtain ⟨y,hy⟩:∃ y,tx ((bl s).drop 2)=y:=⟨_,rfl⟩
   obtain ⟨⟨c0,c1,c2,c3⟩,f0,f1,f2,f3⟩:=row_facts hr
   have Hy:=Lib.hid hy
   rw [hy] at hsl2
   clear hy
   go_region
   obtain ⟨hN2,hr2⟩:=set4 hN hBw hr (.int .u8 6) (.int .i64 0) (.string ⟨#[]⟩) (.bool false)
   have hN2:=hN2.drew
   have hr2:((((W.setCell ⟨B,0,none⟩ (.int .u8 6)).setCell ⟨B,1,none⟩ (.int .i64 0)).setCell ⟨B,2,none⟩ (.string ⟨#[]⟩)).setCell ⟨B,3,none⟩ (.bool false)).drew.heap[B]? = some (.cells #[.int .u8 6,.int .i64 0,.string ⟨#[]⟩,.bool false] 23 (0,0)):=hr2
   obtain ⟨W2,hW2⟩:∃ W2,((((W.setCell ⟨B,0,none⟩ (.int .u8 6)).setCell ⟨B,1,none⟩ (.int .i64 0)).setCell ⟨B,2,none⟩ (.string ⟨#[]⟩)).setCell ⟨B,3,none⟩ (.bool false)).drew=W2:=⟨_,rfl⟩
   rw [hW2] at hN2 hr2 ⊢
   go_wp2_with fail
   exact read_end (by kernel_rfl) rfl rfl rfl hr2 ⟨by rw [← Hy.out];rfl,hN2⟩
  ·rw [decide_eq_false g48] at m48
   by_cases g49:gb s 1=49
   ·rw [decide_eq_true g49] at m49
    rw [if_pos (.inr g49),show (gb s 1 == 49)=true by rw [g49];decide]
    clear g48 g49 hm e h1
    go_enter Tryz.func10,Tryz.ntmps10
    go_upto_region 1 with fail
    obtain ⟨W,hW⟩:∃ W,w.alloc (.cells #[.int .u8 0,.int .i64 0,.string ⟨#[]⟩,.bool false] 23)=W:=⟨_,rfl⟩
    rw [hW] at hN hr ⊢
    obtain ⟨B,hB⟩:∃ B,w.heap.size=B:=⟨_,rfl⟩
    have hBw:w.heap.size ≤ B:=by omega
    rw [hB] at hr ⊢
    clear hW hB
    go_upto_region 22 with (first | (go_at_call 58;refine (HD.out _).mono ?_;rintro e w' ⟨rfl,rfl⟩) | (go_at_call 61;refine (HL.out _).mono ?_;rintro e w' ⟨rfl,rfl⟩))
    obtain ⟨y,hy⟩:∃ y,tx ((bl s).drop 2)=y:=⟨_,rfl⟩
    obtain ⟨⟨c0,c1,c2,c3⟩,f0,f1,f2,f3⟩:=row_facts hr
    have Hy:=Lib.hid hy
    rw [hy] at hsl2
    clear hy
    go_region
    obtain ⟨hN2,hr2⟩:=set4 hN hBw hr (.int .u8 6) (.int .i64 0) (.string ⟨#[]⟩) (.bool true)
    have hN2:=hN2.drew
    have hr2:((((W.setCell ⟨B,0,none⟩ (.int .u8 6)).setCell ⟨B,1,none⟩ (.int .i64 0)).setCell ⟨B,2,none⟩ (.string ⟨#[]⟩)).setCell ⟨B,3,none⟩ (.bool true)).drew.heap[B]? = some (.cells #[.int .u8 6,.int .i64 0,.string ⟨#[]⟩,.bool true] 23 (0,0)):=hr2
    obtain ⟨W2,hW2⟩:∃ W2,((((W.setCell ⟨B,0,none⟩ (.int .u8 6)).setCell ⟨B,1,none⟩ (.int .i64 0)).setCell ⟨B,2,none⟩ (.string ⟨#[]⟩)).setCell ⟨B,3,none⟩ (.bool true)).drew=W2:=⟨_,rfl⟩
    rw [hW2] at hN2 hr2 ⊢
    go_wp2_with fail
    exact read_end (by kernel_rfl) rfl rfl rfl hr2 ⟨by rw [← Hy.out];rfl,hN2⟩
   ·rw [decide_eq_false g49] at m49
    rw [if_neg (by rintro (h | h);exact g48 h;exact g49 h)]
    clear g48 g49 hm e h1
    refine Calls.mono (R:=fun e w'=>e = .returned (.tuple #[.agg #[.int .u8 0,.int .i64 0,.string ⟨#[]⟩,.bool false],.string ⟨#[]⟩,.int .i64 120])∧New w w') ?_ fun e w' h=>h
    clear HQuo
    go_enter Tryz.func10,Tryz.ntmps10
    go_upto_region 1 with fail
    obtain ⟨W,hW⟩:∃ W,w.alloc (.cells #[.int .u8 0,.int .i64 0,.string ⟨#[]⟩,.bool false] 23)=W:=⟨_,rfl⟩
    rw [hW] at hN hr ⊢
    obtain ⟨B,hB⟩:∃ B,w.heap.size=B:=⟨_,rfl⟩
    have hBw:w.heap.size ≤ B:=by omega
    rw [hB] at hr ⊢
    clear hW hB
    go_wp2_with (first | (go_at_call 58;refine (HD.out _).mono ?_;rintro e w' ⟨rfl,rfl⟩) | (go_at_call 61;refine (HL.out _).mono ?_;rintro e w' ⟨rfl,rfl⟩))
    refine (HNo.out _).mono ?_
    rintro e wn ⟨rfl,hNn⟩
    have hN:=hN.trans hNn
    have hr:=hNn.heap hr id
    obtain ⟨⟨c0,c1,c2,c3⟩,f0,f1,f2,f3⟩:=row_facts hr
    go_wp2_with fail
    obtain ⟨hN2,hr2⟩:=set4 hN hBw hr (.int .u8 0) (.int .i64 0) (.string ⟨#[]⟩) (.bool false)
    obtain ⟨W2,hW2⟩:∃ W2,((((wn.setCell ⟨B,0,none⟩ (.int .u8 0)).setCell ⟨B,1,none⟩ (.int .i64 0)).setCell ⟨B,2,none⟩ (.string ⟨#[]⟩)).setCell ⟨B,3,none⟩ (.bool false))=W2:=⟨_,rfl⟩
    rw [hW2] at hN2 hr2 ⊢
    exact read_end (by kernel_rfl) rfl rfl rfl hr2 ⟨rfl,hN2⟩
 rw [decide_eq_false h63] at t63
 rw [if_neg h63]
 clear h63 h58
 refine Calls.mono (R:=fun e w'=>e = .returned (.tuple #[.agg #[.int .u8 0,.int .i64 0,.string ⟨#[]⟩,.bool false],.string ⟨#[]⟩,.int .i64 120])∧New w w') ?_ fun e w' h=>h
 clear HQuo
 go_enter Tryz.func10,Tryz.ntmps10
 go_upto_region 1 with fail
 obtain ⟨W,hW⟩:∃ W,w.alloc (.cells #[.int .u8 0,.int .i64 0,.string ⟨#[]⟩,.bool false] 23)=W:=⟨_,rfl⟩
 rw [hW] at hN hr ⊢
 obtain ⟨B,hB⟩:∃ B,w.heap.size=B:=⟨_,rfl⟩
 have hBw:w.heap.size ≤ B:=by omega
 rw [hB] at hr ⊢
 clear hW hB
 go_wp2_with (first | (go_at_call 58;refine (HD.out _).mono ?_;rintro e w' ⟨rfl,rfl⟩) | (go_at_call 61;refine (HL.out _).mono ?_;rintro e w' ⟨rfl,rfl⟩))
 refine (HNo.out _).mono ?_
 rintro e wn ⟨rfl,hNn⟩
 have hN:=hN.trans hNn
 have hr:=hNn.heap hr id
 obtain ⟨⟨c0,c1,c2,c3⟩,f0,f1,f2,f3⟩:=row_facts hr
 go_wp2_with fail
 obtain ⟨hN2,hr2⟩:=set4 hN hBw hr (.int .u8 0) (.int .i64 0) (.string ⟨#[]⟩) (.bool false)
 obtain ⟨W2,hW2⟩:∃ W2,((((wn.setCell ⟨B,0,none⟩ (.int .u8 0)).setCell ⟨B,1,none⟩ (.int .i64 0)).setCell ⟨B,2,none⟩ (.string ⟨#[]⟩)).setCell ⟨B,3,none⟩ (.bool false))=W2:=⟨_,rfl⟩
 rw [hW2] at hN2 hr2 ⊢
 exact read_end (by kernel_rfl) rfl rfl rfl hr2 ⟨rfl,hN2⟩


def othB (c:UInt8):Bool:=Bare.digB c || [95,45,46].contains c
theorem sml_of {c:UInt8} {n:Nat} (hn:c.toNat=n):Bare.smlB c=((decide (97 ≤ n) && decide (n ≤ 122)) || decide (n=42)):=by
 unfold Bare.smlB
 rw [hn]
 congr 1
 rw [Bool.eq_iff_iff,beq_iff_eq,decide_eq_true_eq]
 constructor
 ·rintro rfl;rw [← hn];rfl
 ·intro h;rw [← UInt8.toNat_inj,hn,h];rfl
theorem oth_of {c:UInt8} {n:Nat} (hn:c.toNat=n):othB c=((decide (48 ≤ n) && decide (n ≤ 57)) || (decide (n=95) || (decide (n=45) || decide (n=46)))):=by
 have e:∀ d:Nat,d < 256→(c == UInt8.ofNat d)=decide (n=d):=fun d hd=>by
  rw [Bool.eq_iff_iff,beq_iff_eq,decide_eq_true_eq]
  constructor
  ·rintro rfl;rw [← hn];simp [Nat.mod_eq_of_lt hd]
  ·intro h;rw [← UInt8.toNat_inj,hn,h];simp [Nat.mod_eq_of_lt hd]
 unfold othB Bare.digB
 rw [hn]
 have e1:=e 95 (by decide)
 have e2:=e 45 (by decide)
 have e3:=e 46 (by decide)
 have:([95,45,46]:List UInt8).contains c=(c == UInt8.ofNat 95 || (c == UInt8.ofNat 45 || c == UInt8.ofNat 46)):=by
  simp only [List.contains_cons,List.contains_nil,Bool.or_false]
  rfl
 rw [this,e1,e2,e3]
theorem lit69 (t:Array Value) (h:t.size=69):∃ u:Nat→Value,t=(u 0::u 1::u 2::u 3::u 4::u 5::u 6::u 7::u 8::u 9::u 10::u 11::u 12::u 13::u 14::u 15::u 16::u 17::u 18::u 19::u 20::u 21::u 22::u 23::u 24::u 25::u 26::u 27::u 28::u 29::u 30::u 31::u 32::u 33::u 34::u 35::u 36::u 37::u 38::u 39::u 40::u 41::u 42::u 43::u 44::u 45::u 46::u 47::u 48::u 49::u 50::u 51::u 52::u 53::u 54::u 55::u 56::u 57::u 58::u 59::u 60::u 61::u 62::u 63::u 64::u 65::u 66::u 67::u 68::([]:List Value)).toArray:=⟨fun i=>t.getD i undef,range_lit t 69 h⟩
noncomputable def reg_causeyref13_Key_4:Code:=((Tryz.f30.body.bind (regionOf 4)).getD .skip)
theorem key4 (t:Array Value) (hs:t.size=69) (w:World) {s:ByteArray} {k n:Nat} {x2:Value}
  (hq0:t.getD 0 undef = .string s)
  (hq1:t.getD 1 undef=undef)
  (hq2:t.getD 2 undef=x2)
  (hq3:t.getD 3 undef = .int .i64 k)
  (hq66:t.getD 66 undef=undef)
  (hq67:t.getD 67 undef=undef)
  (hq68:t.getD 68 undef=undef)
  (hk:k < s.size) (hn:(gb s k).toNat=n) :
  reg_causeyref13_Key_4.wp Tryz.prog (Only fun a' W'=>(a'.tmps.size=69∧a'.defers = []∧a'.tmps.getD 0 undef = .string s∧a'.tmps.getD 1 undef=undef∧a'.tmps.getD 2 undef=x2∧a'.tmps.getD 3 undef = .int .i64 k∧a'.tmps.getD 66 undef=undef∧a'.tmps.getD 67 undef=undef∧a'.tmps.getD 68 undef=undef∧a'.tmps.getD 4 undef = .bool (Bare.smlB (gb s k)))∧W'=w) ⟨t,[]⟩ w:=by
 conv=>arg 2;whnf
 obtain ⟨u,rfl⟩:=lit69 t hs
 have hq0:u 0 = _:=hq0
 have hq1:u 1 = _:=hq1
 have hq2:u 2 = _:=hq2
 have hq3:u 3 = _:=hq3
 have hq66:u 66 = _:=hq66
 have hq67:u 67 = _:=hq67
 have hq68:u 68 = _:=hq68
 rw [hq0,hq1,hq2,hq3,hq66,hq67,hq68]
 clear hq0 hq1 hq2 hq3 hq66 hq67 hq68 hs
 have hix:=fun W=>run_idx s k hk W
 rw [hn] at hix
 rw [sml_of hn]
 clear hn
 by_cases h1:97 ≤ n
 ·by_cases h2:n ≤ 122
  ·rw [decide_eq_true h1,decide_eq_true h2]
   go_wp2_with fail
   exact ⟨⟨rfl,rfl,rfl,rfl,rfl,rfl,rfl,rfl,rfl,rfl⟩,rfl⟩
  ·rw [decide_eq_false h2,decide_eq_false (show ¬ n=42 by omega)]
   have h3:((n:Int) == 42)=false:=by simp;omega
   go_wp2_with fail
   exact ⟨⟨rfl,rfl,rfl,rfl,rfl,rfl,rfl,rfl,rfl,by simp;omega⟩,rfl⟩
 ·by_cases h2:n=42
  ·subst h2
   go_wp2_with fail
   exact ⟨⟨rfl,rfl,rfl,rfl,rfl,rfl,rfl,rfl,rfl,rfl⟩,rfl⟩
  ·rw [decide_eq_false h1,decide_eq_false h2]
   have h3:((n:Int) == 42)=false:=by simp;omega
   go_wp2_with fail
   exact ⟨⟨rfl,rfl,rfl,rfl,rfl,rfl,rfl,rfl,rfl,rfl⟩,rfl⟩
noncomputable def reg_causeyref13_Key_5:Code:=((Tryz.f30.body.bind (regionOf 5)).getD .skip)
theorem key5 (t:Array Value) (hs:t.size=69) (w:World) {s:ByteArray} {k n:Nat} {x2:Value} {b4:Bool}
  (hq0:t.getD 0 undef = .string s)
  (hq1:t.getD 1 undef=undef)
  (hq2:t.getD 2 undef=x2)
  (hq3:t.getD 3 undef = .int .i64 k)
  (hq66:t.getD 66 undef=undef)
  (hq67:t.getD 67 undef=undef)
  (hq68:t.getD 68 undef=undef)
  (hq4:t.getD 4 undef = .bool b4)
  (hk:k < s.size) (hn:(gb s k).toNat=n) :
  reg_causeyref13_Key_5.wp Tryz.prog (Only fun a' W'=>(a'.tmps.size=69∧a'.defers = []∧a'.tmps.getD 0 undef = .string s∧a'.tmps.getD 1 undef=undef∧a'.tmps.getD 2 undef=x2∧a'.tmps.getD 3 undef = .int .i64 k∧a'.tmps.getD 66 undef=undef∧a'.tmps.getD 67 undef=undef∧a'.tmps.getD 68 undef=undef∧a'.tmps.getD 4 undef = .bool b4∧a'.tmps.getD 5 undef = .bool (othB (gb s k)))∧W'=w) ⟨t,[]⟩ w:=by
 conv=>arg 2;whnf
 obtain ⟨u,rfl⟩:=lit69 t hs
 have hq0:u 0 = _:=hq0
 have hq1:u 1 = _:=hq1
 have hq2:u 2 = _:=hq2
 have hq3:u 3 = _:=hq3
 have hq66:u 66 = _:=hq66
 have hq67:u 67 = _:=hq67
 have hq68:u 68 = _:=hq68
 have hq4:u 4 = _:=hq4
 rw [hq0,hq1,hq2,hq3,hq66,hq67,hq68,hq4]
 clear hq0 hq1 hq2 hq3 hq66 hq67 hq68 hq4 hs
 have hix:=fun W=>run_idx s k hk W
 rw [hn] at hix
 rw [oth_of hn]
 clear hn
 by_cases h1:48 ≤ n
 ·by_cases h2:n ≤ 57
  ·rw [decide_eq_true h1,decide_eq_true h2]
   go_wp2_with fail
   exact ⟨⟨rfl,rfl,rfl,rfl,rfl,rfl,rfl,rfl,rfl,rfl,rfl⟩,rfl⟩
  ·by_cases h3:n=95
   ·subst h3
    go_wp2_with fail
    exact ⟨⟨rfl,rfl,rfl,rfl,rfl,rfl,rfl,rfl,rfl,rfl,rfl⟩,rfl⟩
   ·rw [decide_eq_false h2,decide_eq_false h3,decide_eq_false (show ¬ n=45 by omega),decide_eq_false (show ¬ n=46 by omega)]
    have g1:((n:Int) == 95)=false:=by simp;omega
    have g2:((n:Int) == 45)=false:=by simp;omega
    have g3:((n:Int) == 46)=false:=by simp;omega
    go_wp2_with fail
    exact ⟨⟨rfl,rfl,rfl,rfl,rfl,rfl,rfl,rfl,rfl,rfl,by simp;omega⟩,rfl⟩
 ·by_cases h2:n=45
  ·subst h2
   go_wp2_with fail
   exact ⟨⟨rfl,rfl,rfl,rfl,rfl,rfl,rfl,rfl,rfl,rfl,rfl⟩,rfl⟩
  ·by_cases h3:n=46
   ·subst h3
    go_wp2_with fail
    exact ⟨⟨rfl,rfl,rfl,rfl,rfl,rfl,rfl,rfl,rfl,rfl,rfl⟩,rfl⟩
   ·rw [decide_eq_false h1,decide_eq_false h2,decide_eq_false h3,decide_eq_false (show ¬ n=95 by omega)]
    have g1:((n:Int) == 95)=false:=by simp;omega
    have g2:((n:Int) == 45)=false:=by simp;omega
    have g3:((n:Int) == 46)=false:=by simp;omega
    go_wp2_with fail
    exact ⟨⟨rfl,rfl,rfl,rfl,rfl,rfl,rfl,rfl,rfl,rfl,rfl⟩,rfl⟩
def keyAtB (s:ByteArray) (k:Nat):Bool:=Bare.smlB (gb s k) || (!decide (k=0) && othB (gb s k))
theorem keyB_of (s:ByteArray):Bare.keyB (bl s)=(decide (0 < s.size) && (List.range s.size).all (keyAtB s)):=by
 by_cases h0:s.size=0
 ·have:bl s = []:=List.length_eq_zero_iff.1 (by rw [bl_len];exact h0)
  rw [this,decide_eq_false (by omega)];rfl
 ·rw [decide_eq_true (by omega),Bool.true_and,first_drop s (by omega)]
  show (Bare.smlB (gb s 0) && ((bl s).drop 1).all Bare.inKey) = _
  rw [Bool.eq_iff_iff,Bool.and_eq_true,List.all_eq_true,List.all_eq_true]
  constructor
  ·rintro ⟨h1,h2⟩ k hk
   rw [List.mem_range] at hk
   unfold keyAtB
   by_cases e:k=0
   ·subst e;rw [h1];rfl
   ·have:=h2 (gb s k) (List.mem_iff_getElem?.2 ⟨k - 1,by rw [List.getElem?_drop,show 1 + (k - 1)=k by omega];exact gb_get s k hk⟩)
    rw [decide_eq_false e]
    exact this
  ·intro h
   refine ⟨?_,fun x hx=>?_⟩
   ·have:=h 0 (List.mem_range.2 (by omega))
    unfold keyAtB at this
    simpa using this
   ·obtain ⟨i,hi⟩:=List.mem_iff_getElem?.1 hx
    rw [List.getElem?_drop] at hi
    obtain ⟨hl,rfl⟩:=get_gb hi
    have:=h (1 + i) (List.mem_range.2 hl)
    unfold keyAtB at this
    rw [decide_eq_false (by omega)] at this
    exact this
theorem key_r13 (s:ByteArray) (w:World) (hs:s.size ≤ 9223372036854775807) :
  Calls Tryz.prog 30 #[.string s] w fun e w'=>e = .returned (.bool (Bare.keyB (bl s)))∧w'=w:=by
 have hof:=keyB_of s
 obtain ⟨z,hz⟩:∃ z,Bare.keyB (bl s)=z:=⟨_,rfl⟩
 rw [hz] at hof ⊢
 have HO:=Lib.hid hof
 clear hof hz
 go_enter Tryz.func30,Tryz.ntmps30
 go_upto_region 2 with fail
 go_loop [3] (fun c=>∃ k:Nat,k ≤ s.size∧c = .int .i64 k∧Hid (∀ j,j < k→keyAtB s j=true)) (fun c=>s.size - (intOf c).toNat)
 case atStart=>exact ⟨0,Nat.zero_le _,rfl,Lib.hid fun i hi=>by omega⟩
 case round =>
  obtain ⟨k,hk,rfl,hbef⟩:=hrel
  by_cases hlt:k < s.size
  ·have hkd:decide ((k:Int) < (s.size:Int))=true:=decide_eq_true (by omega)
   obtain ⟨n,hn⟩:∃ n,(gb s k).toNat=n:=⟨_,rfl⟩
   have hnext:keyAtB s k=true→Hid (∀ j,j < k + 1→keyAtB s j=true):=fun hg=>Lib.hid fun i hi=>by
    by_cases hik:i < k
    ·exact hbef.out i hik
    ·obtain rfl:i=k:=by omega
     exact hg
   have hstop:keyAtB s k=false→z=false:=fun hg=>by
    rw [HO.out]
    have:(List.range s.size).all (keyAtB s)=false:=by
     refine Bool.eq_false_iff.2 fun h=>?_
     have:=List.all_eq_true.1 h k (List.mem_range.2 hlt)
     rw [hg] at this
     cases this
    rw [this,Bool.and_false]
   have hat:keyAtB s k=(Bare.smlB (gb s k) || (!decide (k=0) && othB (gb s k))):=rfl
   go_upto_region 4 with fail
   refine piece (fun _=>_) (key4 (x2:=u2) _ rfl _ rfl rfl rfl rfl rfl rfl rfl hlt hn) ?_
   rintro ⟨t,dfs⟩ w4 ⟨⟨hs4,hd4,hq0,hq1,hq2,hq3,hq66,hq67,hq68,hq4⟩,rfl⟩
   simp only at hs4 hd4 hq0 hq1 hq2 hq3 hq66 hq67 hq68 hq4
   subst hd4
   obtain ⟨u,rfl⟩:=lit69 t hs4
   have hp0:u 0 = .string s:=hq0
   have hp1:u 1=undef:=hq1
   have hp2:u 2=u2:=hq2
   have hp3:u 3 = .int .i64 k:=hq3
   have hp66:u 66=undef:=hq66
   have hp67:u 67=undef:=hq67
   have hp68:u 68=undef:=hq68
   have hp4:u 4 = .bool (Bare.smlB (gb s k)):=hq4
   rw [hp0,hp1,hp2,hp66,hp67,hp68,hp3,hp4]
   clear hp66 hq66 hp67 hq67 hp68 hq68 hp0 hp1 hp2 hp3 hp4 hq0 hq1 hq2 hq3 hq4 hs4
   obtain ⟨b4,hb4⟩:∃ b,Bare.smlB (gb s k)=b:=⟨_,rfl⟩
   rw [hb4] at hat ⊢
   go_upto_region 5 with fail
   refine piece (fun _=>_) (key5 (x2:=u2) _ rfl _ rfl rfl rfl rfl rfl rfl rfl rfl hlt hn) ?_
   rintro ⟨t,dfs⟩ w5 ⟨⟨hs4,hd4,hq0,hq1,hq2,hq3,hq66,hq67,hq68,hq4,hq5⟩,rfl⟩
   simp only at hs4 hd4 hq0 hq1 hq2 hq3 hq66 hq67 hq68 hq4 hq5
   subst hd4
   obtain ⟨u,rfl⟩:=lit69 t hs4
   have hp0:u 0 = .string s:=hq0
   have hp1:u 1=undef:=hq1
   have hp2:u 2=u2:=hq2
   have hp3:u 3 = .int .i64 k:=hq3
   have hp66:u 66=undef:=hq66
   have hp67:u 67=undef:=hq67
   have hp68:u 68=undef:=hq68
   have hp4:u 4 = .bool b4:=hq4
   have hp5:u 5 = .bool (othB (gb s k)):=hq5
   rw [hp0,hp1,hp2,hp66,hp67,hp68,hp3,hp4,hp5]
   clear hp66 hq66 hp67 hq67 hp68 hq68 hp0 hp1 hp2 hp3 hp4 hp5 hq0 hq1 hq2 hq3 hq4 hq5 hs4
   obtain ⟨b5,hb5⟩:∃ b,othB (gb s k)=b:=⟨_,rfl⟩
   rw [hb5] at hat ⊢
   clear hb4 hb5 hn hbef hkd
   cases b4 with
   | true =>
    have hh:=hnext (by rw [hat];rfl)
    clear hnext hstop hat
    go_wp2_with fail
    go_round
    case rel=>exact ⟨k + 1,by omega,by go_num,hh⟩
    case measure=>simp [intOf];omega
   | false =>
    by_cases hk0:k=0
    ·have hh:=hstop (by rw [hat,decide_eq_true hk0];rfl)
     have hd:((k:Int) == 0)=true:=by simp [hk0]
     clear hnext hstop hat hk0
     subst hh
     go_wp2_with fail
     go_ret
     exact ⟨rfl,rfl⟩
    ·have hd:((k:Int) == 0)=false:=by simp [hk0]
     cases b5 with
     | true =>
      have hh:=hnext (by rw [hat,decide_eq_false hk0];rfl)
      clear hnext hstop hat
      go_wp2_with fail
      go_round
      case rel=>exact ⟨k + 1,by omega,by go_num,hh⟩
      case measure=>simp [intOf];omega
     | false =>
      have hh:=hstop (by rw [hat,decide_eq_false hk0];rfl)
      clear hnext hstop hat hk0
      subst hh
      go_wp2_with fail
      go_ret
      exact ⟨rfl,rfl⟩
  ·obtain rfl:k=s.size:=by omega
   have hkd:decide ((s.size:Int) < (s.size:Int))=false:=decide_eq_false (by omega)
   have hall:(List.range s.size).all (keyAtB s)=true:=List.all_eq_true.2 fun j hj=>hbef.out j (List.mem_range.1 hj)
   have hz2:decide (0 < s.size)=z:=by rw [HO.out,hall,Bool.and_true]
   clear hbef hall HO
   subst hz2
   go_wp2_with fail
   go_ret
   exact ⟨rfl,rfl⟩


theorem litj43 (t:Array Value) (h:t.size=43):∃ u:Nat→Value,t=(u 0::u 1::u 2::u 3::u 4::u 5::u 6::u 7::u 8::u 9::u 10::u 11::u 12::u 13::u 14::u 15::u 16::u 17::u 18::u 19::u 20::u 21::u 22::u 23::u 24::u 25::u 26::u 27::u 28::u 29::u 30::u 31::u 32::u 33::u 34::u 35::u 36::u 37::u 38::u 39::u 40::u 41::u 42::([]:List Value)).toArray:=⟨fun i=>t.getD i undef,range_lit t 43 h⟩
noncomputable def reg_causeyref13_params_9:Code:=((Tryz.f150.body.bind (regionOf 9)).getD .skip)
theorem params9 (t:Array Value) (hs:t.size=43) (w:World) {b o n cap i k:Nat} {ka kb:ByteArray} {y:Bool}
  (hq0:t.getD 0 undef = .slice (some ⟨b,o,none⟩) n cap)
  (hq3:t.getD 3 undef = .int .i64 i)
  (hq4:t.getD 4 undef = .int .i64 k)
  (c0:w.cell? ⟨b,o + k * 5,none⟩=some (.string ka)) (c1:w.cell? ⟨b,o + i * 5,none⟩=some (.string kb)) (hk:k < n) (hi:i < n) (hkd:decide ((k:Int) < (n:Int))=true) (hid:decide ((i:Int) < (n:Int))=true) (he:(ka.toList == kb.toList)=y) :
  reg_causeyref13_params_9.wp Tryz.prog (Only fun a' W'=>∃ z:Nat→Value,a'=⟨((pz t z [32,33,34,35,36,37,38,39,40,41]).setIfInBounds 42 (.bool y)),[]⟩∧New w W') ⟨t,[]⟩ w:=by
 conv=>arg 2;whnf
 obtain ⟨u,rfl⟩:=litj43 t hs
 have hq0:u 0 = _:=hq0
 have hq3:u 3 = _:=hq3
 have hq4:u 4 = _:=hq4
 rw [hq0,hq3,hq4]
 clear hq0 hq3 hq4 hs
 refine wp_region_held (S:=fun W=>New w W) (by kernel_rfl) ?_
 show wpAnyH _ _ _ _ _ 11 _ _ w.drew
 have hN:New w w.drew:=(Mods.refl _ _).drew
 have hS:New w w.drew:=(Mods.refl _ _).drew
 refine tkI 0 (some 32) (.slice (some ⟨b,o,none⟩) n cap) hS ?_
 simp only [pS]
 refine tkI 1 (some 33) (.int .i64 k) hS ?_
 simp only [pS]
 refine tkI 2 (some 34) (.pointer (some ⟨b,o + k * 5,none⟩)) hS ?_
 simp only [pS]
 refine tkI 3 (some 35) (.pointer (some ⟨b,o + k * 5,none⟩)) hS ?_
 simp only [pS]
 refine tkA 4 rfl (some 36) (.string ka) (.inl ⟨by rfl,fun W hW=>by have q:=hW.cell c0 id;go_simp⟩) hS ?_
 simp only [pS]
 refine tkI 5 (some 37) (.slice (some ⟨b,o,none⟩) n cap) hS ?_
 simp only [pS]
 refine tkI 6 (some 38) (.int .i64 i) hS ?_
 simp only [pS]
 refine tkI 7 (some 39) (.pointer (some ⟨b,o + i * 5,none⟩)) hS ?_
 simp only [pS]
 refine tkI 8 (some 40) (.pointer (some ⟨b,o + i * 5,none⟩)) hS ?_
 simp only [pS]
 refine tkA 9 rfl (some 41) (.string kb) (.inl ⟨by rfl,fun W hW=>by have q:=hW.cell c1 id;go_simp⟩) hS ?_
 simp only [pS]
 refine tkI 10 (some 42) (.bool y) hS ?_
 simp only [pS]
 refine wpAnyH_done (by kernel_rfl) ?_ _
 exact zc rfl hN
theorem get_map {α:Type} (f:α→Bare.Bs) (L:List α) (d:α) (i:Nat) (hi:i < L.length):(L.map f)[i]? = some (f (L.getD i d)):=by
 rw [List.getElem?_map,List.getElem?_eq_getElem hi,List.getD_eq_getElem?_getD,List.getElem?_eq_getElem hi]
 rfl
theorem alone_dup2 {α:Type} (f:α→Bare.Bs) (L:List α) (d:α) (i k:Nat) (hi:i < L.length) (hk:k < i) (h:f (L.getD k d)=f (L.getD i d)):Bare.aloneB (L.map f)=false:=by
 refine alone_dup (get_map f L d i hi) ?_
 rw [← h]
 refine List.mem_iff_getElem?.2 ⟨k,?_⟩
 rw [List.getElem?_take,if_pos hk,get_map f L d k (by omega)]
theorem alone_yes {α:Type} (f:α→Bare.Bs) (L:List α) (d:α) (h1:∀ i,i < L.length→Bare.keyB (f (L.getD i d))=true) (h2:∀ i,i < L.length→∀ k,k < i→f (L.getD k d) ≠ f (L.getD i d)):Bare.aloneB (L.map f)=true:=by
 refine (aloneB_iff _).2 ⟨?_,fun k hk=>?_⟩
 ·rw [List.nodup_iff_pairwise_ne]
  refine List.pairwise_iff_getElem.2 fun i j hi hj hij=>?_
  rw [List.length_map] at hi hj
  have:=h2 j hj i hij
  rw [List.getD_eq_getElem?_getD,List.getD_eq_getElem?_getD,List.getElem?_eq_getElem hi,List.getElem?_eq_getElem hj] at this
  simpa using this
 ·obtain ⟨x,hx,rfl⟩:=List.mem_map.1 hk
  obtain ⟨i,hi,rfl⟩:=List.mem_iff_getElem.1 hx
  have:=h1 i hi
  rw [List.getD_eq_getElem?_getD,List.getElem?_eq_getElem hi] at this
  exact this
theorem params_no1 {L:List Bare.Par} {i:Nat} (hi:i < L.length) (h:Bare.keyB (L.getD i noP).key=false):Bare.paramsB L=false:=by
 unfold Bare.paramsB
 rw [alone_no (get_map (·.key) L noP i hi) h,Bool.false_and]
theorem params_no2 {L:List Bare.Par} {i:Nat} (hi:i < L.length) (h:Bare.rightI (L.getD i noP).bare=false):Bare.paramsB L=false:=by
 unfold Bare.paramsB
 have:(L.all fun p=>Bare.rightI p.bare)=false:=by
  rw [List.all_eq_false]
  exact ⟨_,getD_mem hi,by rw [h];decide⟩
 rw [this,Bool.and_false]
theorem params_no3 {L:List Bare.Par} {i k:Nat} (hi:i < L.length) (hk:k < i) (h:(L.getD k noP).key=(L.getD i noP).key):Bare.paramsB L=false:=by
 unfold Bare.paramsB
 rw [alone_dup2 (·.key) L noP i k hi hk h,Bool.false_and]
theorem params_yes {L:List Bare.Par} (h1:∀ i,i < L.length→Bare.keyB (L.getD i noP).key=true∧Bare.rightI (L.getD i noP).bare=true) (h2:∀ i,i < L.length→∀ k,k < i→(L.getD k noP).key ≠ (L.getD i noP).key):Bare.paramsB L=true:=by
 unfold Bare.paramsB
 rw [alone_yes (·.key) L noP (fun i hi=>(h1 i hi).1) h2,Bool.true_and,List.all_eq_true]
 intro p hp
 obtain ⟨i,hi,rfl⟩:=List.mem_iff_getElem.1 hp
 have:=(h1 i hi).2
 rw [List.getD_eq_getElem?_getD,List.getElem?_eq_getElem hi] at this
 exact this
def ParS (L:List Bare.Par):Prop:=L.length ≤ 1000000∧∀ p ∈ L,p.key.length ≤ 100000000∧p.bare.text.length ≤ 100000000
theorem params_r13 {τ:Bool} (v:Value) (L:List Bare.Par) (w:World) (h:RdP τ w v L) (hs:ParS L) :
  Calls Tryz.prog 150 #[v] w fun e w'=>e = .returned (.bool (Bare.paramsB L))∧New w w':=by
 have HD:=Lib.hid h.1
 obtain ⟨ao,cap,rfl⟩:=h.slice
 obtain ⟨n,hn⟩:∃ n,L.length=n:=⟨_,rfl⟩
 have HN:=Lib.hid hn
 have HSz:=Lib.hid hs.2
 have hn6:n ≤ 1000000:=by rw [← hn];exact hs.1
 rw [hn] at HD ⊢
 obtain ⟨r,hr⟩:∃ r,Bare.paramsB L=r:=⟨_,rfl⟩
 have HR:=Lib.hid hr
 rw [hr]
 clear h hn hr hs
 go_enter Tryz.func150,Tryz.ntmps150
 go_upto_region 2 with fail
 go_loopw [3] (fun t wr=>∃ i:Nat,i ≤ n∧t = .int .i64 i∧Hid (∀ j,j < i→(Bare.keyB (L.getD j noP).key=true∧Bare.rightI (L.getD j noP).bare=true)∧∀ k,k < j→(L.getD k noP).key ≠ (L.getD j noP).key)∧New w wr) (fun t _=>n - (intOf t).toNat)
 case atStart=>exact ⟨0,Nat.zero_le _,rfl,Lib.hid (fun j hj=>by omega),Mods.refl _ _⟩
 case round =>
  obtain ⟨i,hi,rfl,HB,hN⟩:=hrel
  by_cases hlt:i < n
  ·have hid:decide ((i:Int) < (n:Int))=true:=decide_eq_true (by omega)
   have hiL:i < L.length:=by rw [HN.out];exact hlt
   obtain ⟨b,o,rfl,hrow⟩:=(RowR.new HD.out hN).at.2.2 i hlt
   obtain ⟨x,hx⟩:∃ x,L.getD i noP=x:=⟨_,rfl⟩
   have hrow:wr.rangeAt b (o + i * 5) (pcs x):=by rw [← hx];exact hrow
   have q0:wr.cell? ⟨b,o + i * 5,none⟩=some (.string (tx x.key)):=hrow 0 _ rfl
   have q1:wr.cell? ⟨b,o + i * 5 + 1,none⟩=some (.int .u8 x.bare.kind):=hrow 1 _ rfl
   have q2:wr.cell? ⟨b,o + i * 5 + 2,none⟩=some (.int .i64 x.bare.int):=hrow 2 _ rfl
   have q3:wr.cell? ⟨b,o + i * 5 + 3,none⟩=some (.string (tx x.bare.text)):=hrow 3 _ rfl
   have q4:wr.cell? ⟨b,o + i * 5 + 4,none⟩=some (.bool x.bare.yes):=hrow 4 _ rfl
   obtain ⟨z1,z2⟩:=HSz.out x (by rw [← hx];exact getD_mem hiL)
   have HK:=Lib.hid (fun W=>key_r13 (tx x.key) W (by rw [tx_size];omega))
   have HRt:=Lib.hid (fun W=>right_r x.bare z2 W)
   rw [bl_tx] at HK
   unfold bv bcs at HRt
   obtain ⟨kx,hkx⟩:∃ s,tx x.key=s:=⟨_,rfl⟩
   obtain ⟨tt,htt⟩:∃ s,tx x.bare.text=s:=⟨_,rfl⟩
   rw [hkx] at q0 HK
   rw [htt] at q3 HRt
   have HX:=Lib.hid hx
   have HKX:=Lib.hid hkx
   clear hrow hx hkx htt z1 z2
   cases hky:Bare.keyB x.key with
   | false =>
    obtain rfl:false=r:=by rw [← HR.out];exact (params_no1 hiL (by rw [HX.out];exact hky)).symm
    rw [hky] at HK
    clear hky HB
    go_wp2_with fail
    refine (HK.out _).mono ?_
    rintro e w1 ⟨rfl,rfl⟩
    go_wp2_with fail
    go_ret
    exact ⟨rfl,hN⟩
   | true =>
   rw [hky] at HK
   go_wp2_with fail
   refine (HK.out _).mono ?_
   rintro e w1 ⟨rfl,hw1⟩
   obtain rfl:=hw1.symm
   go_wp2_with fail
   refine (HRt.out _).mono ?_
   rintro e w2 ⟨rfl,hk2⟩
   have hN2:=hN.trans hk2
   cases hrt:Bare.rightI x.bare with
   | false =>
    obtain rfl:false=r:=by rw [← HR.out];exact (params_no2 hiL (by rw [HX.out];exact hrt)).symm
    clear hrt hky HB
    go_wp2_with fail
    go_ret
    exact ⟨rfl,hN2⟩
   | true =>
   have HKr:=Lib.hid (And.intro hky hrt)
   clear hky hrt hN hk2 q0 q1 q2 q3 q4 HK HRt
   go_upto_region 7 with fail
   go_loopw [4] (fun t wi=>∃ k:Nat,k ≤ i∧t = .int .i64 k∧Hid (∀ j,j < k→(L.getD j noP).key ≠ x.key)∧New w wi) (fun t _=>i - (intOf t).toNat)
   case atStart=>exact ⟨0,Nat.zero_le _,rfl,Lib.hid (fun j hj=>by omega),hN2⟩
   case round =>
    obtain ⟨k,hk,rfl,HBk,hNk⟩:=hrel
    by_cases hki:k < i
    ·have hkd:decide ((k:Int) < (i:Int))=true:=decide_eq_true (by omega)
     obtain ⟨b2,o2,e2,hrow⟩:=(RowR.new HD.out hNk).at.2.2 k (by omega)
     cases e2
     obtain ⟨b3,o3,e3,hrow3⟩:=(RowR.new HD.out hNk).at.2.2 i hlt
     cases e3
     have c0:wr.cell? ⟨b,o + k * 5,none⟩=some (.string (tx (L.getD k noP).key)):=hrow 0 _ rfl
     have c1:wr.cell? ⟨b,o + i * 5,none⟩=some (.string (tx (L.getD i noP).key)):=hrow3 0 _ rfl
     rw [HX.out,HKX.out] at c1
     have he:=eq_tx (tx (L.getD k noP).key) kx
     rw [bl_tx,← HKX.out,bl_tx,HKX.out] at he
     obtain ⟨ka,hka⟩:∃ s,tx (L.getD k noP).key=s:=⟨_,rfl⟩
     rw [hka] at c0 he
     clear hrow hrow3 hka
     go_upto_region 9 with fail
     refine piece (fun _=>_) (params9 _ rfl wr rfl rfl rfl c0 c1 (by omega) hlt (decide_eq_true (by omega)) hid he) ?_
     rintro a' w5 ⟨zg,rfl,hN5⟩
     simp only [pS]
     by_cases heq:(L.getD k noP).key=x.key
     ·obtain rfl:false=r:=by rw [← HR.out];exact (params_no3 hiL hki (by rw [HX.out];exact heq)).symm
      rw [decide_eq_true heq]
      clear heq he HB HBk c0 c1
      go_wp2_with fail
      go_ret
      exact ⟨rfl,hNk.trans hN5⟩
     ·have HB2:Hid (∀ j,j < k + 1→(L.getD j noP).key ≠ x.key):=Lib.hid (fun j hj=>by
       by_cases e:j < k
       ·exact HBk.out j e
       ·obtain rfl:j=k:=by omega
        exact heq)
      rw [decide_eq_false heq]
      clear heq he HBk c0 c1
      go_wp2_with fail
      go_roundw
      case rel=>exact ⟨k + 1,by omega,by go_num,HB2,hNk.trans hN5⟩
      case measure=>simp [intOf];omega
    ·obtain rfl:k=i:=by omega
     have hkd:decide ((k:Int) < (k:Int))=false:=decide_eq_false (by omega)
     have HB2:Hid (∀ j,j < k + 1→(Bare.keyB (L.getD j noP).key=true∧Bare.rightI (L.getD j noP).bare=true)∧∀ k,k < j→(L.getD k noP).key ≠ (L.getD j noP).key):=Lib.hid (fun j hj=>by
      by_cases e:j < k
      ·exact HB.out j e
      ·obtain rfl:j=k:=by omega
       rw [HX.out]
       exact ⟨HKr.out,HBk.out⟩)
     clear HB HBk
     go_wp2_with fail
     go_roundw
     case rel=>exact ⟨k + 1,by omega,by go_num,HB2,hNk⟩
     case measure=>simp [intOf];omega
  ·obtain rfl:i=n:=by omega
   have hid:decide ((i:Int) < (i:Int))=false:=decide_eq_false (by omega)
   obtain rfl:true=r:=by
    rw [← HR.out]
    exact (params_yes (fun j hj=>(HB.out j (by rw [HN.out] at hj;exact hj)).1) (fun j hj=>(HB.out j (by rw [HN.out] at hj;exact hj)).2)).symm
   clear HB
   go_wp2_with fail
   go_ret
   exact ⟨rfl,hN⟩


def begN (l:Bare.Bs) (d:Nat):Bool:=match l with
 | []=>false
 | c::_=>decide (c.toNat=d)
theorem begN_at (s:ByteArray) (d:Nat) (h:0 < s.size):begN (bl s) d=decide ((gb s 0).toNat=d):=by rw [first_drop s h];rfl
theorem begN_nil (s:ByteArray) (d:Nat) (h:s.size=0):begN (bl s) d=false:=by
 have:bl s = []:=List.length_eq_zero_iff.1 (by rw [bl_len];exact h)
 rw [this];rfl
theorem begins_r (s:ByteArray) (d:Nat) (w:World) (hs:s.size ≤ 9223372036854775807) (hd:d < 256) :
  Calls Tryz.prog 79 #[.string s,.int .u8 d] w fun e w'=>e = .returned (.bool (begN (bl s) d))∧w'=w:=by
 by_cases h0:s.size=0
 ·rw [begN_nil s d h0]
  have hp:decide ((0:Int) < (s.size:Int))=false:=decide_eq_false (by omega)
  go_enter Tryz.func79,Tryz.ntmps79
  go_wp2
  go_ret
  exact ⟨rfl,rfl⟩
 ·rw [begN_at s d (by omega)]
  have hp:decide ((0:Int) < (s.size:Int))=true:=decide_eq_true (by omega)
  have hix:∀ W,(Instr.index 9 (.string s) (.int .i64 0)).run Tryz.prog W = .ok (.int .u8 ((gb s 0).toNat:Nat)) W:=run_idx s 0 (by omega)
  obtain ⟨n,hn⟩:∃ n,(gb s 0).toNat=n:=⟨_,rfl⟩
  rw [hn] at hix ⊢
  clear hn
  obtain ⟨b,hb⟩:∃ b,decide (n=d)=b:=⟨_,rfl⟩
  have hbb:((n:Int) == (d:Int))=b:=by
   rw [← hb,Bool.eq_iff_iff,beq_iff_eq,decide_eq_true_eq]
   omega
  rw [hb]
  clear hb
  go_enter Tryz.func79,Tryz.ntmps79
  go_wp2
  go_ret
  exact ⟨rfl,rfl⟩
def blkL (tabs:Bool):Bare.Bs:=if tabs then [32,9] else [32]
theorem skip_step {l s:Bare.Bs} {c:UInt8} (h:l.contains c=true):Bare.skipB l (c::s)=Bare.skipB l s:=by
 unfold Bare.skipB
 rw [List.dropWhile_cons,if_pos h]
theorem skip_stop {l s:Bare.Bs} {c:UInt8} (h:l.contains c=false):Bare.skipB l (c::s)=c::s:=by
 unfold Bare.skipB
 rw [List.dropWhile_cons,if_neg (by rw [h];decide)]
theorem blk_has (tabs:Bool) (c:UInt8):(blkL tabs).contains c=(decide (c.toNat=32) || (tabs && decide (c.toNat=9))):=by
 have e:∀ d:Nat,d < 256→(c == UInt8.ofNat d)=decide (c.toNat=d):=fun d hd=>by
  rw [Bool.eq_iff_iff,beq_iff_eq,decide_eq_true_eq]
  constructor
  ·rintro rfl;simp [Nat.mod_eq_of_lt hd]
  ·intro h;rw [← UInt8.toNat_inj,h];simp [Nat.mod_eq_of_lt hd]
 have e1:=e 32 (by decide)
 have e2:=e 9 (by decide)
 rw [← e1,← e2]
 cases tabs
 ·show ([32]:Bare.Bs).contains c = _
  simp only [List.contains_cons,List.contains_nil,Bool.or_false,Bool.false_and]
  rfl
 ·show ([32,9]:Bare.Bs).contains c = _
  simp only [List.contains_cons,List.contains_nil,Bool.or_false,Bool.true_and]
  rfl
theorem blanks_r (s:ByteArray) (tabs:Bool) (w:World) (hs:s.size ≤ 1000000) :
  Calls Tryz.prog 76 #[.string s,.bool tabs] w fun e w'=>e = .returned (.string (tx (Bare.skipB (blkL tabs) (bl s))))∧w'=w:=by
 obtain ⟨R,hR⟩:∃ R,Bare.skipB (blkL tabs) (bl s)=R:=⟨_,rfl⟩
 have HR:=Lib.hid hR
 rw [hR]
 clear hR
 go_enter Tryz.func76,Tryz.ntmps76
 go_upto_region 1 with fail
 go_loop [0] (fun c=>∃ q:ByteArray,q.size ≤ s.size∧c = .string q∧Hid (Bare.skipB (blkL tabs) (bl q)=R)) (fun c=>match c with | .string q=>q.size | _=>0)
 case atStart=>exact ⟨s,Nat.le_refl _,rfl,HR⟩
 case round =>
  clear HR
  obtain ⟨q,hq,rfl,HR⟩:=hrel
  have HB:=Lib.hid (fun d hd W=>(begins_r q d W (by omega) hd).mono fun e w' h=>show e = .returned (.bool (begN (bl q) d))∧W=w' from ⟨h.1,h.2.symm⟩)
  by_cases h0:q.size=0
  ·have b1:=begN_nil q 32 h0
   have b2:=begN_nil q 9 h0
   have hnil:bl q = []:=List.length_eq_zero_iff.1 (by rw [bl_len];exact h0)
   have hqR:tx R=q:=by
    rw [← HR.out,hnil]
    show tx []=q
    rw [← hnil,tx_bl]
   have H1:Hid (∀ W,Calls Tryz.prog 79 #[.string q,.int .u8 32] W fun e w'=>e = .returned (.bool (begN (bl q) 32))∧W=w'):=Lib.hid (HB.out 32 (by decide))
   have H2:Hid (∀ W,Calls Tryz.prog 79 #[.string q,.int .u8 9] W fun e w'=>e = .returned (.bool (begN (bl q) 9))∧W=w'):=Lib.hid (HB.out 9 (by decide))
   rw [b1] at H1
   rw [b2] at H2
   clear HB b1 b2 hnil HR h0
   cases tabs with
   | true =>
    go_wp2_with (go_at_call 79;first | (with_reducible refine (H1.out _).mono ?_;rintro e w' ⟨rfl,rfl⟩) | (with_reducible refine (H2.out _).mono ?_;rintro e w' ⟨rfl,rfl⟩))
    go_ret
    exact ⟨by rw [hqR];rfl,rfl⟩
   | false =>
    go_wp2_with (go_at_call 79;first | (with_reducible refine (H1.out _).mono ?_;rintro e w' ⟨rfl,rfl⟩) | (with_reducible refine (H2.out _).mono ?_;rintro e w' ⟨rfl,rfl⟩))
    go_ret
    exact ⟨by rw [hqR];rfl,rfl⟩
  ·have b1:=begN_at q 32 (by omega)
   have b2:=begN_at q 9 (by omega)
   have hh:=blk_has tabs (gb q 0)
   have hf:=first_drop q (by omega)
   have hsl:∀ W,(Instr.slice 9 (.string q) (some (.int .i64 1)) none none).run Tryz.prog W = .ok (.string (tx ((bl q).drop 1))) W:=run_sl_l q 1 (by omega)
   have H1:Hid (∀ W,Calls Tryz.prog 79 #[.string q,.int .u8 32] W fun e w'=>e = .returned (.bool (begN (bl q) 32))∧W=w'):=Lib.hid (HB.out 32 (by decide))
   have H2:Hid (∀ W,Calls Tryz.prog 79 #[.string q,.int .u8 9] W fun e w'=>e = .returned (.bool (begN (bl q) 9))∧W=w'):=Lib.hid (HB.out 9 (by decide))
   rw [b1] at H1
   rw [b2] at H2
   have hgo:(blkL tabs).contains (gb q 0)=true→Hid (Bare.skipB (blkL tabs) ((bl q).drop 1)=R):=fun h=>Lib.hid (by
    rw [← HR.out]
    conv=>rhs;rw [hf]
    rw [skip_step h])
   have hst:(blkL tabs).contains (gb q 0)=false→tx R=q:=fun h=>by
    rw [← HR.out]
    conv=>lhs;rw [hf]
    rw [skip_stop h,← hf,tx_bl]
   obtain ⟨x,hx⟩:∃ x,tx ((bl q).drop 1)=x:=⟨_,rfl⟩
   have hxb:bl x=(bl q).drop 1:=by rw [← hx,bl_tx]
   have hxl:x.size + 1=q.size:=by rw [← bl_len x,hxb,List.length_drop,bl_len];omega
   rw [← hxb] at hgo
   rw [hx] at hsl
   rw [hh] at hgo hst
   obtain ⟨y1,hy1⟩:∃ b,decide ((gb q 0).toNat=32)=b:=⟨_,rfl⟩
   obtain ⟨y2,hy2⟩:∃ b,decide ((gb q 0).toNat=9)=b:=⟨_,rfl⟩
   rw [hy1] at hgo hst H1
   rw [hy2] at hgo hst H2
   clear HB b1 b2 hh hf hx hxb hy1 hy2 HR h0
   cases y1 with
   | true =>
    cases tabs with
    | true =>
     cases y2 with
     | true =>
      have hgo:=hgo rfl
      clear hst
      go_wp2_with (go_at_call 79;first | (with_reducible refine (H1.out _).mono ?_;rintro e w' ⟨rfl,rfl⟩) | (with_reducible refine (H2.out _).mono ?_;rintro e w' ⟨rfl,rfl⟩))
      go_round
      case rel=>exact ⟨x,by omega,rfl,hgo⟩
      case measure=>simp;omega
     | false =>
      have hgo:=hgo rfl
      clear hst
      go_wp2_with (go_at_call 79;first | (with_reducible refine (H1.out _).mono ?_;rintro e w' ⟨rfl,rfl⟩) | (with_reducible refine (H2.out _).mono ?_;rintro e w' ⟨rfl,rfl⟩))
      go_round
      case rel=>exact ⟨x,by omega,rfl,hgo⟩
      case measure=>simp;omega
    | false =>
     have hgo:=hgo rfl
     clear hst
     go_wp2_with (go_at_call 79;first | (with_reducible refine (H1.out _).mono ?_;rintro e w' ⟨rfl,rfl⟩) | (with_reducible refine (H2.out _).mono ?_;rintro e w' ⟨rfl,rfl⟩))
     go_round
     case rel=>exact ⟨x,by omega,rfl,hgo⟩
     case measure=>simp;omega
   | false =>
    cases tabs with
    | true =>
     cases y2 with
     | true =>
      have hgo:=hgo rfl
      clear hst
      go_wp2_with (go_at_call 79;first | (with_reducible refine (H1.out _).mono ?_;rintro e w' ⟨rfl,rfl⟩) | (with_reducible refine (H2.out _).mono ?_;rintro e w' ⟨rfl,rfl⟩))
      go_round
      case rel=>exact ⟨x,by omega,rfl,hgo⟩
      case measure=>simp;omega
     | false =>
      have hst:=hst rfl
      clear hgo
      replace hst:=Lib.hid hst
      go_wp2_with (go_at_call 79;first | (with_reducible refine (H1.out _).mono ?_;rintro e w' ⟨rfl,rfl⟩) | (with_reducible refine (H2.out _).mono ?_;rintro e w' ⟨rfl,rfl⟩))
      go_ret
      exact ⟨by rw [hst.out];rfl,rfl⟩
    | false =>
     have hst:=hst rfl
     clear hgo
     replace hst:=Lib.hid hst
     go_wp2_with (go_at_call 79;first | (with_reducible refine (H1.out _).mono ?_;rintro e w' ⟨rfl,rfl⟩) | (with_reducible refine (H2.out _).mono ?_;rintro e w' ⟨rfl,rfl⟩))
     go_ret
     exact ⟨by rw [hst.out];rfl,rfl⟩
theorem keyOf_at (s:ByteArray) (k:Nat) (h:k ≤ s.size) (hb:∀ j,j < k→keyAtB s j=true) (hs:k < s.size→keyAtB s k=false):Bare.keyOf (bl s)=(bl s).take k:=by
 by_cases h0:s.size=0
 ·have:bl s = []:=List.length_eq_zero_iff.1 (by rw [bl_len];exact h0)
  rw [this];simp [Bare.keyOf]
 ·have hf:=first_drop s (by omega)
  by_cases hk:k=0
  ·subst hk
   have h1:=hs (by omega)
   unfold keyAtB at h1
   have h2:Bare.smlB (gb s 0)=false:=by simpa using h1
   rw [hf,List.take_zero]
   show (if Bare.smlB (gb s 0)=true then _ else []) = []
   rw [if_neg (by rw [h2];decide)]
  ·have h1:=hb 0 (by omega)
   unfold keyAtB at h1
   have h2:Bare.smlB (gb s 0)=true:=by simpa using h1
   have hat:∀ j,1 ≤ j→keyAtB s j=Bare.inKey (gb s j):=fun j hj=>by
    unfold keyAtB
    rw [decide_eq_false (by omega)]
    rfl
   have hw:=Bare.while_at Bare.inKey ((bl s).drop 1) (k - 1) (by rw [List.length_drop,bl_len];omega) (fun j hj c hc=>by
    rw [List.getElem?_drop] at hc
    obtain ⟨-,rfl⟩:=get_gb hc
    rw [← hat _ (by omega)]
    exact hb (1 + j) (by omega)) (fun c hc=>by
    rw [List.getElem?_drop,show 1 + (k - 1)=k by omega] at hc
    obtain ⟨hl,rfl⟩:=get_gb hc
    rw [← hat _ (by omega)]
    exact hs hl)
   have ht:=Bare.takeWhile_take Bare.inKey ((bl s).drop 1)
   rw [hw] at ht
   obtain ⟨j,rfl⟩:∃ j,k=j + 1:=⟨k - 1,by omega⟩
   rw [hf,List.take_succ_cons]
   show (if Bare.smlB (gb s 0)=true then gb s 0::((bl s).drop 1).takeWhile Bare.inKey else []) = _
   rw [if_pos h2,← ht]
   rfl
theorem key_take (s:ByteArray) (k:Nat) (h:k < s.size) (hb:∀ j,j < k→keyAtB s j=true):Bare.keyB ((bl s).take (k + 1))=keyAtB s k:=by
 have hsz:(tx ((bl s).take (k + 1))).size=k + 1:=by rw [tx_size,List.length_take,bl_len];omega
 have hg:∀ j,j ≤ k→gb (tx ((bl s).take (k + 1))) j=gb s j:=fun j hj=>by
  have h1:=gb_get (tx ((bl s).take (k + 1))) j (by omega)
  rw [bl_tx,List.getElem?_take,if_pos (by omega),gb_get s j (by omega)] at h1
  exact (Option.some.inj h1).symm
 have:=keyB_of (tx ((bl s).take (k + 1)))
 rw [bl_tx,hsz,decide_eq_true (by omega),Bool.true_and] at this
 rw [this,Bool.eq_iff_iff,List.all_eq_true]
 constructor
 ·intro ha
  have:=ha k (List.mem_range.2 (by omega))
  unfold keyAtB at this ⊢
  rw [hg k (Nat.le_refl _)] at this
  exact this
 ·intro hk j hj
  have hj:=List.mem_range.1 hj
  have h2:keyAtB s j=true:=by
   by_cases e:j=k
   ·rw [e];exact hk
   ·exact hb j (by omega)
  unfold keyAtB at h2 ⊢
  rw [hg j (by omega)]
  exact h2
theorem keyof_r (s:ByteArray) (w:World) (hs:s.size ≤ 1000000) :
  Calls Tryz.prog 134 #[.string s] w fun e w'=>e = .returned (.tuple #[.string (tx (Bare.keyOf (bl s))),.string (tx ((bl s).drop (Bare.keyOf (bl s)).length)),.bool (!(Bare.keyOf (bl s)).isEmpty)])∧New w w':=by
 have HK:=Lib.hid (keyOf_at s)
 have HT:=Lib.hid (key_take s)
 have HR:=Lib.hid (fun (k:Nat) W=>key_r13 (tx ((bl s).take k)) W (by rw [tx_size,List.length_take,bl_len];omega))
 have hN0:New w w:=Mods.refl _ _
 obtain ⟨K,hK⟩:∃ K,Bare.keyOf (bl s)=K:=⟨_,rfl⟩
 rw [hK] at HK ⊢
 clear hK
 go_enter Tryz.func134,Tryz.ntmps134
 go_upto_region 2 with fail
 go_loop [5] (fun c=>∃ k:Nat,k ≤ s.size∧c = .int .i64 k∧Hid (∀ j,j < k→keyAtB s j=true)) (fun c=>s.size - (intOf c).toNat)
 case atStart=>exact ⟨0,Nat.zero_le _,rfl,Lib.hid fun i hi=>by omega⟩
 case round =>
  obtain ⟨k,hk,rfl,hbef⟩:=hrel
  by_cases hlt:k < s.size
  ·have hkd:decide ((k:Int) < (s.size:Int))=true:=decide_eq_true (by omega)
   have hsl2:∀ W,(Instr.slice 9 (.string s) none (some (.int .i64 ((k:Int) + 1))) none).run Tryz.prog W = .ok (.string (tx ((bl s).take (k + 1)))) W:=run_sl_h s (k + 1) (by omega)
   have htk:=HT.out k hlt hbef.out
   have HP:=Lib.hid (fun W=>(HR.out (k + 1) W).mono fun e w' h=>show e = .returned (.bool (keyAtB s k))∧W=w' from ⟨by rw [h.1,bl_tx,htk],h.2.symm⟩)
   obtain ⟨q,hq⟩:∃ q,tx ((bl s).take (k + 1))=q:=⟨_,rfl⟩
   rw [hq] at hsl2 HP
   have hnext:keyAtB s k=true→Hid (∀ j,j < k + 1→keyAtB s j=true):=fun hg=>Lib.hid fun i hi=>by
    by_cases hik:i < k
    ·exact hbef.out i hik
    ·obtain rfl:i=k:=by omega
     exact hg
   have hstop:keyAtB s k=false→K=(bl s).take k:=fun hg=>HK.out k hk hbef.out (fun _=>hg)
   obtain ⟨b,hb⟩:∃ b,keyAtB s k=b:=⟨_,rfl⟩
   rw [hb] at HP hnext hstop
   clear htk hq hb hbef
   cases b with
   | true =>
    have hh:=hnext rfl
    clear hnext hstop
    go_wp2_with (go_at_call 30;refine (HP.out _).mono ?_;rintro e w' ⟨rfl,rfl⟩)
    go_round
    case rel=>exact ⟨k + 1,by omega,by go_num,hh⟩
    case measure=>simp [intOf];omega
   | false =>
    have hh:=hstop rfl
    clear hnext hstop
    go_upto_region 4 with (go_at_call 30;refine (HP.out _).mono ?_;rintro e w' ⟨rfl,rfl⟩)
    clear hsl2 HP hkd
    have hlen:K.length=k:=by rw [hh,List.length_take,bl_len];omega
    have hsh:=run_sl_h s k (by omega)
    have hsl:=run_sl_l s k (by omega)
    have hem:(!K.isEmpty)=decide (0 < k):=by
     rw [← hlen]
     cases K <;> simp
    rw [← hh] at hsh
    rw [← hlen] at hsl
    rw [hlen] at hsl
    obtain ⟨x,hx⟩:∃ x,tx K=x:=⟨_,rfl⟩
    obtain ⟨y,hy⟩:∃ y,tx ((bl s).drop k)=y:=⟨_,rfl⟩
    rw [hx] at hsh
    rw [hy] at hsl
    have HE:Hid ((Ending.returned (.tuple #[.string (tx K),.string (tx ((bl s).drop K.length)),.bool (!K.isEmpty)])) = .returned (.tuple #[.string x,.string y,.bool (decide (0 < k))])):=Lib.hid (by rw [hem,hlen,hx,hy])
    clear hh hlen hem hx hy
    go_region
    go_wp2_with fail
    go_ret3
    exact ⟨HE.out.symm,hN0.drew⟩
  ·obtain rfl:k=s.size:=by omega
   have hkd:decide ((s.size:Int) < (s.size:Int))=false:=decide_eq_false (by omega)
   have hh:=HK.out s.size (Nat.le_refl _) hbef.out (fun h=>by omega)
   clear hbef
   go_upto_region 4 with fail
   clear hkd
   have hlen:K.length=s.size:=by rw [hh,List.length_take,bl_len];omega
   have hsh:=run_sl_h s s.size (by omega)
   have hsl:=run_sl_l s s.size (by omega)
   have hem:(!K.isEmpty)=decide (0 < s.size):=by
    rw [← hlen]
    cases K <;> simp
   rw [← hh] at hsh
   rw [← hlen] at hsl
   rw [hlen] at hsl
   obtain ⟨x,hx⟩:∃ x,tx K=x:=⟨_,rfl⟩
   obtain ⟨y,hy⟩:∃ y,tx ((bl s).drop s.size)=y:=⟨_,rfl⟩
   rw [hx] at hsh
   rw [hy] at hsl
   have HE:Hid ((Ending.returned (.tuple #[.string (tx K),.string (tx ((bl s).drop K.length)),.bool (!K.isEmpty)])) = .returned (.tuple #[.string x,.string y,.bool (decide (0 < s.size))])):=Lib.hid (by rw [hem,hlen,hx,hy])
   clear hh hlen hem hx hy
   go_region
   go_wp2_with fail
   go_ret3
   exact ⟨HE.out.symm,hN0.drew⟩
end Go.Proofs.YtnknmmbnhoanfaaGreatDoor
