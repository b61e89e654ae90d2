/- Texts joined. -/
import Derived.Test.YtnknmmbnhoanfaaGreatDoorB07
import Derived.Test.YtnknmmbnhoanfaaGreatDoorB06
import Derived.Test.YtnknmmbnhoanfaaGreatDoorB05
set_option linter.unusedSimpArgs false
set_option linter.unusedVariables false
set_option maxHeartbeats 16000000
set_option maxRecDepth 100000
namespace Go.Proofs.YtnknmmbnhoanfaaGreatDoor
open Go.RowKit Go.Shelf Go.Cs
attribute [local go_sem] Oper.semAt_some


theorem first_drop (s:ByteArray) (h:0 < s.size):bl s=gb s 0::(bl s).drop 1:=by
 have:=drop_one s 0 h
 rw [List.drop_zero] at this
 exact this
theorem head_in {c:UInt8} (h:Bare.headTok c=true):Bare.inTok c=true:=by
 unfold Bare.headTok at h
 unfold Bare.inTok
 rcases Bool.or_eq_true_iff.1 h with h | h
 ·rw [h];rfl
 ·rw [beq_iff_eq] at h;subst h;decide
theorem tok_take (s:ByteArray) (k:Nat) (h1:1 ≤ k) (h:k < s.size) (hh:Bare.headTok (gb s 0)=true) (hb:∀ j,j < k→Bare.inTok (gb s j)=true):Bare.tokB ((bl s).take (k + 1))=Bare.inTok (gb s k):=by
 rw [first_drop s (by omega),List.take_succ_cons]
 show (Bare.headTok (gb s 0) && (((bl s).drop 1).take k).all Bare.inTok)=Bare.inTok (gb s k)
 rw [hh,Bool.true_and,Bool.eq_iff_iff,List.all_eq_true]
 constructor
 ·intro ha
  refine ha _ ?_
  refine List.mem_iff_getElem?.2 ⟨k - 1,?_⟩
  rw [List.getElem?_take,if_pos (by omega),List.getElem?_drop,show 1 + (k - 1)=k by omega]
  exact gb_get s k h
 ·intro hk x hx
  obtain ⟨i,hi⟩:=List.mem_iff_getElem?.1 hx
  rw [List.getElem?_take] at hi
  split at hi
  ·rw [List.getElem?_drop] at hi
   obtain ⟨hl,rfl⟩:=get_gb hi
   by_cases e:1 + i=k
   ·rw [e];exact hk
   ·exact hb _ (by omega)
  ·cases hi
theorem packed_at (s:ByteArray) (k:Nat) (h0:0 < s.size) (h1:1 ≤ k) (h:k ≤ s.size) (hb:∀ j,1 ≤ j→j < k→gb s j ≠ 58) (hs:k < s.size→gb s k=58) :
  Bare.packed ((bl s).drop 1)=if k=s.size then none else (Bare.unsix (bl (piec s 1 k))).map fun t=>(⟨5,0,t,false⟩,(bl s).drop (k + 1)):=by
 have hw:=Bare.while_at (· != 58) ((bl s).drop 1) (k - 1) (by rw [List.length_drop,bl_len];omega) (fun j hj c hc=>by
  rw [List.getElem?_drop] at hc
  obtain ⟨-,rfl⟩:=get_gb hc
  have:=hb (1 + j) (by omega) (by omega)
  simpa using this) (fun c hc=>by
  rw [List.getElem?_drop,show 1 + (k - 1)=k by omega] at hc
  obtain ⟨hl,rfl⟩:=get_gb hc
  rw [hs hl];rfl)
 have ht:=Bare.takeWhile_take (· != 58) ((bl s).drop 1)
 rw [hw] at ht
 unfold Bare.packed
 simp only
 rw [← ht,← bl_piec]
 have hpl:(bl (piec s 1 k)).length=k - 1:=by rw [bl_len,piec_size s 1 k h]
 rw [hpl,List.length_drop,bl_len]
 by_cases e:k=s.size
 ·rw [if_pos (by omega),if_pos e]
 ·rw [if_neg (by omega),if_neg e,List.drop_drop,show 1 + (k - 1 + 1)=k + 1 by omega]
theorem parse_r (s:ByteArray) (w:World) (hs:s.size ≤ 1000000) :
  Calls Tryz.prog 10 #[.string s] w (ReadP (Bare.parseI (bl s)) w):=by
 obtain ⟨hN,hr⟩:=no_row w
 have HNo:=Lib.hid (fun W=>none_r W)
 unfold ReadP bv bcs noIt at HNo
 simp only at HNo
 by_cases h0:s.size=0
 ·have e:Bare.parseI (bl s)=none:=by
   have:bl s = []:=List.length_eq_zero_iff.1 (by rw [bl_len];exact h0)
   rw [this];rfl
  rw [e]
  have hd0:((s.size:Int) == 0)=true:=by simp [h0]
  clear e h0
  refine Calls.mono (R:=fun e w'=>e = .returned (.tuple #[.agg #[.int .u8 0,.int .i64 0,.string ⟨#[]⟩,.bool false],.string ⟨#[]⟩,.int .i64 120])∧New w w') ?_ fun e w' h=>h
  go_enter Tryz.func10,Tryz.ntmps10
  go_upto_region 1 with fail
  obtain ⟨W,hW⟩:∃ W,w.alloc (.cells #[.int .u8 0,.int .i64 0,.string ⟨#[]⟩,.bool false] 23)=W:=⟨_,rfl⟩
  rw [hW] at hN hr ⊢
  obtain ⟨B,hB⟩:∃ B,w.heap.size=B:=⟨_,rfl⟩
  have hBw:w.heap.size ≤ B:=by omega
  rw [hB] at hr ⊢
  clear hW hB
  go_wp2_with (first | (go_at_call 58;refine (HD.out _).mono ?_;rintro e w' ⟨rfl,rfl⟩) | (go_at_call 61;refine (HL.out _).mono ?_;rintro e w' ⟨rfl,rfl⟩))
  refine (HNo.out _).mono ?_
  rintro e wn ⟨rfl,hNn⟩
  have hN:=hN.trans hNn
  have hr:=hNn.heap hr id
  obtain ⟨⟨c0,c1,c2,c3⟩,f0,f1,f2,f3⟩:=row_facts hr
  go_wp2_with fail
  obtain ⟨hN2,hr2⟩:=set4 hN hBw hr (.int .u8 0) (.int .i64 0) (.string ⟨#[]⟩) (.bool false)
  obtain ⟨W2,hW2⟩:∃ W2,((((wn.setCell ⟨B,0,none⟩ (.int .u8 0)).setCell ⟨B,1,none⟩ (.int .i64 0)).setCell ⟨B,2,none⟩ (.string ⟨#[]⟩)).setCell ⟨B,3,none⟩ (.bool false))=W2:=⟨_,rfl⟩
  rw [hW2] at hN2 hr2 ⊢
  exact read_end (by kernel_rfl) rfl rfl rfl hr2 ⟨rfl,hN2⟩
 have hd0:((s.size:Int) == 0)=false:=by simp [h0]
 rw [parseI_at s (by omega)]
 have hix0:∀ W,(Instr.index 9 (.string s) (.int .i64 0)).run Tryz.prog W = .ok (.int .u8 ((gb s 0).toNat:Nat)) W:=run_idx s 0 (by omega)
 have HD:=Lib.hid (fun W=>(digit_r (gb s 0) W).mono fun e w' h=>show e = _∧W=w' from ⟨h.1,h.2.symm⟩)
 have HL:=Lib.hid (fun W=>(letter_r (gb s 0) W).mono fun e w' h=>show e = _∧W=w' from ⟨h.1,h.2.symm⟩)
 have HQuo:=Lib.hid (fun W=>quoted_r s W hs (by omega))
 obtain ⟨n,hn⟩:∃ n,(gb s 0).toNat=n:=⟨_,rfl⟩
 have t45:=(byte_test (gb s 0) 45 (by decide) n hn).1
 rw [show UInt8.ofNat 45=45 from rfl] at t45
 have t45:((n:Int) == 45)=decide (gb s 0=45):=t45
 have t42:=(byte_test (gb s 0) 42 (by decide) n hn).1
 rw [show UInt8.ofNat 42=42 from rfl] at t42
 have t42:((n:Int) == 42)=decide (gb s 0=42):=t42
 have t34:=(byte_test (gb s 0) 34 (by decide) n hn).1
 rw [show UInt8.ofNat 34=34 from rfl] at t34
 have t34:((n:Int) == 34)=decide (gb s 0=34):=t34
 have t58:=(byte_test (gb s 0) 58 (by decide) n hn).1
 rw [show UInt8.ofNat 58=58 from rfl] at t58
 have t58:((n:Int) == 58)=decide (gb s 0=58):=t58
 have t63:=(byte_test (gb s 0) 63 (by decide) n hn).1
 rw [show UInt8.ofNat 63=63 from rfl] at t63
 have t63:((n:Int) == 63)=decide (gb s 0=63):=t63
 rw [hn] at hix0 HD HL
 obtain ⟨D,hD⟩:∃ x,Bare.digB (gb s 0)=x:=⟨_,rfl⟩
 rw [hD] at HD ⊢
 by_cases hnum:(D || decide (gb s 0=45))=true
 ·rw [if_pos hnum]
  have HNum:=Lib.hid (fun W=>show Calls Tryz.prog 59 #[.string s] W (ReadP (Bare.number (bl s)) W) from if h:gb s 0=45 then number_neg_r s W hs (by omega) h else number_pos_r s W hs (by omega) h)
  obtain ⟨x45,hx45⟩:∃ x,decide (gb s 0=45)=x:=⟨_,rfl⟩
  rw [hx45] at t45 hnum
  clear hx45 hD
  cases D with
  | true =>
   clear hnum
   obtain ⟨k,nn,tt,y,x,ec,hv⟩:=readP_open (Bare.number (bl s))
   refine Calls.mono (R:=fun e w'=>e = .returned (.tuple #[.agg #[.int .u8 k,.int .i64 nn,.string tt,.bool y],.string x,.int .i64 ec])∧New w w') ?_ fun e w' h=>(hv w e w').2 h
   have HX:=Lib.hid (fun W=>(HNum.out W).mono fun e w' h=>(hv W e w').1 h)
   clear hv HNum HQuo
   go_enter Tryz.func10,Tryz.ntmps10
   go_upto_region 1 with fail
   obtain ⟨W,hW⟩:∃ W,w.alloc (.cells #[.int .u8 0,.int .i64 0,.string ⟨#[]⟩,.bool false] 23)=W:=⟨_,rfl⟩
   rw [hW] at hN hr ⊢
   obtain ⟨B,hB⟩:∃ B,w.heap.size=B:=⟨_,rfl⟩
   have hBw:w.heap.size ≤ B:=by omega
   rw [hB] at hr ⊢
   clear hW hB
   go_upto_region 5 with (first | (go_at_call 58;refine (HD.out _).mono ?_;rintro e w' ⟨rfl,rfl⟩) | (go_at_call 61;refine (HL.out _).mono ?_;rintro e w' ⟨rfl,rfl⟩))
   clear hix0
   go_wp2_with fail
   refine (HX.out _).mono ?_
   rintro e w1 ⟨rfl,hN1⟩
   have hN:=hN.trans hN1
   have hr:=hN1.heap hr id
   obtain ⟨⟨c0,c1,c2,c3⟩,f0,f1,f2,f3⟩:=row_facts hr
   go_wp2_with fail
   obtain ⟨hN2,hr2⟩:=set4 hN hBw hr (.int .u8 k) (.int .i64 nn) (.string tt) (.bool y)
   obtain ⟨W2,hW2⟩:∃ W2,((((w1.setCell ⟨B,0,none⟩ (.int .u8 k)).setCell ⟨B,1,none⟩ (.int .i64 nn)).setCell ⟨B,2,none⟩ (.string tt)).setCell ⟨B,3,none⟩ (.bool y))=W2:=⟨_,rfl⟩
   rw [hW2] at hN2 hr2 ⊢
   exact read_end (by kernel_rfl) rfl rfl rfl hr2 ⟨rfl,hN2⟩
  | false =>
   obtain rfl:x45=true:=by simpa using hnum
   clear hnum
   obtain ⟨k,nn,tt,y,x,ec,hv⟩:=readP_open (Bare.number (bl s))
   refine Calls.mono (R:=fun e w'=>e = .returned (.tuple #[.agg #[.int .u8 k,.int .i64 nn,.string tt,.bool y],.string x,.int .i64 ec])∧New w w') ?_ fun e w' h=>(hv w e w').2 h
   have HX:=Lib.hid (fun W=>(HNum.out W).mono fun e w' h=>(hv W e w').1 h)
   clear hv HNum HQuo
   go_enter Tryz.func10,Tryz.ntmps10
   go_upto_region 1 with fail
   obtain ⟨W,hW⟩:∃ W,w.alloc (.cells #[.int .u8 0,.int .i64 0,.string ⟨#[]⟩,.bool false] 23)=W:=⟨_,rfl⟩
   rw [hW] at hN hr ⊢
   obtain ⟨B,hB⟩:∃ B,w.heap.size=B:=⟨_,rfl⟩
   have hBw:w.heap.size ≤ B:=by omega
   rw [hB] at hr ⊢
   clear hW hB
   go_upto_region 5 with (first | (go_at_call 58;refine (HD.out _).mono ?_;rintro e w' ⟨rfl,rfl⟩) | (go_at_call 61;refine (HL.out _).mono ?_;rintro e w' ⟨rfl,rfl⟩))
   clear hix0
   go_wp2_with fail
   refine (HX.out _).mono ?_
   rintro e w1 ⟨rfl,hN1⟩
   have hN:=hN.trans hN1
   have hr:=hN1.heap hr id
   obtain ⟨⟨c0,c1,c2,c3⟩,f0,f1,f2,f3⟩:=row_facts hr
   go_wp2_with fail
   obtain ⟨hN2,hr2⟩:=set4 hN hBw hr (.int .u8 k) (.int .i64 nn) (.string tt) (.bool y)
   obtain ⟨W2,hW2⟩:∃ W2,((((w1.setCell ⟨B,0,none⟩ (.int .u8 k)).setCell ⟨B,1,none⟩ (.int .i64 nn)).setCell ⟨B,2,none⟩ (.string tt)).setCell ⟨B,3,none⟩ (.bool y))=W2:=⟨_,rfl⟩
   rw [hW2] at hN2 hr2 ⊢
   exact read_end (by kernel_rfl) rfl rfl rfl hr2 ⟨rfl,hN2⟩
 rw [if_neg hnum]
 obtain rfl:D=false:=by cases D;rfl;exact absurd rfl hnum
 have h45:decide (gb s 0=45)=false:=by simpa using hnum
 rw [h45] at t45
 clear hnum h45 hD
 by_cases h34:gb s 0=34
 ·rw [decide_eq_true h34] at t34
  rw [if_neg (by rw [h34];decide),if_pos h34]
  clear h34
  obtain ⟨k,nn,tt,y,x,ec,hv⟩:=readP_open (Bare.quoted [] ((bl s).drop 1))
  refine Calls.mono (R:=fun e w'=>e = .returned (.tuple #[.agg #[.int .u8 k,.int .i64 nn,.string tt,.bool y],.string x,.int .i64 ec])∧New w w') ?_ fun e w' h=>(hv w e w').2 h
  have HX:=Lib.hid (fun W=>(HQuo.out W).mono fun e w' h=>(hv W e w').1 h)
  clear hv HQuo
  go_enter Tryz.func10,Tryz.ntmps10
  go_upto_region 1 with fail
  obtain ⟨W,hW⟩:∃ W,w.alloc (.cells #[.int .u8 0,.int .i64 0,.string ⟨#[]⟩,.bool false] 23)=W:=⟨_,rfl⟩
  rw [hW] at hN hr ⊢
  obtain ⟨B,hB⟩:∃ B,w.heap.size=B:=⟨_,rfl⟩
  have hBw:w.heap.size ≤ B:=by omega
  rw [hB] at hr ⊢
  clear hW hB
  go_upto_region 7 with (first | (go_at_call 58;refine (HD.out _).mono ?_;rintro e w' ⟨rfl,rfl⟩) | (go_at_call 61;refine (HL.out _).mono ?_;rintro e w' ⟨rfl,rfl⟩))
  clear hix0
  go_wp2_with fail
  refine (HX.out _).mono ?_
  rintro e w1 ⟨rfl,hN1⟩
  have hN:=hN.trans hN1
  have hr:=hN1.heap hr id
  obtain ⟨⟨c0,c1,c2,c3⟩,f0,f1,f2,f3⟩:=row_facts hr
  go_wp2_with fail
  obtain ⟨hN2,hr2⟩:=set4 hN hBw hr (.int .u8 k) (.int .i64 nn) (.string tt) (.bool y)
  obtain ⟨W2,hW2⟩:∃ W2,((((w1.setCell ⟨B,0,none⟩ (.int .u8 k)).setCell ⟨B,1,none⟩ (.int .i64 nn)).setCell ⟨B,2,none⟩ (.string tt)).setCell ⟨B,3,none⟩ (.bool y))=W2:=⟨_,rfl⟩
  rw [hW2] at hN2 hr2 ⊢
  exact read_end (by kernel_rfl) rfl rfl rfl hr2 ⟨rfl,hN2⟩
 rw [decide_eq_false h34] at t34
 obtain ⟨L,hL⟩:∃ x,Bare.letB (gb s 0)=x:=⟨_,rfl⟩
 rw [hL] at HL ⊢
 by_cases htok:(L || decide (gb s 0=42))=true
 ·rw [if_pos htok]
  have hh:Bare.headTok (gb s 0)=true:=by
   unfold Bare.headTok
   rw [hL]
   have e42:(gb s 0 == 42)=decide (gb s 0=42):=by rw [Bool.eq_iff_iff,beq_iff_eq,decide_eq_true_eq]
   rw [e42];exact htok
  have hin:=head_in hh
  obtain ⟨x42,hx42⟩:∃ x,decide (gb s 0=42)=x:=⟨_,rfl⟩
  rw [hx42] at t42 htok
  have HB:=Lib.hid (Bare.while_at Bare.inTok (bl s))
  have HTk:=Lib.hid (fun (k:Nat) (h1:1 ≤ k) (h:k < s.size) hb=>tok_take s k h1 h hh hb)
  have HTr:=Lib.hid (fun (k:Nat) W=>token_r (tx ((bl s).take k)) W (by rw [tx_size,List.length_take,bl_len];omega))
  obtain ⟨r,hr'⟩:∃ r,((bl s).takeWhile Bare.inTok).length=r:=⟨_,rfl⟩
  have htt:=Bare.takeWhile_take Bare.inTok (bl s)
  rw [hr'] at HB htt ⊢
  rw [← htt]
  have h1s:1 ≤ s.size:=by omega
  clear hx42 hr' htt h34 hL hh h0
  cases L with
  | true =>
   clear htok
   obtain ⟨k,nn,tt,y,x,ec,hv⟩:=readP_open (some (⟨4,0,(bl s).take r,false⟩,(bl s).drop r))
   refine Calls.mono (R:=fun e w'=>ReadP (some (⟨4,0,(bl s).take r,false⟩,(bl s).drop r)) w e w') ?_ fun e w' h=>h
   clear hv k nn tt y x ec
   go_enter Tryz.func10,Tryz.ntmps10
   go_upto_region 1 with fail
   obtain ⟨W,hW⟩:∃ W,w.alloc (.cells #[.int .u8 0,.int .i64 0,.string ⟨#[]⟩,.bool false] 23)=W:=⟨_,rfl⟩
   rw [hW] at hN hr ⊢
   obtain ⟨B,hB⟩:∃ B,w.heap.size=B:=⟨_,rfl⟩
   have hBw:w.heap.size ≤ B:=by omega
   rw [hB] at hr ⊢
   clear hW hB
   go_upto_region 10 with (first | (go_at_call 58;refine (HD.out _).mono ?_;rintro e w' ⟨rfl,rfl⟩) | (go_at_call 61;refine (HL.out _).mono ?_;rintro e w' ⟨rfl,rfl⟩))
   clear hix0
   have HR:=Lib.hid hr
   go_loop [6] (fun c=>∃ k:Nat,1 ≤ k∧k ≤ s.size∧c = .int .i64 k∧Hid (∀ j,j < k→Bare.inTok (gb s j)=true)) (fun c=>s.size - (intOf c).toNat)
   case atStart=>exact ⟨1,by omega,h1s,rfl,Lib.hid fun j hj=>(by omega:j=0) ▸ hin⟩
   case round =>
    obtain ⟨k,hk1,hk,rfl,hbef⟩:=hrel
    by_cases hlt:k < s.size
    ·have hkd:decide ((k:Int) < (s.size:Int))=true:=decide_eq_true (by omega)
     have hsl:=run_sl_h s (k + 1) (by omega)
     have hsl2:∀ W,(Instr.slice 9 (.string s) none (some (.int .i64 ((k:Int) + 1))) none).run Tryz.prog W = .ok (.string (tx ((bl s).take (k + 1)))) W:=hsl
     have htk:=HTk.out k hk1 hlt hbef.out
     have HT:=Lib.hid (fun W=>(HTr.out (k + 1) W).mono fun e w' h=>show e = .returned (.bool (Bare.inTok (gb s k)))∧W=w' from ⟨by rw [h.1,bl_tx,htk],h.2.symm⟩)
     obtain ⟨q,hq⟩:∃ q,tx ((bl s).take (k + 1))=q:=⟨_,rfl⟩
     rw [hq] at hsl2 HT
     have hnext:Bare.inTok (gb s k)=true→Hid (∀ j,j < k + 1→Bare.inTok (gb s j)=true):=fun hg=>Lib.hid fun i hi=>by
      by_cases hik:i < k
      ·exact hbef.out i hik
      ·obtain rfl:i=k:=by omega
       exact hg
     have hstop:Bare.inTok (gb s k)=false→r=k:=fun hg=>by
      refine HB.out k (by rw [bl_len];exact hk) (fun j hj c hc=>?_) (fun c hc=>?_)
      ·obtain ⟨_,rfl⟩:=get_gb hc
       exact hbef.out j hj
      ·obtain ⟨_,rfl⟩:=get_gb hc
       exact hg
     obtain ⟨b,hb⟩:∃ b,Bare.inTok (gb s k)=b:=⟨_,rfl⟩
     rw [hb] at HT hnext hstop
     clear hsl htk hq hb hbef hin
     cases b with
     | true =>
      have hh:=hnext rfl
      clear hnext hstop
      go_wp2_with (go_at_call 16;refine (HT.out _).mono ?_;rintro e w' ⟨rfl,rfl⟩)
      go_round
      case rel=>exact ⟨k + 1,by omega,by omega,by go_num,hh⟩
      case measure=>simp [intOf];omega
     | false =>
      have hh:=hstop rfl
      clear hnext hstop
      subst hh
      go_upto_region 12 with (go_at_call 16;refine (HT.out _).mono ?_;rintro e w' ⟨rfl,rfl⟩)
      clear hsl2 HT hkd
      have hr:=HR.out
      obtain ⟨x,hx⟩:∃ x,tx ((bl s).take r)=x:=⟨_,rfl⟩
      obtain ⟨y,hy⟩:∃ y,tx ((bl s).drop r)=y:=⟨_,rfl⟩
      have hr:=HR.out
      obtain ⟨⟨c0,c1,c2,c3⟩,f0,f1,f2,f3⟩:=row_facts hr
      have Hx:=Lib.hid hx
      have Hy:=Lib.hid hy
      have hsh:=run_sl_h s r (by omega)
      have hsl:=run_sl_l s r (by omega)
      rw [hx] at hsh
      rw [hy] at hsl
      clear hx hy HB
      go_region
      obtain ⟨hN2,hr2⟩:=set4 hN hBw hr (.int .u8 4) (.int .i64 0) (.string x) (.bool false)
      have hN2:=hN2.drew
      have hr2:((((W.setCell ⟨B,0,none⟩ (.int .u8 4)).setCell ⟨B,1,none⟩ (.int .i64 0)).setCell ⟨B,2,none⟩ (.string x)).setCell ⟨B,3,none⟩ (.bool false)).drew.heap[B]? = some (.cells #[.int .u8 4,.int .i64 0,.string x,.bool false] 23 (0,0)):=hr2
      obtain ⟨W2,hW2⟩:∃ W2,((((W.setCell ⟨B,0,none⟩ (.int .u8 4)).setCell ⟨B,1,none⟩ (.int .i64 0)).setCell ⟨B,2,none⟩ (.string x)).setCell ⟨B,3,none⟩ (.bool false)).drew=W2:=⟨_,rfl⟩
      rw [hW2] at hN2 hr2 ⊢
      go_wp2_with fail
      exact read_end (by kernel_rfl) rfl rfl rfl hr2 ⟨by rw [← Hx.out,← Hy.out];rfl,hN2⟩
    ·obtain rfl:k=s.size:=by omega
     have hkd:decide ((s.size:Int) < (s.size:Int))=false:=decide_eq_false (by omega)
     have hh:r=s.size:=HB.out s.size (by rw [bl_len];exact Nat.le_refl _) (fun j hj c hc=>by obtain ⟨_,rfl⟩:=get_gb hc;exact hbef.out j hj) (fun c hc=>by obtain ⟨h1,_⟩:=get_gb hc;omega)
     subst hh
     clear hbef hin HB
     go_upto_region 12 with fail
     clear hkd
     have hr:=HR.out
     obtain ⟨x,hx⟩:∃ x,tx ((bl s).take s.size)=x:=⟨_,rfl⟩
     obtain ⟨y,hy⟩:∃ y,tx ((bl s).drop s.size)=y:=⟨_,rfl⟩
     have hr:=HR.out
     obtain ⟨⟨c0,c1,c2,c3⟩,f0,f1,f2,f3⟩:=row_facts hr
     have Hx:=Lib.hid hx
     have Hy:=Lib.hid hy
     have hsh:=run_sl_h s s.size (by omega)
     have hsl:=run_sl_l s s.size (by omega)
     rw [hx] at hsh
     rw [hy] at hsl
     clear hx hy
     go_region
     obtain ⟨hN2,hr2⟩:=set4 hN hBw hr (.int .u8 4) (.int .i64 0) (.string x) (.bool false)
     have hN2:=hN2.drew
     have hr2:((((W.setCell ⟨B,0,none⟩ (.int .u8 4)).setCell ⟨B,1,none⟩ (.int .i64 0)).setCell ⟨B,2,none⟩ (.string x)).setCell ⟨B,3,none⟩ (.bool false)).drew.heap[B]? = some (.cells #[.int .u8 4,.int .i64 0,.string x,.bool false] 23 (0,0)):=hr2
     obtain ⟨W2,hW2⟩:∃ W2,((((W.setCell ⟨B,0,none⟩ (.int .u8 4)).setCell ⟨B,1,none⟩ (.int .i64 0)).setCell ⟨B,2,none⟩ (.string x)).setCell ⟨B,3,none⟩ (.bool false)).drew=W2:=⟨_,rfl⟩
     rw [hW2] at hN2 hr2 ⊢
     go_wp2_with fail
     exact read_end (by kernel_rfl) rfl rfl rfl hr2 ⟨by rw [← Hx.out,← Hy.out];rfl,hN2⟩
  | false =>
   obtain rfl:x42=true:=by simpa using htok
   clear htok
   obtain ⟨k,nn,tt,y,x,ec,hv⟩:=readP_open (some (⟨4,0,(bl s).take r,false⟩,(bl s).drop r))
   refine Calls.mono (R:=fun e w'=>ReadP (some (⟨4,0,(bl s).take r,false⟩,(bl s).drop r)) w e w') ?_ fun e w' h=>h
   clear hv k nn tt y x ec
   go_enter Tryz.func10,Tryz.ntmps10
   go_upto_region 1 with fail
   obtain ⟨W,hW⟩:∃ W,w.alloc (.cells #[.int .u8 0,.int .i64 0,.string ⟨#[]⟩,.bool false] 23)=W:=⟨_,rfl⟩
   rw [hW] at hN hr ⊢
   obtain ⟨B,hB⟩:∃ B,w.heap.size=B:=⟨_,rfl⟩
   have hBw:w.heap.size ≤ B:=by omega
   rw [hB] at hr ⊢
   clear hW hB
   go_upto_region 10 with (first | (go_at_call 58;refine (HD.out _).mono ?_;rintro e w' ⟨rfl,rfl⟩) | (go_at_call 61;refine (HL.out _).mono ?_;rintro e w' ⟨rfl,rfl⟩))
   clear hix0
   have HR:=Lib.hid hr
   go_loop [6] (fun c=>∃ k:Nat,1 ≤ k∧k ≤ s.size∧c = .int .i64 k∧Hid (∀ j,j < k→Bare.inTok (gb s j)=true)) (fun c=>s.size - (intOf c).toNat)
   case atStart=>exact ⟨1,by omega,h1s,rfl,Lib.hid fun j hj=>(by omega:j=0) ▸ hin⟩
   case round =>
    obtain ⟨k,hk1,hk,rfl,hbef⟩:=hrel
    by_cases hlt:k < s.size
    ·have hkd:decide ((k:Int) < (s.size:Int))=true:=decide_eq_true (by omega)
     have hsl:=run_sl_h s (k + 1) (by omega)
     have hsl2:∀ W,(Instr.slice 9 (.string s) none (some (.int .i64 ((k:Int) + 1))) none).run Tryz.prog W = .ok (.string (tx ((bl s).take (k + 1)))) W:=hsl
     have htk:=HTk.out k hk1 hlt hbef.out
     have HT:=Lib.hid (fun W=>(HTr.out (k + 1) W).mono fun e w' h=>show e = .returned (.bool (Bare.inTok (gb s k)))∧W=w' from ⟨by rw [h.1,bl_tx,htk],h.2.symm⟩)
     obtain ⟨q,hq⟩:∃ q,tx ((bl s).take (k + 1))=q:=⟨_,rfl⟩
     rw [hq] at hsl2 HT
     have hnext:Bare.inTok (gb s k)=true→Hid (∀ j,j < k + 1→Bare.inTok (gb s j)=true):=fun hg=>Lib.hid fun i hi=>by
      by_cases hik:i < k
      ·exact hbef.out i hik
      ·obtain rfl:i=k:=by omega
       exact hg
     have hstop:Bare.inTok (gb s k)=false→r=k:=fun hg=>by
      refine HB.out k (by rw [bl_len];exact hk) (fun j hj c hc=>?_) (fun c hc=>?_)
      ·obtain ⟨_,rfl⟩:=get_gb hc
       exact hbef.out j hj
      ·obtain ⟨_,rfl⟩:=get_gb hc
       exact hg
     obtain ⟨b,hb⟩:∃ b,Bare.inTok (gb s k)=b:=⟨_,rfl⟩
     rw [hb] at HT hnext hstop
     clear hsl htk hq hb hbef hin
     cases b with
     | true =>
      have hh:=hnext rfl
      clear hnext hstop
      go_wp2_with (go_at_call 16;refine (HT.out _).mono ?_;rintro e w' ⟨rfl,rfl⟩)
      go_round
      case rel=>exact ⟨k + 1,by omega,by omega,by go_num,hh⟩
      case measure=>simp [intOf];omega
     | false =>
      have hh:=hstop rfl
      clear hnext hstop
      subst hh
      go_upto_region 12 with (go_at_call 16;refine (HT.out _).mono ?_;rintro e w' ⟨rfl,rfl⟩)
      clear hsl2 HT hkd
      have hr:=HR.out
      obtain ⟨x,hx⟩:∃ x,tx ((bl s).take r)=x:=⟨_,rfl⟩
      obtain ⟨y,hy⟩:∃ y,tx ((bl s).drop r)=y:=⟨_,rfl⟩
      have hr:=HR.out
      obtain ⟨⟨c0,c1,c2,c3⟩,f0,f1,f2,f3⟩:=row_facts hr
      have Hx:=Lib.hid hx
      have Hy:=Lib.hid hy
      have hsh:=run_sl_h s r (by omega)
      have hsl:=run_sl_l s r (by omega)
      rw [hx] at hsh
      rw [hy] at hsl
      clear hx hy HB
      go_region
      obtain ⟨hN2,hr2⟩:=set4 hN hBw hr (.int .u8 4) (.int .i64 0) (.string x) (.bool false)
      have hN2:=hN2.drew
      have hr2:((((W.setCell ⟨B,0,none⟩ (.int .u8 4)).setCell ⟨B,1,none⟩ (.int .i64 0)).setCell ⟨B,2,none⟩ (.string x)).setCell ⟨B,3,none⟩ (.bool false)).drew.heap[B]? = some (.cells #[.int .u8 4,.int .i64 0,.string x,.bool false] 23 (0,0)):=hr2
      obtain ⟨W2,hW2⟩:∃ W2,((((W.setCell ⟨B,0,none⟩ (.int .u8 4)).setCell ⟨B,1,none⟩ (.int .i64 0)).setCell ⟨B,2,none⟩ (.string x)).setCell ⟨B,3,none⟩ (.bool false)).drew=W2:=⟨_,rfl⟩
      rw [hW2] at hN2 hr2 ⊢
      go_wp2_with fail
      exact read_end (by kernel_rfl) rfl rfl rfl hr2 ⟨by rw [← Hx.out,← Hy.out];rfl,hN2⟩
    ·obtain rfl:k=s.size:=by omega
     have hkd:decide ((s.size:Int) < (s.size:Int))=false:=decide_eq_false (by omega)
     have hh:r=s.size:=HB.out s.size (by rw [bl_len];exact Nat.le_refl _) (fun j hj c hc=>by obtain ⟨_,rfl⟩:=get_gb hc;exact hbef.out j hj) (fun c hc=>by obtain ⟨h1,_⟩:=get_gb hc;omega)
     subst hh
     clear hbef hin HB
     go_upto_region 12 with fail
     clear hkd
     have hr:=HR.out
     obtain ⟨x,hx⟩:∃ x,tx ((bl s).take s.size)=x:=⟨_,rfl⟩
     obtain ⟨y,hy⟩:∃ y,tx ((bl s).drop s.size)=y:=⟨_,rfl⟩
     have hr:=HR.out
     obtain ⟨⟨c0,c1,c2,c3⟩,f0,f1,f2,f3⟩:=row_facts hr
     have Hx:=Lib.hid hx
     have Hy:=Lib.hid hy
     have hsh:=run_sl_h s s.size (by omega)
     have hsl:=run_sl_l s s.size (by omega)
     rw [hx] at hsh
     rw [hy] at hsl
     clear hx hy
     go_region
     obtain ⟨hN2,hr2⟩:=set4 hN hBw hr (.int .u8 4) (.int .i64 0) (.string x) (.bool false)
     have hN2:=hN2.drew
     have hr2:((((W.setCell ⟨B,0,none⟩ (.int .u8 4)).setCell ⟨B,1,none⟩ (.int .i64 0)).setCell ⟨B,2,none⟩ (.string x)).setCell ⟨B,3,none⟩ (.bool false)).drew.heap[B]? = some (.cells #[.int .u8 4,.int .i64 0,.string x,.bool false] 23 (0,0)):=hr2
     obtain ⟨W2,hW2⟩:∃ W2,((((W.setCell ⟨B,0,none⟩ (.int .u8 4)).setCell ⟨B,1,none⟩ (.int .i64 0)).setCell ⟨B,2,none⟩ (.string x)).setCell ⟨B,3,none⟩ (.bool false)).drew=W2:=⟨_,rfl⟩
     rw [hW2] at hN2 hr2 ⊢
     go_wp2_with fail
     exact read_end (by kernel_rfl) rfl rfl rfl hr2 ⟨by rw [← Hx.out,← Hy.out];rfl,hN2⟩
 rw [if_neg htok,if_neg h34]
 obtain rfl:L=false:=by cases L;rfl;exact absurd rfl htok
 have h42:decide (gb s 0=42)=false:=by simpa using htok
 rw [h42] at t42
 clear htok h42 hL h34
 by_cases h58:gb s 0=58
 ·rw [decide_eq_true h58] at t58
  rw [if_pos h58]
  have HPk:=Lib.hid (fun (k:Nat) (h1:1 ≤ k) (h:k ≤ s.size) hb hss=>packed_at s k (by omega) h1 h hb hss)
  have h1s:1 ≤ s.size:=by omega
  obtain ⟨P,hP⟩:∃ P,Bare.packed ((bl s).drop 1)=P:=⟨_,rfl⟩
  rw [hP] at HPk ⊢
  have HUn:=Lib.hid (fun (k:Nat) (hk:k ≤ s.size) W=>unsix_r (piec s 1 k) W (by rw [piec_size s 1 k hk];omega))
  clear h58 hP h0
  go_enter Tryz.func10,Tryz.ntmps10
  go_upto_region 1 with fail
  obtain ⟨W,hW⟩:∃ W,w.alloc (.cells #[.int .u8 0,.int .i64 0,.string ⟨#[]⟩,.bool false] 23)=W:=⟨_,rfl⟩
  rw [hW] at hN hr ⊢
  obtain ⟨B,hB⟩:∃ B,w.heap.size=B:=⟨_,rfl⟩
  have hBw:w.heap.size ≤ B:=by omega
  rw [hB] at hr ⊢
  clear hW hB
  go_upto_region 15 with (first | (go_at_call 58;refine (HD.out _).mono ?_;rintro e w' ⟨rfl,rfl⟩) | (go_at_call 61;refine (HL.out _).mono ?_;rintro e w' ⟨rfl,rfl⟩))
  clear hix0
  have HR:=Lib.hid hr
  go_loop [7] (fun c=>∃ k:Nat,1 ≤ k∧k ≤ s.size∧c = .int .i64 k∧Hid (∀ j,1 ≤ j→j < k→gb s j ≠ 58)) (fun c=>s.size - (intOf c).toNat)
  case atStart=>exact ⟨1,by omega,h1s,rfl,Lib.hid fun j h1 hj=>by omega⟩
  case round =>
   obtain ⟨k,hk1,hk,rfl,hbef⟩:=hrel
   by_cases hlt:k < s.size
   ·have hkd:decide ((k:Int) < (s.size:Int))=true:=decide_eq_true (by omega)
    have hge:decide ((s.size:Int) ≤ (k:Int))=false:=decide_eq_false (by omega)
    have hix:=run_idx s k hlt
    obtain ⟨m,hm⟩:∃ m,(gb s k).toNat=m:=⟨_,rfl⟩
    have tk:=(byte_test (gb s k) 58 (by decide) m hm).2
    rw [show UInt8.ofNat 58=58 from rfl] at tk
    have tk:((m:Int) != 58) = !decide (gb s k=58):=tk
    rw [hm] at hix
    by_cases hc:gb s k=58
    ·rw [decide_eq_true hc,Bool.not_true] at tk
     have hpk:=HPk.out k hk1 hk hbef.out (fun _=>hc)
     rw [if_neg (by omega)] at hpk
     have HU:=Lib.hid (HUn.out k hk)
     have hsl:∀ W,(Instr.slice 9 (.string s) (some (.int .i64 1)) (some (.int .i64 (k:Int))) none).run Tryz.prog W = .ok (.string (piec s 1 k)) W:=run_sl s 1 k hk1 hk
     obtain ⟨q,hq⟩:∃ q,piec s 1 k=q:=⟨_,rfl⟩
     rw [hq] at hsl HU hpk
     clear hbef hm hc hq
     cases hu:Bare.unsix (bl q) with
     | none =>
      rw [hu] at HU hpk
      subst hpk
      clear hu
      go_wp2_with fail
      refine (HU.out _).mono ?_
      rintro e w5 ⟨rfl,hk5⟩
      unfold unsixV
      simp only
      have hN:=hN.trans hk5
      have hr:=hk5.heap HR.out id
      clear hsl hix tk HU
      go_wp2_with fail
      refine (HNo.out _).mono ?_
      rintro e wn ⟨rfl,hNn⟩
      have hN:=hN.trans hNn
      have hr:=hNn.heap hr id
      obtain ⟨⟨c0,c1,c2,c3⟩,f0,f1,f2,f3⟩:=row_facts hr
      go_wp2_with fail
      obtain ⟨hN2,hr2⟩:=set4 hN hBw hr (.int .u8 0) (.int .i64 0) (.string ⟨#[]⟩) (.bool false)
      obtain ⟨W2,hW2⟩:∃ W2,((((wn.setCell ⟨B,0,none⟩ (.int .u8 0)).setCell ⟨B,1,none⟩ (.int .i64 0)).setCell ⟨B,2,none⟩ (.string ⟨#[]⟩)).setCell ⟨B,3,none⟩ (.bool false))=W2:=⟨_,rfl⟩
      rw [hW2] at hN2 hr2 ⊢
      exact read_end (by kernel_rfl) rfl rfl rfl hr2 ⟨rfl,hN2⟩
     | some t =>
      rw [hu] at HU hpk
      subst hpk
      clear hu
      go_wp2_with fail
      refine (HU.out _).mono ?_
      rintro e w5 ⟨rfl,hk5⟩
      unfold unsixV
      simp only
      have hN:=hN.trans hk5
      have hr:=hk5.heap HR.out id
      clear hsl hix tk HU
      go_upto_region 20 with fail
      obtain ⟨x,hx⟩:∃ x,tx t=x:=⟨_,rfl⟩
      obtain ⟨y,hy⟩:∃ y,tx ((bl s).drop (k + 1))=y:=⟨_,rfl⟩
      obtain ⟨⟨c0,c1,c2,c3⟩,f0,f1,f2,f3⟩:=row_facts hr
      have Hx:=Lib.hid hx
      have Hy:=Lib.hid hy
      have hsl:∀ W,(Instr.slice 9 (.string s) (some (.int .i64 ((k:Int) + 1))) none none).run Tryz.prog W = .ok (.string (tx ((bl s).drop (k + 1)))) W:=run_sl_l s (k + 1) (by omega)
      rw [hy] at hsl
      rw [hx]
      clear hx hy hge
      go_region
      obtain ⟨hN2,hr2⟩:=set4 hN hBw hr (.int .u8 5) (.int .i64 0) (.string x) (.bool false)
      have hN2:=hN2.drew
      have hr2:((((w5.setCell ⟨B,0,none⟩ (.int .u8 5)).setCell ⟨B,1,none⟩ (.int .i64 0)).setCell ⟨B,2,none⟩ (.string x)).setCell ⟨B,3,none⟩ (.bool false)).drew.heap[B]? = some (.cells #[.int .u8 5,.int .i64 0,.string x,.bool false] 23 (0,0)):=hr2
      obtain ⟨W2,hW2⟩:∃ W2,((((w5.setCell ⟨B,0,none⟩ (.int .u8 5)).setCell ⟨B,1,none⟩ (.int .i64 0)).setCell ⟨B,2,none⟩ (.string x)).setCell ⟨B,3,none⟩ (.bool false)).drew=W2:=⟨_,rfl⟩
      rw [hW2] at hN2 hr2 ⊢
      go_wp2_with fail
      exact read_end (by kernel_rfl) rfl rfl rfl hr2 ⟨by rw [← Hx.out,← Hy.out];rfl,hN2⟩
    ·rw [decide_eq_false hc,Bool.not_false] at tk
     have hh:Hid (∀ j,1 ≤ j→j < k + 1→gb s j ≠ 58):=Lib.hid fun i h1 hi=>by
      by_cases hik:i < k
      ·exact hbef.out i h1 hik
      ·obtain rfl:i=k:=by omega
       exact hc
     clear hbef hm hc hge
     go_wp2_with fail
     go_round
     case rel=>exact ⟨k + 1,by omega,by omega,by go_num,hh⟩
     case measure=>simp [intOf];omega
   ·obtain rfl:k=s.size:=by omega
    have hkd:decide ((s.size:Int) < (s.size:Int))=false:=decide_eq_false (by omega)
    have hge:decide ((s.size:Int) ≤ (s.size:Int))=true:=decide_eq_true (by omega)
    have hpk:=HPk.out s.size hk1 hk hbef.out (fun h=>by omega)
    rw [if_pos rfl] at hpk
    subst hpk
    have HU:=Lib.hid (HUn.out s.size hk)
    have hsl:∀ W,(Instr.slice 9 (.string s) (some (.int .i64 1)) (some (.int .i64 (s.size:Int))) none).run Tryz.prog W = .ok (.string (piec s 1 s.size)) W:=run_sl s 1 s.size hk1 hk
    obtain ⟨q,hq⟩:∃ q,piec s 1 s.size=q:=⟨_,rfl⟩
    rw [hq] at hsl HU
    obtain ⟨U,hU⟩:∃ U,Bare.unsix (bl q)=U:=⟨_,rfl⟩
    rw [hU] at HU
    obtain ⟨a,b,hab⟩:∃ a b,unsixV U = .tuple #[.string a,.bool b]:=by cases U <;> exact ⟨_,_,rfl⟩
    rw [hab] at HU
    clear hbef hq hU hab
    go_wp2_with fail
    refine (HU.out _).mono ?_
    rintro e w5 ⟨rfl,hk5⟩
    have hN:=hN.trans hk5
    have hr:=hk5.heap HR.out id
    clear hsl HU
    go_wp2_with fail
    refine (HNo.out _).mono ?_
    rintro e wn ⟨rfl,hNn⟩
    have hN:=hN.trans hNn
    have hr:=hNn.heap hr id
    obtain ⟨⟨c0,c1,c2,c3⟩,f0,f1,f2,f3⟩:=row_facts hr
    go_wp2_with fail
    obtain ⟨hN2,hr2⟩:=set4 hN hBw hr (.int .u8 0) (.int .i64 0) (.string ⟨#[]⟩) (.bool false)
    obtain ⟨W2,hW2⟩:∃ W2,((((wn.setCell ⟨B,0,none⟩ (.int .u8 0)).setCell ⟨B,1,none⟩ (.int .i64 0)).setCell ⟨B,2,none⟩ (.string ⟨#[]⟩)).setCell ⟨B,3,none⟩ (.bool false))=W2:=⟨_,rfl⟩
    rw [hW2] at hN2 hr2 ⊢
    exact read_end (by kernel_rfl) rfl rfl rfl hr2 ⟨rfl,hN2⟩
 rw [decide_eq_false h58] at t58
 rw [if_neg h58]
 by_cases h63:gb s 0=63
 ·rw [decide_eq_true h63] at t63
  rw [if_pos h63]
  clear h63 h58
  by_cases h1:s.size=1
  ·have e:ansR (bl s)=none:=by
    obtain ⟨c,hc⟩:=List.length_eq_one_iff.1 (show (bl s).length=1 by rw [bl_len];exact h1)
    rw [hc];rfl
   rw [e]
   have hd1:decide ((1:Int) < (s.size:Int))=false:=decide_eq_false (by omega)
   clear e h1
   refine Calls.mono (R:=fun e w'=>e = .returned (.tuple #[.agg #[.int .u8 0,.int .i64 0,.string ⟨#[]⟩,.bool false],.string ⟨#[]⟩,.int .i64 120])∧New w w') ?_ fun e w' h=>h
   clear HQuo
   go_enter Tryz.func10,Tryz.ntmps10
   go_upto_region 1 with fail
   obtain ⟨W,hW⟩:∃ W,w.alloc (.cells #[.int .u8 0,.int .i64 0,.string ⟨#[]⟩,.bool false] 23)=W:=⟨_,rfl⟩
   rw [hW] at hN hr ⊢
   obtain ⟨B,hB⟩:∃ B,w.heap.size=B:=⟨_,rfl⟩
   have hBw:w.heap.size ≤ B:=by omega
   rw [hB] at hr ⊢
   clear hW hB
   go_wp2_with (first | (go_at_call 58;refine (HD.out _).mono ?_;rintro e w' ⟨rfl,rfl⟩) | (go_at_call 61;refine (HL.out _).mono ?_;rintro e w' ⟨rfl,rfl⟩))
   refine (HNo.out _).mono ?_
   rintro e wn ⟨rfl,hNn⟩
   have hN:=hN.trans hNn
   have hr:=hNn.heap hr id
   obtain ⟨⟨c0,c1,c2,c3⟩,f0,f1,f2,f3⟩:=row_facts hr
   go_wp2_with fail
   obtain ⟨hN2,hr2⟩:=set4 hN hBw hr (.int .u8 0) (.int .i64 0) (.string ⟨#[]⟩) (.bool false)
   obtain ⟨W2,hW2⟩:∃ W2,((((wn.setCell ⟨B,0,none⟩ (.int .u8 0)).setCell ⟨B,1,none⟩ (.int .i64 0)).setCell ⟨B,2,none⟩ (.string ⟨#[]⟩)).setCell ⟨B,3,none⟩ (.bool false))=W2:=⟨_,rfl⟩
   rw [hW2] at hN2 hr2 ⊢
   exact read_end (by kernel_rfl) rfl rfl rfl hr2 ⟨rfl,hN2⟩
  have hd1:decide ((1:Int) < (s.size:Int))=true:=decide_eq_true (by omega)
  have hix1:∀ W,(Instr.index 9 (.string s) (.int .i64 1)).run Tryz.prog W = .ok (.int .u8 ((gb s 1).toNat:Nat)) W:=run_idx s 1 (by omega)
  have e:ansR (bl s)=if gb s 1=48 ∨ gb s 1=49 then some (⟨6,0,[],gb s 1 == 49⟩,(bl s).drop 2) else none:=by
   have e1:=first_drop s (by omega)
   rw [drop_one s 1 (by omega)] at e1
   conv=>lhs;rw [e1]
   rfl
  rw [e]
  obtain ⟨m,hm⟩:∃ m,(gb s 1).toNat=m:=⟨_,rfl⟩
  have m48:=(byte_test (gb s 1) 48 (by decide) m hm).1
  rw [show UInt8.ofNat 48=48 from rfl] at m48
  have m48:((m:Int) == 48)=decide (gb s 1=48):=m48
  have m49:=(byte_test (gb s 1) 49 (by decide) m hm).1
  rw [show UInt8.ofNat 49=49 from rfl] at m49
  have m49:((m:Int) == 49)=decide (gb s 1=49):=m49
  rw [hm] at hix1
  have hsl2:∀ W,(Instr.slice 9 (.string s) (some (.int .i64 2)) none none).run Tryz.prog W = .ok (.string (tx ((bl s).drop 2))) W:=run_sl_l s 2 (by omega)
  by_cases g48:gb s 1=48
  ·rw [decide_eq_true g48] at m48
   rw [decide_eq_false (show ¬ gb s 1=49 by rw [g48];decide)] at m49
   rw [if_pos (.inl g48),show (gb s 1 == 49)=false by rw [g48];decide]
   clear g48 hm e h1
   go_enter Tryz.func10,Tryz.ntmps10
   go_upto_region 1 with fail
   obtain ⟨W,hW⟩:∃ W,w.alloc (.cells #[.int .u8 0,.int .i64 0,.string ⟨#[]⟩,.bool false] 23)=W:=⟨_,rfl⟩
   rw [hW] at hN hr ⊢
   obtain ⟨B,hB⟩:∃ B,w.heap.size=B:=⟨_,rfl⟩
   have hBw:w.heap.size ≤ B:=by omega
   rw [hB] at hr ⊢
   clear hW hB
   go_upto_region 22 with (first | (go_at_call 58;refine (HD.out _).mono ?_;rintro e w' ⟨rfl,rfl⟩) | (go_at_call 61;refine (HL.out _).mono ?_;rintro e w' ⟨rfl,rfl⟩))
   obtain ⟨y,hy⟩:∃ y,tx ((bl s).drop 2)=y:=⟨_,rfl⟩
   obtain ⟨⟨c0,c1,c2,c3⟩,f0,f1,f2,f3⟩:=row_facts hr
   have Hy:=Lib.hid hy
   rw [hy] at hsl2
   clear hy
   go_region
   obtain ⟨hN2,hr2⟩:=set4 hN hBw hr (.int .u8 6) (.int .i64 0) (.string ⟨#[]⟩) (.bool false)
   have hN2:=hN2.drew
   have hr2:((((W.setCell ⟨B,0,none⟩ (.int .u8 6)).setCell ⟨B,1,none⟩ (.int .i64 0)).setCell ⟨B,2,none⟩ (.string ⟨#[]⟩)).setCell ⟨B,3,none⟩ (.bool false)).drew.heap[B]? = some (.cells #[.int .u8 6,.int .i64 0,.string ⟨#[]⟩,.bool false] 23 (0,0)):=hr2
   obtain ⟨W2,hW2⟩:∃ W2,((((W.setCell ⟨B,0,none⟩ (.int .u8 6)).setCell ⟨B,1,none⟩ (.int .i64 0)).setCell ⟨B,2,none⟩ (.string ⟨#[]⟩)).setCell ⟨B,3,none⟩ (.bool false)).drew=W2:=⟨_,rfl⟩
   rw [hW2] at hN2 hr2 ⊢
   go_wp2_with fail
   exact read_end (by kernel_rfl) rfl rfl rfl hr2 ⟨by rw [← Hy.out];rfl,hN2⟩
  ·rw [decide_eq_false g48] at m48
   by_cases g49:gb s 1=49
   ·rw [decide_eq_true g49] at m49
    rw [if_pos (.inr g49),show (gb s 1 == 49)=true by rw [g49];decide]
    clear g48 g49 hm e h1
    go_enter Tryz.func10,Tryz.ntmps10
    go_upto_region 1 with fail
    obtain ⟨W,hW⟩:∃ W,w.alloc (.cells #[.int .u8 0,.int .i64 0,.string ⟨#[]⟩,.bool false] 23)=W:=⟨_,rfl⟩
    rw [hW] at hN hr ⊢
    obtain ⟨B,hB⟩:∃ B,w.heap.size=B:=⟨_,rfl⟩
    have hBw:w.heap.size ≤ B:=by omega
    rw [hB] at hr ⊢
    clear hW hB
    go_upto_region 22 with (first | (go_at_call 58;refine (HD.out _).mono ?_;rintro e w' ⟨rfl,rfl⟩) | (go_at_call 61;refine (HL.out _).mono ?_;rintro e w' ⟨rfl,rfl⟩))
    obtain ⟨y,hy⟩:∃ y,tx ((bl s).drop 2)=y:=⟨_,rfl⟩
    obtain ⟨⟨c0,c1,c2,c3⟩,f0,f1,f2,f3⟩:=row_facts hr
    have Hy:=Lib.hid hy
    rw [hy] at hsl2
    clear hy
    go_region
    obtain ⟨hN2,hr2⟩:=set4 hN hBw hr (.int .u8 6) (.int .i64 0) (.string ⟨#[]⟩) (.bool true)
    have hN2:=hN2.drew
    have hr2:((((W.setCell ⟨B,0,none⟩ (.int .u8 6)).setCell ⟨B,1,none⟩ (.int .i64 0)).setCell ⟨B,2,none⟩ (.string ⟨#[]⟩)).setCell ⟨B,3,none⟩ (.bool true)).drew.heap[B]? = some (.cells #[.int .u8 6,.int .i64 0,.string ⟨#[]⟩,.bool true] 23 (0,0)):=hr2
    obtain ⟨W2,hW2⟩:∃ W2,((((W.setCell ⟨B,0,none⟩ (.int .u8 6)).setCell ⟨B,1,none⟩ (.int .i64 0)).setCell ⟨B,2,none⟩ (.string ⟨#[]⟩)).setCell ⟨B,3,none⟩ (.bool true)).drew=W2:=⟨_,rfl⟩
    rw [hW2] at hN2 hr2 ⊢
    go_wp2_with fail
    exact read_end (by kernel_rfl) rfl rfl rfl hr2 ⟨by rw [← Hy.out];rfl,hN2⟩
   ·rw [decide_eq_false g49] at m49
    rw [if_neg (by rintro (h | h);exact g48 h;exact g49 h)]
    clear g48 g49 hm e h1
    refine Calls.mono (R:=fun e w'=>e = .returned (.tuple #[.agg #[.int .u8 0,.int .i64 0,.string ⟨#[]⟩,.bool false],.string ⟨#[]⟩,.int .i64 120])∧New w w') ?_ fun e w' h=>h
    clear HQuo
    go_enter Tryz.func10,Tryz.ntmps10
    go_upto_region 1 with fail
    obtain ⟨W,hW⟩:∃ W,w.alloc (.cells #[.int .u8 0,.int .i64 0,.string ⟨#[]⟩,.bool false] 23)=W:=⟨_,rfl⟩
    rw [hW] at hN hr ⊢
    obtain ⟨B,hB⟩:∃ B,w.heap.size=B:=⟨_,rfl⟩
    have hBw:w.heap.size ≤ B:=by omega
    rw [hB] at hr ⊢
    clear hW hB
    go_wp2_with (first | (go_at_call 58;refine (HD.out _).mono ?_;rintro e w' ⟨rfl,rfl⟩) | (go_at_call 61;refine (HL.out _).mono ?_;rintro e w' ⟨rfl,rfl⟩))
    refine (HNo.out _).mono ?_
    rintro e wn ⟨rfl,hNn⟩
    have hN:=hN.trans hNn
    have hr:=hNn.heap hr id
    obtain ⟨⟨c0,c1,c2,c3⟩,f0,f1,f2,f3⟩:=row_facts hr
    go_wp2_with fail
    obtain ⟨hN2,hr2⟩:=set4 hN hBw hr (.int .u8 0) (.int .i64 0) (.string ⟨#[]⟩) (.bool false)
    obtain ⟨W2,hW2⟩:∃ W2,((((wn.setCell ⟨B,0,none⟩ (.int .u8 0)).setCell ⟨B,1,none⟩ (.int .i64 0)).setCell ⟨B,2,none⟩ (.string ⟨#[]⟩)).setCell ⟨B,3,none⟩ (.bool false))=W2:=⟨_,rfl⟩
    rw [hW2] at hN2 hr2 ⊢
    exact read_end (by kernel_rfl) rfl rfl rfl hr2 ⟨rfl,hN2⟩
 rw [decide_eq_false h63] at t63
 rw [if_neg h63]
 clear h63 h58
 refine Calls.mono (R:=fun e w'=>e = .returned (.tuple #[.agg #[.int .u8 0,.int .i64 0,.string ⟨#[]⟩,.bool false],.string ⟨#[]⟩,.int .i64 120])∧New w w') ?_ fun e w' h=>h
 clear HQuo
 go_enter Tryz.func10,Tryz.ntmps10
 go_upto_region 1 with fail
 obtain ⟨W,hW⟩:∃ W,w.alloc (.cells #[.int .u8 0,.int .i64 0,.string ⟨#[]⟩,.bool false] 23)=W:=⟨_,rfl⟩
 rw [hW] at hN hr ⊢
 obtain ⟨B,hB⟩:∃ B,w.heap.size=B:=⟨_,rfl⟩
 have hBw:w.heap.size ≤ B:=by omega
 rw [hB] at hr ⊢
 clear hW hB
 go_wp2_with (first | (go_at_call 58;refine (HD.out _).mono ?_;rintro e w' ⟨rfl,rfl⟩) | (go_at_call 61;refine (HL.out _).mono ?_;rintro e w' ⟨rfl,rfl⟩))
 refine (HNo.out _).mono ?_
 rintro e wn ⟨rfl,hNn⟩
 have hN:=hN.trans hNn
 have hr:=hNn.heap hr id
 obtain ⟨⟨c0,c1,c2,c3⟩,f0,f1,f2,f3⟩:=row_facts hr
 go_wp2_with fail
 obtain ⟨hN2,hr2⟩:=set4 hN hBw hr (.int .u8 0) (.int .i64 0) (.string ⟨#[]⟩) (.bool false)
 obtain ⟨W2,hW2⟩:∃ W2,((((wn.setCell ⟨B,0,none⟩ (.int .u8 0)).setCell ⟨B,1,none⟩ (.int .i64 0)).setCell ⟨B,2,none⟩ (.string ⟨#[]⟩)).setCell ⟨B,3,none⟩ (.bool false))=W2:=⟨_,rfl⟩
 rw [hW2] at hN2 hr2 ⊢
 exact read_end (by kernel_rfl) rfl rfl rfl hr2 ⟨rfl,hN2⟩


theorem lit118 (t:Array Value) (h:t.size=118):∃ u:Nat→Value,t=(u 0::u 1::u 2::u 3::u 4::u 5::u 6::u 7::u 8::u 9::u 10::u 11::u 12::u 13::u 14::u 15::u 16::u 17::u 18::u 19::u 20::u 21::u 22::u 23::u 24::u 25::u 26::u 27::u 28::u 29::u 30::u 31::u 32::u 33::u 34::u 35::u 36::u 37::u 38::u 39::u 40::u 41::u 42::u 43::u 44::u 45::u 46::u 47::u 48::u 49::u 50::u 51::u 52::u 53::u 54::u 55::u 56::u 57::u 58::u 59::u 60::u 61::u 62::u 63::u 64::u 65::u 66::u 67::u 68::u 69::u 70::u 71::u 72::u 73::u 74::u 75::u 76::u 77::u 78::u 79::u 80::u 81::u 82::u 83::u 84::u 85::u 86::u 87::u 88::u 89::u 90::u 91::u 92::u 93::u 94::u 95::u 96::u 97::u 98::u 99::u 100::u 101::u 102::u 103::u 104::u 105::u 106::u 107::u 108::u 109::u 110::u 111::u 112::u 113::u 114::u 115::u 116::u 117::([]:List Value)).toArray:=⟨fun i=>t.getD i undef,range_lit t 118 h⟩
noncomputable def reg_causeylaw12_BareTells_9:Code:=((Tryz.f3.body.bind (regionOf 9)).getD .skip)
theorem btells9 (t:Array Value) (hs:t.size=118) (w:World) {B X Y:Nat} {k n pe k2 n2 g:Int} {kt p t2 r ux s sx:ByteArray} {y y2 iy rt tk:Bool}
  (hq1:t.getD 1 undef = .string s)
  (hq2:t.getD 2 undef = .pointer (some ⟨B,0,none⟩))
  (hq5:t.getD 5 undef = .string p)
  (hq6:t.getD 6 undef = .int .i64 pe)
  (hq7:t.getD 7 undef = .string p)
  (hq8:t.getD 8 undef = .int .i64 pe)
  (hq9:t.getD 9 undef = .pointer (some ⟨X,0,none⟩))
  (hq10:t.getD 10 undef = .string r)
  (hq11:t.getD 11 undef = .int .i64 g)
  (hq12:t.getD 12 undef = .pointer (some ⟨Y,0,none⟩))
  (hq13:t.getD 13 undef = .string r)
  (hq14:t.getD 14 undef = .int .i64 g)
  (hq15:t.getD 15 undef = .string ux)
  (hq16:t.getD 16 undef = .bool iy)
  (hq17:t.getD 17 undef = .string ux)
  (hq18:t.getD 18 undef = .bool iy)
  (c0:w.cell? ⟨B,0,none⟩=some (.int .u8 k)) (c1:w.cell? ⟨B,1,none⟩=some (.int .i64 n)) (c2:w.cell? ⟨B,2,none⟩=some (.string kt)) (c3:w.cell? ⟨B,3,none⟩=some (.bool y)) (d0:w.cell? ⟨X,0,none⟩=some (.int .u8 k2)) (d1:w.cell? ⟨X,1,none⟩=some (.int .i64 n2)) (d2:w.cell? ⟨X,2,none⟩=some (.string t2)) (d3:w.cell? ⟨X,3,none⟩=some (.bool y2)) (g0:w.cell? ⟨Y,0,none⟩=some (.int .u8 k2)) (g1:w.cell? ⟨Y,1,none⟩=some (.int .i64 n2)) (g2:w.cell? ⟨Y,2,none⟩=some (.string t2)) (g3:w.cell? ⟨Y,3,none⟩=some (.bool y2))
  (heq:∀ W,(binOp .eql 23 (.agg #[.int .u8 k2,.int .i64 n2,.string t2,.bool y2]) (.agg #[.int .u8 k2,.int .i64 n2,.string t2,.bool y2])).run Tryz.prog W = .ok (.bool true) W)
  (HR1:Hid (∀ W:World,Calls Tryz.prog 13 #[.agg #[.int .u8 k,.int .i64 n,.string kt,.bool y]] W fun e w'=>e = .returned (.bool rt)∧New W w')) (HR2:Hid (∀ W:World,Calls Tryz.prog 14 #[.agg #[.int .u8 k,.int .i64 n,.string kt,.bool y]] W fun e w'=>e = .returned (.bool rt)∧New W w')) (HT1:Hid (∀ W:World,Calls Tryz.prog 15 #[.string s] W fun e w'=>e = .returned (.bool tk)∧New W w')) (HT2:Hid (∀ W:World,Calls Tryz.prog 16 #[.string s] W fun e w'=>e = .returned (.bool tk)∧New W w')) (HS1:Hid (∀ W:World,Calls Tryz.prog 17 #[.string s] W fun e w'=>e = .returned (.string sx)∧New W w')) (HS2:Hid (∀ W:World,Calls Tryz.prog 18 #[.string s] W fun e w'=>e = .returned (.string sx)∧New W w')) (HW:Hid (∀ W,New w W→Calls Tryz.prog 6 #[] W fun e w'=>e = .returned (.bool true)∧New W w')) :
  reg_causeylaw12_BareTells_9.wp Tryz.prog (Only fun a' W'=>∃ z:Nat→Value,a'=⟨((pz t z [61,62,63,64,65,66,67,68,69,70,71,72,73,74,75,76,77,78,79,80,81,82,83,84,85,86,87,88,89,90,91,92,93,94,95,96,97,98,99,100,101,102,103,104,105,106,107,108,109,110,111,112,113,114,115,116,117]).setIfInBounds 4 (.bool true)),[]⟩∧New w W') ⟨t,[]⟩ w:=by
 conv=>arg 2;whnf
 obtain ⟨u,rfl⟩:=lit118 t hs
 have hq1:u 1 = _:=hq1
 have hq2:u 2 = _:=hq2
 have hq5:u 5 = _:=hq5
 have hq6:u 6 = _:=hq6
 have hq7:u 7 = _:=hq7
 have hq8:u 8 = _:=hq8
 have hq9:u 9 = _:=hq9
 have hq10:u 10 = _:=hq10
 have hq11:u 11 = _:=hq11
 have hq12:u 12 = _:=hq12
 have hq13:u 13 = _:=hq13
 have hq14:u 14 = _:=hq14
 have hq15:u 15 = _:=hq15
 have hq16:u 16 = _:=hq16
 have hq17:u 17 = _:=hq17
 have hq18:u 18 = _:=hq18
 rw [hq1,hq2,hq5,hq6,hq7,hq8,hq9,hq10,hq11,hq12,hq13,hq14,hq15,hq16,hq17,hq18]
 clear hq1 hq2 hq5 hq6 hq7 hq8 hq9 hq10 hq11 hq12 hq13 hq14 hq15 hq16 hq17 hq18 hs
 refine wp_region_held (S:=fun W=>New w W) (by kernel_rfl) ?_
 show wpAnyH _ _ _ _ _ 58 _ _ w.drew
 have hN:New w w.drew:=(Mods.refl _ _).drew
 have hS:New w w.drew:=(Mods.refl _ _).drew
 refine tkI 0 (some 61) (.string p) hS ?_
 simp only [pS]
 refine tkI 1 (some 62) (.string p) hS ?_
 simp only [pS]
 refine tkI 2 (some 63) (.bool true) hS ?_
 simp only [pS]
 refine tkI 3 (some 64) (.bool true) hS ?_
 simp only [pS]
 refine tkI 4 (some 65) (.int .i64 pe) hS ?_
 simp only [pS]
 refine tkI 5 (some 66) (.int .i64 pe) hS ?_
 simp only [pS]
 refine tkI 6 (some 67) (.bool true) hS ?_
 simp only [pS]
 refine tkI 7 (some 68) (.bool true) hS ?_
 simp only [pS]
 refine tkI 8 (some 69) (.bool true) hS ?_
 simp only [pS]
 refine tkA 9 rfl (some 70) (.agg #[.int .u8 k2,.int .i64 n2,.string t2,.bool y2]) (.inl ⟨by rfl,fun W hW=>by have q0:=hW.cell d0 id;have q1:=hW.cell d1 id;have q2:=hW.cell d2 id;have q3:=hW.cell d3 id;go_simp⟩) hS ?_
 simp only [pS]
 refine tkA 10 rfl (some 71) (.agg #[.int .u8 k2,.int .i64 n2,.string t2,.bool y2]) (.inl ⟨by rfl,fun W hW=>by have q0:=hW.cell g0 id;have q1:=hW.cell g1 id;have q2:=hW.cell g2 id;have q3:=hW.cell g3 id;go_simp⟩) hS ?_
 simp only [pS]
 refine tkA 11 rfl (some 72) (.bool true) (.inl ⟨by rfl,fun W hW=>by have q:=heq;go_simp⟩) hS ?_
 simp only [pS]
 refine tkI 12 (some 73) (.bool true) hS ?_
 simp only [pS]
 refine tkI 13 (some 74) (.bool true) hS ?_
 simp only [pS]
 refine tkI 14 (some 75) (.string r) hS ?_
 simp only [pS]
 refine tkI 15 (some 76) (.string r) hS ?_
 simp only [pS]
 refine tkI 16 (some 77) (.bool true) hS ?_
 simp only [pS]
 refine tkI 17 (some 78) (.bool true) hS ?_
 simp only [pS]
 refine tkI 18 (some 79) (.bool true) hS ?_
 simp only [pS]
 refine tkI 19 (some 80) (.int .i64 g) hS ?_
 simp only [pS]
 refine tkI 20 (some 81) (.int .i64 g) hS ?_
 simp only [pS]
 refine tkI 21 (some 82) (.bool true) hS ?_
 simp only [pS]
 refine tkI 22 (some 83) (.bool true) hS ?_
 simp only [pS]
 refine tkI 23 (some 84) (.bool true) hS ?_
 simp only [pS]
 refine tkI 24 (some 85) (.string ux) hS ?_
 simp only [pS]
 refine tkI 25 (some 86) (.string ux) hS ?_
 simp only [pS]
 refine tkI 26 (some 87) (.bool true) hS ?_
 simp only [pS]
 refine tkI 27 (some 88) (.bool true) hS ?_
 simp only [pS]
 refine tkI 28 (some 89) (.bool true) hS ?_
 simp only [pS]
 refine tkI 29 (some 90) (.bool iy) hS ?_
 simp only [pS]
 refine tkI 30 (some 91) (.bool iy) hS ?_
 simp only [pS]
 refine tkI 31 (some 92) (.bool true) hS ?_
 simp only [pS]
 refine tkI 32 (some 93) (.bool true) hS ?_
 simp only [pS]
 refine tkI 33 (some 94) (.bool true) hS ?_
 simp only [pS]
 refine tkA 34 rfl (some 95) (.agg #[.int .u8 k,.int .i64 n,.string kt,.bool y]) (.inl ⟨by rfl,fun W hW=>by have q0:=hW.cell c0 id;have q1:=hW.cell c1 id;have q2:=hW.cell c2 id;have q3:=hW.cell c3 id;go_simp⟩) hS ?_
 simp only [pS]
 refine tkA 36 rfl (some 97) (.agg #[.int .u8 k,.int .i64 n,.string kt,.bool y]) (.inl ⟨by rfl,fun W hW=>by have q0:=hW.cell c0 id;have q1:=hW.cell c1 id;have q2:=hW.cell c2 id;have q3:=hW.cell c3 id;go_simp⟩) hS ?_
 simp only [pS]
 refine tkO 35 ?_
 refine opH_call (some 96) rfl (by rfl) rfl 13 #[.agg #[.int .u8 k,.int .i64 n,.string kt,.bool y]] (by go_simp) ((HR1.out _).mono ?_)
 rintro e w35 ⟨rfl,hk'⟩
 have hk:=hk'
 have hS:=hS.trans hk
 have hN:=hN.trans hk
 clear hk
 refine ⟨_,rfl,hS,?_⟩
 simp only [pS]
 refine tkO 37 ?_
 refine opH_call (some 98) rfl (by rfl) rfl 14 #[.agg #[.int .u8 k,.int .i64 n,.string kt,.bool y]] (by go_simp) ((HR2.out _).mono ?_)
 rintro e w37 ⟨rfl,hk'⟩
 have hk:=hk'
 have hS:=hS.trans hk
 have hN:=hN.trans hk
 clear hk
 refine ⟨_,rfl,hS,?_⟩
 simp only [pS]
 refine tkI 38 (some 99) (.bool true) hS ?_
 simp only [pS]
 refine tkI 39 (some 100) (.bool true) hS ?_
 simp only [pS]
 refine tkI 40 (some 101) (.bool true) hS ?_
 simp only [pS]
 refine tkI 41 (some 102) (.string s) hS ?_
 simp only [pS]
 refine tkI 43 (some 104) (.string s) hS ?_
 simp only [pS]
 refine tkO 42 ?_
 refine opH_call (some 103) rfl (by rfl) rfl 15 #[.string s] (by go_simp) ((HT1.out _).mono ?_)
 rintro e w42 ⟨rfl,hk'⟩
 have hk:=hk'
 have hS:=hS.trans hk
 have hN:=hN.trans hk
 clear hk
 refine ⟨_,rfl,hS,?_⟩
 simp only [pS]
 refine tkO 44 ?_
 refine opH_call (some 105) rfl (by rfl) rfl 16 #[.string s] (by go_simp) ((HT2.out _).mono ?_)
 rintro e w44 ⟨rfl,hk'⟩
 have hk:=hk'
 have hS:=hS.trans hk
 have hN:=hN.trans hk
 clear hk
 refine ⟨_,rfl,hS,?_⟩
 simp only [pS]
 refine tkI 45 (some 106) (.bool true) hS ?_
 simp only [pS]
 refine tkI 46 (some 107) (.bool true) hS ?_
 simp only [pS]
 refine tkI 47 (some 108) (.bool true) hS ?_
 simp only [pS]
 refine tkI 48 (some 109) (.string s) hS ?_
 simp only [pS]
 refine tkI 50 (some 111) (.string s) hS ?_
 simp only [pS]
 refine tkO 49 ?_
 refine opH_call (some 110) rfl (by rfl) rfl 17 #[.string s] (by go_simp) ((HS1.out _).mono ?_)
 rintro e w49 ⟨rfl,hk'⟩
 have hk:=hk'
 have hS:=hS.trans hk
 have hN:=hN.trans hk
 clear hk
 refine ⟨_,rfl,hS,?_⟩
 simp only [pS]
 refine tkO 51 ?_
 refine opH_call (some 112) rfl (by rfl) rfl 18 #[.string s] (by go_simp) ((HS2.out _).mono ?_)
 rintro e w51 ⟨rfl,hk'⟩
 have hk:=hk'
 have hS:=hS.trans hk
 have hN:=hN.trans hk
 clear hk
 refine ⟨_,rfl,hS,?_⟩
 simp only [pS]
 refine tkI 52 (some 113) (.bool true) hS ?_
 simp only [pS]
 refine tkI 53 (some 114) (.bool true) hS ?_
 simp only [pS]
 refine tkI 54 (some 115) (.bool true) hS ?_
 simp only [pS]
 refine tkO 55 ?_
 refine opH_call (some 116) rfl (by rfl) rfl 6 #[] (by go_simp) ((HW.out _ hN).mono ?_)
 rintro e w55 ⟨rfl,hk'⟩
 have hk:=hk'
 have hS:=hS.trans hk
 have hN:=hN.trans hk
 clear hk
 refine ⟨_,rfl,hS,?_⟩
 simp only [pS]
 refine tkI 56 (some 117) (.bool true) hS ?_
 simp only [pS]
 refine tkI 57 (some 4) (.bool true) hS ?_
 simp only [pS]
 refine wpAnyH_done (by kernel_rfl) ?_ _
 exact zc rfl hN
theorem br_row (w:World) (k n:Int) (t:ByteArray) (y:Bool):∃ V M,w.alloc (.cells #[.int .u8 k,.int .i64 n,.string t,.bool y] 23)=V∧w.heap.size=M∧V.heap[M]? = some (.cells #[.int .u8 k,.int .i64 n,.string t,.bool y] 23 (0,0))∧New w V:=⟨_,_,rfl,rfl,World.alloc_heap_new _ _,(Mods.refl _ _).alloc _⟩
theorem printV_two (r:Option Bare.Bs):∃ p pe,printV r = .tuple #[.string p,.int .i64 pe]:=by
 unfold printV
 cases r with
 | none=>exact ⟨_,_,rfl⟩
 | some l=>exact ⟨_,_,rfl⟩
theorem unsixV_two (r:Option Bare.Bs):∃ p y,unsixV r = .tuple #[.string p,.bool y]:=by
 unfold unsixV
 cases r with
 | none=>exact ⟨_,_,rfl⟩
 | some l=>exact ⟨_,_,rfl⟩
theorem read_three (r:Option (Bare.It × Bare.Bs)):∃ (b:Bare.It) (k n:Int) (t:ByteArray) (y:Bool) (x:ByteArray) (g:Int),bv b = .agg #[.int .u8 k,.int .i64 n,.string t,.bool y]∧∀ w e w',ReadP r w e w'→e = .returned (.tuple #[.agg #[.int .u8 k,.int .i64 n,.string t,.bool y],.string x,.int .i64 g])∧New w w':=by
 unfold ReadP
 cases r with
 | none=>exact ⟨noIt,_,_,_,_,_,_,rfl,fun w e w' h=>h⟩
 | some q=>obtain ⟨b,l⟩:=q;exact ⟨b,_,_,_,_,_,_,rfl,fun w e w' h=>h⟩
theorem btells_law (b:Bare.It) (s:ByteArray) (w:World) (hk0:0 ≤ b.kind) (hb:b.text.length ≤ 9223372036854775807) (hs:s.size ≤ 9223372036854775807) (hT:Tab w) :
  Calls Tryz.prog 3 #[bv b,.string s] w fun e w'=>e = .returned (.bool true)∧New w w':=by
 have HW:=Lib.hid (fun W (hN:New w W)=>wakes_any W (hT.new hN))
 obtain ⟨hN,hr⟩:=box_row w b
 by_cases hgreat:3000 < b.text.length ∨ 3000 < s.size
 ·have hd:Hid (decide ((3000:Int) < ((tx b.text).size:Int))=true ∨ (decide ((3000:Int) < ((tx b.text).size:Int))=false∧decide ((3000:Int) < (s.size:Int))=true)):=Lib.hid (by
   rw [tx_size]
   simp only [decide_eq_false_iff_not,decide_eq_true_eq]
   omega)
  have hz:(tx b.text).size ≤ 9223372036854775807:=by rw [tx_size];exact hb
  clear hgreat hb hk0
  obtain ⟨k,n,bt,y⟩:=b
  unfold bv bcs at *
  simp only at hN hr hd hz ⊢
  obtain ⟨x,hx⟩:∃ x,tx bt=x:=⟨_,rfl⟩
  rw [hx] at hN hr hd hz ⊢
  clear hx
  rcases hd.out with d1 | ⟨d1,d2⟩
  all_goals
   go_enter Tryz.func3,Tryz.ntmps3
   go_upto_region 1 with fail
   obtain ⟨V,hV⟩:∃ V,w.alloc (.cells #[.int .u8 k,.int .i64 n,.string x,.bool y] 23)=V:=⟨_,rfl⟩
   rw [hV] at hN hr ⊢
   obtain ⟨B,hB⟩:∃ B,w.heap.size=B:=⟨_,rfl⟩
   rw [hB] at hr ⊢
   clear hV hB
   obtain ⟨⟨c0,c1,c2,c3⟩,-⟩:=row_facts hr
   go_wp2_with fail
   refine (HW.out _ hN).mono ?_
   rintro e w1 ⟨rfl,hN1⟩
   go_wp2_with fail
   go_ret
   exact ⟨rfl,hN.trans hN1⟩
 have hbl:b.text.length ≤ 3000:=by omega
 have hss:s.size ≤ 3000:=by omega
 have hd1:decide ((3000:Int) < ((tx b.text).size:Int))=false:=decide_eq_false (by rw [tx_size];omega)
 have hd2:decide ((3000:Int) < (s.size:Int))=false:=decide_eq_false (by omega)
 have hz:(tx b.text).size ≤ 3000:=by rw [tx_size];exact hbl
 have HP1:=Lib.hid (fun W (hN:New w W)=>print_any b hk0 (by omega) W (hT.new hN))
 have HP2:=Lib.hid (fun W=>print_r b (by omega) W)
 obtain ⟨p,pe,hpv⟩:=printV_two (Bare.printI b)
 rw [hpv] at HP1 HP2
 obtain ⟨c,k2,n2,t2,y2,r,g,hc,hrd⟩:=read_three (Bare.parseI (bl s))
 have HQ1:=Lib.hid (fun W (hN:New w W)=>(parse_read s W (by omega) (hT.new hN)).mono fun e w' h=>hrd _ _ _ h)
 have HQ2:=Lib.hid (fun W=>(parse_r s W (by omega)).mono fun e w' h=>hrd _ _ _ h)
 have heq:=fun W=>binop_item c c W
 rw [decide_eq_true rfl,hc] at heq
 have HU1:=Lib.hid (fun W=>unsix_any s W (by omega))
 have HU2:=Lib.hid (fun W=>unsix_r s W (by omega))
 obtain ⟨u,i,hu⟩:=unsixV_two (Bare.unsix (bl s))
 rw [hu] at HU1 HU2
 have HR1:=Lib.hid (fun W=>right_any b hk0 (by omega) W)
 have HR2:=Lib.hid (fun W=>right_r b (by omega) W)
 have HT1:Hid (∀ W:World,Calls Tryz.prog 15 #[.string s] W fun e w'=>e = .returned (.bool (Bare.tokB (bl s)))∧New W w'):=Lib.hid fun W=>(token_any s W hs).mono fun e w' h=>⟨h.1,by rw [h.2];exact Mods.refl _ _⟩
 have HT2:Hid (∀ W:World,Calls Tryz.prog 16 #[.string s] W fun e w'=>e = .returned (.bool (Bare.tokB (bl s)))∧New W w'):=Lib.hid fun W=>(token_r s W hs).mono fun e w' h=>⟨h.1,by rw [h.2];exact Mods.refl _ _⟩
 have HS1:=Lib.hid (fun W=>sixes_any s W (by omega))
 have HS2:=Lib.hid (fun W=>sixes_r s W (by omega))
 have HEQ:=Lib.hid heq
 obtain ⟨rt,hrt⟩:∃ x,Bare.rightI b=x:=⟨_,rfl⟩
 obtain ⟨tk,htk⟩:∃ x,Bare.tokB (bl s)=x:=⟨_,rfl⟩
 obtain ⟨sx,hsx⟩:∃ x,tx (Bare.sixes (bl s))=x:=⟨_,rfl⟩
 rw [hrt] at HR1 HR2
 rw [htk] at HT1 HT2
 rw [hsx] at HS1 HS2
 clear hgreat hb hT hbl hk0 hpv hc hrd heq hu hrt htk hsx
 obtain ⟨k,n,bt,y⟩:=b
 unfold bv bcs at *
 simp only at hN hr hd1 hz HP1 HP2 HR1 HR2 ⊢
 obtain ⟨t,hx⟩:∃ x,tx bt=x:=⟨_,rfl⟩
 rw [hx] at hN hr hd1 hz HP1 HP2 HR1 HR2 ⊢
 clear hx
 go_enter Tryz.func3,Tryz.ntmps3
 go_upto_region 1 with fail
 obtain ⟨V,hV⟩:∃ V,w.alloc (.cells #[.int .u8 k,.int .i64 n,.string t,.bool y] 23)=V:=⟨_,rfl⟩
 rw [hV] at hN hr ⊢
 obtain ⟨B,hB⟩:∃ B,w.heap.size=B:=⟨_,rfl⟩
 rw [hB] at hr ⊢
 clear hV hB
 obtain ⟨⟨c0,c1,c2,c3⟩,-⟩:=row_facts hr
 go_wp2_with fail
 refine (HP1.out _ hN).mono ?_
 rintro e w1 ⟨rfl,hk⟩
 replace hN:=hN.trans hk
 replace hr:=hk.heap hr id
 clear c0 c1 c2 c3 hk HP1 hd1 hd2
 obtain ⟨⟨c0,c1,c2,c3⟩,-⟩:=row_facts hr
 go_wp2_with fail
 refine (HP2.out _).mono ?_
 rintro e w2 ⟨rfl,hk⟩
 replace hN:=hN.trans hk
 replace hr:=hk.heap hr id
 clear c0 c1 c2 c3 hk HP2
 go_wp2_with fail
 refine (HQ1.out _ hN).mono ?_
 rintro e w3 ⟨rfl,hk⟩
 go_upto_region 6 with fail
 obtain ⟨w4,X,hW4,hX,rX,hk4⟩:=br_row w3 k2 n2 t2 y2
 rw [hW4,hX]
 replace hN:=(hN.trans hk).trans hk4
 replace hr:=(hk.trans hk4).heap hr id
 clear hW4 hX hk hk4 HQ1
 go_wp2_with fail
 refine (HQ2.out _).mono ?_
 rintro e w5 ⟨rfl,hk⟩
 go_upto_region 7 with fail
 obtain ⟨w6,Y,hW6,hY,rY,hk6⟩:=br_row w5 k2 n2 t2 y2
 rw [hW6,hY]
 replace hN:=(hN.trans hk).trans hk6
 replace hr:=(hk.trans hk6).heap hr id
 replace rX:=(hk.trans hk6).heap rX id
 clear hW6 hY hk hk6 HQ2
 go_wp2_with fail
 refine (HU1.out _).mono ?_
 rintro e w7 ⟨rfl,hk⟩
 replace hN:=hN.trans hk
 replace hr:=hk.heap hr id
 replace rX:=hk.heap rX id
 replace rY:=hk.heap rY id
 clear hk HU1
 go_wp2_with fail
 refine (HU2.out _).mono ?_
 rintro e w8 ⟨rfl,hk⟩
 replace hN:=hN.trans hk
 replace hr:=hk.heap hr id
 replace rX:=hk.heap rX id
 replace rY:=hk.heap rY id
 clear hk HU2
 go_upto_region 9 with fail
 obtain ⟨⟨c0,c1,c2,c3⟩,-⟩:=row_facts hr
 obtain ⟨⟨d0,d1,d2,d3⟩,-⟩:=row_facts rX
 obtain ⟨⟨g0,g1,g2,g3⟩,-⟩:=row_facts rY
 have HW2:Hid (∀ W,New w8 W→Calls Tryz.prog 6 #[] W fun e w'=>e = .returned (.bool true)∧New W w'):=Lib.hid fun W hW=>HW.out W (hN.trans hW)
 refine piece (fun _=>_) (btells9 _ rfl w8 rfl rfl rfl rfl rfl rfl rfl rfl rfl rfl rfl rfl rfl rfl rfl rfl c0 c1 c2 c3 d0 d1 d2 d3 g0 g1 g2 g3 HEQ.out HR1 HR2 HT1 HT2 HS1 HS2 HW2) ?_
 rintro a' w9 ⟨z,rfl,hN9⟩
 simp only [pS]
 go_wp2_with fail
 go_ret
 exact ⟨rfl,hN.trans hN9⟩
end Go.Proofs.YtnknmmbnhoanfaaGreatDoor
