/- Texts joined. -/
import Derived.Test.YtkiiameibdhdfaaGreatDoorS04
import Derived.Test.YtkiiameibdhdfaaGreatDoorS02
import Derived.Lib.AppendIntMem
import Derived.Test.YtkiiameibdhdfaaGreatDoorS01
import Derived.Test.YtkiiameibdhdfaaGreatDoorS03
import Derived.Lib.ConvBytes
import Derived.Test.YtkiiameibdhdfaaGreatDoorS00
import Derived.OwnWalkIn
import Derived.TacticsInMore
import Derived.LoopNIn
import Derived.LoopIn
import Derived.WalkSpells
import Derived.WalkLawsBesides
import Derived.Sort.CutIn
import Derived.BigRegion
set_option linter.unusedSimpArgs false
set_option linter.unusedVariables false
set_option maxHeartbeats 16000000
set_option maxRecDepth 100000
namespace Go.Proofs.YtkiiameibdhdfaaGreatDoor
open Go.RowKit Go.Shelf Go.Cs
attribute [local go_sem] Oper.semAt_some


theorem readP_open (r:Option (Bare.It × Bare.Bs)):∃ (k n:Int) (t:ByteArray) (y:Bool) (x:ByteArray) (ec:Int),∀ w e w',ReadP r w e w' ↔ (e = .returned (.tuple #[.agg #[.int .u8 k,.int .i64 n,.string t,.bool y],.string x,.int .i64 ec])∧New w w'):=by
 cases r with
 | none=>exact ⟨0,0,⟨#[]⟩,false,⟨#[]⟩,120,fun w e w'=>Iff.rfl⟩
 | some p=>exact ⟨p.1.kind,p.1.int,tx p.1.text,p.1.yes,tx p.2,0,fun w e w'=>Iff.rfl⟩
theorem parseI_at (s:ByteArray) (h:0 < s.size):Bare.parseI (bl s)=(if Bare.digB (gb s 0) || decide (gb s 0=45) then Bare.number (bl s)
  else if Bare.letB (gb s 0) || decide (gb s 0=42) then some (⟨4,0,(bl s).takeWhile Bare.inTok,false⟩,(bl s).drop ((bl s).takeWhile Bare.inTok).length)
  else if gb s 0=34 then Bare.quoted [] ((bl s).drop 1)
  else if gb s 0=58 then Bare.packed ((bl s).drop 1)
  else if gb s 0=63 then ansR (bl s)
  else none):=by
 have hdr:bl s=gb s 0::(bl s).drop 1:=by
  have:=gb_get s 0 h
  obtain ⟨h1,h2⟩:=List.getElem?_eq_some_iff.1 this
  conv=>lhs;rw [← List.drop_zero (l:=bl s),List.drop_eq_getElem_cons h1,h2]
 have e45:(gb s 0 == 45)=decide (gb s 0=45):=by rw [Bool.eq_iff_iff,beq_iff_eq,decide_eq_true_eq]
 have e42:(gb s 0 == 42)=decide (gb s 0=42):=by rw [Bool.eq_iff_iff,beq_iff_eq,decide_eq_true_eq]
 obtain ⟨c,hc⟩:∃ c,gb s 0=c:=⟨_,rfl⟩
 obtain ⟨r,hr⟩:∃ r,(bl s).drop 1=r:=⟨_,rfl⟩
 rw [hc,hr] at hdr
 rw [hc] at e45 e42
 rw [hc,hr,hdr,Bare.parseI_cons]
 unfold Bare.headTok
 rw [e45,e42]
 congr 1
 congr 1
 congr 1
 congr 1
 congr 1
 unfold ansR
 cases r <;> rfl
theorem parse_read (s:ByteArray) (w:World) (hs:s.size ≤ 1000000) (hT:Tab w) :
  Calls Tryz.prog 199 #[.string s] w (ReadP (Bare.parseI (bl s)) w):=by
 obtain ⟨hN,hr⟩:=no_row w
 have hem:=empty_toList s
 by_cases h0:s.size=0
 ·have e:Bare.parseI (bl s)=none:=by
   have:bl s = []:=List.length_eq_zero_iff.1 (by rw [bl_len];exact h0)
   rw [this];rfl
  rw [e]
  rw [decide_eq_true h0] at hem
  unfold ReadP bv bcs noIt
  simp only
  clear h0 e
  go_enter Tryz.func199,Tryz.ntmps199
  go_upto_region 1 with fail
  obtain ⟨W,hW⟩:∃ W,w.alloc (.cells #[.int .u8 0,.int .i64 0,.string ⟨#[]⟩,.bool false] 66)=W:=⟨_,rfl⟩
  rw [hW] at hN hr ⊢
  obtain ⟨B,hB⟩:∃ B,w.heap.size=B:=⟨_,rfl⟩
  have hBw:w.heap.size ≤ B:=by omega
  rw [hB] at hr ⊢
  clear hW hB
  obtain ⟨⟨c0,c1,c2,c3⟩,f0,f1,f2,f3⟩:=row_facts hr
  go_wp2_with fail
  obtain ⟨hN2,hr2⟩:=set4 hN hBw hr (.int .u8 0) (.int .i64 0) (.string ⟨#[]⟩) (.bool false)
  obtain ⟨W2,hW2⟩:∃ W2,((((W.setCell ⟨B,0,none⟩ (.int .u8 0)).setCell ⟨B,1,none⟩ (.int .i64 0)).setCell ⟨B,2,none⟩ (.string ⟨#[]⟩)).setCell ⟨B,3,none⟩ (.bool false))=W2:=⟨_,rfl⟩
  rw [hW2] at hN2 hr2 ⊢
  exact read_end (by kernel_rfl) rfl rfl rfl hr2 ⟨rfl,hN2⟩
 rw [decide_eq_false h0] at hem
 rw [parseI_at s (by omega)]
 have hix0:∀ W,(Instr.index 9 (.string s) (.int .i64 0)).run Tryz.prog W = .ok (.int .u8 ((gb s 0).toNat:Nat)) W:=run_idx s 0 (by omega)
 have HD:=Lib.hid (fun W=>(digit_p (gb s 0) W).mono fun e w' h=>show e = _∧W=w' from ⟨h.1,h.2.symm⟩)
 have HL:=Lib.hid (fun W=>(letter_p (gb s 0) W).mono fun e w' h=>show e = _∧W=w' from ⟨h.1,h.2.symm⟩)
 have HNum:=Lib.hid (fun W=>number_read s W hs (by omega))
 have HTok:=Lib.hid (fun W=>token_read s W hs)
 have HQuo:=Lib.hid (fun W=>quoted_read s W hs (by omega))
 have HPac:=Lib.hid (fun W (hN:New w W)=>packed_read s W hs (by omega) (hT.new hN))
 have HAns:=Lib.hid (fun W=>answer_read s W hs)
 obtain ⟨n,hn⟩:∃ n,(gb s 0).toNat=n:=⟨_,rfl⟩
 have t45:=(byte_test (gb s 0) 45 (by decide) n hn).1
 rw [show UInt8.ofNat 45=45 from rfl] at t45
 have t45:((n:Int) == 45)=decide (gb s 0=45):=t45
 have t42:=(byte_test (gb s 0) 42 (by decide) n hn).1
 rw [show UInt8.ofNat 42=42 from rfl] at t42
 have t42:((n:Int) == 42)=decide (gb s 0=42):=t42
 have t34:=(byte_test (gb s 0) 34 (by decide) n hn).1
 rw [show UInt8.ofNat 34=34 from rfl] at t34
 have t34:((n:Int) == 34)=decide (gb s 0=34):=t34
 have t58:=(byte_test (gb s 0) 58 (by decide) n hn).1
 rw [show UInt8.ofNat 58=58 from rfl] at t58
 have t58:((n:Int) == 58)=decide (gb s 0=58):=t58
 have t63:=(byte_test (gb s 0) 63 (by decide) n hn).1
 rw [show UInt8.ofNat 63=63 from rfl] at t63
 have t63:((n:Int) == 63)=decide (gb s 0=63):=t63
 rw [hn] at hix0 HD HL
 clear hn h0
 obtain ⟨D,hD⟩:∃ x,Bare.digB (gb s 0)=x:=⟨_,rfl⟩
 obtain ⟨L,hL⟩:∃ x,Bare.letB (gb s 0)=x:=⟨_,rfl⟩
 rw [hD] at HD ⊢
 rw [hL] at HL ⊢
 clear hD hL
 obtain ⟨x45,hx45⟩:∃ x,decide (gb s 0=45)=x:=⟨_,rfl⟩
 rw [hx45] at t45 ⊢
 clear hx45
 obtain ⟨x42,hx42⟩:∃ x,decide (gb s 0=42)=x:=⟨_,rfl⟩
 rw [hx42] at t42 ⊢
 clear hx42
 cases D with
 | true =>
  rw [Bool.true_or,if_pos rfl]
  obtain ⟨k,nn,tt,y,x,ec,hv⟩:=readP_open (Bare.number (bl s))
  refine Calls.mono (R:=fun e w'=>e = .returned (.tuple #[.agg #[.int .u8 k,.int .i64 nn,.string tt,.bool y],.string x,.int .i64 ec])∧New w w') ?_ fun e w' h=>(hv w e w').2 h
  have HX:=Lib.hid (fun W (hN:New w W)=>(HNum.out W).mono fun e w' h=>(hv W e w').1 h)
  clear hv HNum HTok HQuo HPac HAns
  go_enter Tryz.func199,Tryz.ntmps199
  go_upto_region 1 with fail
  obtain ⟨W,hW⟩:∃ W,w.alloc (.cells #[.int .u8 0,.int .i64 0,.string ⟨#[]⟩,.bool false] 66)=W:=⟨_,rfl⟩
  rw [hW] at hN hr ⊢
  obtain ⟨B,hB⟩:∃ B,w.heap.size=B:=⟨_,rfl⟩
  have hBw:w.heap.size ≤ B:=by omega
  rw [hB] at hr ⊢
  clear hW hB
  obtain ⟨⟨c0,c1,c2,c3⟩,f0,f1,f2,f3⟩:=row_facts hr
  clear c0 c1 c2 c3 f0 f1 f2 f3
  go_upto_region 6 with (first | (go_at_call 176;refine (HD.out _).mono ?_;rintro e w' ⟨rfl,rfl⟩) | (go_at_call 175;refine (HL.out _).mono ?_;rintro e w' ⟨rfl,rfl⟩))
  go_wp2_with fail
  refine (HX.out _ hN).mono ?_
  rintro e w1 ⟨rfl,hN1⟩
  have hN:=hN.trans hN1
  have hr:=hN1.heap hr id
  obtain ⟨⟨c0,c1,c2,c3⟩,f0,f1,f2,f3⟩:=row_facts hr
  go_wp2_with fail
  obtain ⟨hN2,hr2⟩:=set4 hN hBw hr (.int .u8 k) (.int .i64 nn) (.string tt) (.bool y)
  obtain ⟨W2,hW2⟩:∃ W2,((((w1.setCell ⟨B,0,none⟩ (.int .u8 k)).setCell ⟨B,1,none⟩ (.int .i64 nn)).setCell ⟨B,2,none⟩ (.string tt)).setCell ⟨B,3,none⟩ (.bool y))=W2:=⟨_,rfl⟩
  rw [hW2] at hN2 hr2 ⊢
  exact read_end (by kernel_rfl) rfl rfl rfl hr2 ⟨rfl,hN2⟩
 | false =>
  rw [Bool.false_or]
  cases x45 with
  | true =>
   rw [if_pos rfl]
   obtain ⟨k,nn,tt,y,x,ec,hv⟩:=readP_open (Bare.number (bl s))
   refine Calls.mono (R:=fun e w'=>e = .returned (.tuple #[.agg #[.int .u8 k,.int .i64 nn,.string tt,.bool y],.string x,.int .i64 ec])∧New w w') ?_ fun e w' h=>(hv w e w').2 h
   have HX:=Lib.hid (fun W (hN:New w W)=>(HNum.out W).mono fun e w' h=>(hv W e w').1 h)
   clear hv HNum HTok HQuo HPac HAns
   go_enter Tryz.func199,Tryz.ntmps199
   go_upto_region 1 with fail
   obtain ⟨W,hW⟩:∃ W,w.alloc (.cells #[.int .u8 0,.int .i64 0,.string ⟨#[]⟩,.bool false] 66)=W:=⟨_,rfl⟩
   rw [hW] at hN hr ⊢
   obtain ⟨B,hB⟩:∃ B,w.heap.size=B:=⟨_,rfl⟩
   have hBw:w.heap.size ≤ B:=by omega
   rw [hB] at hr ⊢
   clear hW hB
   obtain ⟨⟨c0,c1,c2,c3⟩,f0,f1,f2,f3⟩:=row_facts hr
   clear c0 c1 c2 c3 f0 f1 f2 f3
   go_upto_region 6 with (first | (go_at_call 176;refine (HD.out _).mono ?_;rintro e w' ⟨rfl,rfl⟩) | (go_at_call 175;refine (HL.out _).mono ?_;rintro e w' ⟨rfl,rfl⟩))
   go_wp2_with fail
   refine (HX.out _ hN).mono ?_
   rintro e w1 ⟨rfl,hN1⟩
   have hN:=hN.trans hN1
   have hr:=hN1.heap hr id
   obtain ⟨⟨c0,c1,c2,c3⟩,f0,f1,f2,f3⟩:=row_facts hr
   go_wp2_with fail
   obtain ⟨hN2,hr2⟩:=set4 hN hBw hr (.int .u8 k) (.int .i64 nn) (.string tt) (.bool y)
   obtain ⟨W2,hW2⟩:∃ W2,((((w1.setCell ⟨B,0,none⟩ (.int .u8 k)).setCell ⟨B,1,none⟩ (.int .i64 nn)).setCell ⟨B,2,none⟩ (.string tt)).setCell ⟨B,3,none⟩ (.bool y))=W2:=⟨_,rfl⟩
   rw [hW2] at hN2 hr2 ⊢
   exact read_end (by kernel_rfl) rfl rfl rfl hr2 ⟨rfl,hN2⟩
  | false =>
   rw [if_neg (by decide)]
   cases L with
   | true =>
    rw [Bool.true_or,if_pos rfl]
    obtain ⟨k,nn,tt,y,x,ec,hv⟩:=readP_open (some (⟨4,0,(bl s).takeWhile Bare.inTok,false⟩,(bl s).drop ((bl s).takeWhile Bare.inTok).length))
    refine Calls.mono (R:=fun e w'=>e = .returned (.tuple #[.agg #[.int .u8 k,.int .i64 nn,.string tt,.bool y],.string x,.int .i64 ec])∧New w w') ?_ fun e w' h=>(hv w e w').2 h
    have HX:=Lib.hid (fun W (hN:New w W)=>(HTok.out W).mono fun e w' h=>(hv W e w').1 h)
    clear hv HNum HTok HQuo HPac HAns
    go_enter Tryz.func199,Tryz.ntmps199
    go_upto_region 1 with fail
    obtain ⟨W,hW⟩:∃ W,w.alloc (.cells #[.int .u8 0,.int .i64 0,.string ⟨#[]⟩,.bool false] 66)=W:=⟨_,rfl⟩
    rw [hW] at hN hr ⊢
    obtain ⟨B,hB⟩:∃ B,w.heap.size=B:=⟨_,rfl⟩
    have hBw:w.heap.size ≤ B:=by omega
    rw [hB] at hr ⊢
    clear hW hB
    obtain ⟨⟨c0,c1,c2,c3⟩,f0,f1,f2,f3⟩:=row_facts hr
    clear c0 c1 c2 c3 f0 f1 f2 f3
    go_upto_region 9 with (first | (go_at_call 176;refine (HD.out _).mono ?_;rintro e w' ⟨rfl,rfl⟩) | (go_at_call 175;refine (HL.out _).mono ?_;rintro e w' ⟨rfl,rfl⟩))
    go_wp2_with fail
    refine (HX.out _ hN).mono ?_
    rintro e w1 ⟨rfl,hN1⟩
    have hN:=hN.trans hN1
    have hr:=hN1.heap hr id
    obtain ⟨⟨c0,c1,c2,c3⟩,f0,f1,f2,f3⟩:=row_facts hr
    go_wp2_with fail
    obtain ⟨hN2,hr2⟩:=set4 hN hBw hr (.int .u8 k) (.int .i64 nn) (.string tt) (.bool y)
    obtain ⟨W2,hW2⟩:∃ W2,((((w1.setCell ⟨B,0,none⟩ (.int .u8 k)).setCell ⟨B,1,none⟩ (.int .i64 nn)).setCell ⟨B,2,none⟩ (.string tt)).setCell ⟨B,3,none⟩ (.bool y))=W2:=⟨_,rfl⟩
    rw [hW2] at hN2 hr2 ⊢
    exact read_end (by kernel_rfl) rfl rfl rfl hr2 ⟨rfl,hN2⟩
   | false =>
    rw [Bool.false_or]
    cases x42 with
    | true =>
     rw [if_pos rfl]
     obtain ⟨k,nn,tt,y,x,ec,hv⟩:=readP_open (some (⟨4,0,(bl s).takeWhile Bare.inTok,false⟩,(bl s).drop ((bl s).takeWhile Bare.inTok).length))
     refine Calls.mono (R:=fun e w'=>e = .returned (.tuple #[.agg #[.int .u8 k,.int .i64 nn,.string tt,.bool y],.string x,.int .i64 ec])∧New w w') ?_ fun e w' h=>(hv w e w').2 h
     have HX:=Lib.hid (fun W (hN:New w W)=>(HTok.out W).mono fun e w' h=>(hv W e w').1 h)
     clear hv HNum HTok HQuo HPac HAns
     go_enter Tryz.func199,Tryz.ntmps199
     go_upto_region 1 with fail
     obtain ⟨W,hW⟩:∃ W,w.alloc (.cells #[.int .u8 0,.int .i64 0,.string ⟨#[]⟩,.bool false] 66)=W:=⟨_,rfl⟩
     rw [hW] at hN hr ⊢
     obtain ⟨B,hB⟩:∃ B,w.heap.size=B:=⟨_,rfl⟩
     have hBw:w.heap.size ≤ B:=by omega
     rw [hB] at hr ⊢
     clear hW hB
     obtain ⟨⟨c0,c1,c2,c3⟩,f0,f1,f2,f3⟩:=row_facts hr
     clear c0 c1 c2 c3 f0 f1 f2 f3
     go_upto_region 9 with (first | (go_at_call 176;refine (HD.out _).mono ?_;rintro e w' ⟨rfl,rfl⟩) | (go_at_call 175;refine (HL.out _).mono ?_;rintro e w' ⟨rfl,rfl⟩))
     go_wp2_with fail
     refine (HX.out _ hN).mono ?_
     rintro e w1 ⟨rfl,hN1⟩
     have hN:=hN.trans hN1
     have hr:=hN1.heap hr id
     obtain ⟨⟨c0,c1,c2,c3⟩,f0,f1,f2,f3⟩:=row_facts hr
     go_wp2_with fail
     obtain ⟨hN2,hr2⟩:=set4 hN hBw hr (.int .u8 k) (.int .i64 nn) (.string tt) (.bool y)
     obtain ⟨W2,hW2⟩:∃ W2,((((w1.setCell ⟨B,0,none⟩ (.int .u8 k)).setCell ⟨B,1,none⟩ (.int .i64 nn)).setCell ⟨B,2,none⟩ (.string tt)).setCell ⟨B,3,none⟩ (.bool y))=W2:=⟨_,rfl⟩
     rw [hW2] at hN2 hr2 ⊢
     exact read_end (by kernel_rfl) rfl rfl rfl hr2 ⟨rfl,hN2⟩
    | false =>
     rw [if_neg (by decide)]
     by_cases h34:gb s 0=34
     ·rw [if_pos h34]
      rw [decide_eq_true h34] at t34
      clear h34 t58 t63
      obtain ⟨k,nn,tt,y,x,ec,hv⟩:=readP_open (Bare.quoted [] ((bl s).drop 1))
      refine Calls.mono (R:=fun e w'=>e = .returned (.tuple #[.agg #[.int .u8 k,.int .i64 nn,.string tt,.bool y],.string x,.int .i64 ec])∧New w w') ?_ fun e w' h=>(hv w e w').2 h
      have HX:=Lib.hid (fun W (hN:New w W)=>(HQuo.out W).mono fun e w' h=>(hv W e w').1 h)
      clear hv HNum HTok HQuo HPac HAns
      go_enter Tryz.func199,Tryz.ntmps199
      go_upto_region 1 with fail
      obtain ⟨W,hW⟩:∃ W,w.alloc (.cells #[.int .u8 0,.int .i64 0,.string ⟨#[]⟩,.bool false] 66)=W:=⟨_,rfl⟩
      rw [hW] at hN hr ⊢
      obtain ⟨B,hB⟩:∃ B,w.heap.size=B:=⟨_,rfl⟩
      have hBw:w.heap.size ≤ B:=by omega
      rw [hB] at hr ⊢
      clear hW hB
      obtain ⟨⟨c0,c1,c2,c3⟩,f0,f1,f2,f3⟩:=row_facts hr
      clear c0 c1 c2 c3 f0 f1 f2 f3
      go_upto_region 11 with (first | (go_at_call 176;refine (HD.out _).mono ?_;rintro e w' ⟨rfl,rfl⟩) | (go_at_call 175;refine (HL.out _).mono ?_;rintro e w' ⟨rfl,rfl⟩))
      go_wp2_with fail
      refine (HX.out _ hN).mono ?_
      rintro e w1 ⟨rfl,hN1⟩
      have hN:=hN.trans hN1
      have hr:=hN1.heap hr id
      obtain ⟨⟨c0,c1,c2,c3⟩,f0,f1,f2,f3⟩:=row_facts hr
      go_wp2_with fail
      obtain ⟨hN2,hr2⟩:=set4 hN hBw hr (.int .u8 k) (.int .i64 nn) (.string tt) (.bool y)
      obtain ⟨W2,hW2⟩:∃ W2,((((w1.setCell ⟨B,0,none⟩ (.int .u8 k)).setCell ⟨B,1,none⟩ (.int .i64 nn)).setCell ⟨B,2,none⟩ (.string tt)).setCell ⟨B,3,none⟩ (.bool y))=W2:=⟨_,rfl⟩
      rw [hW2] at hN2 hr2 ⊢
      exact read_end (by kernel_rfl) rfl rfl rfl hr2 ⟨rfl,hN2⟩
     rw [if_neg h34]
     rw [decide_eq_false h34] at t34
     by_cases h58:gb s 0=58
     ·rw [if_pos h58]
      rw [decide_eq_true h58] at t58
      clear h58 t63 h34
      obtain ⟨k,nn,tt,y,x,ec,hv⟩:=readP_open (Bare.packed ((bl s).drop 1))
      refine Calls.mono (R:=fun e w'=>e = .returned (.tuple #[.agg #[.int .u8 k,.int .i64 nn,.string tt,.bool y],.string x,.int .i64 ec])∧New w w') ?_ fun e w' h=>(hv w e w').2 h
      have HX:=Lib.hid (fun W (hN:New w W)=>(HPac.out W hN).mono fun e w' h=>(hv W e w').1 h)
      clear hv HNum HTok HQuo HPac HAns
      go_enter Tryz.func199,Tryz.ntmps199
      go_upto_region 1 with fail
      obtain ⟨W,hW⟩:∃ W,w.alloc (.cells #[.int .u8 0,.int .i64 0,.string ⟨#[]⟩,.bool false] 66)=W:=⟨_,rfl⟩
      rw [hW] at hN hr ⊢
      obtain ⟨B,hB⟩:∃ B,w.heap.size=B:=⟨_,rfl⟩
      have hBw:w.heap.size ≤ B:=by omega
      rw [hB] at hr ⊢
      clear hW hB
      obtain ⟨⟨c0,c1,c2,c3⟩,f0,f1,f2,f3⟩:=row_facts hr
      clear c0 c1 c2 c3 f0 f1 f2 f3
      go_upto_region 13 with (first | (go_at_call 176;refine (HD.out _).mono ?_;rintro e w' ⟨rfl,rfl⟩) | (go_at_call 175;refine (HL.out _).mono ?_;rintro e w' ⟨rfl,rfl⟩))
      go_wp2_with fail
      refine (HX.out _ hN).mono ?_
      rintro e w1 ⟨rfl,hN1⟩
      have hN:=hN.trans hN1
      have hr:=hN1.heap hr id
      obtain ⟨⟨c0,c1,c2,c3⟩,f0,f1,f2,f3⟩:=row_facts hr
      go_wp2_with fail
      obtain ⟨hN2,hr2⟩:=set4 hN hBw hr (.int .u8 k) (.int .i64 nn) (.string tt) (.bool y)
      obtain ⟨W2,hW2⟩:∃ W2,((((w1.setCell ⟨B,0,none⟩ (.int .u8 k)).setCell ⟨B,1,none⟩ (.int .i64 nn)).setCell ⟨B,2,none⟩ (.string tt)).setCell ⟨B,3,none⟩ (.bool y))=W2:=⟨_,rfl⟩
      rw [hW2] at hN2 hr2 ⊢
      exact read_end (by kernel_rfl) rfl rfl rfl hr2 ⟨rfl,hN2⟩
     rw [if_neg h58]
     rw [decide_eq_false h58] at t58
     by_cases h63:gb s 0=63
     ·rw [if_pos h63]
      rw [decide_eq_true h63] at t63
      clear h63 h34 h58
      obtain ⟨k,nn,tt,y,x,ec,hv⟩:=readP_open (ansR (bl s))
      refine Calls.mono (R:=fun e w'=>e = .returned (.tuple #[.agg #[.int .u8 k,.int .i64 nn,.string tt,.bool y],.string x,.int .i64 ec])∧New w w') ?_ fun e w' h=>(hv w e w').2 h
      have HX:=Lib.hid (fun W (hN:New w W)=>(HAns.out W).mono fun e w' h=>(hv W e w').1 h)
      clear hv HNum HTok HQuo HPac HAns
      go_enter Tryz.func199,Tryz.ntmps199
      go_upto_region 1 with fail
      obtain ⟨W,hW⟩:∃ W,w.alloc (.cells #[.int .u8 0,.int .i64 0,.string ⟨#[]⟩,.bool false] 66)=W:=⟨_,rfl⟩
      rw [hW] at hN hr ⊢
      obtain ⟨B,hB⟩:∃ B,w.heap.size=B:=⟨_,rfl⟩
      have hBw:w.heap.size ≤ B:=by omega
      rw [hB] at hr ⊢
      clear hW hB
      obtain ⟨⟨c0,c1,c2,c3⟩,f0,f1,f2,f3⟩:=row_facts hr
      clear c0 c1 c2 c3 f0 f1 f2 f3
      go_upto_region 15 with (first | (go_at_call 176;refine (HD.out _).mono ?_;rintro e w' ⟨rfl,rfl⟩) | (go_at_call 175;refine (HL.out _).mono ?_;rintro e w' ⟨rfl,rfl⟩))
      go_wp2_with fail
      refine (HX.out _ hN).mono ?_
      rintro e w1 ⟨rfl,hN1⟩
      have hN:=hN.trans hN1
      have hr:=hN1.heap hr id
      obtain ⟨⟨c0,c1,c2,c3⟩,f0,f1,f2,f3⟩:=row_facts hr
      go_wp2_with fail
      obtain ⟨hN2,hr2⟩:=set4 hN hBw hr (.int .u8 k) (.int .i64 nn) (.string tt) (.bool y)
      obtain ⟨W2,hW2⟩:∃ W2,((((w1.setCell ⟨B,0,none⟩ (.int .u8 k)).setCell ⟨B,1,none⟩ (.int .i64 nn)).setCell ⟨B,2,none⟩ (.string tt)).setCell ⟨B,3,none⟩ (.bool y))=W2:=⟨_,rfl⟩
      rw [hW2] at hN2 hr2 ⊢
      exact read_end (by kernel_rfl) rfl rfl rfl hr2 ⟨rfl,hN2⟩
     rw [if_neg h63]
     rw [decide_eq_false h63] at t63
     unfold ReadP bv bcs noIt
     simp only
     clear h63 h34 h58 HNum HTok HQuo HPac HAns
     go_enter Tryz.func199,Tryz.ntmps199
     go_upto_region 1 with fail
     obtain ⟨W,hW⟩:∃ W,w.alloc (.cells #[.int .u8 0,.int .i64 0,.string ⟨#[]⟩,.bool false] 66)=W:=⟨_,rfl⟩
     rw [hW] at hN hr ⊢
     obtain ⟨B,hB⟩:∃ B,w.heap.size=B:=⟨_,rfl⟩
     have hBw:w.heap.size ≤ B:=by omega
     rw [hB] at hr ⊢
     clear hW hB
     obtain ⟨⟨c0,c1,c2,c3⟩,f0,f1,f2,f3⟩:=row_facts hr
     go_wp2_with (first | (go_at_call 176;refine (HD.out _).mono ?_;rintro e w' ⟨rfl,rfl⟩) | (go_at_call 175;refine (HL.out _).mono ?_;rintro e w' ⟨rfl,rfl⟩))
     obtain ⟨hN2,hr2⟩:=set4 hN hBw hr (.int .u8 0) (.int .i64 0) (.string ⟨#[]⟩) (.bool false)
     obtain ⟨W2,hW2⟩:∃ W2,((((W.setCell ⟨B,0,none⟩ (.int .u8 0)).setCell ⟨B,1,none⟩ (.int .i64 0)).setCell ⟨B,2,none⟩ (.string ⟨#[]⟩)).setCell ⟨B,3,none⟩ (.bool false))=W2:=⟨_,rfl⟩
     rw [hW2] at hN2 hr2 ⊢
     exact read_end (by kernel_rfl) rfl rfl rfl hr2 ⟨rfl,hN2⟩


theorem eq_pr (d:Nat) (u v:Int) (i j:Bool) (w:World):(Op.equalIn (d + 2) 31 (.agg #[.int .u8 u,.bool i]) (.agg #[.int .u8 v,.bool j])).run Tryz.prog w = .ok (decide (u=v) && decide (i=j)) w:=by
 rw [show d + 2=(d + 1) + 1 from rfl,run_equalIn_agg w (d + 1) 31 _ _ (by unfold Program.fieldsOf;rw [Tryz.underlying31]) (by kernel_rfl)]
 unfold Program.fieldsOf
 rw [Tryz.underlying31]
 have h0:=fun (k:Int) (y:Bool) w=>partAt 5 _ Tryz.underlying5 rfl #[.int .u8 k,.bool y] 0 (.int .u8 k) w rfl
 have h3:=fun (k:Int) (y:Bool) w=>partAt 4 _ Tryz.underlying4 rfl #[.int .u8 k,.bool y] 1 (.bool y) w rfl
 have e5:=fun w (a b:Int)=>run_equalIn_int w d 5 .u8 .u8 a b Tryz.underlying5
 have e4:=fun w (a b:Bool)=>run_equalIn_bool w d 4 a b Tryz.underlying4
 have n1 : ("Urgency" ≠ "_") = True := by simp
 have n2 : ("Incremental" ≠ "_") = True := by simp
 simp only [Op.eqFields,n1,n2,if_true,Sem.run_bind,h0,e5,Result.andThen_ok]
 by_cases hk:u=v <;> by_cases hy:i=j <;> simp [hk,hy,Sem.run_bind,h3,e4]
theorem binop_pr (u v:Int) (i j:Bool) (w:World):(binOp .eql 31 (.agg #[.int .u8 u,.bool i]) (.agg #[.int .u8 v,.bool j])).run Tryz.prog w = .ok (.bool (decide (u=v) && decide (i=j))) w:=by
 have h:=eq_pr 9998 u v i j w
 simp only [binOp]
 simp [Op.equal,Op.maxDepth,h]
structure WP where
 s:Int
 u:Nat
 i:Bool
deriving DecidableEq
def noW:WP:=⟨0,0,false⟩
def wcs (x:WP):List Value:=[.int .i64 x.s,.int .u8 x.u,.bool x.i]
theorem infoW:(Tryz.prog.info? 31).map (·.size)=some 2:=by kernel_rfl
theorem eq_wait (d:Nat) (p q:WP) (w:World):(Op.equalIn (d + 3) 40 (.agg (wcs p).toArray) (.agg (wcs q).toArray)).run Tryz.prog w = .ok (decide (p=q)) w:=by
 unfold wcs
 rw [show d + 3=(d + 2) + 1 from rfl,run_equalIn_agg w (d + 2) 40 _ _ (by unfold Program.fieldsOf;rw [Tryz.underlying40]) (by kernel_rfl)]
 unfold Program.fieldsOf
 rw [Tryz.underlying40]
 have h0:=fun (s k:Int) (y:Bool) w=>partAt 3 _ Tryz.underlying3 rfl #[.int .i64 s,.int .u8 k,.bool y] 0 (.int .i64 s) w rfl
 have h1:∀ (s k:Int) (y:Bool) w,(Go.part 31 #[.int .i64 s,.int .u8 k,.bool y] 1).run Tryz.prog w = .ok (.agg #[.int .u8 k,.bool y]) w:=fun s k y w=>partAgg 31 _ 2 Tryz.underlying31 rfl infoW #[.int .i64 s,.int .u8 k,.bool y] 1 w
 have e3:=fun w (a b:Int)=>run_equalIn_int w (d + 1) 3 .i64 .i64 a b Tryz.underlying3
 have n1 : ("Stream" ≠ "_") = True := by simp
 have n2 : ("Priority" ≠ "_") = True := by simp
 obtain ⟨sp,up,ip⟩:=p
 obtain ⟨sq,uq,iq⟩:=q
 have ei:=eq_pr d up uq ip iq
 simp only at ei ⊢
 simp only [Op.eqFields,n1,n2,if_true,Sem.run_bind,h0,e3,Result.andThen_ok]
 by_cases hk:sp=sq
 ·subst hk
  have hE:(decide ((up:Int)=(uq:Int)) && decide (ip=iq))=decide ((⟨sp,up,ip⟩:WP)=⟨sp,uq,iq⟩):=by
   rw [Bool.eq_iff_iff,Bool.and_eq_true,decide_eq_true_eq,decide_eq_true_eq,decide_eq_true_eq]
   constructor
   ·rintro ⟨e1,rfl⟩
    obtain rfl:up=uq:=by omega
    rfl
   ·intro e
    injection e with e1 e2 e3
    exact ⟨by omega,e3⟩
  rw [hE] at ei
  obtain ⟨z,hz⟩:∃ z,decide ((⟨sp,up,ip⟩:WP)=⟨sp,uq,iq⟩)=z:=⟨_,rfl⟩
  rw [hz] at ei ⊢
  cases z <;> simp [Sem.run_bind,h1,ei]
 ·simp [Sem.run_bind,h1,ei,hk]
theorem nbinop_wait (p q:WP) (w:World):(binOp .neq 40 (.agg (wcs p).toArray) (.agg (wcs q).toArray)).run Tryz.prog w = .ok (.bool (!decide (p=q))) w:=by
 have h:=eq_wait 9997 p q w
 simp only [binOp]
 simp [Op.equal,Op.maxDepth,h]


def keyAt (k:Nat) (c:UInt8):Bool:=if k=0 then Bare.smlB c else Bare.inKey c
def keyM:Bare.Bs:=[95,45,46]
theorem keyB_at (l:Bare.Bs):Bare.keyB l=true ↔ l ≠ []∧∀ k c,l[k]? = some c→keyAt k c=true:=by
 cases l with
 | nil=>simp [Bare.keyB]
 | cons a r =>
  simp only [Bare.keyB,Bool.and_eq_true]
  constructor
  ·rintro ⟨h1,h2⟩
   refine ⟨by simp,fun k c hk=>?_⟩
   cases k with
   | zero=>simp at hk;subst hk;exact h1
   | succ k =>
    rw [List.getElem?_cons_succ] at hk
    exact List.all_eq_true.1 h2 c (List.mem_of_getElem? hk)
  ·rintro ⟨-,h⟩
   refine ⟨h 0 a rfl,List.all_eq_true.2 fun c hc=>?_⟩
   obtain ⟨k,hk⟩:=List.getElem?_of_mem hc
   exact h (k + 1) c hk
theorem key_bad (k:Nat) (c:UInt8):(!Bare.smlB c && ((k == 0) || (decide (c.toNat < 48) || decide (57 < c.toNat)) && !keyM.contains c)) = !keyAt k c:=by
 unfold keyAt Bare.inKey keyM
 by_cases hk:k=0
 ·subst hk;cases Bare.smlB c <;> simp
 ·rw [if_neg hk]
  have:(k == 0)=false:=by simpa using hk
  rw [this]
  have hd:Bare.digB c = !(decide (c.toNat < 48) || decide (57 < c.toNat)):=by
   unfold Bare.digB
   rw [Bool.eq_iff_iff]
   simp
  rw [hd]
  cases Bare.smlB c <;> cases (decide (c.toNat < 48) || decide (57 < c.toNat)) <;> cases [95,45,46].contains c <;> rfl
theorem keyM_o (c:UInt8):decide (Lib.indexByte keyM c < 0) = !keyM.contains c:=by
 have:=Lib.contains_iff_indexByte keyM c
 rw [this,← decide_not]
 exact decide_eq_decide.2 (by omega)
theorem small_any (c:UInt8) (w:World):Calls Tryz.prog 75 #[.int .u8 (c.toNat:Nat)] w fun e w'=>e = .returned (.bool (Bare.smlB c))∧w'=w:=by
  have h42:(c == 42)=decide ((c.toNat:Int)=42):=by
    rw [Bool.eq_iff_iff,beq_iff_eq,decide_eq_true_eq,← UInt8.toNat_inj]
    show c.toNat=42 ↔ _
    omega
  unfold Bare.smlB
  rw [h42]
  have ha:decide (97 ≤ c.toNat)=decide (97 ≤ (c.toNat:Int)):=decide_eq_decide.2 (by omega)
  have hb:decide (c.toNat ≤ 122)=decide ((c.toNat:Int) ≤ 122):=decide_eq_decide.2 (by omega)
  rw [ha,hb]
  have hlt:=UInt8.toNat_lt c
  obtain ⟨n,hn⟩:∃ n,c.toNat=n:=⟨_,rfl⟩
  rw [hn] at *
  clear h42 ha hb hn
  by_cases h1:97 ≤ (n:Int) <;> by_cases h2:(n:Int) ≤ 122 <;> by_cases h3:(n:Int)=42
  all_goals
    first
    | omega
    | (simp only [h1,h2,h3,decide_true,decide_false,Bool.and_true,Bool.or_true,Bool.true_and,Bool.false_and,Bool.and_false,Bool.or_false,Bool.true_or,Bool.false_or]
       go_enter Tryz.func75,Tryz.ntmps75
       go_wp2_with fail
       go_ret
       refine ⟨?_,rfl⟩
       first | rfl | simp [h3])
theorem key_any (s:ByteArray) (w:World) (hs:s.size ≤ 9223372036854775807) :
    Calls Tryz.prog 32 #[.string s] w fun e w'=>e = .returned (.bool (Bare.keyB (bl s)))∧New w w':=by
  have HB:=Lib.hid (keyB_at (bl s))
  obtain ⟨r,hr⟩:∃ r,Bare.keyB (bl s)=r:=⟨_,rfl⟩
  rw [hr] at HB ⊢
  clear hr
  have hcv:=Lib.run_convert_string_bytes (P:=Tryz.prog) w 9 113 5 s Tryz.underlying9 Tryz.underlying113 Tryz.underlying5
  have hN:New w (Lib.bytesWorld w 5 s):=by
    refine ⟨rfl,rfl,rfl,by rw [Lib.bytesWorld_size];omega,fun k o hk _=>?_⟩
    rw [Lib.bytesWorld_at_old w 5 s k (Array.getElem?_eq_some_iff.1 hk).1];exact hk
  have hcell:Hid (∀ k,k < s.size→(Lib.bytesWorld w 5 s).cell? ⟨w.heap.size,k,none⟩=some (.int .u8 ((gb s k).toNat:Nat))):=Lib.hid fun k hk=>Lib.bytesWorld_cell w 5 s k hk
  obtain ⟨W,hW⟩:∃ W,Lib.bytesWorld w 5 s=W:=⟨_,rfl⟩
  obtain ⟨B,hB⟩:∃ B,w.heap.size=B:=⟨_,rfl⟩
  obtain ⟨C,hC⟩:∃ C,grownCap w s.size 0 5=C:=⟨_,rfl⟩
  rw [hW,hB,hC] at hcv
  rw [hW] at hN
  rw [hW,hB] at hcell
  clear hW hB hC
  go_enter Tryz.func32,Tryz.ntmps32
  go_wp2_with fail
  go_loop [9] (fun c=>∃ k:Nat,k ≤ s.size∧c = .int .i64 k∧Hid (∀ j,j < k→keyAt j (gb s j)=true)) (fun c=>s.size - (intOf c).toNat)
  case atStart=>exact ⟨0,Nat.zero_le _,rfl,Lib.hid fun i hi=>by omega⟩
  case round =>
    obtain ⟨k,hk,rfl,hbef⟩:=hrel
    by_cases hlt:k < s.size
    · have hkd:decide ((k:Int) < (s.size:Int))=true:=decide_eq_true (by omega)
      have hix:=hcell.out k hlt
      have hnext:keyAt k (gb s k)=true→Hid (∀ j,j < k + 1→keyAt j (gb s j)=true):=fun hg=>Lib.hid fun i hi=>by
        by_cases hik:i < k
        · exact hbef.out i hik
        · obtain rfl:i=k:=by omega
          exact hg
      have hstop:keyAt k (gb s k)=false→r=false:=fun hg=>by
        rw [Bool.eq_false_iff]
        intro h
        have:=(HB.out.1 h).2 k _ (gb_get s k hlt)
        rw [hg] at this;cases this
      have Hbad:=Lib.hid (key_bad k (gb s k))
      have HL:=Lib.hid (small_any (gb s k))
      have eg:∀ args w,(callFunc 75 args).run Tryz.prog w = .ok (.enter 75 args) w:=enters_of Tryz.func75 (by kernel_rfl) rfl
      have Ho:=keyM_o (gb s k)
      have hback:((gb s k).toNat:Int).toNat.toUInt8=gb s k:=by simp
      have hk0:(k == 0)=decide ((k:Int)=0):=by
        rw [Bool.eq_iff_iff,beq_iff_eq,decide_eq_true_eq];omega
      have hA0:decide ((gb s k).toNat < 48)=decide (((gb s k).toNat:Int) < 48):=decide_eq_decide.2 (by omega)
      have hB0:decide (57 < (gb s k).toNat)=decide (57 < ((gb s k).toNat:Int)):=decide_eq_decide.2 (by omega)
      rw [hk0,hA0,hB0] at Hbad
      clear hbef hk0 hA0 hB0
      have HK:∀ W,Calls Tryz.prog 76 #[.string ⟨#[95,45,46]⟩,.int .u8 ((gb s k).toNat:Nat)] W fun e w'=>e = .returned (.int .i64 (Lib.indexByte keyM (gb s k)))∧w'=W:=fun W =>
        (Tryz.strings_IndexByte _ _ W).mono (by rintro e w' ⟨rfl,hw⟩;rw [hback];exact ⟨rfl,hw⟩)
      have HK:=Lib.hid HK
      obtain ⟨o,ho⟩:∃ o,Lib.indexByte keyM (gb s k)=o:=⟨_,rfl⟩
      rw [ho] at HK Ho
      obtain ⟨T,hT⟩:∃ x,keyAt k (gb s k)=x:=⟨_,rfl⟩
      obtain ⟨L,hL⟩:∃ x,Bare.smlB (gb s k)=x:=⟨_,rfl⟩
      obtain ⟨M,hM⟩:∃ x,keyM.contains (gb s k)=x:=⟨_,rfl⟩
      rw [hT] at Hbad hnext hstop
      rw [hL] at Hbad HL
      rw [hM] at Hbad Ho
      obtain ⟨n,hn⟩:∃ x,(gb s k).toNat=x:=⟨_,rfl⟩
      rw [hn] at HL HK Hbad hix
      clear ho hT hL hM hn hback
      obtain ⟨D,hD⟩:∃ x,decide ((n:Int) < 48)=x:=⟨_,rfl⟩
      obtain ⟨E,hE⟩:∃ x,decide (57 < (n:Int))=x:=⟨_,rfl⟩
      obtain ⟨Z,hZ⟩:∃ x,decide ((k:Int)=0)=x:=⟨_,rfl⟩
      have hZ2:((k:Int) == 0)=Z:=hZ
      rw [hE,hZ,hD] at Hbad
      have hcase:(L=true∧T=true) ∨ (L=false∧Z=true∧T=false) ∨ (L=false∧Z=false∧D=false∧E=false∧T=true) ∨ (L=false∧Z=false∧D=true∧M=true∧T=true) ∨ (L=false∧Z=false∧D=true∧M=false∧T=false) ∨ (L=false∧Z=false∧D=false∧E=true∧M=true∧T=true) ∨ (L=false∧Z=false∧D=false∧E=true∧M=false∧T=false):=by
        have:=Hbad.out
        revert this
        cases L <;> cases E <;> cases Z <;> cases D <;> cases M <;> cases T <;> simp
      clear Hbad
      rcases hcase with ⟨rfl,rfl⟩ | ⟨rfl,rfl,rfl⟩ | ⟨rfl,rfl,rfl,rfl,rfl⟩ | ⟨rfl,rfl,rfl,rfl,rfl⟩ | ⟨rfl,rfl,rfl,rfl,rfl⟩ | ⟨rfl,rfl,rfl,rfl,rfl,rfl⟩ | ⟨rfl,rfl,rfl,rfl,rfl,rfl⟩
      all_goals
        try simp only [Bool.not_true,Bool.not_false] at Ho
        first
        | (have hh:=hnext rfl
           clear hnext hstop
           go_wp2_with (first | (go_at_call 75;refine (HL.out _).mono ?_;rintro e w' ⟨rfl,rfl⟩) | (go_at_call 76;refine (HK.out _).mono ?_;rintro e w' ⟨rfl,rfl⟩))
           go_round
           case rel=>exact ⟨k + 1,by omega,by go_num,hh⟩
           case measure=>simp [intOf];omega)
        | (have hh:=hstop rfl
           clear hnext hstop
           subst hh
           go_wp2_with (first | (go_at_call 75;refine (HL.out _).mono ?_;rintro e w' ⟨rfl,rfl⟩) | (go_at_call 76;refine (HK.out _).mono ?_;rintro e w' ⟨rfl,rfl⟩))
           go_ret
           exact ⟨rfl,hN⟩)
    · obtain rfl:k=s.size:=by omega
      have hkd:decide ((s.size:Int) < (s.size:Int))=false:=decide_eq_false (by omega)
      have hr:r=decide (s.size ≠ 0):=by
        rw [Bool.eq_iff_iff,HB.out,decide_eq_true_eq]
        have hl:=bl_len s
        constructor
        · rintro ⟨h,-⟩ h0
          exact h (List.length_eq_zero_iff.1 (by omega))
        · intro h
          refine ⟨fun e=>h (by rw [← hl,e];rfl),fun k c hk=>?_⟩
          obtain ⟨h1,rfl⟩:=get_gb hk
          exact hbef.out k h1
      have hq':=empty_toList s
      have hr2:r = !decide (s.size=0):=by rw [hr,← decide_not]
      obtain ⟨z,hz⟩:∃ z,decide (s.size=0)=z:=⟨_,rfl⟩
      rw [hz] at hq' hr2
      clear hz hr HB hbef
      subst hr2
      go_wp2_with fail
      go_ret
      exact ⟨by simp [hq'],hN⟩


def PredF (g:Nat) (lb:Array Value) (n:Nat) (f:Nat→List Value) (ok:World→Prop) (p:Nat→Bool):Prop :=
 ∀ i W,i < n→ok W→Calls Tryz.prog g (#[.agg (f i).toArray] ++ lb) W fun e w'=>e = .returned (.bool (p i))∧New W w'
def firstFrom (p:Nat→Bool) (n:Nat):Int:=match (List.range n).find? p with
 | some i=>(i:Int)
 | none=>-1
theorem first_at (p:Nat→Bool) (n:Nat) (k:Nat) (hk:k < n) (h:∀ j,j < k→p j=false) (hp:p k=true):firstFrom p n=k:=by
 have:(List.range n).find? p=some k:=by
  rw [List.find?_eq_some_iff_getElem]
  refine ⟨hp,k,by simpa using hk,by simp,fun j hj=>?_⟩
  simp [h j hj]
 unfold firstFrom
 rw [this]
theorem first_none (p:Nat→Bool) (n:Nat) (h:∀ j,j < n→p j=false):firstFrom p n = -1:=by
 have:(List.range n).find? p=none:=by
  rw [List.find?_eq_none]
  intro x hx
  rw [h x (List.mem_range.1 hx)]
  decide
 unfold firstFrom
 rw [this]
theorem index_P (g:Nat) (lb:Array Value) (n:Nat) (c:Nat→Nat→Value) (ok:World→Prop) (hok:∀ W W',ok W→New W W'→ok W') (p:Nat→Bool) (hg:PredF g lb n (fun i=>[c i 0,c i 1,c i 2,c i 3,c i 4]) ok p) (eg:∀ args w,(callFunc g args).run Tryz.prog w = .ok (.enter g args) w) (v:Value) (w:World) (hv:RowR w v n 5 (fun i=>[c i 0,c i 1,c i 2,c i 3,c i 4])) (ho:ok w) :
  Calls Tryz.prog 155 #[v,.func (.func g) #[] lb] w fun e w'=>e = .returned (.int .i64 (firstFrom p n))∧New w w':=by
 have HG:=Lib.hid hg
 have HV:=Lib.hid hv
 have HO:=Lib.hid ho
 have HB:=Lib.hid (first_at p n)
 have HE:=Lib.hid (first_none p n)
 obtain ⟨ao,cap,rfl⟩:=hv.slice
 have hn:n ≤ 281474976710656:=hv.1
 clear hg hv ho
 obtain ⟨r,hr⟩:∃ r,firstFrom p n=r:=⟨_,rfl⟩
 rw [hr] at HB HE ⊢
 clear hr
 have hN0:New w w:=Mods.refl _ _
 go_enter Tryz.func155,Tryz.ntmps155
 go_wp2_with fail
 go_loopw [8] (fun t wr=>∃ k:Nat,k ≤ n∧t = .int .i64 k∧Hid (∀ j,j < k→p j=false)∧New w wr) (fun t _=>n - (intOf t).toNat)
 case atStart=>exact ⟨0,Nat.zero_le _,rfl,Lib.hid fun i hi=>by omega,hN0⟩
 case round =>
  obtain ⟨k,hk,rfl,hbef,hN⟩:=hrel
  by_cases hlt:k < n
  ·have hkd:decide ((k:Int) < (n:Int))=true:=decide_eq_true (by omega)
   obtain ⟨b,o,rfl,hrow⟩:=(HV.out.new hN).at.2.2 k hlt
   obtain ⟨k0,k1,k2,k3,k4⟩:=cells5 hrow
   have HP:=Lib.hid (HG.out k wr hlt (hok _ _ HO.out hN))
   clear hrow HV HG
   cases hp:p k with
   | false =>
    have hh:Hid (∀ j,j < k + 1→p j=false):=Lib.hid fun i hi=>by
     by_cases hik:i < k
     ·exact hbef.out i hik
     ·obtain rfl:i=k:=by omega
      exact hp
    rw [hp] at HP
    clear hp hbef HB HE
    go_wp2_with fail
    refine HP.out.mono ?_
    rintro e w' ⟨rfl,hN'⟩
    have hN2:=hN.trans hN'
    clear hN hN'
    go_wp2_with fail
    go_round
    case rel=>exact ⟨k + 1,by omega,by go_num,hh,hN2⟩
    case measure=>simp [intOf];omega
   | true =>
    obtain rfl:r=k:=HB.out k hlt hbef.out hp
    rw [hp] at HP
    clear hp hbef HB HE
    go_wp2_with fail
    refine HP.out.mono ?_
    rintro e w' ⟨rfl,hN'⟩
    have hN2:=hN.trans hN'
    clear hN hN'
    go_wp2_with fail
    go_ret
    exact ⟨rfl,hN2⟩
  ·obtain rfl:k=n:=by omega
   have hkd:decide ((k:Int) < (k:Int))=false:=decide_eq_false (by omega)
   obtain rfl:r = -1:=HE.out hbef.out
   clear HB HE hbef
   go_wp2_with fail
   go_ret
   exact ⟨rfl,hN⟩
theorem index_M (g:Nat) (lb:Array Value) (n:Nat) (c:Nat→Nat→Value) (ok:World→Prop) (hok:∀ W W',ok W→New W W'→ok W') (p:Nat→Bool) (hg:PredF g lb n (fun i=>[c i 0,c i 1,c i 2,c i 3]) ok p) (eg:∀ args w,(callFunc g args).run Tryz.prog w = .ok (.enter g args) w) (v:Value) (w:World) (hv:RowR w v n 4 (fun i=>[c i 0,c i 1,c i 2,c i 3])) (ho:ok w) :
  Calls Tryz.prog 71 #[v,.func (.func g) #[] lb] w fun e w'=>e = .returned (.int .i64 (firstFrom p n))∧New w w':=by
 have HG:=Lib.hid hg
 have HV:=Lib.hid hv
 have HO:=Lib.hid ho
 have HB:=Lib.hid (first_at p n)
 have HE:=Lib.hid (first_none p n)
 obtain ⟨ao,cap,rfl⟩:=hv.slice
 have hn:n ≤ 281474976710656:=hv.1
 clear hg hv ho
 obtain ⟨r,hr⟩:∃ r,firstFrom p n=r:=⟨_,rfl⟩
 rw [hr] at HB HE ⊢
 clear hr
 have hN0:New w w:=Mods.refl _ _
 go_enter Tryz.func71,Tryz.ntmps71
 go_wp2_with fail
 go_loopw [8] (fun t wr=>∃ k:Nat,k ≤ n∧t = .int .i64 k∧Hid (∀ j,j < k→p j=false)∧New w wr) (fun t _=>n - (intOf t).toNat)
 case atStart=>exact ⟨0,Nat.zero_le _,rfl,Lib.hid fun i hi=>by omega,hN0⟩
 case round =>
  obtain ⟨k,hk,rfl,hbef,hN⟩:=hrel
  by_cases hlt:k < n
  ·have hkd:decide ((k:Int) < (n:Int))=true:=decide_eq_true (by omega)
   obtain ⟨b,o,rfl,hrow⟩:=(HV.out.new hN).at.2.2 k hlt
   obtain ⟨k0,k1,k2,k3⟩:=cells4 hrow
   have HP:=Lib.hid (HG.out k wr hlt (hok _ _ HO.out hN))
   clear hrow HV HG
   cases hp:p k with
   | false =>
    have hh:Hid (∀ j,j < k + 1→p j=false):=Lib.hid fun i hi=>by
     by_cases hik:i < k
     ·exact hbef.out i hik
     ·obtain rfl:i=k:=by omega
      exact hp
    rw [hp] at HP
    clear hp hbef HB HE
    go_wp2_with fail
    refine HP.out.mono ?_
    rintro e w' ⟨rfl,hN'⟩
    have hN2:=hN.trans hN'
    clear hN hN'
    go_wp2_with fail
    go_round
    case rel=>exact ⟨k + 1,by omega,by go_num,hh,hN2⟩
    case measure=>simp [intOf];omega
   | true =>
    obtain rfl:r=k:=HB.out k hlt hbef.out hp
    rw [hp] at HP
    clear hp hbef HB HE
    go_wp2_with fail
    refine HP.out.mono ?_
    rintro e w' ⟨rfl,hN'⟩
    have hN2:=hN.trans hN'
    clear hN hN'
    go_wp2_with fail
    go_ret
    exact ⟨rfl,hN2⟩
  ·obtain rfl:k=n:=by omega
   have hkd:decide ((k:Int) < (k:Int))=false:=decide_eq_false (by omega)
   obtain rfl:r = -1:=HE.out hbef.out
   clear HB HE hbef
   go_wp2_with fail
   go_ret
   exact ⟨rfl,hN⟩
end Go.Proofs.YtkiiameibdhdfaaGreatDoor
namespace Go.Cs
open Go.RowKit
structure ModsM (S:Nat→Prop) (M:Nat) (w w':World):Prop where
 os:w'.os=w.os
 tape:w'.tape=w.tape
 output:w'.output=w.output
 size:w.heap.size ≤ w'.heap.size
 block:∀ k o,w.heap[k]? = some o→k ≠ M→(¬ S k ∨ o.isCells=false)→w'.heap[k]? = some o
theorem ModsM.refl (S:Nat→Prop) (M:Nat) (w:World):ModsM S M w w:=⟨rfl,rfl,rfl,Nat.le_refl _,fun _ _ h _ _=>h⟩
theorem ModsM.trans {S:Nat→Prop} {M:Nat} {a b c:World} (h:ModsM S M a b) (k:ModsM S M b c):ModsM S M a c :=
 ⟨k.os.trans h.os,k.tape.trans h.tape,k.output.trans h.output,Nat.le_trans h.size k.size,fun i o hi hm ho=>k.block i o (h.block i o hi hm ho) hm ho⟩
theorem ModsM.putObj {S:Nat→Prop} {M:Nat} {a w:World} (h:ModsM S M a w) (o:Obj):ModsM S M a (w.putObj M o) :=
 ⟨h.os,h.tape,h.output,by simpa using h.size,fun k o' hk hm ho=>(World.putObj_heap_other hm).trans (h.block k o' hk hm ho)⟩
theorem ModsM.heap {S:Nat→Prop} {M:Nat} {w w':World} (h:ModsM S M w w') {k:Nat} {o:Obj} (hk:w.heap[k]? = some o) (hM:k ≠ M) (hS:¬ S k):w'.heap[k]? = some o:=h.block k o hk hM (.inl hS)
theorem ModsM.new {M:Nat} {a b:World} (h:ModsM (fun _=>False) M a b) (hM:a.heap.size ≤ M):New a b :=
 ⟨h.os,h.tape,h.output,h.size,fun i o hi _=>h.block i o hi (by have:=(Array.getElem?_eq_some_iff.1 hi).1;omega) (.inl id)⟩
theorem ModsM.cell {S:Nat→Prop} {M:Nat} {w w':World} (h:ModsM S M w w') {p:Addr} {v:Value} (hc:w.cell? p=some v) (hM:p.block ≠ M) (hS:¬ S p.block):w'.cell? p=some v:=by
 obtain ⟨o,ho,_⟩:=cells_of_cell hc
 exact (World.cell?_of_block (w:=w) ((h.heap ho hM hS).trans ho.symm)).trans hc
variable {P:Program}
end Go.Cs
namespace Go.Cs
open Go.RowKit
variable {P:Program}
end Go.Cs
namespace Go.Proofs.YtkiiameibdhdfaaGreatDoor
open Go.RowKit Go.Shelf Go.Cs
attribute [local go_sem] Oper.semAt_some


theorem _root_.Go.Cs.ModsM.mono {S T:Nat→Prop} {M:Nat} {a b:World} (h:ModsM S M a b) (hST:∀ k,S k→T k):ModsM T M a b :=
 ⟨h.os,h.tape,h.output,h.size,fun i o hi hm ho=>h.block i o hi hm (ho.imp (fun n m=>n (hST _ m)) id)⟩
theorem RowR.lt {W:World} {v:Value} {n sz:Nat} {c:Nat→Value} {f:Nat→List Value} (h:RowR W v n sz (fun i=>c i::f i)) (h0:0 < n) {g:Nat} (hg:v.ownBlock=some g):g < W.heap.size:=by
 obtain ⟨hl,ao,cap,rfl,hc⟩:=h
 obtain ⟨b,o,rfl,hr⟩:=hc 0 h0
 cases hg
 obtain ⟨ob,ho,_⟩:=cells_of_cell (hr 0 (c 0) rfl)
 exact (Array.getElem?_eq_some_iff.1 ho).1


theorem aloneB_iff:∀ L:List Bare.Bs,Bare.aloneB L=true ↔ L.Nodup∧∀ k ∈ L,Bare.keyB k=true
 | []=>by simp [Bare.aloneB]
 | k::r=>by
  have ih:=aloneB_iff r
  simp only [Bare.aloneB,Bool.and_eq_true,Bool.not_eq_true',ih,List.nodup_cons,List.mem_cons,forall_eq_or_imp]
  constructor
  ·rintro ⟨h1,h2,h3,h4⟩
   exact ⟨⟨by simpa using h2,h3⟩,h1,h4⟩
  ·rintro ⟨⟨h2,h3⟩,h1,h4⟩
   exact ⟨h1,by simpa using h2,h3,h4⟩
def AlTo (L:List Bare.Bs) (k:Nat):Prop:=(L.take k).Nodup∧∀ x ∈ L.take k,Bare.keyB x=true
theorem AlTo.step {L:List Bare.Bs} {k:Nat} {x:Bare.Bs} (h:AlTo L k) (hx:L[k]? = some x) (h1:x ∉ L.take k) (h2:Bare.keyB x=true):AlTo L (k + 1):=by
 have e:L.take (k + 1)=L.take k ++ [x]:=by rw [List.take_add_one,hx];rfl
 unfold AlTo
 rw [e]
 refine ⟨?_,fun y hy=>?_⟩
 ·rw [List.nodup_append]
  exact ⟨h.1,by simp,fun a ha b hb=>by simp at hb;subst hb;rintro rfl;exact h1 ha⟩
 ·rcases List.mem_append.1 hy with hy | hy
  ·exact h.2 y hy
  ·simp at hy;subst hy;exact h2
theorem AlTo.all {L:List Bare.Bs} (h:AlTo L L.length):Bare.aloneB L=true:=by
 unfold AlTo at h
 rw [List.take_length] at h
 exact (aloneB_iff L).2 h


theorem yes_any (w:World):Calls Tryz.prog 98 #[] w fun e w'=>e = .returned (bv Bare.yesI)∧New w w':=by
 unfold bv bcs Bare.yesI
 simp only
 go_enter Tryz.func98,Tryz.ntmps98
 go_wp2_with fail
 have hr:=World.alloc_heap_new w (.cells #[.int .u8 6,.int .i64 0,.string ⟨#[]⟩,.bool true] 66)
 refine bodyPost_ret (v:=.agg #[.int .u8 6,.int .i64 0,.string ⟨#[]⟩,.bool true]) (results_cell_row rfl _ _ w.heap.size 66 _ (0,0) _ rfl hr Tryz.underlying66 rfl info_bare) rfl ?_
 exact ⟨rfl,(Mods.refl _ _).alloc _⟩


def Rdr (W:World) (R:Nat) (s:Bare.Bs) (bad:Bool):Prop:=W.heap[R]? = some (.cells #[.string (tx s),.bool bad] 105 (0,0))
abbrev ModR (R:Nat) (w w':World):Prop:=Mods (fun b=>b=R) w w'
theorem Rdr.facts {W:World} {R:Nat} {s:Bare.Bs} {bad:Bool} (h:Rdr W R s bad):(W.cell? ⟨R,0,none⟩=some (.string (tx s))∧W.cell? ⟨R,1,none⟩=some (.bool bad))∧W.frozen? ⟨R,0,none⟩=false∧W.frozen? ⟨R,1,none⟩=false :=
 ⟨⟨cell_of_row _ _ 0 _ _ _ h,cell_of_row _ _ 1 _ _ _ h⟩,frozen_row (i:=0) h,frozen_row (i:=1) h⟩
theorem Rdr.new {W W':World} {R:Nat} {s:Bare.Bs} {bad:Bool} (h:Rdr W R s bad) (hN:New W W'):Rdr W' R s bad:=hN.heap h id
theorem Rdr.lt {W:World} {R:Nat} {s:Bare.Bs} {bad:Bool} (h:Rdr W R s bad):R < W.heap.size:=(Array.getElem?_eq_some_iff.1 h).1
theorem Rdr.set0 {W:World} {R:Nat} {s:Bare.Bs} {bad:Bool} (h:Rdr W R s bad) (s':Bare.Bs):Rdr (W.setCell ⟨R,0,none⟩ (.string (tx s'))) R s' bad:=setCell_heap h _
theorem Rdr.set1 {W:World} {R:Nat} {s:Bare.Bs} {bad:Bool} (h:Rdr W R s bad) (b:Bool):Rdr (W.setCell ⟨R,1,none⟩ (.bool b)) R s b:=setCell_heap h _
theorem ModR.refl (R:Nat) (w:World):ModR R w w:=Mods.refl _ w
theorem ModR.set (W:World) (R o:Nat) (u:Value):ModR R W (W.setCell ⟨R,o,none⟩ u):=setMods W R o u
theorem see_any (R:Nat) (s c:Bare.Bs) (bad:Bool) (w:World) (h:Rdr w R s bad) :
  Calls Tryz.prog 121 #[.pointer (some ⟨R,0,none⟩),.string (tx c)] w fun e w'=>e = .returned (.bool (Lib.hasPrefix s c))∧Rdr w' R (Lib.trimPrefix s c) bad∧ModR R w w':=by
 obtain ⟨⟨c0,c1⟩,f0,f1⟩:=h.facts
 have HC:=Lib.hid (Tryz.strings_CutPrefix (tx s) (tx c) w)
 obtain ⟨S,hS⟩:∃ x,tx s=x:=⟨_,rfl⟩
 obtain ⟨C,hC⟩:∃ x,tx c=x:=⟨_,rfl⟩
 obtain ⟨b,hb⟩:∃ x,Lib.hasPrefix s c=x:=⟨_,rfl⟩
 have e1:Lib.hasPrefix (tx s).data.toList (tx c).data.toList=b:=hb
 rw [e1] at HC
 have H:=Lib.hid (h.set0 (Lib.trimPrefix s c))
 have e2:(⟨(Lib.trimPrefix (tx s).data.toList (tx c).data.toList).toArray⟩:ByteArray)=tx (Lib.trimPrefix s c):=rfl
 rw [e2] at HC
 obtain ⟨T,hT⟩:∃ x,tx (Lib.trimPrefix s c)=x:=⟨_,rfl⟩
 rw [hT] at HC H
 rw [hS] at c0 HC
 rw [hC] at HC ⊢
 rw [hb]
 clear e1 e2 hb hS hC hT h
 go_enter Tryz.func121,Tryz.ntmps121
 go_wp2_with fail
 refine HC.out.mono ?_
 rintro e w' ⟨rfl,rfl⟩
 go_wp2_with fail
 go_ret
 exact ⟨rfl,H.out,ModR.set _ _ _ _⟩
theorem infoA:(Tryz.prog.info? 165).map (fun i=>(i.zero,i.size))=some (some (.agg (Array.replicate 256 (.bool false))),256):=by kernel_rfl
theorem trimLeft_any (s c:Bare.Bs) (hc:c.length ≤ 100) (ha:∀ b ∈ c,b.toNat < 128) (w:World) :
  Calls Tryz.prog 164 #[.string (tx s),.string (tx c)] w fun e w'=>e = .returned (.string (tx (Bare.skipB c s)))∧New w w' :=
 (Any.strings_TrimLeft_laid Tryz.lays161 infoA (tx s) (tx c) w (by rw [tx_size];omega) (fun j b hb=>ha b (List.mem_of_getElem? hb))).mono fun e w' ⟨he,hB⟩=>⟨he,Mods.below hB (Nat.le_refl _)⟩
theorem skip_any (R:Nat) (s c:Bare.Bs) (bad:Bool) (w:World) (hc:c.length ≤ 100) (ha:∀ b ∈ c,b.toNat < 128) (h:Rdr w R s bad) :
  Calls Tryz.prog 120 #[.pointer (some ⟨R,0,none⟩),.string (tx c)] w fun e w'=>(∃ v,e = .returned v)∧Rdr w' R (Bare.skipB c s) bad∧ModR R w w':=by
 obtain ⟨⟨c0,c1⟩,f0,f1⟩:=h.facts
 have HC:=Lib.hid (trimLeft_any s c hc ha w)
 have Hr:=Lib.hid h
 obtain ⟨S,hS⟩:∃ x,tx s=x:=⟨_,rfl⟩
 obtain ⟨C,hC⟩:∃ x,tx c=x:=⟨_,rfl⟩
 rw [hS] at c0 HC
 rw [hC] at HC ⊢
 clear h
 go_enter Tryz.func120,Tryz.ntmps120
 go_wp2_with fail
 refine HC.out.mono ?_
 rintro e w' ⟨rfl,hN⟩
 have H:=Lib.hid ((Hr.out.new hN).set0 (Bare.skipB c s))
 obtain ⟨⟨d0,d1⟩,g0,g1⟩:=(Hr.out.new hN).facts
 obtain ⟨T,hT⟩:∃ x,tx (Bare.skipB c s)=x:=⟨_,rfl⟩
 rw [hT] at H ⊢
 rw [hS] at d0
 go_wp2_with fail
 go_end0
 exact ⟨⟨_,rfl⟩,H.out,(Mods.ofNew hN).trans (ModR.set _ _ _ _)⟩
theorem keyOf_upto:∀ (s:Bare.Bs) (n:Nat),n ≤ s.length→(∀ j,j < n→∀ c,s[j]? = some c→keyAt j c=true)→(∀ c,s[n]? = some c→keyAt n c=false)→Bare.keyOf s=s.take n
 | [],n,hn,_,_=>by
  obtain rfl:n=0:=by simpa using hn
  rfl
 | a::r,0,_,_,h2=>by
  have:=h2 a rfl
  have e:Bare.smlB a=false:=this
  simp [Bare.keyOf,e]
 | a::r,n + 1,hn,h1,h2=>by
  have e:Bare.smlB a=true:=h1 0 (by omega) a rfl
  have hw:=Bare.while_at Bare.inKey r n (by simpa using hn) (fun j hj c hc=>by
   have:=h1 (j + 1) (by omega) c (by simpa using hc)
   simpa [keyAt] using this) (fun c hc=>by
   have:=h2 c (by simpa using hc)
   simpa [keyAt] using this)
  simp only [Bare.keyOf,e,if_true,List.take_succ_cons]
  have:=Bare.takeWhile_take Bare.inKey r
  rw [hw] at this
  rw [this]


theorem key_r (R:Nat) (s:Bare.Bs) (bad:Bool) (w:World) (hl:s.length ≤ 1000000) (h:Rdr w R s bad) :
  Calls Tryz.prog 160 #[.pointer (some ⟨R,0,none⟩)] w fun e w'=>e = .returned (.string (tx (Bare.keyOf s)))∧Rdr w' R (s.drop (Bare.keyOf s).length) (bad || (Bare.keyOf s).isEmpty)∧ModR R w w':=by
 obtain ⟨kq,hkq0⟩:∃ x,Bare.keyOf s=x:=⟨_,rfl⟩
 have HKq:=Lib.hid hkq0
 rw [hkq0]
 clear hkq0
 have Hr:=Lib.hid h
 have hS0:(tx s).size=s.length:=tx_size s
 obtain ⟨S,hS⟩:∃ x,tx s=x:=⟨_,rfl⟩
 have Hs:Hid (s=bl S):=Lib.hid (by rw [← hS])
 have HS:=Lib.hid hS
 rw [hS] at hS0
 have hN0:New w w:=Mods.refl _ _
 have HKey:Hid (∀ n W,n < s.length→(∀ j,j < n→keyAt j (gb S j)=true)→Calls Tryz.prog 32 #[.string (tx (s.take (n + 1)))] W fun e w'=>e = .returned (.bool (keyAt n (gb S n)))∧New W w'):=Lib.hid fun n W hn hb=>by
  refine (key_any (tx (s.take (n + 1))) W (by rw [tx_size,List.length_take];omega)).mono fun e w' ⟨he,hN⟩=>⟨?_,hN⟩
  rw [he,bl_tx]
  congr 2
  have hg:∀ j,j < n + 1→(s.take (n + 1))[j]? = some (gb S j):=fun j hj=>by
   have:=gb_get S j (by omega)
   rw [← Hs.out] at this
   rw [List.getElem?_take,if_pos hj];exact this
  rw [Bool.eq_iff_iff,keyB_at]
  constructor
  ·rintro ⟨-,h⟩
   exact h n _ (hg n (by omega))
  ·intro h
   refine ⟨fun e=>?_,fun k c hk=>?_⟩
   ·have:=congrArg List.length e
    rw [List.length_take,List.length_nil] at this
    omega
   ·have hk':k < n + 1:=by
     have:=(List.getElem?_eq_some_iff.1 hk).1
     rw [List.length_take] at this;omega
    rw [hg k hk'] at hk
    cases hk
    by_cases e:k=n
    ·subst e;exact h
    ·exact hb k (by omega)
 clear h
 go_enter Tryz.func160,Tryz.ntmps160
 go_wp2_with fail
 go_loopw [3] (fun t wr=>∃ n:Nat,n ≤ s.length∧t = .int .i64 n∧Hid (∀ j,j < n→keyAt j (gb S j)=true)∧New w wr) (fun t _=>s.length - (intOf t).toNat)
 case atStart=>exact ⟨0,Nat.zero_le _,rfl,Lib.hid fun i hi=>by omega,hN0⟩
 case round =>
  clear hN0
  obtain ⟨n,hn,rfl,hbef,hN⟩:=hrel
  have hrd:=Lib.hid (Hr.out.new hN)
  obtain ⟨⟨c0,c1⟩,f0,f1⟩:=hrd.out.facts
  rw [HS.out] at c0
  by_cases hlt:n < s.length
  ·have hkd:decide ((n:Int) < (S.size:Int))=true:=decide_eq_true (by omega)
   have hsl:∀ W,(Instr.slice 9 (.string S) none (some (.int .i64 ((n:Int) + 1))) none).run Tryz.prog W = .ok (.string (tx (s.take (n + 1)))) W:=fun W=>by have:=run_sl_h S (n + 1) (by omega) W;rwa [← Hs.out] at this
   have HK:=Lib.hid (fun W=>HKey.out n W hlt hbef.out)
   obtain ⟨P,hP⟩:∃ x,tx (s.take (n + 1))=x:=⟨_,rfl⟩
   rw [hP] at hsl HK
   clear HKey hP
   cases hT:keyAt n (gb S n) with
   | true =>
    rw [hT] at HK
    have hh:Hid (∀ j,j < n + 1→keyAt j (gb S j)=true):=Lib.hid fun i hi=>by
     by_cases hik:i < n
     ·exact hbef.out i hik
     ·obtain rfl:i=n:=by omega
      exact hT
    clear hbef hT
    go_wp2_with (go_at_call 32;refine (HK.out _).mono ?_;rintro e w' ⟨rfl,hN'⟩)
    go_roundw
    case rel=>exact ⟨n + 1,by omega,by go_num,hh,hN.trans hN'⟩
    case measure=>simp [intOf];omega
   | false =>
    rw [hT] at HK
    have Hk:=Lib.hid (keyOf_upto s n (by omega) (fun j hj c hc=>by
     have e:(bl S)[j]? = some c:=by rw [← Hs.out];exact hc
     obtain ⟨_,rfl⟩:=get_gb e
     exact hbef.out j hj) (fun c hc=>by
      have e:(bl S)[n]? = some c:=by rw [← Hs.out];exact hc
      obtain ⟨_,rfl⟩:=get_gb e
      exact hT))
    have hlen:(s.take n).length=n:=by rw [List.length_take];omega
    have hsl1:∀ W,(Instr.slice 9 (.string S) none (some (.int .i64 (n:Int))) none).run Tryz.prog W = .ok (.string (tx (s.take n))) W:=fun W=>by have:=run_sl_h S n (by omega) W;rwa [← Hs.out] at this
    have hsl2:∀ W,(Instr.slice 9 (.string S) (some (.int .i64 (n:Int))) none none).run Tryz.prog W = .ok (.string (tx (s.drop n))) W:=fun W=>by have:=run_sl_l S n (by omega) W;rwa [← Hs.out] at this
    have hz:((n:Int) == 0)=decide (n=0):=by
     rw [Bool.eq_iff_iff,beq_iff_eq,decide_eq_true_eq];omega
    have hez:(s.take n).isEmpty=decide (n=0):=by
     rw [Bool.eq_iff_iff,List.isEmpty_iff,decide_eq_true_eq,← List.length_eq_zero_iff,hlen]
    have Hkq:Hid (kq=s.take n):=Lib.hid (by rw [← HKq.out,Hk.out])
    have Hez:=Lib.hid hez
    have Hlen:=Lib.hid hlen
    obtain ⟨z,hze⟩:∃ z,decide (n=0)=z:=⟨_,rfl⟩
    have Hze:=Lib.hid hze
    rw [hze] at hz
    obtain ⟨K,hK⟩:∃ x,tx (s.take n)=x:=⟨_,rfl⟩
    obtain ⟨D,hD⟩:∃ x,tx (s.drop n)=x:=⟨_,rfl⟩
    have HK':=Lib.hid hK
    rw [hK] at hsl1
    have HD:=Lib.hid hD
    rw [hD] at hsl2
    clear hze hez hK hD hbef Hk hlen
    go_upto_region 5 with (go_at_call 32;refine (HK.out _).mono ?_;rintro e w' ⟨rfl,hN'⟩;have hrd:=Lib.hid (hrd.out.new hN');obtain ⟨⟨c0,c1⟩,f0,f1⟩:=hrd.out.facts;rw [HS.out] at c0)
    have H:=Lib.hid (fun b=>(hrd.out.set0 (s.drop n)).set1 b)
    rw [HD.out] at H
    cases bad
    all_goals go_region
    all_goals
     go_wp2_with fail
     go_ret
     rw [Hkq.out,Hlen.out,Hez.out,Hze.out,HK'.out]
     refine ⟨rfl,?_,((Mods.ofNew (hN.trans hN')).trans ((ModR.set _ _ _ _).trans (ModR.set _ _ _ _))).drew⟩
     exact H.out _
  ·have hkd:decide ((n:Int) < (S.size:Int))=false:=decide_eq_false (by omega)
   have Hk:=Lib.hid (keyOf_upto s n (by omega) (fun j hj c hc=>by
    have e:(bl S)[j]? = some c:=by rw [← Hs.out];exact hc
    obtain ⟨_,rfl⟩:=get_gb e
    exact hbef.out j hj) (fun c hc=>by
     have:=(List.getElem?_eq_some_iff.1 hc).1;omega))
   have hlen:(s.take n).length=n:=by rw [List.length_take];omega
   have hsl1:∀ W,(Instr.slice 9 (.string S) none (some (.int .i64 (n:Int))) none).run Tryz.prog W = .ok (.string (tx (s.take n))) W:=fun W=>by have:=run_sl_h S n (by omega) W;rwa [← Hs.out] at this
   have hsl2:∀ W,(Instr.slice 9 (.string S) (some (.int .i64 (n:Int))) none none).run Tryz.prog W = .ok (.string (tx (s.drop n))) W:=fun W=>by have:=run_sl_l S n (by omega) W;rwa [← Hs.out] at this
   have hz:((n:Int) == 0)=decide (n=0):=by
    rw [Bool.eq_iff_iff,beq_iff_eq,decide_eq_true_eq];omega
   have hez:(s.take n).isEmpty=decide (n=0):=by
    rw [Bool.eq_iff_iff,List.isEmpty_iff,decide_eq_true_eq,← List.length_eq_zero_iff,hlen]
   have Hkq:Hid (kq=s.take n):=Lib.hid (by rw [← HKq.out,Hk.out])
   have Hez:=Lib.hid hez
   have Hlen:=Lib.hid hlen
   obtain ⟨z,hze⟩:∃ z,decide (n=0)=z:=⟨_,rfl⟩
   have Hze:=Lib.hid hze
   rw [hze] at hz
   obtain ⟨K,hK⟩:∃ x,tx (s.take n)=x:=⟨_,rfl⟩
   have H:=Lib.hid (fun b=>(hrd.out.set0 (s.drop n)).set1 b)
   obtain ⟨D,hD⟩:∃ x,tx (s.drop n)=x:=⟨_,rfl⟩
   have HK':=Lib.hid hK
   rw [hK] at hsl1
   rw [hD] at hsl2 H
   clear hze hez hK hD hbef Hk hlen
   go_upto_region 5 with fail
   cases bad
   all_goals go_region
   all_goals
    go_wp2_with fail
    go_ret
    rw [Hkq.out,Hlen.out,Hez.out,Hze.out,HK'.out]
    refine ⟨rfl,?_,((Mods.ofNew hN).trans ((ModR.set _ _ _ _).trans (ModR.set _ _ _ _))).drew⟩
    exact H.out _
def BareV (s:Bare.Bs):Bare.It:=match Bare.parseI s with | some (b,_)=>b | none=>noIt
def BareR (s:Bare.Bs):Bare.Bs:=match Bare.parseI s with | some (_,r)=>r | none=>[]
theorem bare_r (R:Nat) (s:Bare.Bs) (bad:Bool) (w:World) (hl:s.length ≤ 1000000) (h:Rdr w R s bad) (hT:Tab w) :
  Calls Tryz.prog 181 #[.pointer (some ⟨R,0,none⟩)] w fun e w'=>e = .returned (bv (BareV s))∧Rdr w' R (BareR s) (bad || (Bare.parseI s).isNone)∧ModR R w w':=by
 have hlt:=h.lt
 obtain ⟨hN,hr⟩:=no_row w
 have HP:=Lib.hid (fun W (hW:New w W)=>parse_read (tx s) W (by rw [tx_size];exact hl) (hT.new hW))
 unfold ReadP at HP
 rw [bl_tx] at HP
 have HP2:Hid (∀ W,New w W→Calls Tryz.prog 199 #[.string (tx s)] W fun e w'=>e = .returned (.tuple #[bv (BareV s),.string (tx (BareR s)),.int .i64 (if (Bare.parseI s).isNone then 120 else 0)])∧New W w'):=Lib.hid fun W hW=>(HP.out W hW).mono fun e w' ⟨he,hn⟩=>⟨by
  rw [he];unfold BareV BareR
  cases Bare.parseI s with
  | none=>rfl
  | some p=>rfl,hn⟩
 clear HP
 obtain ⟨z,hz⟩:∃ x,(Bare.parseI s).isNone=x:=⟨_,rfl⟩
 obtain ⟨⟨k,n,t,y⟩,hb⟩:∃ x,BareV s=x:=⟨_,rfl⟩
 obtain ⟨rr,hrr⟩:∃ x,BareR s=x:=⟨_,rfl⟩
 rw [hz,hb,hrr] at HP2
 rw [hz,hb,hrr]
 unfold bv bcs at HP2 ⊢
 simp only at HP2 ⊢
 obtain ⟨T,hTt⟩:∃ x,tx t=x:=⟨_,rfl⟩
 obtain ⟨S,hS⟩:∃ x,tx s=x:=⟨_,rfl⟩
 obtain ⟨RR,hRR⟩:∃ x,tx rr=x:=⟨_,rfl⟩
 have HS:=Lib.hid hS
 have HRR:=Lib.hid hRR
 rw [hTt,hS,hRR] at HP2
 rw [hTt]
 obtain ⟨zi,hzi⟩:∃ zi:Int,(if z=true then (120:Int) else 0)=zi:=⟨_,rfl⟩
 have hzn:(zi != 0)=z:=by rw [← hzi];cases z <;> rfl
 rw [hzi] at HP2
 clear hz hb hrr hTt hS hT hRR hzi
 go_enter Tryz.func181,Tryz.ntmps181
 go_upto_region 1 with fail
 have h1:=Lib.hid (h.new hN)
 obtain ⟨W,hW⟩:∃ W,w.alloc (.cells #[.int .u8 0,.int .i64 0,.string ⟨#[]⟩,.bool false] 66)=W:=⟨_,rfl⟩
 rw [hW] at hN hr h1 ⊢
 obtain ⟨B,hB⟩:∃ B,w.heap.size=B:=⟨_,rfl⟩
 have hBw:w.heap.size ≤ B:=by omega
 have hRB:R ≠ B:=by omega
 have hRB':¬ B=R:=by omega
 have hBR:R < B:=by omega
 rw [hB] at hr ⊢
 clear hW hB h hlt
 obtain ⟨⟨c0,c1⟩,f0,f1⟩:=h1.out.facts
 rw [HS.out] at c0
 go_upto_region 1 with fail
 go_wp2_with fail
 refine (HP2.out _ hN).mono ?_
 rintro e w1 ⟨rfl,hN1⟩
 have h2:=Lib.hid (h1.out.new hN1)
 have hr2:=Lib.hid (hN1.heap hr id)
 have hsz:=hN1.size
 have hBl:B < W.heap.size:=(Array.getElem?_eq_some_iff.1 hr).1
 clear c0 c1 f0 f1 hr
 go_upto_region 2 with fail
 obtain ⟨W3,hW3⟩:∃ W3,w1.alloc (.cells #[.int .u8 k,.int .i64 n,.string T,.bool y] 66)=W3:=⟨_,rfl⟩
 have hN3:New w1 W3:=by rw [← hW3];exact (Mods.refl _ _).alloc _
 have hr3:W3.heap[w1.heap.size]? = some (.cells #[.int .u8 k,.int .i64 n,.string T,.bool y] 66 (0,0)):=by rw [← hW3];exact World.alloc_heap_new _ _
 rw [hW3]
 obtain ⟨B3,hB3⟩:∃ B3,w1.heap.size=B3:=⟨_,rfl⟩
 have hBB3:B < B3:=by omega
 have hRB3:¬ B3=R:=by omega
 rw [hB3] at hr3 ⊢
 have h3:=Lib.hid (h2.out.new hN3)
 have hrB:=Lib.hid (hN3.heap hr2.out id)
 have hNN:New w W3:=hN.trans (hN1.trans hN3)
 have Hr3:=Lib.hid hr3
 obtain ⟨⟨c0,c1⟩,f0,f1⟩:=h3.out.facts
 rw [HS.out] at c0
 clear hW3 hB3 hr3 hsz hBl
 have HE:Hid (∀ (b:Bool) (W4:World),W4=((W3.setCell ⟨R,0,none⟩ (.string RR)).setCell ⟨R,1,none⟩ (.bool b))→Rdr W4 R rr b∧ModR R W3 W4):=Lib.hid fun b W4 e=>by
  subst e
  rw [← HRR.out]
  exact ⟨(h3.out.set0 rr).set1 b,(ModR.set _ _ _ _).trans (ModR.set _ _ _ _)⟩
 cases bad with
 | false =>
  go_upto_region 3 with fail
  obtain ⟨W4,hW4⟩:∃ W4,((W3.setCell ⟨R,0,none⟩ (.string RR)).setCell ⟨R,1,none⟩ (.bool z))=W4:=⟨_,rfl⟩
  rw [hW4]
  obtain ⟨h4,hm4⟩:=HE.out _ W4 hW4.symm
  have r4:=hm4.heap hrB.out hRB'
  have r43:=hm4.heap Hr3.out hRB3
  have hone:=one4 k n T y
  clear c0 c1 f0 f1 hW4
  go_wp2_with (first | (refine op_value rfl (run_load_row 66 (.tmp 3) rfl B3 rfl 66 _ (0,0) _ r43 Tryz.underlying66 rfl info_bare) ?_) | (refine op_skip rfl (run_store_row 66 (.tmp 2) (.tmp 30) rfl B rfl 66 [.int .u8 0,.int .i64 0,.string ⟨#[]⟩,.bool false] [.int .u8 k,.int .i64 n,.string T,.bool y] rfl r4 info_bare rfl hone) ?_))
  have r5:=setRow_heap W4 B _ #[.int .u8 k,.int .i64 n,.string T,.bool y] 66 (0,0) r4
  refine bodyPost_ret (v:=.agg #[.int .u8 k,.int .i64 n,.string T,.bool y]) (results_cell_row rfl _ _ B 66 _ (0,0) _ rfl r5 Tryz.underlying66 rfl info_bare) rfl ?_
  exact ⟨rfl,(mods_setRow r4 _).heap h4 hRB,((Mods.ofNew hNN).trans hm4).setRow hBw _⟩
 | true =>
  go_upto_region 3 with fail
  obtain ⟨W4,hW4⟩:∃ W4,((W3.setCell ⟨R,0,none⟩ (.string RR)).setCell ⟨R,1,none⟩ (.bool true))=W4:=⟨_,rfl⟩
  rw [hW4]
  obtain ⟨h4,hm4⟩:=HE.out _ W4 hW4.symm
  have r4:=hm4.heap hrB.out hRB'
  have r43:=hm4.heap Hr3.out hRB3
  have hone:=one4 k n T y
  clear c0 c1 f0 f1 hW4
  go_wp2_with (first | (refine op_value rfl (run_load_row 66 (.tmp 3) rfl B3 rfl 66 _ (0,0) _ r43 Tryz.underlying66 rfl info_bare) ?_) | (refine op_skip rfl (run_store_row 66 (.tmp 2) (.tmp 30) rfl B rfl 66 [.int .u8 0,.int .i64 0,.string ⟨#[]⟩,.bool false] [.int .u8 k,.int .i64 n,.string T,.bool y] rfl r4 info_bare rfl hone) ?_))
  have r5:=setRow_heap W4 B _ #[.int .u8 k,.int .i64 n,.string T,.bool y] 66 (0,0) r4
  refine bodyPost_ret (v:=.agg #[.int .u8 k,.int .i64 n,.string T,.bool y]) (results_cell_row rfl _ _ B 66 _ (0,0) _ rfl r5 Tryz.underlying66 rfl info_bare) rfl ?_
  exact ⟨rfl,(mods_setRow r4 _).heap h4 hRB,((Mods.ofNew hNN).trans hm4).setRow hBw _⟩
end Go.Proofs.YtkiiameibdhdfaaGreatDoor
namespace Go.Proofs.YtkiiameibdhdfaaGreatDoor


theorem pre1_cons (a c:UInt8) (r:Bare.Bs):Lib.hasPrefix (a::r) [c]=decide (a=c)∧Lib.trimPrefix (a::r) [c]=if a=c then r else a::r:=by
 have e:Lib.hasPrefix (a::r) [c]=decide (a=c):=by
  unfold Lib.hasPrefix
  by_cases h:a=c
  ·subst h;simp [List.isPrefixOf]
  ·have h2:¬ c=a:=fun e=>h e.symm
   have h3:(c == a)=false:=by simpa using h2
   simp [List.isPrefixOf,h,h3]
 refine ⟨e,?_⟩
 unfold Lib.trimPrefix
 rw [e]
 by_cases h:a=c <;> simp [h]
theorem pre1_true {s:Bare.Bs} {c:UInt8} (h:Lib.hasPrefix s [c]=true):∃ r,s=c::r∧Lib.trimPrefix s [c]=r:=by
 cases s with
 | nil=>cases h
 | cons a r =>
  obtain ⟨h1,h2⟩:=pre1_cons a c r
  rw [h1] at h
  obtain rfl:=of_decide_eq_true h
  exact ⟨r,rfl,by rw [h2,if_pos rfl]⟩
theorem pre1_false {s:Bare.Bs} {c:UInt8} (h:Lib.hasPrefix s [c]=false):s.head? ≠ some c∧Lib.trimPrefix s [c]=s:=by
 refine ⟨fun e=>?_,by unfold Lib.trimPrefix;rw [h];rfl⟩
 cases s with
 | nil=>cases e
 | cons a r =>
  rw [(pre1_cons a c r).1] at h
  simp at e
  exact of_decide_eq_false h e
def parV (s4:Bare.Bs) (b:Bool):Bare.It:=if b then BareV s4 else Bare.yesI
def parR (s4:Bare.Bs) (b:Bool):Bare.Bs:=if b then BareR s4 else s4
def parB (s4:Bare.Bs) (b:Bool):Bool:=b && (Bare.parseI s4).isNone
theorem bareR_len (s:Bare.Bs):(BareR s).length ≤ s.length:=by
 unfold BareR
 split
 ·rename_i b r h
  have:=Bare.parseI_len h
  omega
 ·simp
theorem par_step (l:List Bare.Par) (r:Bare.Bs) {s2 s3 s4 k:Bare.Bs} {b:Bool} (h2:Bare.skipB [32] r=s2) (hk:Bare.keyOf s2=k) (h3:s2.drop k.length=s3) (hb:Lib.hasPrefix s3 [61]=b) (h4:Lib.trimPrefix s3 [61]=s4) :
  ((k.isEmpty || parB s4 b)=false→Bare.readParams l (59::r)=Bare.readParams (Bare.setP l ⟨k,parV s4 b⟩) (parR s4 b)) ∧
  ((k.isEmpty || parB s4 b)=true→Bare.readParams l (59::r)=none)∧(parR s4 b).length ≤ r.length:=by
 rw [Bare.readParams_semi,h2]
 have ek:Bare.readKey s2=if k.isEmpty then none else some (k,s3):=by unfold Bare.readKey;simp only [hk,h3]
 rw [ek]
 have hl:s3.length ≤ r.length:=by
  have:=Bare.skip_len [32] r
  rw [h2] at this
  rw [← h3,List.length_drop];omega
 have hv:Bare.readVal s3=if parB s4 b then none else some (parV s4 b,parR s4 b):=by
  cases b with
  | false =>
   obtain ⟨q1,q2⟩:=pre1_false hb
   rw [q2] at h4
   subst h4
   unfold parB parV parR
   simp only [Bool.false_and,Bool.false_eq_true,if_false]
   unfold Bare.readVal
   split
   ·exact absurd rfl q1
   ·rfl
  | true =>
   obtain ⟨q,rfl,q2⟩:=pre1_true hb
   rw [q2] at h4
   subst h4
   unfold parB parV parR BareV BareR Bare.readVal
   simp only [Bool.true_and,if_true]
   cases Bare.parseI q with
   | none=>rfl
   | some p=>rfl
 have hl4:(parR s4 b).length ≤ r.length:=by
  unfold parR
  cases b with
  | false =>
   rw [(pre1_false hb).2] at h4
   subst h4
   exact hl
  | true =>
   obtain ⟨q,rfl,q2⟩:=pre1_true hb
   rw [q2] at h4
   subst h4
   have:=bareR_len q
   simp only [if_true]
   simp at hl
   omega
 refine ⟨fun h=>?_,fun h=>?_,hl4⟩
 ·rw [Bool.or_eq_false_iff] at h
  rw [h.1]
  simp only [Bool.false_eq_true,if_false,hv,h.2]
 ·rw [Bool.or_eq_true] at h
  by_cases hk:k.isEmpty=true
  ·rw [if_pos hk]
  ·rw [if_neg hk]
   simp only [hv,h.resolve_left hk,if_true]
theorem setP_set {l:List Bare.Par} {p:Bare.Par} (hd:(l.map (·.key)).Nodup) {i:Nat} (hi:i < l.length) (he:(l.getD i noP).key=p.key):Bare.setP l p=l.set i p:=by
 unfold Bare.setP
 have hg:l.getD i noP=l[i]:=by simp [List.getD,hi]
 rw [hg] at he
 rw [if_pos (by
  rw [List.contains_iff_mem,← he]
  exact List.mem_map_of_mem (List.getElem_mem hi))]
 apply List.ext_getElem?
 intro j
 rw [List.getElem?_map,List.getElem?_set]
 by_cases hj:i=j
 ·subst hj
  rw [if_pos rfl,if_pos hi,List.getElem?_eq_getElem hi]
  simp [he]
 ·rw [if_neg hj]
  by_cases hjl:j < l.length
  ·rw [List.getElem?_eq_getElem hjl]
   simp only [Option.map_some]
   rw [if_neg]
   intro e
   have h1:(l.map (·.key))[i]'(by simpa using hi)=(l.map (·.key))[j]'(by simpa using hjl):=by simp [he,e]
   rcases Nat.lt_or_ge i j with h | h
   ·exact (List.pairwise_iff_getElem.1 hd) i j (by simpa using hi) (by simpa using hjl) h h1
   ·exact (List.pairwise_iff_getElem.1 hd) j i (by simpa using hjl) (by simpa using hi) (by omega) h1.symm
  ·rw [List.getElem?_eq_none (by omega)];rfl
theorem setP_add {l:List Bare.Par} {p:Bare.Par} (h:∀ i,i < l.length→(l.getD i noP).key ≠ p.key):Bare.setP l p=l ++ [p]:=by
 refine Bare.setP_new fun hm=>?_
 obtain ⟨q,hq,he⟩:=List.mem_map.1 hm
 obtain ⟨i,hi⟩:=List.getElem?_of_mem hq
 obtain ⟨h1,h2⟩:=List.getElem?_eq_some_iff.1 hi
 have hg:l.getD i noP=q:=by simp [List.getD,hi]
 exact h i h1 (by rw [hg];exact he)
theorem setP_nodup {l:List Bare.Par} {p:Bare.Par} (hd:(l.map (·.key)).Nodup):((Bare.setP l p).map (·.key)).Nodup:=by
 unfold Bare.setP
 split
 ·rename_i h
  have e:(l.map fun q=>if q.key=p.key then p else q).map (·.key)=l.map (·.key):=by
   rw [List.map_map]
   refine List.map_congr_left fun q _=>?_
   simp only [Function.comp]
   split
   ·rename_i e;exact e.symm
   ·rfl
  rw [e];exact hd
 ·rename_i h
  rw [List.map_append,List.nodup_append]
  refine ⟨hd,by simp,fun a ha b hb=>?_⟩
  simp at hb
  subst hb
  rintro rfl
  exact h (List.contains_iff_mem.2 ha)
theorem setP_len (l:List Bare.Par) (p:Bare.Par):(Bare.setP l p).length ≤ l.length + 1:=by
 unfold Bare.setP
 split <;> simp
end Go.Proofs.YtkiiameibdhdfaaGreatDoor
namespace Go.Proofs.YtkiiameibdhdfaaGreatDoor
open Go.RowKit Go.Shelf Go.Cs
attribute [local go_sem] Oper.semAt_some


theorem par_cells {W:World} {B:Nat} {p:Bare.Par} (hr:W.heap[B]? = some (.cells (pcs p).toArray 73 (0,0))):W.cell? ⟨B,0,none⟩=some (.string (tx p.key))∧W.cell? ⟨B,1,none⟩=some (.int .u8 p.bare.kind)∧W.cell? ⟨B,2,none⟩=some (.int .i64 p.bare.int)∧W.cell? ⟨B,3,none⟩=some (.string (tx p.bare.text))∧W.cell? ⟨B,4,none⟩=some (.bool p.bare.yes) :=
 ⟨cell_of_row _ _ 0 _ _ _ hr,cell_of_row _ _ 1 _ _ _ hr,cell_of_row _ _ 2 _ _ _ hr,cell_of_row _ _ 3 _ _ _ hr,cell_of_row _ _ 4 _ _ _ hr⟩
end Go.Proofs.YtkiiameibdhdfaaGreatDoor
