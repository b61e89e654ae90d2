/- Texts joined. -/
import Derived.Test.YtnknmmbnhoanfaaGreatDoorH13
import Derived.Test.YtnknmmbnhoanfaaGreatDoorH04
import Derived.Lib.ItoaLen
import Derived.Test.YtnknmmbnhoanfaaGreatDoorH08
import Derived.Test.YtnknmmbnhoanfaaGreatDoorH07
import Derived.Test.YtnknmmbnhoanfaaGreatDoorH11
set_option linter.unusedSimpArgs false
set_option linter.unusedVariables false
set_option maxHeartbeats 16000000
set_option maxRecDepth 100000
namespace Go.Proofs.YtnknmmbnhoanfaaGreatDoor
open Go.RowKit Go.Shelf Go.Cs
attribute [local go_sem] Oper.semAt_some


theorem pad_one (m:Nat):Bare.padD m 1=Lib.decDigits m:=Bare.padD_zero m 1 (by omega) (.inr rfl)
theorem own_one (w:World) (base:Nat) (h:base ≤ w.heap.size) (c:UInt8):(w.alloc (.cells #[.int .u8 (c.toNat:Nat)] 5)).ownsRow base 5 1 (.slice (some ⟨w.heap.size,0,none⟩) 1 1) 1 (u8s [c]) :=
 ⟨rfl,.inr ⟨_,1,_,rfl,h,World.alloc_heap_new _ _,Nat.le_refl _,by decide,rfl,rfl⟩⟩
def prT (k n:Int) (t:Bare.Bs) (y:Bool):Bare.Bs:=if k=1 then Lib.itoa n else if k=2 then Bare.decimal n else if k=3 then 34::(Bare.esc t ++ [34]) else if k=5 then 58::(Bare.sixes t ++ [58]) else if k=6 then [63,if y then 49 else 48] else t
def sgn (n:Int):Bare.Bs:=if n < 0 then [45] else []
theorem itoa_sgn (n:Int):Lib.itoa n=sgn n ++ Lib.decDigits n.natAbs:=by
 unfold Lib.itoa sgn
 split
 ·rfl
 ·rw [show n.toNat=n.natAbs by omega];rfl
theorem print_prT {b:Bare.It} (h:Bare.rightI b=true):Bare.printI b=some (prT b.kind b.int b.text b.yes):=by
 unfold Bare.printI prT
 rw [if_neg (by rw [h];decide)]
 repeat' split
 all_goals first | rfl | contradiction
theorem catx (a b:Bare.Bs):tx a ++ tx b=tx (a ++ b):=by rw [cat_bl,bl_tx,bl_tx]
theorem dec_len (m:Nat) (h:m ≤ 9223372036854775807):(Lib.decDigits m).length ≤ 30:=by
 have:=Lib.itoa_length_le (m:Int) (by omega) (by omega)
 rw [Lib.itoa_nonneg] at this
 omega
def slen:Value→Nat
 | .string s=>s.size
 | _=>0
theorem pad_three_len (m:Nat) (h:m < 1000):Bare.padD m 3 ≠ []∧(Bare.padD m 3).length ≤ 3:=by
 rw [Bare.padD_step (by omega),Bare.padD_step (by omega),Bare.padD_step (by omega)]
 rw [show m / 10 / 10 / 10=0 by omega,show 3 - 1 - 1 - 1=0 from rfl,Bare.padD_done]
 simp
theorem wpList_append_c {ops:Array Oper} {Q:Exit→Act→World→Prop} {rest:List Oper} {o:Oper} {a:Act} {w W:World} (s x:Operand) {base:Nat} {v:Value} {acc:Bare.Bs} {c:UInt8} {n nl:Nat} (hgd:o.guard=none) (hop:o.op = .call { callee:=.builtin .append,args:=#[s,x],argTypes:=#[62,62] })
  (hs:a.eval s=v) (hx:a.eval x = .slice (some ⟨w.heap.size,0,none⟩) 1 1) (hW:w.alloc (.cells #[.int .u8 n] 5)=W) (hc:c.toNat=n) (hl:acc.length=nl) (hown:w.ownsRow base 5 1 v nl (u8s acc)) (hn:nl ≤ 2000000) (hbase:base ≤ w.heap.size)
  (h:∀ v' W',W'.ownsRow base 5 1 v' (nl + 1) (u8s (acc ++ [c]))→(∀ (w0:World) (S:Nat→Prop),Mods S w0 w→(∀ g,v.ownBlock=some g→w0.heap.size ≤ g ∨ S g)→Mods S w0 W')→wpList Tryz.prog ops Q rest (a.put o.dst v') W'):wpList Tryz.prog ops Q (o::rest) a W:=by
 obtain ⟨i0,hi,hz0,hz1,hz2⟩:=info_parts infoB'
 subst hc
 subst hW
 subst hl
 have hown':(w.alloc (.cells #[.int .u8 (c.toNat:Nat)] 5)).ownsRow base 5 1 v acc.length (u8s acc):=hown.alloc _
 obtain ⟨v',w',hr,ho,hg,-⟩:=run_append_own (P:=Tryz.prog) (w.alloc (.cells #[.int .u8 (c.toNat:Nat)] 5)) base 62 o.type 5 i0 _ 1 1 Tryz.underlying62 hi hz0 hz1 hz2 rfl (by decide) v acc.length (u8s acc) hown' ⟨w.heap.size,0,none⟩ 1 1 [.int .u8 (c.toNat:Nat)] rfl (cell_one_new _ _ _) (by simp [Value.oneCell']) (by unfold maxLen;omega) (by omega) (by simp;omega)
 refine wpList_plain hgd fun K hK=>?_
 have hrun:(execOp a.eval o).run Tryz.prog (w.alloc (.cells #[.int .u8 (c.toNat:Nat)] 5)) = .ok (.value v') w':=by
  simp [execOp,hop,resolve,invoke,builtin,hs,hx,hr,Result.andThen]
 unfold Oper.wp
 rw [hrun]
 refine hK _ _ (h v' w' ?_ fun w0 S hN hb=>?_)
 ·rw [u8s_snoc]
  exact ho
 ·exact (hN.alloc _).grown hg (fun g hg=>(hb g hg).imp id fun h=>⟨h,own_cells hown' hg⟩)
theorem print_r (b:Bare.It) (hl:b.text.length ≤ 10000) (w:World) :
  Calls Tryz.prog 8 #[bv b] w fun e w'=>e = .returned (printV (Bare.printI b))∧New w w':=by
 have HRt:=Lib.hid (fun W=>right_r b (by omega) W)
 obtain ⟨hN,hr⟩:=box_row w b
 cases hrt:Bare.rightI b with
 | false =>
  have e:Bare.printI b=none:=by unfold Bare.printI;rw [if_pos hrt]
  rw [e]
  rw [hrt] at HRt
  unfold printV
  clear hrt e
  obtain ⟨k,n,t,y⟩:=b
  unfold bv bcs at *
  simp only at hN hr HRt ⊢
  obtain ⟨s,hs⟩:∃ s,tx t=s:=⟨_,rfl⟩
  rw [hs] at hN hr HRt ⊢
  go_enter Tryz.func8,Tryz.ntmps8
  go_upto_region 1 with fail
  obtain ⟨W,hW⟩:∃ W,w.alloc (.cells #[.int .u8 k,.int .i64 n,.string s,.bool y] 23)=W:=⟨_,rfl⟩
  rw [hW] at hN hr ⊢
  obtain ⟨B,hB⟩:∃ B,w.heap.size=B:=⟨_,rfl⟩
  rw [hB] at hr ⊢
  clear hW hB
  obtain ⟨⟨c0,c1,c2,c3⟩,f0,f1,f2,f3⟩:=row_facts hr
  go_wp2_with fail
  refine (HRt.out _).mono ?_
  rintro e w1 ⟨rfl,hN1⟩
  go_wp2_with fail
  go_ret2
  exact ⟨rfl,hN.trans hN1⟩
 | true =>
  have hk:=right_kind hrt
  have hnum:=right_num hrt
  have hzero:¬ (b.kind=1 ∨ b.kind=2)→b.int=0:=fun h=>by
   unfold Bare.rightI at hrt
   rw [if_neg h] at hrt
   repeat' split at hrt
   all_goals first | (simp only [Bool.and_eq_true,decide_eq_true_eq] at hrt;exact hrt.1) | cases hrt
  rw [print_prT hrt]
  rw [hrt] at HRt
  unfold printV
  clear hrt
  obtain ⟨k,n,t,y⟩:=b
  simp only at hk hnum hl hzero ⊢
  unfold bv bcs at *
  simp only at hN hr HRt ⊢
  obtain ⟨s,hs⟩:∃ s,tx t=s:=⟨_,rfl⟩
  have hsb:bl s=t:=by rw [← hs,bl_tx]
  have hsl:s.size ≤ 10000:=by rw [← hs,tx_size];exact hl
  have HS:=Lib.hid hs
  have HSB:=Lib.hid hsb
  rw [hs] at hN hr HRt ⊢
  obtain ⟨R,hR⟩:∃ R,tx (prT k n t y)=R:=⟨_,rfl⟩
  have HR:=Lib.hid hR
  rw [hR]
  clear hs hsb hR
  have hnn:-999999999999999 ≤ n∧n ≤ 999999999999999:=by
   by_cases h:k=1 ∨ k=2
   ·exact hnum h
   ·rw [hzero h];omega
  obtain ⟨hn0,hn1⟩:=hnn
  obtain ⟨m,hm⟩:∃ m,n.natAbs=m:=⟨_,rfl⟩
  obtain ⟨sg,hsg⟩:∃ sg,tx (sgn n)=sg:=⟨_,rfl⟩
  have hm2:m ≤ 999999999999999:=by omega
  have hsgl:sg.size ≤ 1:=by rw [← hsg,tx_size];unfold sgn;split <;> simp
  clear hnum hzero hl
  go_enter Tryz.func8,Tryz.ntmps8
  go_upto_region 1 with fail
  obtain ⟨W,hW⟩:∃ W,w.alloc (.cells #[.int .u8 k,.int .i64 n,.string s,.bool y] 23)=W:=⟨_,rfl⟩
  rw [hW] at hN hr ⊢
  obtain ⟨B,hB⟩:∃ B,w.heap.size=B:=⟨_,rfl⟩
  have hwB:w.heap.size ≤ B:=by omega
  rw [hB] at hr ⊢
  clear hW hB
  obtain ⟨⟨c0,c1,c2,c3⟩,f0,f1,f2,f3⟩:=row_facts hr
  go_upto_region 3 with (go_at_call 14;refine (HRt.out _).mono ?_;rintro e w1 ⟨rfl,hN1⟩)
  replace hN:=hN.trans hN1
  replace hr:=hN1.heap hr id
  clear c0 c1 c2 c3 f0 f1 f2 f3 hN1 HRt
  obtain ⟨⟨c0,c1,c2,c3⟩,f0,f1,f2,f3⟩:=row_facts hr
  go_region
  go_upto_if 15 with fail
  replace hN:=hN.drew
  have hr:w1.drew.heap[B]? = some (.cells #[.int .u8 k,.int .i64 n,.string s,.bool y] 23 (0,0)):=hr
  obtain ⟨w2,hw2⟩:∃ V,w1.drew=V:=⟨_,rfl⟩
  rw [hw2] at hN hr ⊢
  clear hw2 c0 c1 c2 c3 f0 f1 f2 f3
  go_cut [4,5] from 15 (fun a b wx=>a = .string sg∧b = .int .i64 m∧wx=w2)
  case first =>
   by_cases hn:n < 0
   ·have hd:decide (n < 0)=true:=decide_eq_true hn
    have hneg:IntKind.i64.wrap (-n)=(m:Int):=by rw [IntWalk.i64_in] <;> omega
    have e:sg=⟨#[45]⟩:=by rw [← hsg];unfold sgn;rw [if_pos hn]
    subst e
    clear hm hsg
    go_wp2_with fail
    go_meet
    exact ⟨rfl,(by first | rfl | exact congrArg _ hneg),rfl⟩
   ·have hd:decide (n < 0)=false:=decide_eq_false hn
    have e:sg=⟨#[]⟩:=by rw [← hsg];unfold sgn;rw [if_neg hn]
    subst e
    have E2:=Lib.hid (show n=(m:Int) by omega)
    clear hm hsg
    go_wp2_with fail
    go_meet
    exact ⟨rfl,(congrArg _ E2.out),rfl⟩
  case rest =>
  obtain ⟨rfl,rfl,rfl⟩:=hcut
  obtain ⟨⟨c0,c1,c2,c3⟩,f0,f1,f2,f3⟩:=row_facts hr
  have hR1:k=1→sg ++ tx (Lib.decDigits m)=R:=fun h=>by
   rw [← HR.out,h,← hsg,catx,← hm]
   unfold prT
   rw [if_pos rfl,itoa_sgn]
  have hR2:k=2→tx (sgn n ++ Lib.decDigits (m / 1000) ++ [46] ++ Bare.fin (Bare.padD (m % 1000) 3))=R:=fun h=>by
   rw [← HR.out,h,← hm]
   unfold prT
   rw [if_neg (by decide),if_pos rfl,Bare.decimal_fin,Bare.padD_three (by omega)]
   rfl
  have hR3:k=3→tx (34::(Bare.esc t ++ [34]))=R:=fun h=>by rw [← HR.out,h];rfl
  have hR5:k=5→tx (58::(Bare.sixes t ++ [58]))=R:=fun h=>by rw [← HR.out,h];rfl
  have hR6:k=6→tx [63,if y then 49 else 48]=R:=fun h=>by rw [← HR.out,h];rfl
  have hR4:k=4→tx t=R:=fun h=>by rw [← HR.out,h];rfl
  have HSG:=Lib.hid hsg
  clear hm hsg HR
  rcases hk with rfl | rfl | rfl | rfl | rfl | rfl
  ·have hRR:=Lib.hid (hR1 rfl)
   have HD:=Lib.hid (fun W=>digits_r m 1 hm2 (by decide) W)
   rw [pad_one] at HD
   have hxs:(tx (Lib.decDigits m)).size ≤ 30:=by rw [tx_size];exact dec_len m (by omega)
   obtain ⟨x,hx⟩:∃ x,tx (Lib.decDigits m)=x:=⟨_,rfl⟩
   rw [hx] at HD hRR hxs
   clear hR1 hR2 hR3 hR4 hR5 hR6 hx
   go_wp2_with (go_at_call 49;refine (HD.out _).mono ?_;rintro e w3 ⟨rfl,hN3⟩)
   go_ret2
   exact ⟨(by first | rfl | exact congrArg (fun z=>Ending.returned (.tuple #[.string z,.int .i64 0])) hRR.out),hN.trans hN3⟩
  ·have hRR:=hR2 rfl
   have hmr:((m % 1000:Nat):Int)=(m:Int) % 1000:=by omega
   have hmq:((m / 1000:Nat):Int)=(m:Int) / 1000:=by omega
   have HD3:=Lib.hid (fun W=>digits_r (m % 1000) 3 (by omega) (by decide) W)
   have HD1:=Lib.hid (fun W=>digits_r (m / 1000) 1 (by omega) (by decide) W)
   rw [hmr] at HD3
   rw [pad_one,hmq] at HD1
   clear hmr hmq
   have hxs:(tx (Lib.decDigits (m / 1000))).size ≤ 30:=by rw [tx_size];exact dec_len _ (by omega)
   have hp3:=pad_three_len (m % 1000) (by omega)
   rw [← catx,← catx,← catx,HSG.out] at hRR
   obtain ⟨x,hx⟩:∃ x,tx (Lib.decDigits (m / 1000))=x:=⟨_,rfl⟩
   obtain ⟨P,hP⟩:∃ P,Bare.padD (m % 1000) 3=P:=⟨_,rfl⟩
   obtain ⟨F,hF⟩:∃ F,Bare.fin P=F:=⟨_,rfl⟩
   rw [hx] at HD1 hRR hxs
   rw [hP] at HD3 hRR hp3
   rw [hF] at hRR
   have HRR:=Lib.hid hRR
   have HF:=Lib.hid hF
   clear hR1 hR2 hR3 hR4 hR5 hR6 hx hP hF hRR
   go_upto_region 11 with (go_at_call 49;refine (HD3.out _).mono ?_;rintro e w3 ⟨rfl,hN3⟩)
   replace hN:=hN.trans hN3
   clear hN3 HD3
   go_loopw [6] (fun a wr=>∃ p:Bare.Bs,a = .string (tx p)∧p ≠ []∧p.length ≤ 3∧Hid (Bare.fin p=F)∧New w wr) (fun a _=>slen a)
   case atStart=>exact ⟨P,rfl,hp3.1,hp3.2,HF,hN⟩
   case round =>
    obtain ⟨p,rfl,hp0,hpl,HFp,hNr⟩:=hrel
    obtain ⟨q,c,rfl⟩:∃ q c,p=q ++ [c]:=⟨p.dropLast,p.getLast hp0,(List.dropLast_concat_getLast hp0).symm⟩
    obtain ⟨ps,hps⟩:∃ ps,tx (q ++ [c])=ps:=⟨_,rfl⟩
    have hsz:ps.size=q.length + 1:=by rw [← hps,tx_size,List.length_append];rfl
    have hq2:q.length ≤ 2:=by rw [List.length_append] at hpl;simp at hpl;omega
    have hbp:bl ps=q ++ [c]:=by rw [← hps,bl_tx]
    have hix:∀ W,(Instr.index 9 (.string ps) (.int .i64 ((ps.size:Int) - 1))).run Tryz.prog W = .ok (.int .u8 (c.toNat:Nat)) W:=fun W=>by
     have h:=run_idx ps q.length (by omega) W
     rw [show ((ps.size:Int) - 1)=(q.length:Int) by omega,h]
     have:gb ps q.length=c:=by unfold gb;rw [show ps.data.toList=bl ps from rfl,hbp];simp
     rw [this]
    have hsl2:∀ W,(Instr.slice 9 (.string ps) none (some (.int .i64 ((ps.size:Int) - 1))) none).run Tryz.prog W = .ok (.string (tx q)) W:=fun W=>by
     have h:=run_sl_h ps q.length (by omega) W
     rw [show ((ps.size:Int) - 1)=(q.length:Int) by omega,h,hbp]
     simp
    have hps1:1 ≤ ps.size:=by omega
    have hps3:ps.size ≤ 3:=by omega
    have HPS:=Lib.hid hps
    rw [hps]
    obtain ⟨cn,hcn⟩:∃ n,c.toNat=n:=⟨_,rfl⟩
    obtain ⟨t48,-⟩:=byte_test c 48 (by decide) cn hcn
    rw [hcn] at hix
    by_cases h1:q = []
    ·have HFe:Hid (tx F=ps):=Lib.hid (by rw [← HFp.out,← HPS.out,h1,List.nil_append,Bare.fin_one])
     have hd1:¬ 1 < ps.size:=by rw [hsz,h1];decide
     clear h1 hcn t48 hbp
     have HC:Hid (sg ++ x ++ ⟨#[46]⟩ ++ ps=R):=Lib.hid (by rw [← HFe.out];exact HRR.out)
     have hcs:ps.size ≤ 3:=by omega
     clear hix hsl2 hsz hps HPS HRR HFe HFp
     go_wp2_with (go_at_call 49;refine (HD1.out _).mono ?_;rintro e w4 ⟨rfl,hN4⟩)
     go_ret2
     exact ⟨(by first | rfl | exact congrArg (fun z=>Ending.returned (.tuple #[.string z,.int .i64 0])) HC.out),hNr.trans hN4⟩
    ·have hd1:1 < ps.size:=by have:=List.length_pos_iff.2 h1;omega
     by_cases h48:c=48
     ·have t48:((cn:Int) == 48)=true:=t48.trans (decide_eq_true h48)
      have HF2:Hid (Bare.fin q=F):=Lib.hid (by rw [← HFp.out,h48,Bare.fin_step])
      have hms:(tx q).size < ps.size:=by rw [tx_size];omega
      clear h48 hcn hbp HFp hsz
      go_wp2_with fail
      go_round
      case rel=>exact ⟨q,rfl,h1,by omega,HF2,hNr⟩
      case measure=>exact hms
     ·have t48:((cn:Int) == 48)=false:=t48.trans (decide_eq_false h48)
      have HFe:Hid (tx F=ps):=Lib.hid (by rw [← HFp.out,← HPS.out,Bare.fin_last _ _ h48])
      clear h1 h48 hcn hbp
      have HC:Hid (sg ++ x ++ ⟨#[46]⟩ ++ ps=R):=Lib.hid (by rw [← HFe.out];exact HRR.out)
      have hcs:ps.size ≤ 3:=by omega
      clear hsl2 hsz hps HPS HRR HFe HFp
      go_wp2_with (go_at_call 49;refine (HD1.out _).mono ?_;rintro e w4 ⟨rfl,hN4⟩)
      go_ret2
      exact ⟨(by first | rfl | exact congrArg (fun z=>Ending.returned (.tuple #[.string z,.int .i64 0])) HC.out),hNr.trans hN4⟩
  ·have HRR:=Lib.hid (hR3 rfl)
   clear hR1 hR2 hR3 hR4 hR5 hR6 c1 c3 f0 f1 f2 f3
   have hO1:=own_one wc wc.heap.size (Nat.le_refl _) 34
   have hN1:New wc (wc.alloc (.cells #[.int .u8 34] 5)):=(Mods.refl _ _).alloc _
   have hr1:=hN1.heap hr id
   have hN1:=hN.trans hN1
   obtain ⟨W3,hW3⟩:∃ V,wc.alloc (.cells #[.int .u8 34] 5)=V:=⟨_,rfl⟩
   have hO1:W3.ownsRow wc.heap.size 5 1 (.slice (some ⟨wc.heap.size,0,none⟩) 1 1) 1 (u8s [34]):=by rw [← hW3];exact hO1
   rw [hW3] at hr1 hN1
   obtain ⟨G,hG⟩:∃ G,wc.heap.size=G:=⟨_,rfl⟩
   have hBG:B < G:=by rw [← hG];exact (Array.getElem?_eq_some_iff.1 hr).1
   have hwG:w.heap.size ≤ G:=by rw [← hG];exact hN.size
   have hG3:G ≤ W3.heap.size:=by rw [← hW3,← hG];simp
   rw [hG] at hO1
   have hsb:=HSB.out
   clear hr hN
   go_upto_region 17 with fail
   clear c0 c2 hW3 hG
   go_loopw [7,8] (fun v i W=>∃ (k nl:Nat) (acc:Bare.Bs),k ≤ s.size∧i = .int .i64 k∧nl ≤ 2 * k + 1∧Hid (acc.length=nl)∧Hid (W.ownsRow G 5 1 v nl (u8s acc))∧W.heap[B]? = some (.cells #[.int .u8 3,.int .i64 n,.string s,.bool y] 23 (0,0))∧New w W∧G ≤ W.heap.size∧Hid (acc ++ Bare.esc ((bl s).drop k)=34::Bare.esc t)) (fun _ i _=>s.size - (intOf i).toNat)
   case atStart=>exact ⟨0,1,[34],Nat.zero_le _,rfl,by simp,Lib.hid rfl,Lib.hid hO1,hr1,hN1,hG3,Lib.hid (by rw [List.drop_zero,hsb];rfl)⟩
   case round =>
    obtain ⟨k,nl,acc,hk,rfl,hacc,HL,HO,hr,hN,hwb,HE⟩:=hrel
    clear hO1 hr1 hN1 hG3 hsb
    obtain ⟨oa,oc,rfl⟩:=owns_slice HO.out
    obtain ⟨-,-,c2,-⟩:=(row_facts hr).1
    by_cases hlt:k < s.size
    ·have hkd:decide ((k:Int) < (s.size:Int))=true:=decide_eq_true (by omega)
     have hix:=run_idx s k hlt
     obtain ⟨c,hc⟩:∃ c,gb s k=c:=⟨_,rfl⟩
     have hdr:(bl s).drop k=c::(bl s).drop (k + 1):=by
      rw [List.drop_eq_getElem_cons (by rw [bl_len];exact hlt)]
      congr 1
      have:=gb_get s k hlt
      rw [List.getElem?_eq_getElem (by rw [bl_len];exact hlt),hc] at this
      exact Option.some.inj this
     have hE:=HE.out
     rw [hdr,Bare.esc] at hE
     rw [hc] at hix
     obtain ⟨cn,hcn⟩:∃ n,c.toNat=n:=⟨_,rfl⟩
     obtain ⟨t34,-⟩:=byte_test c 34 (by decide) cn hcn
     obtain ⟨t92,-⟩:=byte_test c 92 (by decide) cn hcn
     rw [hcn] at hix
     clear hdr hc HE
     by_cases h34:c=34
     ·have t34:((cn:Int) == 34)=true:=t34.trans (decide_eq_true h34)
      clear t92
      have HE2:Hid ((acc ++ [92] ++ [c]) ++ Bare.esc ((bl s).drop (k + 1))=34::Bare.esc t):=Lib.hid (by rw [← hE,if_pos (.inr h34)];simp)
      clear hE
      go_upto_region 21 with (at_builtin;refine wpList_append_c (w:=wr) (acc:=acc) (c:=92) (n:=92) _ _ rfl rfl rfl rfl rfl rfl HL.out HO.out (by omega) hwb ?_;intro v1 W1 ho1 hq1;obtain ⟨a1,c1',rfl⟩:=owns_slice ho1)
      have hr1:=(hq1 wr _ (Mods.refl _ _) (fun g hg=>.inr hg)).heap hr (fun hg=>by have:=(World.ownsRow.lt HO.out _ hg).1;omega)
      have hN1:New w W1:=hq1 w _ hN (fun g hg=>.inl (by have:=(World.ownsRow.lt HO.out _ hg).1;omega))
      have hwb1:G ≤ W1.heap.size:=Nat.le_trans hwb (hq1 wr _ (Mods.refl _ _) (fun g hg=>.inr hg)).size
      have HO1:=Lib.hid ho1
      clear hq1 ho1 c2
      obtain ⟨-,-,c2,-⟩:=(row_facts hr1).1
      go_wp2_with (at_builtin;refine wpList_append_c (w:=W1) (acc:=(acc ++ [92])) (c:=c) (n:=cn) _ _ rfl rfl rfl rfl rfl hcn (by rw [List.length_append,HL.out];rfl) HO1.out (by omega) hwb1 ?_;intro v2 W2 ho2 hq2;obtain ⟨a2,c2',rfl⟩:=owns_slice ho2)
      have hr2:=(hq2 W1 _ (Mods.refl _ _) (fun g hg=>.inr hg)).heap hr1 (fun hg=>by have:=(World.ownsRow.lt HO1.out _ hg).1;omega)
      have hN2:New w W2:=hq2 w _ hN1 (fun g hg=>.inl (by have:=(World.ownsRow.lt HO1.out _ hg).1;omega))
      have hwb2:G ≤ W2.heap.size:=Nat.le_trans hwb1 (hq2 W1 _ (Mods.refl _ _) (fun g hg=>.inr hg)).size
      clear hq2 c2 hr1
      go_wp2_with fail
      go_round
      case rel=>exact ⟨k + 1,nl + 1 + 1,(acc ++ [92]) ++ [c],by omega,by go_num,by omega,Lib.hid (by rw [List.length_append,List.length_append,HL.out];rfl),Lib.hid ho2,hr2,hN2,hwb2,HE2⟩
      case measure=>simp [intOf];omega
     have t34:((cn:Int) == 34)=false:=t34.trans (decide_eq_false h34)
     by_cases h92:c=92
     ·have t92:((cn:Int) == 92)=true:=t92.trans (decide_eq_true h92)
      have HE2:Hid ((acc ++ [92] ++ [c]) ++ Bare.esc ((bl s).drop (k + 1))=34::Bare.esc t):=Lib.hid (by rw [← hE,if_pos (.inl h92)];simp)
      clear hE
      go_upto_region 21 with (at_builtin;refine wpList_append_c (w:=wr) (acc:=acc) (c:=92) (n:=92) _ _ rfl rfl rfl rfl rfl rfl HL.out HO.out (by omega) hwb ?_;intro v1 W1 ho1 hq1;obtain ⟨a1,c1',rfl⟩:=owns_slice ho1)
      have hr1:=(hq1 wr _ (Mods.refl _ _) (fun g hg=>.inr hg)).heap hr (fun hg=>by have:=(World.ownsRow.lt HO.out _ hg).1;omega)
      have hN1:New w W1:=hq1 w _ hN (fun g hg=>.inl (by have:=(World.ownsRow.lt HO.out _ hg).1;omega))
      have hwb1:G ≤ W1.heap.size:=Nat.le_trans hwb (hq1 wr _ (Mods.refl _ _) (fun g hg=>.inr hg)).size
      have HO1:=Lib.hid ho1
      clear hq1 ho1 c2
      obtain ⟨-,-,c2,-⟩:=(row_facts hr1).1
      go_wp2_with (at_builtin;refine wpList_append_c (w:=W1) (acc:=(acc ++ [92])) (c:=c) (n:=cn) _ _ rfl rfl rfl rfl rfl hcn (by rw [List.length_append,HL.out];rfl) HO1.out (by omega) hwb1 ?_;intro v2 W2 ho2 hq2;obtain ⟨a2,c2',rfl⟩:=owns_slice ho2)
      have hr2:=(hq2 W1 _ (Mods.refl _ _) (fun g hg=>.inr hg)).heap hr1 (fun hg=>by have:=(World.ownsRow.lt HO1.out _ hg).1;omega)
      have hN2:New w W2:=hq2 w _ hN1 (fun g hg=>.inl (by have:=(World.ownsRow.lt HO1.out _ hg).1;omega))
      have hwb2:G ≤ W2.heap.size:=Nat.le_trans hwb1 (hq2 W1 _ (Mods.refl _ _) (fun g hg=>.inr hg)).size
      clear hq2 c2 hr1
      go_wp2_with fail
      go_round
      case rel=>exact ⟨k + 1,nl + 1 + 1,(acc ++ [92]) ++ [c],by omega,by go_num,by omega,Lib.hid (by rw [List.length_append,List.length_append,HL.out];rfl),Lib.hid ho2,hr2,hN2,hwb2,HE2⟩
      case measure=>simp [intOf];omega
     ·have t92:((cn:Int) == 92)=false:=t92.trans (decide_eq_false h92)
      have HE2:Hid ((acc ++ [c]) ++ Bare.esc ((bl s).drop (k + 1))=34::Bare.esc t):=Lib.hid (by rw [← hE,if_neg (fun h=>h.elim h92 h34)];simp)
      clear hE
      go_wp2_with (at_builtin;refine wpList_append_c (w:=wr) (acc:=acc) (c:=c) (n:=cn) _ _ rfl rfl rfl rfl rfl hcn HL.out HO.out (by omega) hwb ?_;intro v2 W2 ho2 hq2;obtain ⟨a2,c2',rfl⟩:=owns_slice ho2)
      have hr2:=(hq2 wr _ (Mods.refl _ _) (fun g hg=>.inr hg)).heap hr (fun hg=>by have:=(World.ownsRow.lt HO.out _ hg).1;omega)
      have hN2:New w W2:=hq2 w _ hN (fun g hg=>.inl (by have:=(World.ownsRow.lt HO.out _ hg).1;omega))
      have hwb2:G ≤ W2.heap.size:=Nat.le_trans hwb (hq2 wr _ (Mods.refl _ _) (fun g hg=>.inr hg)).size
      clear hq2 c2 hr
      go_wp2_with fail
      go_round
      case rel=>exact ⟨k + 1,nl + 1,acc ++ [c],by omega,by go_num,by omega,Lib.hid (by rw [List.length_append,HL.out];rfl),Lib.hid ho2,hr2,hN2,hwb2,HE2⟩
      case measure=>simp [intOf];omega
    ·obtain rfl:k=s.size:=by omega
     have hkd:decide ((s.size:Int) < (s.size:Int))=false:=decide_eq_false (by omega)
     have hE:=HE.out
     rw [List.drop_of_length_le (by rw [bl_len];exact Nat.le_refl _),Bare.esc,List.append_nil] at hE
     have HLen:Hid ((acc ++ [34]).length=nl + 1):=Lib.hid (by rw [List.length_append,HL.out];rfl)
     have HC:Hid (tx (acc ++ [34])=R):=Lib.hid (by rw [hE];exact HRR.out)
     clear hE HE
     go_wp2_with (at_builtin;refine wpList_append_c (w:=wr) (acc:=acc) (c:=34) (n:=34) _ _ rfl rfl rfl rfl rfl rfl HL.out HO.out (by omega) hwb ?_;intro v2 W2 ho2 hq2;have hcv:=conv_own (l:=acc ++ [34]) (by rw [HLen.out];exact ho2);obtain ⟨a2,c2',rfl⟩:=owns_slice ho2)
     go_ret2
     exact ⟨(by first | rfl | exact congrArg (fun z=>Ending.returned (.tuple #[.string z,.int .i64 0])) HC.out),hq2 w _ hN (fun g hg=>.inl (by have:=(World.ownsRow.lt HO.out _ hg).1;omega))⟩
  ·have hRR:=hR4 rfl
   rw [HS.out] at hRR
   subst hRR
   clear hR1 hR2 hR3 hR4 hR5 hR6
   go_wp2_with fail
   go_ret2
   exact ⟨rfl,hN⟩
  ·have hRR:=hR5 rfl
   have HD:=Lib.hid (fun W=>sixes_r s W (by omega))
   rw [HSB.out] at HD
   have hxs:(tx (Bare.sixes t)).size ≤ 100000:=by rw [tx_size,Bare.sixes_len,← HSB.out,bl_len];omega
   rw [show (58:UInt8)::(Bare.sixes t ++ [58]) = [58] ++ Bare.sixes t ++ [58] from rfl,← catx,← catx] at hRR
   obtain ⟨x,hx⟩:∃ x,tx (Bare.sixes t)=x:=⟨_,rfl⟩
   rw [hx] at HD hRR hxs
   have hRR:=Lib.hid hRR
   clear hR1 hR2 hR3 hR4 hR5 hR6 hx
   go_wp2_with (go_at_call 18;refine (HD.out _).mono ?_;rintro e w3 ⟨rfl,hN3⟩)
   go_ret2
   exact ⟨(by first | rfl | exact congrArg (fun z=>Ending.returned (.tuple #[.string z,.int .i64 0])) hRR.out),hN.trans hN3⟩
  ·have hRR:=hR6 rfl
   clear hR1 hR2 hR3 hR4 hR5 hR6
   cases y with
   | true =>
    subst hRR
    go_wp2_with fail
    go_ret2
    exact ⟨rfl,hN⟩
   | false =>
    subst hRR
    go_wp2_with fail
    go_ret2
    exact ⟨rfl,hN⟩


theorem yes_r13 (b:Bare.It) (w:World):Calls Tryz.prog 141 #[bv b] w fun e w'=>e = .returned (.bool (decide (b=Bare.yesI)))∧New w w':=by
 obtain ⟨hN,hr⟩:=box_row w b
 have HE:=Lib.hid (fun W=>binop_item b Bare.yesI W)
 obtain ⟨e,he⟩:∃ e,decide (b=Bare.yesI)=e:=⟨_,rfl⟩
 rw [he] at HE ⊢
 unfold bv bcs Bare.yesI at HE
 unfold bv
 unfold bcs at *
 obtain ⟨k,n,l,y⟩:=b
 simp only at HE hN hr ⊢
 obtain ⟨s,hse⟩:∃ s,tx l=s:=⟨_,rfl⟩
 rw [hse] at HE hN hr ⊢
 clear he hse
 go_enter Tryz.func141,Tryz.ntmps141
 go_upto_region 1 with fail
 obtain ⟨W,hW⟩:∃ W,w.alloc (.cells #[.int .u8 k,.int .i64 n,.string s,.bool y] 23)=W:=⟨_,rfl⟩
 rw [hW] at hN hr ⊢
 obtain ⟨B,hB⟩:∃ B,w.heap.size=B:=⟨_,rfl⟩
 rw [hB] at hr ⊢
 obtain ⟨⟨c0,c1,c2,c3⟩,-⟩:=row_facts hr
 have hEl:∀ W',(binOp .eql 23 (.agg #[.int .u8 k,.int .i64 n,.string s,.bool y]) (.agg #[.int .u8 6,.int .i64 0,.string ⟨#[]⟩,.bool true])).run Tryz.prog W' = .ok (.bool e) W':=HE.out
 clear hW hr hB HE
 go_wp2_with fail
 go_ret
 exact ⟨rfl,hN⟩
theorem ptext_r {τ:Bool} (v:Value) (L:List Bare.Par) (w:World) (h:RdP τ w v L) (hs:∀ p ∈ L,SmP p) (hl:L.length ≤ 2000000) :
  Calls Tryz.prog 142 #[v] w fun e w'=>e = .returned (.string (tx (Bare.told L)))∧New w w':=by
 have HV:=Lib.hid h
 have HS:=Lib.hid hs
 have HL:=Lib.hid (fun k=>told_len (L.take k) (fun p hp=>hs p (List.mem_of_mem_take hp)))
 have HN:=Lib.hid (told_snoc L)
 obtain ⟨ao,cap,rfl⟩:=h.slice
 obtain ⟨n,hn⟩:∃ n,L.length=n:=⟨_,rfl⟩
 have Hn:=Lib.hid hn
 rw [hn] at hl HV HN ⊢
 obtain ⟨r,hr⟩:∃ r,Bare.told L=r:=⟨_,rfl⟩
 have HR:Hid (Bare.told (L.take n)=r):=Lib.hid (by rw [← hn,List.take_length];exact hr)
 rw [hr]
 have hN0:New w w:=Mods.refl _ _
 clear h hs hn hr
 go_enter Tryz.func142,Tryz.ntmps142
 go_wp2_with fail
 go_loopw [3,4,5,6] (fun a t x y wr=>∃ k:Nat,k ≤ n∧t = .int .i64 k∧a = .string (tx (Bare.told (L.take k)))∧New w wr) (fun _ t _ _ _=>n - (intOf t).toNat)
 case atStart=>exact ⟨0,Nat.zero_le _,rfl,rfl,hN0⟩
 case round =>
  obtain ⟨k,hk,rfl,rfl,hN⟩:=hrel
  by_cases hlt:k < n
  ·have hkd:decide ((k:Int) < (n:Int))=true:=decide_eq_true (by omega)
   obtain ⟨b,o,rfl,hrow⟩:=((HV.out.new hN).1).at.2.2 k hlt
   have hsm:=HS.out (L.getD k noP) (getD_mem (by rw [Hn.out];exact hlt))
   have hnx:=HN.out k (by first | exact hlt | (rw [Hn.out];exact hlt))
   have hol:=HL.out k
   rw [List.length_take,Hn.out] at hol
   have hol2:(Bare.told (L.take k)).length ≤ 400000000000:=by
    have:min k n ≤ 2000000:=by omega
    have:=Nat.mul_le_mul_right 200000 this
    omega
   obtain ⟨⟨key,bb⟩,hp⟩:∃ p,L.getD k noP=p:=⟨_,rfl⟩
   rw [hp] at hrow hsm hnx
   unfold SmP at hsm
   simp only at hnx hsm
   have HY:=Lib.hid (fun W=>yes_r13 bb W)
   have HPr:=Lib.hid (fun W=>print_r bb hsm.2.2 W)
   obtain ⟨zc,ho⟩:=printV_text bb
   rw [ho] at HPr
   have htl:=text_len bb
   have hval:Bare.valued bb=if bb=Bare.yesI then [] else 61::Bare.textI bb:=rfl
   rw [hval] at hnx
   obtain ⟨k0,k1,k2,k3,k4⟩:=cells5 hrow
   obtain ⟨T,hTt⟩:∃ x,tx (Bare.textI bb)=x:=⟨_,rfl⟩
   obtain ⟨q,hq⟩:∃ x,tx key=x:=⟨_,rfl⟩
   obtain ⟨O,hO⟩:∃ x,tx (Bare.told (L.take k))=x:=⟨_,rfl⟩
   obtain ⟨U,hU⟩:∃ x,tx (Bare.told (L.take (k + 1)))=x:=⟨_,rfl⟩
   have HU:=Lib.hid hU
   have hqs:q.size ≤ 100000:=by rw [← hq,tx_size];exact hsm.1
   have hTs:T.size ≤ 50000:=by rw [← hTt,tx_size];omega
   have hOs:O.size ≤ 400000000000:=by rw [← hO,tx_size];exact hol2
   have hE1:bb=Bare.yesI→Hid (O ++ ⟨#[59]⟩ ++ q=U):=fun h=>Lib.hid (by
    rw [← hU,hnx,if_pos h,← hO,← hq,catx,cat_bl,bl_tx,bl_tx]
    simp [catx,cat_bl,bl_tx])
   have hE2:¬ bb=Bare.yesI→Hid (O ++ ⟨#[59]⟩ ++ q ++ ⟨#[61]⟩ ++ T=U):=fun h=>Lib.hid (by
    rw [← hU,hnx,if_neg h,← hO,← hq,← hTt]
    simp [catx,cat_bl,bl_tx])
   rw [hTt] at HPr
   obtain ⟨e,he⟩:∃ e,decide (bb=Bare.yesI)=e:=⟨_,rfl⟩
   rw [he] at HY
   unfold bv bcs at HY HPr
   obtain ⟨kk,nn,tt,yy⟩:=bb
   simp only at HY HPr k1 k2 k3 k4
   obtain ⟨s,hse⟩:∃ s,tx tt=s:=⟨_,rfl⟩
   rw [hse] at HY HPr k3
   rw [hq] at k0
   rw [hO]
   have z1:¬ 9223372036854775807 < O.size + 1:=by omega
   have z2:¬ 9223372036854775807 < O.size + 1 + q.size:=by omega
   have z3:¬ 9223372036854775807 < O.size + 1 + q.size + 1:=by omega
   have z4:¬ 9223372036854775807 < O.size + 1 + q.size + 1 + T.size:=by omega
   clear hrow hsm hnx hol hol2 hp HN HL HS HR hval htl ho hTt hq hO hU hse
   go_wp2_with fail
   refine (HY.out _).mono ?_
   rintro e1 w1 ⟨rfl,hN1⟩
   replace k1:=hN1.cell k1 id
   replace k2:=hN1.cell k2 id
   replace k3:=hN1.cell k3 id
   replace k4:=hN1.cell k4 id
   cases e with
   | true =>
    have hJ:=hE1 (of_decide_eq_true he)
    clear hE1 hE2 he HPr HY k0
    go_wp2_with fail
    go_roundw
    case rel=>exact ⟨k + 1,by omega,by go_num,by rw [HU.out,hJ.out],hN.trans hN1⟩
    case measure=>simp [intOf];omega
   | false =>
    have hJ:=hE2 (of_decide_eq_false he)
    clear hE1 hE2 he HY k0
    go_wp2_with fail
    refine (HPr.out _).mono ?_
    rintro e2 w2 ⟨rfl,hN2⟩
    clear k1 k2 k3 k4
    go_wp2_with fail
    go_roundw
    case rel=>exact ⟨k + 1,by omega,by go_num,by rw [HU.out,hJ.out],(hN.trans hN1).trans hN2⟩
    case measure=>simp [intOf];omega
  ·obtain rfl:k=n:=by omega
   have hkd:decide ((k:Int) < (k:Int))=false:=decide_eq_false (by omega)
   have hR:=HR.out
   subst hR
   clear HN HL HS Hn
   go_wp2_with fail
   go_ret
   exact ⟨rfl,hN⟩


theorem itext_r {τ:Bool} (x:Bare.Itm) (pv:Value) (w:World) (hp:RdP τ w pv x.params) (hs:PrX x) :
  Calls Tryz.prog 143 #[.agg (ics x pv).toArray] w fun e w'=>e = .returned (.string (tx (Bare.toldI x)))∧New w w':=by
 have HTx:=Lib.hid (fun W (hW:New w W)=>ptext_r pv x.params W (hp.new hW) hs.1.2.2.2 (by have:=hs.2;omega))
 have HPr:=Lib.hid (fun W=>print_r x.bare hs.1.2.1 W)
 obtain ⟨zc,ho⟩:=printV_text x.bare
 rw [ho] at HPr
 have htl:(Bare.told x.params).length ≤ 100000000:=toldP_len hs.2 hs.1.2.2.2
 have hvl:=text_len x.bare
 have hxt:=hs.1.2.1
 obtain ⟨xa,xc,rfl⟩:=hp.slice
 obtain ⟨⟨kk,nn,tt,yy⟩,xps⟩:=x
 unfold ics
 unfold bcs at *
 unfold bv bcs at HPr
 simp only at HPr HTx htl hvl hxt ⊢
 obtain ⟨s,hse⟩:∃ x,tx tt=x:=⟨_,rfl⟩
 obtain ⟨T,hTt⟩:∃ x,tx (Bare.textI ⟨kk,nn,tt,yy⟩)=x:=⟨_,rfl⟩
 obtain ⟨V,hVt⟩:∃ x,tx (Bare.told xps)=x:=⟨_,rfl⟩
 have hTs:T.size ≤ 50000:=by rw [← hTt,tx_size];omega
 have hVs:V.size ≤ 100000000:=by rw [← hVt,tx_size];exact htl
 have Hx:Hid (T ++ V=tx (Bare.toldI ⟨⟨kk,nn,tt,yy⟩,xps⟩)):=Lib.hid (by rw [← hTt,← hVt,catx];rfl)
 obtain ⟨R,hR⟩:∃ x,tx (Bare.toldI ⟨⟨kk,nn,tt,yy⟩,xps⟩)=x:=⟨_,rfl⟩
 rw [hR] at Hx ⊢
 rw [hse] at HPr ⊢
 rw [hTt] at HPr
 rw [hVt] at HTx
 obtain ⟨l,hl⟩:∃ l,xps.length=l:=⟨_,rfl⟩
 rw [hl] at HTx ⊢
 clear hse hTt hVt hR htl hvl hxt hp hs ho hl
 go_enter Tryz.func143,Tryz.ntmps143
 go_upto_region 1 with fail
 have hr:=World.alloc_heap_new w (.cells #[.int .u8 kk,.int .i64 nn,.string s,.bool yy,.slice xa l xc] 85)
 have hN:New w (w.alloc (.cells #[.int .u8 kk,.int .i64 nn,.string s,.bool yy,.slice xa l xc] 85)):=(Mods.refl _ _).alloc _
 obtain ⟨W,hW⟩:∃ W,w.alloc (.cells #[.int .u8 kk,.int .i64 nn,.string s,.bool yy,.slice xa l xc] 85)=W:=⟨_,rfl⟩
 rw [hW] at hN hr ⊢
 obtain ⟨B,hB⟩:∃ B,w.heap.size=B:=⟨_,rfl⟩
 rw [hB] at hr ⊢
 clear hW hB
 have c0:=cell_of_row _ _ 0 _ _ _ hr
 have c1:=cell_of_row _ _ 1 _ _ _ hr
 have c2:=cell_of_row _ _ 2 _ _ _ hr
 have c3:=cell_of_row _ _ 3 _ _ _ hr
 have c4:=cell_of_row _ _ 4 _ _ _ hr
 simp only [gS] at c0 c1 c2 c3 c4
 clear hr
 go_wp2_with fail
 refine (HPr.out _).mono ?_
 rintro e1 w1 ⟨rfl,hN1⟩
 have d4:=hN1.cell c4 id
 clear c0 c1 c2 c3 c4
 have z1:¬ 9223372036854775807 < T.size + V.size:=by omega
 go_wp2_with fail
 refine (HTx.out _ (hN.trans hN1)).mono ?_
 rintro e2 w2 ⟨rfl,hN2⟩
 clear d4
 go_wp2_with fail
 go_ret
 exact ⟨(by rw [Hx.out];rfl),(hN.trans hN1).trans hN2⟩
end Go.Proofs.YtnknmmbnhoanfaaGreatDoor
namespace Go.Proofs.YtnknmmbnhoanfaaGreatDoor
open Go.RowKit Go.Shelf Go.Cs


theorem take_snocT {α:Type} (L:List α) (d:α) (i:Nat) (hi:i < L.length):L.take (i + 1)=L.take i ++ [L.getD i d]:=by
 rw [List.take_add_one,List.getElem?_eq_getElem hi,List.getD_eq_getElem?_getD,List.getElem?_eq_getElem hi]
 rfl
theorem joinW_snoc (sep x:Bare.Bs):∀ M:List Bare.Bs,Bare.joinW sep (M ++ [x])=if M = [] then x else Bare.joinW sep M ++ (sep ++ x)
 | []=>rfl
 | [a]=>rfl
 | a::b::r=>by
  have:=joinW_snoc sep x (b::r)
  rw [if_neg (by simp)] at this
  rw [if_neg (by simp),List.cons_append,List.cons_append]
  show a ++ (sep ++ Bare.joinW sep (b::(r ++ [x]))) = _
  rw [← List.cons_append,this]
  show _=a ++ (sep ++ Bare.joinW sep (b::r)) ++ (sep ++ x)
  simp only [List.append_assoc]
theorem join_take {α:Type} (sep:Bare.Bs) (f:α→Bare.Bs) (L:List α) (d:α) (i:Nat) (hi:i < L.length) :
  Bare.joinW sep ((L.take (i + 1)).map f)=if i=0 then f (L.getD i d) else Bare.joinW sep ((L.take i).map f) ++ (sep ++ f (L.getD i d)):=by
 rw [take_snocT L d i hi,List.map_append,List.map_cons,List.map_nil,joinW_snoc]
 by_cases h:i=0
 ·subst h
  rw [if_pos rfl,if_pos (by simp)]
 ·rw [if_neg h,if_neg]
  intro e
  have:=congrArg List.length e
  rw [List.length_map,List.length_take,List.length_nil] at this
  omega
theorem join_le {α:Type} (sep:Bare.Bs) (f:α→Bare.Bs) (L:List α) (d:α):∀ i,i ≤ L.length→∀ k,i + k ≤ L.length→(Bare.joinW sep ((L.take i).map f)).length ≤ (Bare.joinW sep ((L.take (i + k)).map f)).length:=by
 intro i hi k
 induction k with
 | zero=>intro _;exact Nat.le_refl _
 | succ k ih =>
  intro hk
  refine Nat.le_trans (ih (by omega)) ?_
  rw [show i + (k + 1)=(i + k) + 1 by omega,join_take sep f L d (i + k) (by omega)]
  split
  ·rename_i h
   rw [h]
   simp [Bare.joinW]
  ·rw [List.length_append];omega
theorem join_part {α:Type} (sep:Bare.Bs) (f:α→Bare.Bs) (L:List α) (d:α) (i:Nat) (hi:i ≤ L.length):(Bare.joinW sep ((L.take i).map f)).length ≤ (Bare.joinW sep (L.map f)).length:=by
 have:=join_le sep f L d i hi (L.length - i) (by omega)
 rw [show i + (L.length - i)=L.length by omega,List.take_length] at this
 exact this
end Go.Proofs.YtnknmmbnhoanfaaGreatDoor
namespace Go.Proofs.YtnknmmbnhoanfaaGreatDoor
open Go.RowKit Go.Shelf Go.Cs
attribute [local go_sem] Oper.semAt_some


theorem app_nil (q:ByteArray):q ++ tx []=q:=by rw [cat_bl,bl_tx,List.append_nil,tx_bl]
theorem mbox (w:World) (a b c d:Value):∃ V M,w.alloc (.cells #[a,b,c,d] 44)=V∧w.heap.size=M∧(V.cell? ⟨M,0,none⟩=some a∧V.cell? ⟨M,1,none⟩=some b∧V.cell? ⟨M,2,none⟩=some c∧V.cell? ⟨M,3,none⟩=some d)∧New w V:=by
 have h:=World.alloc_heap_new w (.cells #[a,b,c,d] 44)
 exact ⟨_,_,rfl,rfl,⟨cell_of_row _ _ 0 _ _ _ h,cell_of_row _ _ 1 _ _ _ h,cell_of_row _ _ 2 _ _ _ h,cell_of_row _ _ 3 _ _ _ h⟩,(Mods.refl _ _).alloc _⟩
theorem mtext_one {τ:Bool} (m:Bare.Mem) (iv pv:Value) (w:World) (hI:RdI τ w iv m.items) (hs:PrM m) (hi:m.inner=false) (hl:m.items.length=1) :
  Calls Tryz.prog 83 #[.agg (mcs m iv pv).toArray] w fun e w'=>e = .returned (.string (tx (Bare.toldM m)))∧New w w':=by
 obtain ⟨x,hx⟩:∃ x,m.items = [x]:=List.length_eq_one_iff.1 hl
 have hx':=hs.2.2.2 x (by rw [hx];simp)
 have hks:=hs.1.1
 obtain ⟨xv,r1,-,r3⟩:=hI
 have hrp:=r3 0 (by rw [hl];decide)
 rw [hx] at hrp r1
 obtain ⟨key,inn,its,ps⟩:=m
 simp only at hx hi hl hks
 subst hx hi
 obtain ⟨ia,ic,rfl⟩:=r1.slice
 obtain ⟨ib,io,rfl,hxr⟩:=r1.at.2.2 0 (by simp)
 simp only [List.getD_cons_zero,Nat.zero_mul,Nat.add_zero] at hxr hrp
 have HTx:=Lib.hid (fun W (hW:New w W)=>ptext_r (xv 0) x.params W (hrp.new hW) hx'.1.2.2.2 (by have:=hx'.2;omega))
 have HIt:=Lib.hid (fun W (hW:New w W)=>itext_r x (xv 0) W (hrp.new hW) hx')
 have HY:=Lib.hid (fun W=>yes_r13 x.bare W)
 have htl:(Bare.told x.params).length ≤ 100000000:=toldP_len hx'.2 hx'.1.2.2.2
 have hil:=toldI_len hx'
 have hmt:Bare.toldM ⟨key,false,[x],ps⟩=key ++ (Bare.valued x.bare ++ Bare.told x.params):=rfl
 have hval:Bare.valued x.bare=if x.bare=Bare.yesI then [] else 61::Bare.textI x.bare:=rfl
 rw [hval] at hmt
 obtain ⟨q,hq⟩:∃ x,tx key=x:=⟨_,rfl⟩
 obtain ⟨V,hV⟩:∃ y,tx (Bare.told x.params)=y:=⟨_,rfl⟩
 obtain ⟨I,hI⟩:∃ y,tx (Bare.toldI x)=y:=⟨_,rfl⟩
 obtain ⟨R,hR⟩:∃ y,tx (Bare.toldM ⟨key,false,[x],ps⟩)=y:=⟨_,rfl⟩
 have hqs:q.size ≤ 100000:=by rw [← hq,tx_size];exact hks
 have hVs:V.size ≤ 100000000:=by rw [← hV,tx_size];exact htl
 have hIs:I.size ≤ 100050000:=by rw [← hI,tx_size];exact hil
 have hE1:x.bare=Bare.yesI→Hid (q ++ V=R):=fun h=>Lib.hid (by
  rw [← hR,hmt,if_pos h,← hq,← hV,catx];rfl)
 have hE2:¬ x.bare=Bare.yesI→Hid (q ++ ⟨#[61]⟩ ++ I=R):=fun h=>Lib.hid (by
  rw [← hR,hmt,if_neg h,← hq,← hI,show (⟨#[61]⟩:ByteArray)=tx [61] from rfl,catx,catx]
  unfold Bare.toldI
  simp)
 obtain ⟨xa,xc,hxe⟩:=hrp.slice
 rw [hxe] at hxr HTx HIt
 rw [hR]
 rw [hV] at HTx
 rw [hI] at HIt
 obtain ⟨e,he⟩:∃ e,decide (x.bare=Bare.yesI)=e:=⟨_,rfl⟩
 rw [he] at HY
 obtain ⟨⟨kk,nn,tt,yy⟩,xps⟩:=x
 unfold bv bcs at HY
 unfold ics at HIt hxr
 unfold mcs
 simp only at HTx HIt HY hxr hE1 hE2 he ⊢
 obtain ⟨i0,i1,i2,i3,i4⟩:=cells5 hxr
 obtain ⟨s,hse⟩:∃ x,tx tt=x:=⟨_,rfl⟩
 obtain ⟨l,hl'⟩:∃ l,xps.length=l:=⟨_,rfl⟩
 rw [hse] at HY HIt i2
 rw [hl'] at HTx HIt i4
 rw [hq]
 clear hse hl' hq hV hI hR hmt hval htl hil hxr hxe hrp r1 r3 hks hx' hs hl
 go_enter Tryz.func83,Tryz.ntmps83
 go_upto_region 1 with fail
 obtain ⟨W,B,hW,hB,⟨c0,c1,c2,c3⟩,hN⟩:=mbox w (.string q) (.bool false) (.slice (some ⟨ib,io,none⟩) 1 ic) pv
 rw [hW,hB]
 clear hW hB
 replace i0:=hN.cell i0 id
 replace i1:=hN.cell i1 id
 replace i2:=hN.cell i2 id
 replace i3:=hN.cell i3 id
 replace i4:=hN.cell i4 id
 go_wp2_with fail
 refine (HY.out _).mono ?_
 rintro e1 w1 ⟨rfl,hN1⟩
 replace hN:=hN.trans hN1
 replace i0:=hN1.cell i0 id
 replace i1:=hN1.cell i1 id
 replace i2:=hN1.cell i2 id
 replace i3:=hN1.cell i3 id
 replace i4:=hN1.cell i4 id
 replace c0:=hN1.cell c0 id
 replace c1:=hN1.cell c1 id
 replace c2:=hN1.cell c2 id
 replace c3:=hN1.cell c3 id
 have C0:=Lib.hid c0
 clear hN1 HY
 cases e with
 | true =>
  have hJ:=hE1 (of_decide_eq_true he)
  have z1:¬ 9223372036854775807 < q.size + V.size:=by omega
  clear hE1 hE2 he HIt
  go_upto_region 2 with fail
  go_region_with (refine (HTx.out _ hN.drew).mono ?_;rintro e2 w2 ⟨rfl,hN2⟩;have q0:=hN2.cell (show w1.drew.cell? ⟨B,0,none⟩ = _ from C0.out) id)
  all_goals
   have hN3:=hN.trans ((Mods.refl (fun _=>False) w1).drew.trans hN2)
   go_wp2_with fail
   go_ret
   exact ⟨(by first | rfl | (rw [hJ.out];rfl)),hN3⟩
 | false =>
  have hJ:=hE2 (of_decide_eq_false he)
  have z1:¬ 9223372036854775807 < q.size + 1:=by omega
  have z2:¬ 9223372036854775807 < q.size + 1 + I.size:=by omega
  clear hE1 hE2 he HTx
  go_upto_region 4 with fail
  go_region_with (refine (HIt.out _ hN.drew).mono ?_;rintro e2 w2 ⟨rfl,hN2⟩;have q0:=hN2.cell (show w1.drew.cell? ⟨B,0,none⟩ = _ from C0.out) id)
  all_goals
   have hN3:=hN.trans ((Mods.refl (fun _=>False) w1).drew.trans hN2)
   go_wp2_with fail
   go_ret
   exact ⟨(by first | rfl | (rw [hJ.out];rfl)),hN3⟩
theorem mtext_in {τ:Bool} (m:Bare.Mem) (iv pv:Value) (w:World) (hI:RdI τ w iv m.items) (hP:RdP τ w pv m.params) (hs:PrM m) (hi:m.inner=true) :
  Calls Tryz.prog 83 #[.agg (mcs m iv pv).toArray] w fun e w'=>e = .returned (.string (tx (Bare.toldM m)))∧New w w':=by
 have hks:=hs.1.1
 have htd:=toldP_len hs.2.2.1 hs.1.2.2.2.2
 have HTd:=Lib.hid (fun W (hW:New w W)=>ptext_r pv m.params W (hP.new hW) hs.1.2.2.2.2 (by have:=hs.2.2.1;omega))
 have HIx:Hid (∀ x ∈ m.items,PrX x):=Lib.hid hs.2.2.2
 have HIl:Hid (m.items.length ≤ 500):=Lib.hid hs.2.1
 have HIv:=Lib.hid hI
 obtain ⟨ia,ic,rfl⟩:=hI.slice
 obtain ⟨key,inn,its,ps⟩:=m
 simp only at hi hks htd HTd HIx HIl HIv
 subst hi
 have hmt:Bare.toldM ⟨key,true,its,ps⟩=key ++ (61::40::(Bare.joinW [32] (its.map Bare.toldI) ++ (41::Bare.told ps))):=rfl
 have hji:=joinI_len HIl.out HIx.out
 obtain ⟨q,hq⟩:∃ x,tx key=x:=⟨_,rfl⟩
 obtain ⟨td,htx⟩:∃ y,tx (Bare.told ps)=y:=⟨_,rfl⟩
 obtain ⟨R,hR⟩:∃ y,tx (Bare.toldM ⟨key,true,its,ps⟩)=y:=⟨_,rfl⟩
 have hqs:q.size ≤ 100000:=by rw [← hq,tx_size];exact hks
 have hts:td.size ≤ 100000000:=by rw [← htx,tx_size];exact htd
 have HJl:=Lib.hid (fun j (hj:j ≤ its.length)=>Nat.le_trans (join_part [32] Bare.toldI its Bare.noI j hj) hji)
 have HJs:=Lib.hid (fun j (hj:j < its.length)=>join_take [32] Bare.toldI its Bare.noI j hj)
 have HE:Hid (q ++ ⟨#[61,40]⟩ ++ tx (Bare.joinW [32] (its.map Bare.toldI)) ++ ⟨#[41]⟩ ++ td=R):=Lib.hid (by
  rw [← hR,hmt,← hq,← htx,show (⟨#[61,40]⟩:ByteArray)=tx [61,40] from rfl,show (⟨#[41]⟩:ByteArray)=tx [41] from rfl,catx,catx,catx,catx]
  simp)
 rw [hR]
 rw [htx] at HTd
 obtain ⟨il,hil⟩:∃ l,its.length=l:=⟨_,rfl⟩
 have Hil:=Lib.hid hil
 obtain ⟨pa,pc,rfl⟩:=hP.slice
 obtain ⟨pl,hpl⟩:∃ l,ps.length=l:=⟨_,rfl⟩
 unfold mcs
 simp only at HTd ⊢
 rw [hpl] at HTd ⊢
 rw [hil] at HIv HIl HJl HJs ⊢
 rw [hq]
 clear hq htx hR hmt htd hks hil hpl hji hs hI hP
 go_enter Tryz.func83,Tryz.ntmps83
 go_upto_region 1 with fail
 obtain ⟨W,B,hW,hB,⟨c0,c1,c2,c3⟩,hN⟩:=mbox w (.string q) (.bool true) (.slice ia il ic) (.slice pa pl pc)
 rw [hW,hB]
 clear hW hB
 have C2:=Lib.hid c2
 have C3:=Lib.hid c3
 have z1:¬ 9223372036854775807 < q.size + 2:=by omega
 go_wp2_with fail
 go_loopw [3,4] (fun a t wr=>∃ j:Nat,j ≤ il∧t = .int .i64 j∧a = .string (q ++ ⟨#[61,40]⟩ ++ tx (Bare.joinW [32] ((its.take j).map Bare.toldI)))∧New W wr) (fun _ t _=>il - (intOf t).toNat)
 case atStart=>exact ⟨0,Nat.zero_le _,rfl,congrArg Value.string (app_nil _).symm,Mods.refl _ _⟩
 case round =>
  clear c0 c1 c2 c3 z1
  obtain ⟨j,hj,rfl,rfl,hNr⟩:=hrel
  have hil5:=HIl.out
  have d2:=hNr.cell C2.out id
  have d3:=hNr.cell C3.out id
  by_cases hjl:j < il
  ·have hjd:decide ((j:Int) < (il:Int))=true:=decide_eq_true (by omega)
   have hjl':j < its.length:=by rw [Hil.out];exact hjl
   obtain ⟨xv,r1,-,r3⟩:=HIv.out
   obtain ⟨ib,io,rfl,hxr0⟩:=r1.at.2.2 j hjl
   have hxr:wr.rangeAt ib (io + j * 5) (ics (its.getD j Bare.noI) (xv j)):=fun i u hj=>(hN.trans hNr).cell (hxr0 i u hj) id
   have hxp:=(r3 j hjl').new (hN.trans hNr)
   have hxs:=HIx.out _ (getD_mem (d:=Bare.noI) hjl')
   have hst:=HJs.out j hjl
   have hln:=HJl.out j hj
   obtain ⟨x,hxx⟩:∃ x,its.getD j Bare.noI=x:=⟨_,rfl⟩
   rw [hxx] at hxr hxp hxs hst
   have HIt:=Lib.hid (fun W (hW:New wr W)=>itext_r x (xv j) W (hxp.new hW) hxs)
   have hil:=toldI_len hxs
   obtain ⟨xa,xc,hxe⟩:=hxp.slice
   rw [hxe] at hxr HIt
   obtain ⟨I,hI⟩:∃ y,tx (Bare.toldI x)=y:=⟨_,rfl⟩
   obtain ⟨J,hJ⟩:∃ y,tx (Bare.joinW [32] ((its.take j).map Bare.toldI))=y:=⟨_,rfl⟩
   obtain ⟨J2,hJ2⟩:∃ y,tx (Bare.joinW [32] ((its.take (j + 1)).map Bare.toldI))=y:=⟨_,rfl⟩
   have HJ2:=Lib.hid hJ2
   have hIs:I.size ≤ 100050000:=by rw [← hI,tx_size];exact hil
   have hJs:J.size ≤ 50030000000:=by rw [← hJ,tx_size];exact hln
   have hE1:j=0→Hid (q ++ ⟨#[61,40]⟩ ++ J ++ I=q ++ ⟨#[61,40]⟩ ++ J2):=fun h=>Lib.hid (by
    rw [← hJ2,hst,if_pos h,← hI,← hJ,h]
    show _ ++ tx [] ++ _ = _
    rw [app_nil])
   have hE2:¬ j=0→Hid (q ++ ⟨#[61,40]⟩ ++ J ++ ⟨#[32]⟩ ++ I=q ++ ⟨#[61,40]⟩ ++ J2):=fun h=>Lib.hid (by
    rw [← hJ2,hst,if_neg h,← hI,← hJ,show (⟨#[32]⟩:ByteArray)=tx [32] from rfl,← catx,← catx]
    simp only [ByteArray.append_assoc])
   rw [hI] at HIt
   rw [hJ]
   obtain ⟨⟨kk,nn,tt,yy⟩,xps⟩:=x
   unfold ics at HIt hxr
   simp only at HIt hxr
   obtain ⟨i0,i1,i2,i3,i4⟩:=cells5 hxr
   obtain ⟨s,hse⟩:∃ x,tx tt=x:=⟨_,rfl⟩
   obtain ⟨l,hl'⟩:∃ l,xps.length=l:=⟨_,rfl⟩
   rw [hse] at HIt i2
   rw [hl'] at HIt i4
   have z1:¬ 9223372036854775807 < q.size + 2 + J.size + 1:=by omega
   have z2:¬ 9223372036854775807 < q.size + 2 + J.size + 1 + I.size:=by omega
   have z3:¬ 9223372036854775807 < q.size + 2 + J.size + I.size:=by omega
   clear hse hl' hxx hI hJ hJ2 hst hln hil hxe hxs hxp hxr hxr0 r1 r3 d3
   by_cases h0:j=0
   ·have hgd:decide ((0:Int) < (j:Int))=false:=decide_eq_false (by omega)
    have hn0:¬ 0 < j:=by omega
    have hJ:=hE1 h0
    clear hE1 hE2 h0
    go_wp2_with fail
    refine (HIt.out _ (Mods.refl _ _)).mono ?_
    rintro e1 w1 ⟨rfl,hN1⟩
    clear d2 i0 i1 i2 i3 i4
    go_wp2_with fail
    go_roundw
    case rel=>exact ⟨j + 1,by omega,by go_num,by rw [HJ2.out,← hJ.out],hNr.trans hN1⟩
    case measure=>simp [intOf];omega
   ·have hgd:decide ((0:Int) < (j:Int))=true:=decide_eq_true (by omega)
    have hn0:0 < j:=by omega
    have hJ:=hE2 h0
    clear hE1 hE2 h0
    go_wp2_with fail
    refine (HIt.out _ (Mods.refl _ _)).mono ?_
    rintro e1 w1 ⟨rfl,hN1⟩
    clear d2 i0 i1 i2 i3 i4
    go_wp2_with fail
    go_roundw
    case rel=>exact ⟨j + 1,by omega,by go_num,by rw [HJ2.out,← hJ.out],hNr.trans hN1⟩
    case measure=>simp [intOf];omega
  ·obtain rfl:j=il:=by omega
   have hjd:decide ((j:Int) < (j:Int))=false:=decide_eq_false (by omega)
   have hln:=HJl.out j hj
   have hall:(its.take j).map Bare.toldI=its.map Bare.toldI:=by rw [List.take_of_length_le (by rw [Hil.out];exact Nat.le_refl _)]
   rw [hall] at hln ⊢
   have HTd2:=Lib.hid (HTd.out wr (hN.trans hNr))
   obtain ⟨J,hJ⟩:∃ y,tx (Bare.joinW [32] (its.map Bare.toldI))=y:=⟨_,rfl⟩
   have hJs:J.size ≤ 50030000000:=by rw [← hJ,tx_size];exact hln
   rw [hJ] at HE ⊢
   have z1:¬ 9223372036854775807 < q.size + 2 + J.size + 1:=by omega
   have z2:¬ 9223372036854775807 < q.size + 2 + J.size + 1 + td.size:=by omega
   clear hJ hall hln HJl HJs HIv HIx HIl Hil
   go_wp2_with fail
   refine HTd2.out.mono ?_
   rintro e2 w2 ⟨rfl,hN2⟩
   go_wp2_with fail
   go_ret
   exact ⟨(by first | rfl | (rw [HE.out];rfl)),(hN.trans hNr).trans hN2⟩
theorem mtext_r {τ:Bool} (m:Bare.Mem) (iv pv:Value) (w:World) (hI:RdI τ w iv m.items) (hP:RdP τ w pv m.params) (hs:PrM m) (hm:m.inner=true ∨ m.items.length=1) :
  Calls Tryz.prog 83 #[.agg (mcs m iv pv).toArray] w fun e w'=>e = .returned (.string (tx (Bare.toldM m)))∧New w w':=by
 cases hi:m.inner with
 | true=>exact mtext_in m iv pv w hI hP hs hi
 | false=>exact mtext_one m iv pv w hI hs hi (hm.resolve_left (by rw [hi];decide))


theorem number_pos_r (s:ByteArray) (w:World) (hs:s.size ≤ 1000000) (h0:0 < s.size) (hng:gb s 0 ≠ 45) :
  Calls Tryz.prog 59 #[.string s] w (ReadP (Bare.number (bl s)) w):=by
 have hc45:decide (gb s 0=45)=false:=decide_eq_false hng
 rw [u8_eq] at hc45
 have hix0:∀ W,(Instr.index 9 (.string s) (.int .i64 0)).run Tryz.prog W = .ok (.int .u8 ((gb s 0).toNat:Nat)) W:=run_idx s 0 (by omega)
 have e0:Bare.number (bl s)=numR 1 (bl s):=by
  have hh:(bl s).head? = some (gb s 0):=by have:=head_drop s 0 h0;rwa [List.drop_zero] at this
  rw [number_numR,hh]
  simp [hng]
 rw [e0]
 clear e0
 obtain ⟨c,hc⟩:∃ c,(gb s 0).toNat=c:=⟨_,rfl⟩
 rw [hc] at hc45 hix0
 have hceq:((c:Int) == 45)=false:=hc45
 clear hc hc45 hng
 have HNo:=Lib.hid (fun W=>none_r W)
 unfold ReadP bv bcs noIt at HNo
 simp only at HNo
 have HR:=Lib.hid (fun W=>(run_r s W (by omega)).mono fun e w' h=>show e = _∧W=w' from ⟨h.1,h.2.symm⟩)
 have hle:=Bare.takeWhile_len Bare.digB (bl s)
 have htk:=Bare.takeWhile_take Bare.digB (bl s)
 have hdg:=digs_take (bl s)
 unfold numR
 simp only
 obtain ⟨d,hd⟩:∃ d,(bl s).takeWhile Bare.digB=d:=⟨_,rfl⟩
 rw [hd] at HR hle htk hdg ⊢
 obtain ⟨n,hn⟩:∃ n,d.length=n:=⟨_,rfl⟩
 rw [hn] at HR hle htk ⊢
 rw [bl_len] at hle
 clear hd
 obtain ⟨hN,hr⟩:=no_row w
 by_cases h1:n < 1
 ·have d1:decide ((n:Int)=0)=true:=decide_eq_true (by omega)
  have d1':((n:Int) == 0)=true:=d1
  rw [if_pos (.inl h1)]
  unfold ReadP bv bcs noIt
  simp only
  clear htk h1 hn hle
  go_enter Tryz.func59,Tryz.ntmps59
  go_upto_region 1 with fail
  obtain ⟨W,hW⟩:∃ W,w.alloc (.cells #[.int .u8 0,.int .i64 0,.string ⟨#[]⟩,.bool false] 23)=W:=⟨_,rfl⟩
  rw [hW] at hN hr ⊢
  obtain ⟨B,hB⟩:∃ B,w.heap.size=B:=⟨_,rfl⟩
  have hBw:w.heap.size ≤ B:=by omega
  rw [hB] at hr ⊢
  clear hW hB
  obtain ⟨⟨c0,c1,c2,c3⟩,f0,f1,f2,f3⟩:=row_facts hr
  go_wp2_with (go_at_call 112;refine (HR.out _).mono ?_;rintro e w' ⟨rfl,rfl⟩)
  refine (HNo.out _).mono ?_
  rintro e wn ⟨rfl,hNn⟩
  have hN:=hN.trans hNn
  have hr:=hNn.heap hr id
  clear c0 c1 c2 c3 f0 f1 f2 f3 hNn
  obtain ⟨⟨c0,c1,c2,c3⟩,f0,f1,f2,f3⟩:=row_facts hr
  go_wp2_with fail
  obtain ⟨hN2,hr2⟩:=set4 hN hBw hr (.int .u8 0) (.int .i64 0) (.string ⟨#[]⟩) (.bool false)
  obtain ⟨W2,hW2⟩:∃ W2,((((wn.setCell ⟨B,0,none⟩ (.int .u8 0)).setCell ⟨B,1,none⟩ (.int .i64 0)).setCell ⟨B,2,none⟩ (.string ⟨#[]⟩)).setCell ⟨B,3,none⟩ (.bool false))=W2:=⟨_,rfl⟩
  rw [hW2] at hN2 hr2 ⊢
  exact read_end (by kernel_rfl) rfl rfl rfl hr2 ⟨rfl,hN2⟩
 have d1:decide ((n:Int)=0)=false:=decide_eq_false (by omega)
 have d1':((n:Int) == 0)=false:=d1
 by_cases h15:15 < n
 ·have d2:decide (15 < (n:Int))=true:=decide_eq_true (by omega)
  rw [if_pos (.inr h15)]
  unfold ReadP bv bcs noIt
  simp only
  clear htk h1 hn hle
  go_enter Tryz.func59,Tryz.ntmps59
  go_upto_region 1 with fail
  obtain ⟨W,hW⟩:∃ W,w.alloc (.cells #[.int .u8 0,.int .i64 0,.string ⟨#[]⟩,.bool false] 23)=W:=⟨_,rfl⟩
  rw [hW] at hN hr ⊢
  obtain ⟨B,hB⟩:∃ B,w.heap.size=B:=⟨_,rfl⟩
  have hBw:w.heap.size ≤ B:=by omega
  rw [hB] at hr ⊢
  clear hW hB
  obtain ⟨⟨c0,c1,c2,c3⟩,f0,f1,f2,f3⟩:=row_facts hr
  go_wp2_with (go_at_call 112;refine (HR.out _).mono ?_;rintro e w' ⟨rfl,rfl⟩)
  refine (HNo.out _).mono ?_
  rintro e wn ⟨rfl,hNn⟩
  have hN:=hN.trans hNn
  have hr:=hNn.heap hr id
  clear c0 c1 c2 c3 f0 f1 f2 f3 hNn
  obtain ⟨⟨c0,c1,c2,c3⟩,f0,f1,f2,f3⟩:=row_facts hr
  go_wp2_with fail
  obtain ⟨hN2,hr2⟩:=set4 hN hBw hr (.int .u8 0) (.int .i64 0) (.string ⟨#[]⟩) (.bool false)
  obtain ⟨W2,hW2⟩:∃ W2,((((wn.setCell ⟨B,0,none⟩ (.int .u8 0)).setCell ⟨B,1,none⟩ (.int .i64 0)).setCell ⟨B,2,none⟩ (.string ⟨#[]⟩)).setCell ⟨B,3,none⟩ (.bool false))=W2:=⟨_,rfl⟩
  rw [hW2] at hN2 hr2 ⊢
  exact read_end (by kernel_rfl) rfl rfl rfl hr2 ⟨rfl,hN2⟩
 have d2:decide (15 < (n:Int))=false:=decide_eq_false (by omega)
 rw [if_neg (by omega)]
 have HA:=Lib.hid (fun W=>(value_r (tx d) W (by rw [tx_size];omega) (by rw [bl_tx];exact hdg)).mono fun e w' h=>show e = _∧W=w' from ⟨h.1,h.2.symm⟩)
 rw [bl_tx] at HA
 have hsh:=run_sl_h s n hle
 have hvl:=val_lt hdg 15 (by omega)
 have hvl12:=fun h=>val_lt hdg 12 h
 rw [htk] at hsh
 have hsl:=run_sl_l s n hle
 obtain ⟨v,hv⟩:∃ v,Bare.valD d=v:=⟨_,rfl⟩
 rw [hv] at HA hvl hvl12 ⊢
 obtain ⟨dx,hdx⟩:∃ dx,tx d=dx:=⟨_,rfl⟩
 rw [hdx] at HA hsh
 rw [hn] at hvl12
 clear hv hdx htk hdg hn
 simp at hvl
 have hgv:1 * (v:Int)=(v:Int):=by omega
 by_cases hend:n=s.size
 ·have d3:decide ((n:Int)=(s.size:Int))=true:=decide_eq_true (by omega)
  have d3':((n:Int) == (s.size:Int))=true:=d3
  have hhd:((bl s).drop n).head? ≠ some 46:=by rw [hend,head_end];simp
  rw [if_pos hhd]
  obtain ⟨x,hx⟩:∃ x,tx ((bl s).drop n)=x:=⟨_,rfl⟩
  rw [hx] at hsl
  rw [hgv]
  clear hend
  unfold ReadP bv bcs noIt
  simp only
  rw [hx]
  clear hhd hx h1 h15 hle hvl12
  go_enter Tryz.func59,Tryz.ntmps59
  go_upto_region 1 with fail
  obtain ⟨W,hW⟩:∃ W,w.alloc (.cells #[.int .u8 0,.int .i64 0,.string ⟨#[]⟩,.bool false] 23)=W:=⟨_,rfl⟩
  rw [hW] at hN hr ⊢
  obtain ⟨B,hB⟩:∃ B,w.heap.size=B:=⟨_,rfl⟩
  have hBw:w.heap.size ≤ B:=by omega
  rw [hB] at hr ⊢
  clear hW hB
  obtain ⟨⟨c0,c1,c2,c3⟩,f0,f1,f2,f3⟩:=row_facts hr
  go_upto_region 9 with (go_at_call 112;refine (HR.out _).mono ?_;rintro e w' ⟨rfl,rfl⟩)
  go_region_with (go_at_call 113;refine (HA.out _).mono ?_;rintro e w' ⟨rfl,rfl⟩)
  have hwr:IntKind.i64.wrap (v:Int)=(v:Int):=by rw [IntKind.wrap_i64];omega
  rw [hwr]
  obtain ⟨hN2,hr2⟩:=set4 hN hBw hr (.int .u8 1) (.int .i64 (v:Int)) (.string ⟨#[]⟩) (.bool false)
  have hN2:=hN2.drew
  have hr2:((((W.setCell ⟨B,0,none⟩ (.int .u8 1)).setCell ⟨B,1,none⟩ (.int .i64 (v:Int))).setCell ⟨B,2,none⟩ (.string ⟨#[]⟩)).setCell ⟨B,3,none⟩ (.bool false)).drew.heap[B]? = some (.cells #[(.int .u8 1),(.int .i64 (v:Int)),(.string ⟨#[]⟩),(.bool false)] 23 (0,0)):=hr2
  obtain ⟨W2,hW2⟩:∃ W2,((((W.setCell ⟨B,0,none⟩ (.int .u8 1)).setCell ⟨B,1,none⟩ (.int .i64 (v:Int))).setCell ⟨B,2,none⟩ (.string ⟨#[]⟩)).setCell ⟨B,3,none⟩ (.bool false)).drew=W2:=⟨_,rfl⟩
  rw [hW2] at hN2 hr2 ⊢
  go_wp2_with fail
  exact read_end (by kernel_rfl) rfl rfl rfl hr2 ⟨rfl,hN2⟩
 have hlt:n < s.size:=by omega
 have d3:decide ((n:Int)=(s.size:Int))=false:=decide_eq_false (by omega)
 have d3':((n:Int) == (s.size:Int))=false:=d3
 have hixn:=run_idx s n hlt
 have hhn:=head_drop s n hlt
 have hq46:=u8_eq (gb s n) 46
 by_cases hq:gb s n=46
 case neg =>
  rw [decide_eq_false hq] at hq46
  have hhd:((bl s).drop n).head? ≠ some 46:=by rw [hhn];simpa using hq
  rw [if_pos hhd]
  obtain ⟨x,hx⟩:∃ x,tx ((bl s).drop n)=x:=⟨_,rfl⟩
  rw [hx] at hsl
  obtain ⟨q,hqn⟩:∃ q,(gb s n).toNat=q:=⟨_,rfl⟩
  rw [hqn] at hixn hq46
  have hq1:((q:Int) == 46)=false:=hq46.symm
  have hq2:((q:Int) != 46)=true:=by simp [bne,hq1]
  clear hq hqn hq46 hhd hhn hend hlt
  rw [hgv]
  unfold ReadP bv bcs noIt
  simp only
  rw [hx]
  clear hx h1 h15 hle hvl12
  go_enter Tryz.func59,Tryz.ntmps59
  go_upto_region 1 with fail
  obtain ⟨W,hW⟩:∃ W,w.alloc (.cells #[.int .u8 0,.int .i64 0,.string ⟨#[]⟩,.bool false] 23)=W:=⟨_,rfl⟩
  rw [hW] at hN hr ⊢
  obtain ⟨B,hB⟩:∃ B,w.heap.size=B:=⟨_,rfl⟩
  have hBw:w.heap.size ≤ B:=by omega
  rw [hB] at hr ⊢
  clear hW hB
  obtain ⟨⟨c0,c1,c2,c3⟩,f0,f1,f2,f3⟩:=row_facts hr
  go_upto_region 9 with (go_at_call 112;refine (HR.out _).mono ?_;rintro e w' ⟨rfl,rfl⟩)
  go_region_with (go_at_call 113;refine (HA.out _).mono ?_;rintro e w' ⟨rfl,rfl⟩)
  have hwr:IntKind.i64.wrap (v:Int)=(v:Int):=by rw [IntKind.wrap_i64];omega
  rw [hwr]
  obtain ⟨hN2,hr2⟩:=set4 hN hBw hr (.int .u8 1) (.int .i64 (v:Int)) (.string ⟨#[]⟩) (.bool false)
  have hN2:=hN2.drew
  have hr2:((((W.setCell ⟨B,0,none⟩ (.int .u8 1)).setCell ⟨B,1,none⟩ (.int .i64 (v:Int))).setCell ⟨B,2,none⟩ (.string ⟨#[]⟩)).setCell ⟨B,3,none⟩ (.bool false)).drew.heap[B]? = some (.cells #[(.int .u8 1),(.int .i64 (v:Int)),(.string ⟨#[]⟩),(.bool false)] 23 (0,0)):=hr2
  obtain ⟨W2,hW2⟩:∃ W2,((((W.setCell ⟨B,0,none⟩ (.int .u8 1)).setCell ⟨B,1,none⟩ (.int .i64 (v:Int))).setCell ⟨B,2,none⟩ (.string ⟨#[]⟩)).setCell ⟨B,3,none⟩ (.bool false)).drew=W2:=⟨_,rfl⟩
  rw [hW2] at hN2 hr2 ⊢
  go_wp2_with fail
  exact read_end (by kernel_rfl) rfl rfl rfl hr2 ⟨rfl,hN2⟩
 case pos =>
  rw [decide_eq_true hq] at hq46
  have hhd:¬ ((bl s).drop n).head? ≠ some 46:=by rw [hhn,hq];simp
  rw [if_neg hhd]
  obtain ⟨q,hqn⟩:∃ q,(gb s n).toNat=q:=⟨_,rfl⟩
  rw [hqn] at hixn hq46
  have hq1:((q:Int) == 46)=true:=hq46.symm
  have hq2:((q:Int) != 46)=false:=by simp [bne,hq1]
  have hnb:(n:Int) ≤ 1000000:=by omega
  clear hq hqn hq46 hhd hhn hend hgv
  have hsl1:∀ W,(Instr.slice 9 (.string s) (some (.int .i64 ((n:Int) + 1))) none none).run Tryz.prog W = .ok (.string (tx ((bl s).drop (n + 1)))) W:=fun W=>run_sl_l s (n + 1) (by omega) W
  obtain ⟨U,hU⟩:∃ U,tx ((bl s).drop (n + 1))=U:=⟨_,rfl⟩
  have hUl:((bl s).drop n).drop 1=bl U:=by rw [← hU,List.drop_drop]
  have hUs:U.size=s.size - (n + 1):=by rw [← hU,tx_size,List.length_drop,bl_len]
  have hdd:∀ k,((bl s).drop n).drop (1 + k)=(bl s).drop (n + 1 + k):=fun k=>by rw [List.drop_drop];congr 1;omega
  have hpc:∀ k,piec s (n + 1) (n + 1 + k)=tx ((bl U).take k):=fun k=>by unfold piec;rw [← hU,Nat.add_sub_cancel_left]
  rw [hU] at hsl1
  rw [hUl]
  have HU:=Lib.hid (fun W=>(run_r U W (by omega)).mono fun e w' h=>show e = _∧W=w' from ⟨h.1,h.2.symm⟩)
  have hek:=Bare.takeWhile_len Bare.digB (bl U)
  have het:=Bare.takeWhile_take Bare.digB (bl U)
  have hed:=digs_take (bl U)
  obtain ⟨e,he⟩:∃ e,(bl U).takeWhile Bare.digB=e:=⟨_,rfl⟩
  rw [he] at HU hek het hed ⊢
  obtain ⟨k,hk⟩:∃ k,e.length=k:=⟨_,rfl⟩
  rw [hk] at HU hek het ⊢
  rw [bl_len,hUs] at hek
  rw [hdd]
  have hkb:(k:Int) ≤ 1000000:=by omega
  clear he hU hUl hdd
  by_cases hn12:12 < n
  ·have d4:decide (12 < (n:Int))=true:=decide_eq_true (by omega)
   rw [if_pos (.inl hn12)]
   unfold ReadP bv bcs noIt
   simp only
   clear hn12 h1 h15 hle hed het hpc hek hUs hlt hk hvl12
   go_enter Tryz.func59,Tryz.ntmps59
   go_upto_region 1 with fail
   obtain ⟨W,hW⟩:∃ W,w.alloc (.cells #[.int .u8 0,.int .i64 0,.string ⟨#[]⟩,.bool false] 23)=W:=⟨_,rfl⟩
   rw [hW] at hN hr ⊢
   obtain ⟨B,hB⟩:∃ B,w.heap.size=B:=⟨_,rfl⟩
   have hBw:w.heap.size ≤ B:=by omega
   rw [hB] at hr ⊢
   clear hW hB
   obtain ⟨⟨c0,c1,c2,c3⟩,f0,f1,f2,f3⟩:=row_facts hr
   go_wp2_with (first | (go_at_call 112;with_reducible refine (HR.out _).mono ?_;rintro e w' ⟨rfl,rfl⟩) | (go_at_call 112;refine (HU.out _).mono ?_;rintro e w' ⟨rfl,rfl⟩))
   refine (HNo.out _).mono ?_
   rintro e wn ⟨rfl,hNn⟩
   have hN:=hN.trans hNn
   have hr:=hNn.heap hr id
   clear c0 c1 c2 c3 f0 f1 f2 f3 hNn
   obtain ⟨⟨c0,c1,c2,c3⟩,f0,f1,f2,f3⟩:=row_facts hr
   go_wp2_with fail
   obtain ⟨hN2,hr2⟩:=set4 hN hBw hr (.int .u8 0) (.int .i64 0) (.string ⟨#[]⟩) (.bool false)
   obtain ⟨W2,hW2⟩:∃ W2,((((wn.setCell ⟨B,0,none⟩ (.int .u8 0)).setCell ⟨B,1,none⟩ (.int .i64 0)).setCell ⟨B,2,none⟩ (.string ⟨#[]⟩)).setCell ⟨B,3,none⟩ (.bool false))=W2:=⟨_,rfl⟩
   rw [hW2] at hN2 hr2 ⊢
   exact read_end (by kernel_rfl) rfl rfl rfl hr2 ⟨rfl,hN2⟩
  have d4:decide (12 < (n:Int))=false:=decide_eq_false (by omega)
  by_cases hk1:k < 1
  ·have d5:decide ((k:Int) < 1)=true:=decide_eq_true (by omega)
   rw [if_pos (.inr (.inl hk1))]
   unfold ReadP bv bcs noIt
   simp only
   clear hn12 h1 h15 hle hed het hpc hek hUs hlt hk hvl12 hk1
   go_enter Tryz.func59,Tryz.ntmps59
   go_upto_region 1 with fail
   obtain ⟨W,hW⟩:∃ W,w.alloc (.cells #[.int .u8 0,.int .i64 0,.string ⟨#[]⟩,.bool false] 23)=W:=⟨_,rfl⟩
   rw [hW] at hN hr ⊢
   obtain ⟨B,hB⟩:∃ B,w.heap.size=B:=⟨_,rfl⟩
   have hBw:w.heap.size ≤ B:=by omega
   rw [hB] at hr ⊢
   clear hW hB
   obtain ⟨⟨c0,c1,c2,c3⟩,f0,f1,f2,f3⟩:=row_facts hr
   go_wp2_with (first | (go_at_call 112;with_reducible refine (HR.out _).mono ?_;rintro e w' ⟨rfl,rfl⟩) | (go_at_call 112;refine (HU.out _).mono ?_;rintro e w' ⟨rfl,rfl⟩))
   refine (HNo.out _).mono ?_
   rintro e wn ⟨rfl,hNn⟩
   have hN:=hN.trans hNn
   have hr:=hNn.heap hr id
   clear c0 c1 c2 c3 f0 f1 f2 f3 hNn
   obtain ⟨⟨c0,c1,c2,c3⟩,f0,f1,f2,f3⟩:=row_facts hr
   go_wp2_with fail
   obtain ⟨hN2,hr2⟩:=set4 hN hBw hr (.int .u8 0) (.int .i64 0) (.string ⟨#[]⟩) (.bool false)
   obtain ⟨W2,hW2⟩:∃ W2,((((wn.setCell ⟨B,0,none⟩ (.int .u8 0)).setCell ⟨B,1,none⟩ (.int .i64 0)).setCell ⟨B,2,none⟩ (.string ⟨#[]⟩)).setCell ⟨B,3,none⟩ (.bool false))=W2:=⟨_,rfl⟩
   rw [hW2] at hN2 hr2 ⊢
   exact read_end (by kernel_rfl) rfl rfl rfl hr2 ⟨rfl,hN2⟩
  have d5:decide ((k:Int) < 1)=false:=decide_eq_false (by omega)
  by_cases hk3:3 < k
  ·have d6:decide (3 < (k:Int))=true:=decide_eq_true (by omega)
   rw [if_pos (.inr (.inr hk3))]
   unfold ReadP bv bcs noIt
   simp only
   clear hn12 h1 h15 hle hed het hpc hek hUs hlt hk hvl12 hk1 hk3
   go_enter Tryz.func59,Tryz.ntmps59
   go_upto_region 1 with fail
   obtain ⟨W,hW⟩:∃ W,w.alloc (.cells #[.int .u8 0,.int .i64 0,.string ⟨#[]⟩,.bool false] 23)=W:=⟨_,rfl⟩
   rw [hW] at hN hr ⊢
   obtain ⟨B,hB⟩:∃ B,w.heap.size=B:=⟨_,rfl⟩
   have hBw:w.heap.size ≤ B:=by omega
   rw [hB] at hr ⊢
   clear hW hB
   obtain ⟨⟨c0,c1,c2,c3⟩,f0,f1,f2,f3⟩:=row_facts hr
   go_wp2_with (first | (go_at_call 112;with_reducible refine (HR.out _).mono ?_;rintro e w' ⟨rfl,rfl⟩) | (go_at_call 112;refine (HU.out _).mono ?_;rintro e w' ⟨rfl,rfl⟩))
   refine (HNo.out _).mono ?_
   rintro e wn ⟨rfl,hNn⟩
   have hN:=hN.trans hNn
   have hr:=hNn.heap hr id
   clear c0 c1 c2 c3 f0 f1 f2 f3 hNn
   obtain ⟨⟨c0,c1,c2,c3⟩,f0,f1,f2,f3⟩:=row_facts hr
   go_wp2_with fail
   obtain ⟨hN2,hr2⟩:=set4 hN hBw hr (.int .u8 0) (.int .i64 0) (.string ⟨#[]⟩) (.bool false)
   obtain ⟨W2,hW2⟩:∃ W2,((((wn.setCell ⟨B,0,none⟩ (.int .u8 0)).setCell ⟨B,1,none⟩ (.int .i64 0)).setCell ⟨B,2,none⟩ (.string ⟨#[]⟩)).setCell ⟨B,3,none⟩ (.bool false))=W2:=⟨_,rfl⟩
   rw [hW2] at hN2 hr2 ⊢
   exact read_end (by kernel_rfl) rfl rfl rfl hr2 ⟨rfl,hN2⟩
  have d6:decide (3 < (k:Int))=false:=decide_eq_false (by omega)
  rw [if_neg (by omega)]
  have hv12:=hvl12 (by omega)
  simp at hv12
  have hsl2:∀ W,(Instr.slice 9 (.string s) (some (.int .i64 ((n:Int) + 1))) (some (.int .i64 ((n:Int) + 1 + (k:Int)))) none).run Tryz.prog W = .ok (.string (piec s (n + 1) (n + 1 + k))) W:=fun W=>run_sl s (n + 1) (n + 1 + k) (by omega) (by omega) W
  rw [hpc,het] at hsl2
  have hxx:(tx e ++ ⟨#[48,48]⟩).extract 0 3=tx ((e ++ [48,48]).take 3):=by
   rw [extract_piec,piec_head]
   rfl
  have hz1:1 ≤ (tx e).size:=by rw [tx_size,hk];omega
  have hz3:(tx e).size ≤ 3:=by rw [tx_size,hk];omega
  have hed2:((e ++ [48,48]).take 3).all Bare.digB=true:=by
   rw [List.all_eq_true] at hed ⊢
   intro x hx
   rcases List.mem_append.1 (List.mem_of_mem_take hx) with h | h
   ·exact hed x h
   ·simp at h;subst h;decide
  have hl3:((e ++ [48,48]).take 3).length=3:=by rw [List.length_take,List.length_append];show min 3 (e.length + 2)=3;omega
  have HA2:=Lib.hid (fun W=>(value_r (tx ((e ++ [48,48]).take 3)) W (by rw [tx_size];omega) (by rw [bl_tx];exact hed2)).mono fun e w' h=>show e = _∧W=w' from ⟨h.1,h.2.symm⟩)
  rw [bl_tx] at HA2
  have hv2:=val_lt hed2 3 (by omega)
  obtain ⟨v2,hv2e⟩:∃ v2,Bare.valD ((e ++ [48,48]).take 3)=v2:=⟨_,rfl⟩
  rw [hv2e] at HA2 hv2 ⊢
  simp at hv2
  rw [← hxx] at HA2
  obtain ⟨x1,hx1⟩:∃ x1,tx e=x1:=⟨_,rfl⟩
  rw [hx1] at hsl2 HA2 hz1 hz3
  have hsl3:∀ W,(Instr.slice 9 (.string s) (some (.int .i64 ((n:Int) + 1 + (k:Int)))) none none).run Tryz.prog W = .ok (.string (tx ((bl s).drop (n + 1 + k)))) W:=fun W=>run_sl_l s (n + 1 + k) (by omega) W
  obtain ⟨x,hx⟩:∃ x,tx ((bl s).drop (n + 1 + k))=x:=⟨_,rfl⟩
  rw [hx] at hsl3
  have hgv:1 * (1000 * (v:Int) + (v2:Int))=(1000 * (v:Int) + (v2:Int)):=by omega
  rw [hgv]
  clear hgv hv2e hxx hx1 hl3 hed2 hed het hpc hk hk1 hk3 hn12 hek hUs hlt hsl
  unfold ReadP bv bcs noIt
  simp only
  rw [hx]
  clear hx h1 h15 hle hvl12 hvl
  go_enter Tryz.func59,Tryz.ntmps59
  go_upto_region 1 with fail
  obtain ⟨W,hW⟩:∃ W,w.alloc (.cells #[.int .u8 0,.int .i64 0,.string ⟨#[]⟩,.bool false] 23)=W:=⟨_,rfl⟩
  rw [hW] at hN hr ⊢
  obtain ⟨B,hB⟩:∃ B,w.heap.size=B:=⟨_,rfl⟩
  have hBw:w.heap.size ≤ B:=by omega
  rw [hB] at hr ⊢
  clear hW hB
  obtain ⟨⟨c0,c1,c2,c3⟩,f0,f1,f2,f3⟩:=row_facts hr
  have hw1:IntKind.i64.wrap ((n:Int) + 1)=(n:Int) + 1:=by rw [IntKind.wrap_i64];omega
  have hw2:IntKind.i64.wrap ((n:Int) + 1 + (k:Int))=(n:Int) + 1 + (k:Int):=by rw [IntKind.wrap_i64];omega
  have hw3:IntKind.i64.wrap (1000 * (v:Int))=1000 * (v:Int):=by rw [IntKind.wrap_i64];omega
  have hw4:IntKind.i64.wrap (1000 * (v:Int) + (v2:Int))=1000 * (v:Int) + (v2:Int):=by rw [IntKind.wrap_i64];omega
  have hw5:IntKind.i64.wrap (1000 * (v:Int) + (v2:Int))=(1000 * (v:Int) + (v2:Int)):=by rw [IntKind.wrap_i64];omega
  go_upto_region 14 with (first | (go_at_call 112;with_reducible refine (HR.out _).mono ?_;rintro e w' ⟨rfl,rfl⟩) | (go_at_call 112;refine (HU.out _).mono ?_;rintro e w' ⟨rfl,rfl⟩))
  go_region_with (first | (go_at_call 113;with_reducible refine (HA.out _).mono ?_;rintro e w' ⟨rfl,rfl⟩) | (go_at_call 113;refine (HA2.out _).mono ?_;rintro e w' ⟨rfl,rfl⟩))
  all_goals
   obtain ⟨hN2,hr2⟩:=set4 hN hBw hr (.int .u8 2) (.int .i64 (1000 * (v:Int) + (v2:Int))) (.string ⟨#[]⟩) (.bool false)
   have hN2:=hN2.drew
   have hr2:((((W.setCell ⟨B,0,none⟩ (.int .u8 2)).setCell ⟨B,1,none⟩ (.int .i64 (1000 * (v:Int) + (v2:Int)))).setCell ⟨B,2,none⟩ (.string ⟨#[]⟩)).setCell ⟨B,3,none⟩ (.bool false)).drew.heap[B]? = some (.cells #[(.int .u8 2),(.int .i64 (1000 * (v:Int) + (v2:Int))),(.string ⟨#[]⟩),(.bool false)] 23 (0,0)):=hr2
   obtain ⟨W2,hW2⟩:∃ W2,((((W.setCell ⟨B,0,none⟩ (.int .u8 2)).setCell ⟨B,1,none⟩ (.int .i64 (1000 * (v:Int) + (v2:Int)))).setCell ⟨B,2,none⟩ (.string ⟨#[]⟩)).setCell ⟨B,3,none⟩ (.bool false)).drew=W2:=⟨_,rfl⟩
   rw [hW2] at hN2 hr2 ⊢
   go_wp2_with fail
   exact read_end (by kernel_rfl) rfl rfl rfl hr2 ⟨rfl,hN2⟩
end Go.Proofs.YtnknmmbnhoanfaaGreatDoor
