/- Texts joined. -/
import Derived.Test.YtnknmmbnhoanfaaGreatDoorB06
import Derived.Test.YtnknmmbnhoanfaaGreatDoorB03
import Derived.Lib.ItoaLen
set_option linter.unusedSimpArgs false
set_option linter.unusedVariables false
set_option maxHeartbeats 16000000
set_option maxRecDepth 100000
namespace Go.Proofs.YtnknmmbnhoanfaaGreatDoor
open Go.RowKit Go.Shelf Go.Cs
attribute [local go_sem] Oper.semAt_some


theorem pad_one (m:Nat):Bare.padD m 1=Lib.decDigits m:=Bare.padD_zero m 1 (by omega) (.inr rfl)
theorem own_one (w:World) (base:Nat) (h:base ≤ w.heap.size) (c:UInt8):(w.alloc (.cells #[.int .u8 (c.toNat:Nat)] 5)).ownsRow base 5 1 (.slice (some ⟨w.heap.size,0,none⟩) 1 1) 1 (u8s [c]) :=
 ⟨rfl,.inr ⟨_,1,_,rfl,h,World.alloc_heap_new _ _,Nat.le_refl _,by decide,rfl,rfl⟩⟩
def prT (k n:Int) (t:Bare.Bs) (y:Bool):Bare.Bs:=if k=1 then Lib.itoa n else if k=2 then Bare.decimal n else if k=3 then 34::(Bare.esc t ++ [34]) else if k=5 then 58::(Bare.sixes t ++ [58]) else if k=6 then [63,if y then 49 else 48] else t
def sgn (n:Int):Bare.Bs:=if n < 0 then [45] else []
theorem itoa_sgn (n:Int):Lib.itoa n=sgn n ++ Lib.decDigits n.natAbs:=by
 unfold Lib.itoa sgn
 split
 ·rfl
 ·rw [show n.toNat=n.natAbs by omega];rfl
theorem print_prT {b:Bare.It} (h:Bare.rightI b=true):Bare.printI b=some (prT b.kind b.int b.text b.yes):=by
 unfold Bare.printI prT
 rw [if_neg (by rw [h];decide)]
 repeat' split
 all_goals first | rfl | contradiction
theorem catx (a b:Bare.Bs):tx a ++ tx b=tx (a ++ b):=by rw [cat_bl,bl_tx,bl_tx]
theorem dec_len (m:Nat) (h:m ≤ 9223372036854775807):(Lib.decDigits m).length ≤ 30:=by
 have:=Lib.itoa_length_le (m:Int) (by omega) (by omega)
 rw [Lib.itoa_nonneg] at this
 omega
def slen:Value→Nat
 | .string s=>s.size
 | _=>0
theorem pad_three_len (m:Nat) (h:m < 1000):Bare.padD m 3 ≠ []∧(Bare.padD m 3).length ≤ 3:=by
 rw [Bare.padD_step (by omega),Bare.padD_step (by omega),Bare.padD_step (by omega)]
 rw [show m / 10 / 10 / 10=0 by omega,show 3 - 1 - 1 - 1=0 from rfl,Bare.padD_done]
 simp
theorem wpList_append_c {ops:Array Oper} {Q:Exit→Act→World→Prop} {rest:List Oper} {o:Oper} {a:Act} {w W:World} (s x:Operand) {base:Nat} {v:Value} {acc:Bare.Bs} {c:UInt8} {n nl:Nat} (hgd:o.guard=none) (hop:o.op = .call { callee:=.builtin .append,args:=#[s,x],argTypes:=#[62,62] })
  (hs:a.eval s=v) (hx:a.eval x = .slice (some ⟨w.heap.size,0,none⟩) 1 1) (hW:w.alloc (.cells #[.int .u8 n] 5)=W) (hc:c.toNat=n) (hl:acc.length=nl) (hown:w.ownsRow base 5 1 v nl (u8s acc)) (hn:nl ≤ 2000000) (hbase:base ≤ w.heap.size)
  (h:∀ v' W',W'.ownsRow base 5 1 v' (nl + 1) (u8s (acc ++ [c]))→(∀ (w0:World) (S:Nat→Prop),Mods S w0 w→(∀ g,v.ownBlock=some g→w0.heap.size ≤ g ∨ S g)→Mods S w0 W')→wpList Tryz.prog ops Q rest (a.put o.dst v') W'):wpList Tryz.prog ops Q (o::rest) a W:=by
 obtain ⟨i0,hi,hz0,hz1,hz2⟩:=info_parts infoB'
 subst hc
 subst hW
 subst hl
 have hown':(w.alloc (.cells #[.int .u8 (c.toNat:Nat)] 5)).ownsRow base 5 1 v acc.length (u8s acc):=hown.alloc _
 obtain ⟨v',w',hr,ho,hg,-⟩:=run_append_own (P:=Tryz.prog) (w.alloc (.cells #[.int .u8 (c.toNat:Nat)] 5)) base 62 o.type 5 i0 _ 1 1 Tryz.underlying62 hi hz0 hz1 hz2 rfl (by decide) v acc.length (u8s acc) hown' ⟨w.heap.size,0,none⟩ 1 1 [.int .u8 (c.toNat:Nat)] rfl (cell_one_new _ _ _) (by simp [Value.oneCell']) (by unfold maxLen;omega) (by omega) (by simp;omega)
 refine wpList_plain hgd fun K hK=>?_
 have hrun:(execOp a.eval o).run Tryz.prog (w.alloc (.cells #[.int .u8 (c.toNat:Nat)] 5)) = .ok (.value v') w':=by
  simp [execOp,hop,resolve,invoke,builtin,hs,hx,hr,Result.andThen]
 unfold Oper.wp
 rw [hrun]
 refine hK _ _ (h v' w' ?_ fun w0 S hN hb=>?_)
 ·rw [u8s_snoc]
  exact ho
 ·exact (hN.alloc _).grown hg (fun g hg=>(hb g hg).imp id fun h=>⟨h,own_cells hown' hg⟩)
theorem print_r (b:Bare.It) (hl:b.text.length ≤ 10000) (w:World) :
  Calls Tryz.prog 8 #[bv b] w fun e w'=>e = .returned (printV (Bare.printI b))∧New w w':=by
 have HRt:=Lib.hid (fun W=>right_r b (by omega) W)
 obtain ⟨hN,hr⟩:=box_row w b
 cases hrt:Bare.rightI b with
 | false =>
  have e:Bare.printI b=none:=by unfold Bare.printI;rw [if_pos hrt]
  rw [e]
  rw [hrt] at HRt
  unfold printV
  clear hrt e
  obtain ⟨k,n,t,y⟩:=b
  unfold bv bcs at *
  simp only at hN hr HRt ⊢
  obtain ⟨s,hs⟩:∃ s,tx t=s:=⟨_,rfl⟩
  rw [hs] at hN hr HRt ⊢
  go_enter Tryz.func8,Tryz.ntmps8
  go_upto_region 1 with fail
  obtain ⟨W,hW⟩:∃ W,w.alloc (.cells #[.int .u8 k,.int .i64 n,.string s,.bool y] 23)=W:=⟨_,rfl⟩
  rw [hW] at hN hr ⊢
  obtain ⟨B,hB⟩:∃ B,w.heap.size=B:=⟨_,rfl⟩
  rw [hB] at hr ⊢
  clear hW hB
  obtain ⟨⟨c0,c1,c2,c3⟩,f0,f1,f2,f3⟩:=row_facts hr
  go_wp2_with fail
  refine (HRt.out _).mono ?_
  rintro e w1 ⟨rfl,hN1⟩
  go_wp2_with fail
  go_ret2
  exact ⟨rfl,hN.trans hN1⟩
 | true =>
  have hk:=right_kind hrt
  have hnum:=right_num hrt
  have hzero:¬ (b.kind=1 ∨ b.kind=2)→b.int=0:=fun h=>by
   unfold Bare.rightI at hrt
   rw [if_neg h] at hrt
   repeat' split at hrt
   all_goals first | (simp only [Bool.and_eq_true,decide_eq_true_eq] at hrt;exact hrt.1) | cases hrt
  rw [print_prT hrt]
  rw [hrt] at HRt
  unfold printV
  clear hrt
  obtain ⟨k,n,t,y⟩:=b
  simp only at hk hnum hl hzero ⊢
  unfold bv bcs at *
  simp only at hN hr HRt ⊢
  obtain ⟨s,hs⟩:∃ s,tx t=s:=⟨_,rfl⟩
  have hsb:bl s=t:=by rw [← hs,bl_tx]
  have hsl:s.size ≤ 10000:=by rw [← hs,tx_size];exact hl
  have HS:=Lib.hid hs
  have HSB:=Lib.hid hsb
  rw [hs] at hN hr HRt ⊢
  obtain ⟨R,hR⟩:∃ R,tx (prT k n t y)=R:=⟨_,rfl⟩
  have HR:=Lib.hid hR
  rw [hR]
  clear hs hsb hR
  have hnn:-999999999999999 ≤ n∧n ≤ 999999999999999:=by
   by_cases h:k=1 ∨ k=2
   ·exact hnum h
   ·rw [hzero h];omega
  obtain ⟨hn0,hn1⟩:=hnn
  obtain ⟨m,hm⟩:∃ m,n.natAbs=m:=⟨_,rfl⟩
  obtain ⟨sg,hsg⟩:∃ sg,tx (sgn n)=sg:=⟨_,rfl⟩
  have hm2:m ≤ 999999999999999:=by omega
  have hsgl:sg.size ≤ 1:=by rw [← hsg,tx_size];unfold sgn;split <;> simp
  clear hnum hzero hl
  go_enter Tryz.func8,Tryz.ntmps8
  go_upto_region 1 with fail
  obtain ⟨W,hW⟩:∃ W,w.alloc (.cells #[.int .u8 k,.int .i64 n,.string s,.bool y] 23)=W:=⟨_,rfl⟩
  rw [hW] at hN hr ⊢
  obtain ⟨B,hB⟩:∃ B,w.heap.size=B:=⟨_,rfl⟩
  have hwB:w.heap.size ≤ B:=by omega
  rw [hB] at hr ⊢
  clear hW hB
  obtain ⟨⟨c0,c1,c2,c3⟩,f0,f1,f2,f3⟩:=row_facts hr
  go_upto_region 3 with (go_at_call 14;refine (HRt.out _).mono ?_;rintro e w1 ⟨rfl,hN1⟩)
  replace hN:=hN.trans hN1
  replace hr:=hN1.heap hr id
  clear c0 c1 c2 c3 f0 f1 f2 f3 hN1 HRt
  obtain ⟨⟨c0,c1,c2,c3⟩,f0,f1,f2,f3⟩:=row_facts hr
  go_region
  go_upto_if 15 with fail
  replace hN:=hN.drew
  have hr:w1.drew.heap[B]? = some (.cells #[.int .u8 k,.int .i64 n,.string s,.bool y] 23 (0,0)):=hr
  obtain ⟨w2,hw2⟩:∃ V,w1.drew=V:=⟨_,rfl⟩
  rw [hw2] at hN hr ⊢
  clear hw2 c0 c1 c2 c3 f0 f1 f2 f3
  go_cut [4,5] from 15 (fun a b wx=>a = .string sg∧b = .int .i64 m∧wx=w2)
  case first =>
   by_cases hn:n < 0
   ·have hd:decide (n < 0)=true:=decide_eq_true hn
    have hneg:IntKind.i64.wrap (-n)=(m:Int):=by rw [IntWalk.i64_in] <;> omega
    have e:sg=⟨#[45]⟩:=by rw [← hsg];unfold sgn;rw [if_pos hn]
    subst e
    clear hm hsg
    go_wp2_with fail
    go_meet
    exact ⟨rfl,(by first | rfl | exact congrArg _ hneg),rfl⟩
   ·have hd:decide (n < 0)=false:=decide_eq_false hn
    have e:sg=⟨#[]⟩:=by rw [← hsg];unfold sgn;rw [if_neg hn]
    subst e
    have E2:=Lib.hid (show n=(m:Int) by omega)
    clear hm hsg
    go_wp2_with fail
    go_meet
    exact ⟨rfl,(congrArg _ E2.out),rfl⟩
  case rest =>
  obtain ⟨rfl,rfl,rfl⟩:=hcut
  obtain ⟨⟨c0,c1,c2,c3⟩,f0,f1,f2,f3⟩:=row_facts hr
  have hR1:k=1→sg ++ tx (Lib.decDigits m)=R:=fun h=>by
   rw [← HR.out,h,← hsg,catx,← hm]
   unfold prT
   rw [if_pos rfl,itoa_sgn]
  have hR2:k=2→tx (sgn n ++ Lib.decDigits (m / 1000) ++ [46] ++ Bare.fin (Bare.padD (m % 1000) 3))=R:=fun h=>by
   rw [← HR.out,h,← hm]
   unfold prT
   rw [if_neg (by decide),if_pos rfl,Bare.decimal_fin,Bare.padD_three (by omega)]
   rfl
  have hR3:k=3→tx (34::(Bare.esc t ++ [34]))=R:=fun h=>by rw [← HR.out,h];rfl
  have hR5:k=5→tx (58::(Bare.sixes t ++ [58]))=R:=fun h=>by rw [← HR.out,h];rfl
  have hR6:k=6→tx [63,if y then 49 else 48]=R:=fun h=>by rw [← HR.out,h];rfl
  have hR4:k=4→tx t=R:=fun h=>by rw [← HR.out,h];rfl
  have HSG:=Lib.hid hsg
  clear hm hsg HR
  rcases hk with rfl | rfl | rfl | rfl | rfl | rfl
  ·have hRR:=Lib.hid (hR1 rfl)
   have HD:=Lib.hid (fun W=>digits_r m 1 hm2 (by decide) W)
   rw [pad_one] at HD
   have hxs:(tx (Lib.decDigits m)).size ≤ 30:=by rw [tx_size];exact dec_len m (by omega)
   obtain ⟨x,hx⟩:∃ x,tx (Lib.decDigits m)=x:=⟨_,rfl⟩
   rw [hx] at HD hRR hxs
   clear hR1 hR2 hR3 hR4 hR5 hR6 hx
   go_wp2_with (go_at_call 49;refine (HD.out _).mono ?_;rintro e w3 ⟨rfl,hN3⟩)
   go_ret2
   exact ⟨(by first | rfl | exact congrArg (fun z=>Ending.returned (.tuple #[.string z,.int .i64 0])) hRR.out),hN.trans hN3⟩
  ·have hRR:=hR2 rfl
   have hmr:((m % 1000:Nat):Int)=(m:Int) % 1000:=by omega
   have hmq:((m / 1000:Nat):Int)=(m:Int) / 1000:=by omega
   have HD3:=Lib.hid (fun W=>digits_r (m % 1000) 3 (by omega) (by decide) W)
   have HD1:=Lib.hid (fun W=>digits_r (m / 1000) 1 (by omega) (by decide) W)
   rw [hmr] at HD3
   rw [pad_one,hmq] at HD1
   clear hmr hmq
   have hxs:(tx (Lib.decDigits (m / 1000))).size ≤ 30:=by rw [tx_size];exact dec_len _ (by omega)
   have hp3:=pad_three_len (m % 1000) (by omega)
   rw [← catx,← catx,← catx,HSG.out] at hRR
   obtain ⟨x,hx⟩:∃ x,tx (Lib.decDigits (m / 1000))=x:=⟨_,rfl⟩
   obtain ⟨P,hP⟩:∃ P,Bare.padD (m % 1000) 3=P:=⟨_,rfl⟩
   obtain ⟨F,hF⟩:∃ F,Bare.fin P=F:=⟨_,rfl⟩
   rw [hx] at HD1 hRR hxs
   rw [hP] at HD3 hRR hp3
   rw [hF] at hRR
   have HRR:=Lib.hid hRR
   have HF:=Lib.hid hF
   clear hR1 hR2 hR3 hR4 hR5 hR6 hx hP hF hRR
   go_upto_region 11 with (go_at_call 49;refine (HD3.out _).mono ?_;rintro e w3 ⟨rfl,hN3⟩)
   replace hN:=hN.trans hN3
   clear hN3 HD3
   go_loopw [6] (fun a wr=>∃ p:Bare.Bs,a = .string (tx p)∧p ≠ []∧p.length ≤ 3∧Hid (Bare.fin p=F)∧New w wr) (fun a _=>slen a)
   case atStart=>exact ⟨P,rfl,hp3.1,hp3.2,HF,hN⟩
   case round =>
    obtain ⟨p,rfl,hp0,hpl,HFp,hNr⟩:=hrel
    obtain ⟨q,c,rfl⟩:∃ q c,p=q ++ [c]:=⟨p.dropLast,p.getLast hp0,(List.dropLast_concat_getLast hp0).symm⟩
    obtain ⟨ps,hps⟩:∃ ps,tx (q ++ [c])=ps:=⟨_,rfl⟩
    have hsz:ps.size=q.length + 1:=by rw [← hps,tx_size,List.length_append];rfl
    have hq2:q.length ≤ 2:=by rw [List.length_append] at hpl;simp at hpl;omega
    have hbp:bl ps=q ++ [c]:=by rw [← hps,bl_tx]
    have hix:∀ W,(Instr.index 9 (.string ps) (.int .i64 ((ps.size:Int) - 1))).run Tryz.prog W = .ok (.int .u8 (c.toNat:Nat)) W:=fun W=>by
     have h:=run_idx ps q.length (by omega) W
     rw [show ((ps.size:Int) - 1)=(q.length:Int) by omega,h]
     have:gb ps q.length=c:=by unfold gb;rw [show ps.data.toList=bl ps from rfl,hbp];simp
     rw [this]
    have hsl2:∀ W,(Instr.slice 9 (.string ps) none (some (.int .i64 ((ps.size:Int) - 1))) none).run Tryz.prog W = .ok (.string (tx q)) W:=fun W=>by
     have h:=run_sl_h ps q.length (by omega) W
     rw [show ((ps.size:Int) - 1)=(q.length:Int) by omega,h,hbp]
     simp
    have hps1:1 ≤ ps.size:=by omega
    have hps3:ps.size ≤ 3:=by omega
    have HPS:=Lib.hid hps
    rw [hps]
    obtain ⟨cn,hcn⟩:∃ n,c.toNat=n:=⟨_,rfl⟩
    obtain ⟨t48,-⟩:=byte_test c 48 (by decide) cn hcn
    rw [hcn] at hix
    by_cases h1:q = []
    ·have HFe:Hid (tx F=ps):=Lib.hid (by rw [← HFp.out,← HPS.out,h1,List.nil_append,Bare.fin_one])
     have hd1:¬ 1 < ps.size:=by rw [hsz,h1];decide
     clear h1 hcn t48 hbp
     have HC:Hid (sg ++ x ++ ⟨#[46]⟩ ++ ps=R):=Lib.hid (by rw [← HFe.out];exact HRR.out)
     have hcs:ps.size ≤ 3:=by omega
     clear hix hsl2 hsz hps HPS HRR HFe HFp
     go_wp2_with (go_at_call 49;refine (HD1.out _).mono ?_;rintro e w4 ⟨rfl,hN4⟩)
     go_ret2
     exact ⟨(by first | rfl | exact congrArg (fun z=>Ending.returned (.tuple #[.string z,.int .i64 0])) HC.out),hNr.trans hN4⟩
    ·have hd1:1 < ps.size:=by have:=List.length_pos_iff.2 h1;omega
     by_cases h48:c=48
     ·have t48:((cn:Int) == 48)=true:=t48.trans (decide_eq_true h48)
      have HF2:Hid (Bare.fin q=F):=Lib.hid (by rw [← HFp.out,h48,Bare.fin_step])
      have hms:(tx q).size < ps.size:=by rw [tx_size];omega
      clear h48 hcn hbp HFp hsz
      go_wp2_with fail
      go_round
      case rel=>exact ⟨q,rfl,h1,by omega,HF2,hNr⟩
      case measure=>exact hms
     ·have t48:((cn:Int) == 48)=false:=t48.trans (decide_eq_false h48)
      have HFe:Hid (tx F=ps):=Lib.hid (by rw [← HFp.out,← HPS.out,Bare.fin_last _ _ h48])
      clear h1 h48 hcn hbp
      have HC:Hid (sg ++ x ++ ⟨#[46]⟩ ++ ps=R):=Lib.hid (by rw [← HFe.out];exact HRR.out)
      have hcs:ps.size ≤ 3:=by omega
      clear hsl2 hsz hps HPS HRR HFe HFp
      go_wp2_with (go_at_call 49;refine (HD1.out _).mono ?_;rintro e w4 ⟨rfl,hN4⟩)
      go_ret2
      exact ⟨(by first | rfl | exact congrArg (fun z=>Ending.returned (.tuple #[.string z,.int .i64 0])) HC.out),hNr.trans hN4⟩
  ·have HRR:=Lib.hid (hR3 rfl)
   clear hR1 hR2 hR3 hR4 hR5 hR6 c1 c3 f0 f1 f2 f3
   have hO1:=own_one wc wc.heap.size (Nat.le_refl _) 34
   have hN1:New wc (wc.alloc (.cells #[.int .u8 34] 5)):=(Mods.refl _ _).alloc _
   have hr1:=hN1.heap hr id
   have hN1:=hN.trans hN1
   obtain ⟨W3,hW3⟩:∃ V,wc.alloc (.cells #[.int .u8 34] 5)=V:=⟨_,rfl⟩
   have hO1:W3.ownsRow wc.heap.size 5 1 (.slice (some ⟨wc.heap.size,0,none⟩) 1 1) 1 (u8s [34]):=by rw [← hW3];exact hO1
   rw [hW3] at hr1 hN1
   obtain ⟨G,hG⟩:∃ G,wc.heap.size=G:=⟨_,rfl⟩
   have hBG:B < G:=by rw [← hG];exact (Array.getElem?_eq_some_iff.1 hr).1
   have hwG:w.heap.size ≤ G:=by rw [← hG];exact hN.size
   have hG3:G ≤ W3.heap.size:=by rw [← hW3,← hG];simp
   rw [hG] at hO1
   have hsb:=HSB.out
   clear hr hN
   go_upto_region 17 with fail
   clear c0 c2 hW3 hG
   go_loopw [7,8] (fun v i W=>∃ (k nl:Nat) (acc:Bare.Bs),k ≤ s.size∧i = .int .i64 k∧nl ≤ 2 * k + 1∧Hid (acc.length=nl)∧Hid (W.ownsRow G 5 1 v nl (u8s acc))∧W.heap[B]? = some (.cells #[.int .u8 3,.int .i64 n,.string s,.bool y] 23 (0,0))∧New w W∧G ≤ W.heap.size∧Hid (acc ++ Bare.esc ((bl s).drop k)=34::Bare.esc t)) (fun _ i _=>s.size - (intOf i).toNat)
   case atStart=>exact ⟨0,1,[34],Nat.zero_le _,rfl,by simp,Lib.hid rfl,Lib.hid hO1,hr1,hN1,hG3,Lib.hid (by rw [List.drop_zero,hsb];rfl)⟩
   case round =>
    obtain ⟨k,nl,acc,hk,rfl,hacc,HL,HO,hr,hN,hwb,HE⟩:=hrel
    clear hO1 hr1 hN1 hG3 hsb
    obtain ⟨oa,oc,rfl⟩:=owns_slice HO.out
    obtain ⟨-,-,c2,-⟩:=(row_facts hr).1
    by_cases hlt:k < s.size
    ·have hkd:decide ((k:Int) < (s.size:Int))=true:=decide_eq_true (by omega)
     have hix:=run_idx s k hlt
     obtain ⟨c,hc⟩:∃ c,gb s k=c:=⟨_,rfl⟩
     have hdr:(bl s).drop k=c::(bl s).drop (k + 1):=by
      rw [List.drop_eq_getElem_cons (by rw [bl_len];exact hlt)]
      congr 1
      have:=gb_get s k hlt
      rw [List.getElem?_eq_getElem (by rw [bl_len];exact hlt),hc] at this
      exact Option.some.inj this
     have hE:=HE.out
     rw [hdr,Bare.esc] at hE
     rw [hc] at hix
     obtain ⟨cn,hcn⟩:∃ n,c.toNat=n:=⟨_,rfl⟩
     obtain ⟨t34,-⟩:=byte_test c 34 (by decide) cn hcn
     obtain ⟨t92,-⟩:=byte_test c 92 (by decide) cn hcn
     rw [hcn] at hix
     clear hdr hc HE
     by_cases h34:c=34
     ·have t34:((cn:Int) == 34)=true:=t34.trans (decide_eq_true h34)
      clear t92
      have HE2:Hid ((acc ++ [92] ++ [c]) ++ Bare.esc ((bl s).drop (k + 1))=34::Bare.esc t):=Lib.hid (by rw [← hE,if_pos (.inr h34)];simp)
      clear hE
      go_upto_region 21 with (at_builtin;refine wpList_append_c (w:=wr) (acc:=acc) (c:=92) (n:=92) _ _ rfl rfl rfl rfl rfl rfl HL.out HO.out (by omega) hwb ?_;intro v1 W1 ho1 hq1;obtain ⟨a1,c1',rfl⟩:=owns_slice ho1)
      have hr1:=(hq1 wr _ (Mods.refl _ _) (fun g hg=>.inr hg)).heap hr (fun hg=>by have:=(World.ownsRow.lt HO.out _ hg).1;omega)
      have hN1:New w W1:=hq1 w _ hN (fun g hg=>.inl (by have:=(World.ownsRow.lt HO.out _ hg).1;omega))
      have hwb1:G ≤ W1.heap.size:=Nat.le_trans hwb (hq1 wr _ (Mods.refl _ _) (fun g hg=>.inr hg)).size
      have HO1:=Lib.hid ho1
      clear hq1 ho1 c2
      obtain ⟨-,-,c2,-⟩:=(row_facts hr1).1
      go_wp2_with (at_builtin;refine wpList_append_c (w:=W1) (acc:=(acc ++ [92])) (c:=c) (n:=cn) _ _ rfl rfl rfl rfl rfl hcn (by rw [List.length_append,HL.out];rfl) HO1.out (by omega) hwb1 ?_;intro v2 W2 ho2 hq2;obtain ⟨a2,c2',rfl⟩:=owns_slice ho2)
      have hr2:=(hq2 W1 _ (Mods.refl _ _) (fun g hg=>.inr hg)).heap hr1 (fun hg=>by have:=(World.ownsRow.lt HO1.out _ hg).1;omega)
      have hN2:New w W2:=hq2 w _ hN1 (fun g hg=>.inl (by have:=(World.ownsRow.lt HO1.out _ hg).1;omega))
      have hwb2:G ≤ W2.heap.size:=Nat.le_trans hwb1 (hq2 W1 _ (Mods.refl _ _) (fun g hg=>.inr hg)).size
      clear hq2 c2 hr1
      go_wp2_with fail
      go_round
      case rel=>exact ⟨k + 1,nl + 1 + 1,(acc ++ [92]) ++ [c],by omega,by go_num,by omega,Lib.hid (by rw [List.length_append,List.length_append,HL.out];rfl),Lib.hid ho2,hr2,hN2,hwb2,HE2⟩
      case measure=>simp [intOf];omega
     have t34:((cn:Int) == 34)=false:=t34.trans (decide_eq_false h34)
     by_cases h92:c=92
     ·have t92:((cn:Int) == 92)=true:=t92.trans (decide_eq_true h92)
      have HE2:Hid ((acc ++ [92] ++ [c]) ++ Bare.esc ((bl s).drop (k + 1))=34::Bare.esc t):=Lib.hid (by rw [← hE,if_pos (.inl h92)];simp)
      clear hE
      go_upto_region 21 with (at_builtin;refine wpList_append_c (w:=wr) (acc:=acc) (c:=92) (n:=92) _ _ rfl rfl rfl rfl rfl rfl HL.out HO.out (by omega) hwb ?_;intro v1 W1 ho1 hq1;obtain ⟨a1,c1',rfl⟩:=owns_slice ho1)
      have hr1:=(hq1 wr _ (Mods.refl _ _) (fun g hg=>.inr hg)).heap hr (fun hg=>by have:=(World.ownsRow.lt HO.out _ hg).1;omega)
      have hN1:New w W1:=hq1 w _ hN (fun g hg=>.inl (by have:=(World.ownsRow.lt HO.out _ hg).1;omega))
      have hwb1:G ≤ W1.heap.size:=Nat.le_trans hwb (hq1 wr _ (Mods.refl _ _) (fun g hg=>.inr hg)).size
      have HO1:=Lib.hid ho1
      clear hq1 ho1 c2
      obtain ⟨-,-,c2,-⟩:=(row_facts hr1).1
      go_wp2_with (at_builtin;refine wpList_append_c (w:=W1) (acc:=(acc ++ [92])) (c:=c) (n:=cn) _ _ rfl rfl rfl rfl rfl hcn (by rw [List.length_append,HL.out];rfl) HO1.out (by omega) hwb1 ?_;intro v2 W2 ho2 hq2;obtain ⟨a2,c2',rfl⟩:=owns_slice ho2)
      have hr2:=(hq2 W1 _ (Mods.refl _ _) (fun g hg=>.inr hg)).heap hr1 (fun hg=>by have:=(World.ownsRow.lt HO1.out _ hg).1;omega)
      have hN2:New w W2:=hq2 w _ hN1 (fun g hg=>.inl (by have:=(World.ownsRow.lt HO1.out _ hg).1;omega))
      have hwb2:G ≤ W2.heap.size:=Nat.le_trans hwb1 (hq2 W1 _ (Mods.refl _ _) (fun g hg=>.inr hg)).size
      clear hq2 c2 hr1
      go_wp2_with fail
      go_round
      case rel=>exact ⟨k + 1,nl + 1 + 1,(acc ++ [92]) ++ [c],by omega,by go_num,by omega,Lib.hid (by rw [List.length_append,List.length_append,HL.out];rfl),Lib.hid ho2,hr2,hN2,hwb2,HE2⟩
      case measure=>simp [intOf];omega
     ·have t92:((cn:Int) == 92)=false:=t92.trans (decide_eq_false h92)
      have HE2:Hid ((acc ++ [c]) ++ Bare.esc ((bl s).drop (k + 1))=34::Bare.esc t):=Lib.hid (by rw [← hE,if_neg (fun h=>h.elim h92 h34)];simp)
      clear hE
      go_wp2_with (at_builtin;refine wpList_append_c (w:=wr) (acc:=acc) (c:=c) (n:=cn) _ _ rfl rfl rfl rfl rfl hcn HL.out HO.out (by omega) hwb ?_;intro v2 W2 ho2 hq2;obtain ⟨a2,c2',rfl⟩:=owns_slice ho2)
      have hr2:=(hq2 wr _ (Mods.refl _ _) (fun g hg=>.inr hg)).heap hr (fun hg=>by have:=(World.ownsRow.lt HO.out _ hg).1;omega)
      have hN2:New w W2:=hq2 w _ hN (fun g hg=>.inl (by have:=(World.ownsRow.lt HO.out _ hg).1;omega))
      have hwb2:G ≤ W2.heap.size:=Nat.le_trans hwb (hq2 wr _ (Mods.refl _ _) (fun g hg=>.inr hg)).size
      clear hq2 c2 hr
      go_wp2_with fail
      go_round
      case rel=>exact ⟨k + 1,nl + 1,acc ++ [c],by omega,by go_num,by omega,Lib.hid (by rw [List.length_append,HL.out];rfl),Lib.hid ho2,hr2,hN2,hwb2,HE2⟩
      case measure=>simp [intOf];omega
    ·obtain rfl:k=s.size:=by omega
     have hkd:decide ((s.size:Int) < (s.size:Int))=false:=decide_eq_false (by omega)
     have hE:=HE.out
     rw [List.drop_of_length_le (by rw [bl_len];exact Nat.le_refl _),Bare.esc,List.append_nil] at hE
     have HLen:Hid ((acc ++ [34]).length=nl + 1):=Lib.hid (by rw [List.length_append,HL.out];rfl)
     have HC:Hid (tx (acc ++ [34])=R):=Lib.hid (by rw [hE];exact HRR.out)
     clear hE HE
     go_wp2_with (at_builtin;refine wpList_append_c (w:=wr) (acc:=acc) (c:=34) (n:=34) _ _ rfl rfl rfl rfl rfl rfl HL.out HO.out (by omega) hwb ?_;intro v2 W2 ho2 hq2;have hcv:=conv_own (l:=acc ++ [34]) (by rw [HLen.out];exact ho2);obtain ⟨a2,c2',rfl⟩:=owns_slice ho2)
     go_ret2
     exact ⟨(by first | rfl | exact congrArg (fun z=>Ending.returned (.tuple #[.string z,.int .i64 0])) HC.out),hq2 w _ hN (fun g hg=>.inl (by have:=(World.ownsRow.lt HO.out _ hg).1;omega))⟩
  ·have hRR:=hR4 rfl
   rw [HS.out] at hRR
   subst hRR
   clear hR1 hR2 hR3 hR4 hR5 hR6
   go_wp2_with fail
   go_ret2
   exact ⟨rfl,hN⟩
  ·have hRR:=hR5 rfl
   have HD:=Lib.hid (fun W=>sixes_r s W (by omega))
   rw [HSB.out] at HD
   have hxs:(tx (Bare.sixes t)).size ≤ 100000:=by rw [tx_size,Bare.sixes_len,← HSB.out,bl_len];omega
   rw [show (58:UInt8)::(Bare.sixes t ++ [58]) = [58] ++ Bare.sixes t ++ [58] from rfl,← catx,← catx] at hRR
   obtain ⟨x,hx⟩:∃ x,tx (Bare.sixes t)=x:=⟨_,rfl⟩
   rw [hx] at HD hRR hxs
   have hRR:=Lib.hid hRR
   clear hR1 hR2 hR3 hR4 hR5 hR6 hx
   go_wp2_with (go_at_call 18;refine (HD.out _).mono ?_;rintro e w3 ⟨rfl,hN3⟩)
   go_ret2
   exact ⟨(by first | rfl | exact congrArg (fun z=>Ending.returned (.tuple #[.string z,.int .i64 0])) hRR.out),hN.trans hN3⟩
  ·have hRR:=hR6 rfl
   clear hR1 hR2 hR3 hR4 hR5 hR6
   cases y with
   | true =>
    subst hRR
    go_wp2_with fail
    go_ret2
    exact ⟨rfl,hN⟩
   | false =>
    subst hRR
    go_wp2_with fail
    go_ret2
    exact ⟨rfl,hN⟩


theorem number_pos_r (s:ByteArray) (w:World) (hs:s.size ≤ 1000000) (h0:0 < s.size) (hng:gb s 0 ≠ 45) :
  Calls Tryz.prog 59 #[.string s] w (ReadP (Bare.number (bl s)) w):=by
 have hc45:decide (gb s 0=45)=false:=decide_eq_false hng
 rw [u8_eq] at hc45
 have hix0:∀ W,(Instr.index 9 (.string s) (.int .i64 0)).run Tryz.prog W = .ok (.int .u8 ((gb s 0).toNat:Nat)) W:=run_idx s 0 (by omega)
 have e0:Bare.number (bl s)=numR 1 (bl s):=by
  have hh:(bl s).head? = some (gb s 0):=by have:=head_drop s 0 h0;rwa [List.drop_zero] at this
  rw [number_numR,hh]
  simp [hng]
 rw [e0]
 clear e0
 obtain ⟨c,hc⟩:∃ c,(gb s 0).toNat=c:=⟨_,rfl⟩
 rw [hc] at hc45 hix0
 have hceq:((c:Int) == 45)=false:=hc45
 clear hc hc45 hng
 have HNo:=Lib.hid (fun W=>none_r W)
 unfold ReadP bv bcs noIt at HNo
 simp only at HNo
 have HR:=Lib.hid (fun W=>(run_r s W (by omega)).mono fun e w' h=>show e = _∧W=w' from ⟨h.1,h.2.symm⟩)
 have hle:=Bare.takeWhile_len Bare.digB (bl s)
 have htk:=Bare.takeWhile_take Bare.digB (bl s)
 have hdg:=digs_take (bl s)
 unfold numR
 simp only
 obtain ⟨d,hd⟩:∃ d,(bl s).takeWhile Bare.digB=d:=⟨_,rfl⟩
 rw [hd] at HR hle htk hdg ⊢
 obtain ⟨n,hn⟩:∃ n,d.length=n:=⟨_,rfl⟩
 rw [hn] at HR hle htk ⊢
 rw [bl_len] at hle
 clear hd
 obtain ⟨hN,hr⟩:=no_row w
 by_cases h1:n < 1
 ·have d1:decide ((n:Int)=0)=true:=decide_eq_true (by omega)
  have d1':((n:Int) == 0)=true:=d1
  rw [if_pos (.inl h1)]
  unfold ReadP bv bcs noIt
  simp only
  clear htk h1 hn hle
  go_enter Tryz.func59,Tryz.ntmps59
  go_upto_region 1 with fail
  obtain ⟨W,hW⟩:∃ W,w.alloc (.cells #[.int .u8 0,.int .i64 0,.string ⟨#[]⟩,.bool false] 23)=W:=⟨_,rfl⟩
  rw [hW] at hN hr ⊢
  obtain ⟨B,hB⟩:∃ B,w.heap.size=B:=⟨_,rfl⟩
  have hBw:w.heap.size ≤ B:=by omega
  rw [hB] at hr ⊢
  clear hW hB
  obtain ⟨⟨c0,c1,c2,c3⟩,f0,f1,f2,f3⟩:=row_facts hr
  go_wp2_with (go_at_call 112;refine (HR.out _).mono ?_;rintro e w' ⟨rfl,rfl⟩)
  refine (HNo.out _).mono ?_
  rintro e wn ⟨rfl,hNn⟩
  have hN:=hN.trans hNn
  have hr:=hNn.heap hr id
  clear c0 c1 c2 c3 f0 f1 f2 f3 hNn
  obtain ⟨⟨c0,c1,c2,c3⟩,f0,f1,f2,f3⟩:=row_facts hr
  go_wp2_with fail
  obtain ⟨hN2,hr2⟩:=set4 hN hBw hr (.int .u8 0) (.int .i64 0) (.string ⟨#[]⟩) (.bool false)
  obtain ⟨W2,hW2⟩:∃ W2,((((wn.setCell ⟨B,0,none⟩ (.int .u8 0)).setCell ⟨B,1,none⟩ (.int .i64 0)).setCell ⟨B,2,none⟩ (.string ⟨#[]⟩)).setCell ⟨B,3,none⟩ (.bool false))=W2:=⟨_,rfl⟩
  rw [hW2] at hN2 hr2 ⊢
  exact read_end (by kernel_rfl) rfl rfl rfl hr2 ⟨rfl,hN2⟩
 have d1:decide ((n:Int)=0)=false:=decide_eq_false (by omega)
 have d1':((n:Int) == 0)=false:=d1
 by_cases h15:15 < n
 ·have d2:decide (15 < (n:Int))=true:=decide_eq_true (by omega)
  rw [if_pos (.inr h15)]
  unfold ReadP bv bcs noIt
  simp only
  clear htk h1 hn hle
  go_enter Tryz.func59,Tryz.ntmps59
  go_upto_region 1 with fail
  obtain ⟨W,hW⟩:∃ W,w.alloc (.cells #[.int .u8 0,.int .i64 0,.string ⟨#[]⟩,.bool false] 23)=W:=⟨_,rfl⟩
  rw [hW] at hN hr ⊢
  obtain ⟨B,hB⟩:∃ B,w.heap.size=B:=⟨_,rfl⟩
  have hBw:w.heap.size ≤ B:=by omega
  rw [hB] at hr ⊢
  clear hW hB
  obtain ⟨⟨c0,c1,c2,c3⟩,f0,f1,f2,f3⟩:=row_facts hr
  go_wp2_with (go_at_call 112;refine (HR.out _).mono ?_;rintro e w' ⟨rfl,rfl⟩)
  refine (HNo.out _).mono ?_
  rintro e wn ⟨rfl,hNn⟩
  have hN:=hN.trans hNn
  have hr:=hNn.heap hr id
  clear c0 c1 c2 c3 f0 f1 f2 f3 hNn
  obtain ⟨⟨c0,c1,c2,c3⟩,f0,f1,f2,f3⟩:=row_facts hr
  go_wp2_with fail
  obtain ⟨hN2,hr2⟩:=set4 hN hBw hr (.int .u8 0) (.int .i64 0) (.string ⟨#[]⟩) (.bool false)
  obtain ⟨W2,hW2⟩:∃ W2,((((wn.setCell ⟨B,0,none⟩ (.int .u8 0)).setCell ⟨B,1,none⟩ (.int .i64 0)).setCell ⟨B,2,none⟩ (.string ⟨#[]⟩)).setCell ⟨B,3,none⟩ (.bool false))=W2:=⟨_,rfl⟩
  rw [hW2] at hN2 hr2 ⊢
  exact read_end (by kernel_rfl) rfl rfl rfl hr2 ⟨rfl,hN2⟩
 have d2:decide (15 < (n:Int))=false:=decide_eq_false (by omega)
 rw [if_neg (by omega)]
 have HA:=Lib.hid (fun W=>(value_r (tx d) W (by rw [tx_size];omega) (by rw [bl_tx];exact hdg)).mono fun e w' h=>show e = _∧W=w' from ⟨h.1,h.2.symm⟩)
 rw [bl_tx] at HA
 have hsh:=run_sl_h s n hle
 have hvl:=val_lt hdg 15 (by omega)
 have hvl12:=fun h=>val_lt hdg 12 h
 rw [htk] at hsh
 have hsl:=run_sl_l s n hle
 obtain ⟨v,hv⟩:∃ v,Bare.valD d=v:=⟨_,rfl⟩
 rw [hv] at HA hvl hvl12 ⊢
 obtain ⟨dx,hdx⟩:∃ dx,tx d=dx:=⟨_,rfl⟩
 rw [hdx] at HA hsh
 rw [hn] at hvl12
 clear hv hdx htk hdg hn
 simp at hvl
 have hgv:1 * (v:Int)=(v:Int):=by omega
 by_cases hend:n=s.size
 ·have d3:decide ((n:Int)=(s.size:Int))=true:=decide_eq_true (by omega)
  have d3':((n:Int) == (s.size:Int))=true:=d3
  have hhd:((bl s).drop n).head? ≠ some 46:=by rw [hend,head_end];simp
  rw [if_pos hhd]
  obtain ⟨x,hx⟩:∃ x,tx ((bl s).drop n)=x:=⟨_,rfl⟩
  rw [hx] at hsl
  rw [hgv]
  clear hend
  unfold ReadP bv bcs noIt
  simp only
  rw [hx]
  clear hhd hx h1 h15 hle hvl12
  go_enter Tryz.func59,Tryz.ntmps59
  go_upto_region 1 with fail
  obtain ⟨W,hW⟩:∃ W,w.alloc (.cells #[.int .u8 0,.int .i64 0,.string ⟨#[]⟩,.bool false] 23)=W:=⟨_,rfl⟩
  rw [hW] at hN hr ⊢
  obtain ⟨B,hB⟩:∃ B,w.heap.size=B:=⟨_,rfl⟩
  have hBw:w.heap.size ≤ B:=by omega
  rw [hB] at hr ⊢
  clear hW hB
  obtain ⟨⟨c0,c1,c2,c3⟩,f0,f1,f2,f3⟩:=row_facts hr
  go_upto_region 9 with (go_at_call 112;refine (HR.out _).mono ?_;rintro e w' ⟨rfl,rfl⟩)
  go_region_with (go_at_call 113;refine (HA.out _).mono ?_;rintro e w' ⟨rfl,rfl⟩)
  have hwr:IntKind.i64.wrap (v:Int)=(v:Int):=by rw [IntKind.wrap_i64];omega
  rw [hwr]
  obtain ⟨hN2,hr2⟩:=set4 hN hBw hr (.int .u8 1) (.int .i64 (v:Int)) (.string ⟨#[]⟩) (.bool false)
  have hN2:=hN2.drew
  have hr2:((((W.setCell ⟨B,0,none⟩ (.int .u8 1)).setCell ⟨B,1,none⟩ (.int .i64 (v:Int))).setCell ⟨B,2,none⟩ (.string ⟨#[]⟩)).setCell ⟨B,3,none⟩ (.bool false)).drew.heap[B]? = some (.cells #[(.int .u8 1),(.int .i64 (v:Int)),(.string ⟨#[]⟩),(.bool false)] 23 (0,0)):=hr2
  obtain ⟨W2,hW2⟩:∃ W2,((((W.setCell ⟨B,0,none⟩ (.int .u8 1)).setCell ⟨B,1,none⟩ (.int .i64 (v:Int))).setCell ⟨B,2,none⟩ (.string ⟨#[]⟩)).setCell ⟨B,3,none⟩ (.bool false)).drew=W2:=⟨_,rfl⟩
  rw [hW2] at hN2 hr2 ⊢
  go_wp2_with fail
  exact read_end (by kernel_rfl) rfl rfl rfl hr2 ⟨rfl,hN2⟩
 have hlt:n < s.size:=by omega
 have d3:decide ((n:Int)=(s.size:Int))=false:=decide_eq_false (by omega)
 have d3':((n:Int) == (s.size:Int))=false:=d3
 have hixn:=run_idx s n hlt
 have hhn:=head_drop s n hlt
 have hq46:=u8_eq (gb s n) 46
 by_cases hq:gb s n=46
 case neg =>
  rw [decide_eq_false hq] at hq46
  have hhd:((bl s).drop n).head? ≠ some 46:=by rw [hhn];simpa using hq
  rw [if_pos hhd]
  obtain ⟨x,hx⟩:∃ x,tx ((bl s).drop n)=x:=⟨_,rfl⟩
  rw [hx] at hsl
  obtain ⟨q,hqn⟩:∃ q,(gb s n).toNat=q:=⟨_,rfl⟩
  rw [hqn] at hixn hq46
  have hq1:((q:Int) == 46)=false:=hq46.symm
  have hq2:((q:Int) != 46)=true:=by simp [bne,hq1]
  clear hq hqn hq46 hhd hhn hend hlt
  rw [hgv]
  unfold ReadP bv bcs noIt
  simp only
  rw [hx]
  clear hx h1 h15 hle hvl12
  go_enter Tryz.func59,Tryz.ntmps59
  go_upto_region 1 with fail
  obtain ⟨W,hW⟩:∃ W,w.alloc (.cells #[.int .u8 0,.int .i64 0,.string ⟨#[]⟩,.bool false] 23)=W:=⟨_,rfl⟩
  rw [hW] at hN hr ⊢
  obtain ⟨B,hB⟩:∃ B,w.heap.size=B:=⟨_,rfl⟩
  have hBw:w.heap.size ≤ B:=by omega
  rw [hB] at hr ⊢
  clear hW hB
  obtain ⟨⟨c0,c1,c2,c3⟩,f0,f1,f2,f3⟩:=row_facts hr
  go_upto_region 9 with (go_at_call 112;refine (HR.out _).mono ?_;rintro e w' ⟨rfl,rfl⟩)
  go_region_with (go_at_call 113;refine (HA.out _).mono ?_;rintro e w' ⟨rfl,rfl⟩)
  have hwr:IntKind.i64.wrap (v:Int)=(v:Int):=by rw [IntKind.wrap_i64];omega
  rw [hwr]
  obtain ⟨hN2,hr2⟩:=set4 hN hBw hr (.int .u8 1) (.int .i64 (v:Int)) (.string ⟨#[]⟩) (.bool false)
  have hN2:=hN2.drew
  have hr2:((((W.setCell ⟨B,0,none⟩ (.int .u8 1)).setCell ⟨B,1,none⟩ (.int .i64 (v:Int))).setCell ⟨B,2,none⟩ (.string ⟨#[]⟩)).setCell ⟨B,3,none⟩ (.bool false)).drew.heap[B]? = some (.cells #[(.int .u8 1),(.int .i64 (v:Int)),(.string ⟨#[]⟩),(.bool false)] 23 (0,0)):=hr2
  obtain ⟨W2,hW2⟩:∃ W2,((((W.setCell ⟨B,0,none⟩ (.int .u8 1)).setCell ⟨B,1,none⟩ (.int .i64 (v:Int))).setCell ⟨B,2,none⟩ (.string ⟨#[]⟩)).setCell ⟨B,3,none⟩ (.bool false)).drew=W2:=⟨_,rfl⟩
  rw [hW2] at hN2 hr2 ⊢
  go_wp2_with fail
  exact read_end (by kernel_rfl) rfl rfl rfl hr2 ⟨rfl,hN2⟩
 case pos =>
  rw [decide_eq_true hq] at hq46
  have hhd:¬ ((bl s).drop n).head? ≠ some 46:=by rw [hhn,hq];simp
  rw [if_neg hhd]
  obtain ⟨q,hqn⟩:∃ q,(gb s n).toNat=q:=⟨_,rfl⟩
  rw [hqn] at hixn hq46
  have hq1:((q:Int) == 46)=true:=hq46.symm
  have hq2:((q:Int) != 46)=false:=by simp [bne,hq1]
  have hnb:(n:Int) ≤ 1000000:=by omega
  clear hq hqn hq46 hhd hhn hend hgv
  have hsl1:∀ W,(Instr.slice 9 (.string s) (some (.int .i64 ((n:Int) + 1))) none none).run Tryz.prog W = .ok (.string (tx ((bl s).drop (n + 1)))) W:=fun W=>run_sl_l s (n + 1) (by omega) W
  obtain ⟨U,hU⟩:∃ U,tx ((bl s).drop (n + 1))=U:=⟨_,rfl⟩
  have hUl:((bl s).drop n).drop 1=bl U:=by rw [← hU,List.drop_drop]
  have hUs:U.size=s.size - (n + 1):=by rw [← hU,tx_size,List.length_drop,bl_len]
  have hdd:∀ k,((bl s).drop n).drop (1 + k)=(bl s).drop (n + 1 + k):=fun k=>by rw [List.drop_drop];congr 1;omega
  have hpc:∀ k,piec s (n + 1) (n + 1 + k)=tx ((bl U).take k):=fun k=>by unfold piec;rw [← hU,Nat.add_sub_cancel_left]
  rw [hU] at hsl1
  rw [hUl]
  have HU:=Lib.hid (fun W=>(run_r U W (by omega)).mono fun e w' h=>show e = _∧W=w' from ⟨h.1,h.2.symm⟩)
  have hek:=Bare.takeWhile_len Bare.digB (bl U)
  have het:=Bare.takeWhile_take Bare.digB (bl U)
  have hed:=digs_take (bl U)
  obtain ⟨e,he⟩:∃ e,(bl U).takeWhile Bare.digB=e:=⟨_,rfl⟩
  rw [he] at HU hek het hed ⊢
  obtain ⟨k,hk⟩:∃ k,e.length=k:=⟨_,rfl⟩
  rw [hk] at HU hek het ⊢
  rw [bl_len,hUs] at hek
  rw [hdd]
  have hkb:(k:Int) ≤ 1000000:=by omega
  clear he hU hUl hdd
  by_cases hn12:12 < n
  ·have d4:decide (12 < (n:Int))=true:=decide_eq_true (by omega)
   rw [if_pos (.inl hn12)]
   unfold ReadP bv bcs noIt
   simp only
   clear hn12 h1 h15 hle hed het hpc hek hUs hlt hk hvl12
   go_enter Tryz.func59,Tryz.ntmps59
   go_upto_region 1 with fail
   obtain ⟨W,hW⟩:∃ W,w.alloc (.cells #[.int .u8 0,.int .i64 0,.string ⟨#[]⟩,.bool false] 23)=W:=⟨_,rfl⟩
   rw [hW] at hN hr ⊢
   obtain ⟨B,hB⟩:∃ B,w.heap.size=B:=⟨_,rfl⟩
   have hBw:w.heap.size ≤ B:=by omega
   rw [hB] at hr ⊢
   clear hW hB
   obtain ⟨⟨c0,c1,c2,c3⟩,f0,f1,f2,f3⟩:=row_facts hr
   go_wp2_with (first | (go_at_call 112;with_reducible refine (HR.out _).mono ?_;rintro e w' ⟨rfl,rfl⟩) | (go_at_call 112;refine (HU.out _).mono ?_;rintro e w' ⟨rfl,rfl⟩))
   refine (HNo.out _).mono ?_
   rintro e wn ⟨rfl,hNn⟩
   have hN:=hN.trans hNn
   have hr:=hNn.heap hr id
   clear c0 c1 c2 c3 f0 f1 f2 f3 hNn
   obtain ⟨⟨c0,c1,c2,c3⟩,f0,f1,f2,f3⟩:=row_facts hr
   go_wp2_with fail
   obtain ⟨hN2,hr2⟩:=set4 hN hBw hr (.int .u8 0) (.int .i64 0) (.string ⟨#[]⟩) (.bool false)
   obtain ⟨W2,hW2⟩:∃ W2,((((wn.setCell ⟨B,0,none⟩ (.int .u8 0)).setCell ⟨B,1,none⟩ (.int .i64 0)).setCell ⟨B,2,none⟩ (.string ⟨#[]⟩)).setCell ⟨B,3,none⟩ (.bool false))=W2:=⟨_,rfl⟩
   rw [hW2] at hN2 hr2 ⊢
   exact read_end (by kernel_rfl) rfl rfl rfl hr2 ⟨rfl,hN2⟩
  have d4:decide (12 < (n:Int))=false:=decide_eq_false (by omega)
  by_cases hk1:k < 1
  ·have d5:decide ((k:Int) < 1)=true:=decide_eq_true (by omega)
   rw [if_pos (.inr (.inl hk1))]
   unfold ReadP bv bcs noIt
   simp only
   clear hn12 h1 h15 hle hed het hpc hek hUs hlt hk hvl12 hk1
   go_enter Tryz.func59,Tryz.ntmps59
   go_upto_region 1 with fail
   obtain ⟨W,hW⟩:∃ W,w.alloc (.cells #[.int .u8 0,.int .i64 0,.string ⟨#[]⟩,.bool false] 23)=W:=⟨_,rfl⟩
   rw [hW] at hN hr ⊢
   obtain ⟨B,hB⟩:∃ B,w.heap.size=B:=⟨_,rfl⟩
   have hBw:w.heap.size ≤ B:=by omega
   rw [hB] at hr ⊢
   clear hW hB
   obtain ⟨⟨c0,c1,c2,c3⟩,f0,f1,f2,f3⟩:=row_facts hr
   go_wp2_with (first | (go_at_call 112;with_reducible refine (HR.out _).mono ?_;rintro e w' ⟨rfl,rfl⟩) | (go_at_call 112;refine (HU.out _).mono ?_;rintro e w' ⟨rfl,rfl⟩))
   refine (HNo.out _).mono ?_
   rintro e wn ⟨rfl,hNn⟩
   have hN:=hN.trans hNn
   have hr:=hNn.heap hr id
   clear c0 c1 c2 c3 f0 f1 f2 f3 hNn
   obtain ⟨⟨c0,c1,c2,c3⟩,f0,f1,f2,f3⟩:=row_facts hr
   go_wp2_with fail
   obtain ⟨hN2,hr2⟩:=set4 hN hBw hr (.int .u8 0) (.int .i64 0) (.string ⟨#[]⟩) (.bool false)
   obtain ⟨W2,hW2⟩:∃ W2,((((wn.setCell ⟨B,0,none⟩ (.int .u8 0)).setCell ⟨B,1,none⟩ (.int .i64 0)).setCell ⟨B,2,none⟩ (.string ⟨#[]⟩)).setCell ⟨B,3,none⟩ (.bool false))=W2:=⟨_,rfl⟩
   rw [hW2] at hN2 hr2 ⊢
   exact read_end (by kernel_rfl) rfl rfl rfl hr2 ⟨rfl,hN2⟩
  have d5:decide ((k:Int) < 1)=false:=decide_eq_false (by omega)
  by_cases hk3:3 < k
  ·have d6:decide (3 < (k:Int))=true:=decide_eq_true (by omega)
   rw [if_pos (.inr (.inr hk3))]
   unfold ReadP bv bcs noIt
   simp only
   clear hn12 h1 h15 hle hed het hpc hek hUs hlt hk hvl12 hk1 hk3
   go_enter Tryz.func59,Tryz.ntmps59
   go_upto_region 1 with fail
   obtain ⟨W,hW⟩:∃ W,w.alloc (.cells #[.int .u8 0,.int .i64 0,.string ⟨#[]⟩,.bool false] 23)=W:=⟨_,rfl⟩
   rw [hW] at hN hr ⊢
   obtain ⟨B,hB⟩:∃ B,w.heap.size=B:=⟨_,rfl⟩
   have hBw:w.heap.size ≤ B:=by omega
   rw [hB] at hr ⊢
   clear hW hB
   obtain ⟨⟨c0,c1,c2,c3⟩,f0,f1,f2,f3⟩:=row_facts hr
   go_wp2_with (first | (go_at_call 112;with_reducible refine (HR.out _).mono ?_;rintro e w' ⟨rfl,rfl⟩) | (go_at_call 112;refine (HU.out _).mono ?_;rintro e w' ⟨rfl,rfl⟩))
   refine (HNo.out _).mono ?_
   rintro e wn ⟨rfl,hNn⟩
   have hN:=hN.trans hNn
   have hr:=hNn.heap hr id
   clear c0 c1 c2 c3 f0 f1 f2 f3 hNn
   obtain ⟨⟨c0,c1,c2,c3⟩,f0,f1,f2,f3⟩:=row_facts hr
   go_wp2_with fail
   obtain ⟨hN2,hr2⟩:=set4 hN hBw hr (.int .u8 0) (.int .i64 0) (.string ⟨#[]⟩) (.bool false)
   obtain ⟨W2,hW2⟩:∃ W2,((((wn.setCell ⟨B,0,none⟩ (.int .u8 0)).setCell ⟨B,1,none⟩ (.int .i64 0)).setCell ⟨B,2,none⟩ (.string ⟨#[]⟩)).setCell ⟨B,3,none⟩ (.bool false))=W2:=⟨_,rfl⟩
   rw [hW2] at hN2 hr2 ⊢
   exact read_end (by kernel_rfl) rfl rfl rfl hr2 ⟨rfl,hN2⟩
  have d6:decide (3 < (k:Int))=false:=decide_eq_false (by omega)
  rw [if_neg (by omega)]
  have hv12:=hvl12 (by omega)
  simp at hv12
  have hsl2:∀ W,(Instr.slice 9 (.string s) (some (.int .i64 ((n:Int) + 1))) (some (.int .i64 ((n:Int) + 1 + (k:Int)))) none).run Tryz.prog W = .ok (.string (piec s (n + 1) (n + 1 + k))) W:=fun W=>run_sl s (n + 1) (n + 1 + k) (by omega) (by omega) W
  rw [hpc,het] at hsl2
  have hxx:(tx e ++ ⟨#[48,48]⟩).extract 0 3=tx ((e ++ [48,48]).take 3):=by
   rw [extract_piec,piec_head]
   rfl
  have hz1:1 ≤ (tx e).size:=by rw [tx_size,hk];omega
  have hz3:(tx e).size ≤ 3:=by rw [tx_size,hk];omega
  have hed2:((e ++ [48,48]).take 3).all Bare.digB=true:=by
   rw [List.all_eq_true] at hed ⊢
   intro x hx
   rcases List.mem_append.1 (List.mem_of_mem_take hx) with h | h
   ·exact hed x h
   ·simp at h;subst h;decide
  have hl3:((e ++ [48,48]).take 3).length=3:=by rw [List.length_take,List.length_append];show min 3 (e.length + 2)=3;omega
  have HA2:=Lib.hid (fun W=>(value_r (tx ((e ++ [48,48]).take 3)) W (by rw [tx_size];omega) (by rw [bl_tx];exact hed2)).mono fun e w' h=>show e = _∧W=w' from ⟨h.1,h.2.symm⟩)
  rw [bl_tx] at HA2
  have hv2:=val_lt hed2 3 (by omega)
  obtain ⟨v2,hv2e⟩:∃ v2,Bare.valD ((e ++ [48,48]).take 3)=v2:=⟨_,rfl⟩
  rw [hv2e] at HA2 hv2 ⊢
  simp at hv2
  rw [← hxx] at HA2
  obtain ⟨x1,hx1⟩:∃ x1,tx e=x1:=⟨_,rfl⟩
  rw [hx1] at hsl2 HA2 hz1 hz3
  have hsl3:∀ W,(Instr.slice 9 (.string s) (some (.int .i64 ((n:Int) + 1 + (k:Int)))) none none).run Tryz.prog W = .ok (.string (tx ((bl s).drop (n + 1 + k)))) W:=fun W=>run_sl_l s (n + 1 + k) (by omega) W
  obtain ⟨x,hx⟩:∃ x,tx ((bl s).drop (n + 1 + k))=x:=⟨_,rfl⟩
  rw [hx] at hsl3
  have hgv:1 * (1000 * (v:Int) + (v2:Int))=(1000 * (v:Int) + (v2:Int)):=by omega
  rw [hgv]
  clear hgv hv2e hxx hx1 hl3 hed2 hed het hpc hk hk1 hk3 hn12 hek hUs hlt hsl
  unfold ReadP bv bcs noIt
  simp only
  rw [hx]
  clear hx h1 h15 hle hvl12 hvl
  go_enter Tryz.func59,Tryz.ntmps59
  go_upto_region 1 with fail
  obtain ⟨W,hW⟩:∃ W,w.alloc (.cells #[.int .u8 0,.int .i64 0,.string ⟨#[]⟩,.bool false] 23)=W:=⟨_,rfl⟩
  rw [hW] at hN hr ⊢
  obtain ⟨B,hB⟩:∃ B,w.heap.size=B:=⟨_,rfl⟩
  have hBw:w.heap.size ≤ B:=by omega
  rw [hB] at hr ⊢
  clear hW hB
  obtain ⟨⟨c0,c1,c2,c3⟩,f0,f1,f2,f3⟩:=row_facts hr
  have hw1:IntKind.i64.wrap ((n:Int) + 1)=(n:Int) + 1:=by rw [IntKind.wrap_i64];omega
  have hw2:IntKind.i64.wrap ((n:Int) + 1 + (k:Int))=(n:Int) + 1 + (k:Int):=by rw [IntKind.wrap_i64];omega
  have hw3:IntKind.i64.wrap (1000 * (v:Int))=1000 * (v:Int):=by rw [IntKind.wrap_i64];omega
  have hw4:IntKind.i64.wrap (1000 * (v:Int) + (v2:Int))=1000 * (v:Int) + (v2:Int):=by rw [IntKind.wrap_i64];omega
  have hw5:IntKind.i64.wrap (1000 * (v:Int) + (v2:Int))=(1000 * (v:Int) + (v2:Int)):=by rw [IntKind.wrap_i64];omega
  go_upto_region 14 with (first | (go_at_call 112;with_reducible refine (HR.out _).mono ?_;rintro e w' ⟨rfl,rfl⟩) | (go_at_call 112;refine (HU.out _).mono ?_;rintro e w' ⟨rfl,rfl⟩))
  go_region_with (first | (go_at_call 113;with_reducible refine (HA.out _).mono ?_;rintro e w' ⟨rfl,rfl⟩) | (go_at_call 113;refine (HA2.out _).mono ?_;rintro e w' ⟨rfl,rfl⟩))
  all_goals
   obtain ⟨hN2,hr2⟩:=set4 hN hBw hr (.int .u8 2) (.int .i64 (1000 * (v:Int) + (v2:Int))) (.string ⟨#[]⟩) (.bool false)
   have hN2:=hN2.drew
   have hr2:((((W.setCell ⟨B,0,none⟩ (.int .u8 2)).setCell ⟨B,1,none⟩ (.int .i64 (1000 * (v:Int) + (v2:Int)))).setCell ⟨B,2,none⟩ (.string ⟨#[]⟩)).setCell ⟨B,3,none⟩ (.bool false)).drew.heap[B]? = some (.cells #[(.int .u8 2),(.int .i64 (1000 * (v:Int) + (v2:Int))),(.string ⟨#[]⟩),(.bool false)] 23 (0,0)):=hr2
   obtain ⟨W2,hW2⟩:∃ W2,((((W.setCell ⟨B,0,none⟩ (.int .u8 2)).setCell ⟨B,1,none⟩ (.int .i64 (1000 * (v:Int) + (v2:Int)))).setCell ⟨B,2,none⟩ (.string ⟨#[]⟩)).setCell ⟨B,3,none⟩ (.bool false)).drew=W2:=⟨_,rfl⟩
   rw [hW2] at hN2 hr2 ⊢
   go_wp2_with fail
   exact read_end (by kernel_rfl) rfl rfl rfl hr2 ⟨rfl,hN2⟩


theorem number_neg_r (s0:ByteArray) (w:World) (hs0:s0.size ≤ 1000000) (h0:0 < s0.size) (hng:gb s0 0=45) :
  Calls Tryz.prog 59 #[.string s0] w (ReadP (Bare.number (bl s0)) w):=by
 have hc45:decide (gb s0 0=45)=true:=decide_eq_true hng
 rw [u8_eq] at hc45
 have hix0:∀ W,(Instr.index 9 (.string s0) (.int .i64 0)).run Tryz.prog W = .ok (.int .u8 ((gb s0 0).toNat:Nat)) W:=run_idx s0 0 (by omega)
 have e0:Bare.number (bl s0)=numR (-1) ((bl s0).drop 1):=by
  have hh:(bl s0).head? = some (gb s0 0):=by have:=head_drop s0 0 h0;rwa [List.drop_zero] at this
  rw [number_numR,hh]
  simp [hng]
 rw [e0]
 clear e0
 have hs1:∀ W,(Instr.slice 9 (.string s0) (some (.int .i64 1)) none none).run Tryz.prog W = .ok (.string (tx ((bl s0).drop 1))) W:=run_sl_l s0 1 (by omega)
 obtain ⟨s,hT⟩:∃ T,tx ((bl s0).drop 1)=T:=⟨_,rfl⟩
 have hTl:(bl s0).drop 1=bl s:=by rw [← hT]
 have hs:s.size ≤ 1000000:=by rw [← hT,tx_size,List.length_drop,bl_len];omega
 rw [hT] at hs1
 rw [hTl]
 clear hT hTl
 obtain ⟨c,hc⟩:∃ c,(gb s0 0).toNat=c:=⟨_,rfl⟩
 rw [hc] at hc45 hix0
 have hceq:((c:Int) == 45)=true:=hc45
 clear hc hc45 hng
 have HNo:=Lib.hid (fun W=>none_r W)
 unfold ReadP bv bcs noIt at HNo
 simp only at HNo
 have HR:=Lib.hid (fun W=>(run_r s W (by omega)).mono fun e w' h=>show e = _∧W=w' from ⟨h.1,h.2.symm⟩)
 have hle:=Bare.takeWhile_len Bare.digB (bl s)
 have htk:=Bare.takeWhile_take Bare.digB (bl s)
 have hdg:=digs_take (bl s)
 unfold numR
 simp only
 obtain ⟨d,hd⟩:∃ d,(bl s).takeWhile Bare.digB=d:=⟨_,rfl⟩
 rw [hd] at HR hle htk hdg ⊢
 obtain ⟨n,hn⟩:∃ n,d.length=n:=⟨_,rfl⟩
 rw [hn] at HR hle htk ⊢
 rw [bl_len] at hle
 clear hd
 obtain ⟨hN,hr⟩:=no_row w
 by_cases h1:n < 1
 ·have d1:decide ((n:Int)=0)=true:=decide_eq_true (by omega)
  have d1':((n:Int) == 0)=true:=d1
  rw [if_pos (.inl h1)]
  unfold ReadP bv bcs noIt
  simp only
  clear htk h1 hn hle
  go_enter Tryz.func59,Tryz.ntmps59
  go_upto_region 1 with fail
  obtain ⟨W,hW⟩:∃ W,w.alloc (.cells #[.int .u8 0,.int .i64 0,.string ⟨#[]⟩,.bool false] 23)=W:=⟨_,rfl⟩
  rw [hW] at hN hr ⊢
  obtain ⟨B,hB⟩:∃ B,w.heap.size=B:=⟨_,rfl⟩
  have hBw:w.heap.size ≤ B:=by omega
  rw [hB] at hr ⊢
  clear hW hB
  obtain ⟨⟨c0,c1,c2,c3⟩,f0,f1,f2,f3⟩:=row_facts hr
  go_wp2_with (go_at_call 112;refine (HR.out _).mono ?_;rintro e w' ⟨rfl,rfl⟩)
  refine (HNo.out _).mono ?_
  rintro e wn ⟨rfl,hNn⟩
  have hN:=hN.trans hNn
  have hr:=hNn.heap hr id
  clear c0 c1 c2 c3 f0 f1 f2 f3 hNn
  obtain ⟨⟨c0,c1,c2,c3⟩,f0,f1,f2,f3⟩:=row_facts hr
  go_wp2_with fail
  obtain ⟨hN2,hr2⟩:=set4 hN hBw hr (.int .u8 0) (.int .i64 0) (.string ⟨#[]⟩) (.bool false)
  obtain ⟨W2,hW2⟩:∃ W2,((((wn.setCell ⟨B,0,none⟩ (.int .u8 0)).setCell ⟨B,1,none⟩ (.int .i64 0)).setCell ⟨B,2,none⟩ (.string ⟨#[]⟩)).setCell ⟨B,3,none⟩ (.bool false))=W2:=⟨_,rfl⟩
  rw [hW2] at hN2 hr2 ⊢
  exact read_end (by kernel_rfl) rfl rfl rfl hr2 ⟨rfl,hN2⟩
 have d1:decide ((n:Int)=0)=false:=decide_eq_false (by omega)
 have d1':((n:Int) == 0)=false:=d1
 by_cases h15:15 < n
 ·have d2:decide (15 < (n:Int))=true:=decide_eq_true (by omega)
  rw [if_pos (.inr h15)]
  unfold ReadP bv bcs noIt
  simp only
  clear htk h1 hn hle
  go_enter Tryz.func59,Tryz.ntmps59
  go_upto_region 1 with fail
  obtain ⟨W,hW⟩:∃ W,w.alloc (.cells #[.int .u8 0,.int .i64 0,.string ⟨#[]⟩,.bool false] 23)=W:=⟨_,rfl⟩
  rw [hW] at hN hr ⊢
  obtain ⟨B,hB⟩:∃ B,w.heap.size=B:=⟨_,rfl⟩
  have hBw:w.heap.size ≤ B:=by omega
  rw [hB] at hr ⊢
  clear hW hB
  obtain ⟨⟨c0,c1,c2,c3⟩,f0,f1,f2,f3⟩:=row_facts hr
  go_wp2_with (go_at_call 112;refine (HR.out _).mono ?_;rintro e w' ⟨rfl,rfl⟩)
  refine (HNo.out _).mono ?_
  rintro e wn ⟨rfl,hNn⟩
  have hN:=hN.trans hNn
  have hr:=hNn.heap hr id
  clear c0 c1 c2 c3 f0 f1 f2 f3 hNn
  obtain ⟨⟨c0,c1,c2,c3⟩,f0,f1,f2,f3⟩:=row_facts hr
  go_wp2_with fail
  obtain ⟨hN2,hr2⟩:=set4 hN hBw hr (.int .u8 0) (.int .i64 0) (.string ⟨#[]⟩) (.bool false)
  obtain ⟨W2,hW2⟩:∃ W2,((((wn.setCell ⟨B,0,none⟩ (.int .u8 0)).setCell ⟨B,1,none⟩ (.int .i64 0)).setCell ⟨B,2,none⟩ (.string ⟨#[]⟩)).setCell ⟨B,3,none⟩ (.bool false))=W2:=⟨_,rfl⟩
  rw [hW2] at hN2 hr2 ⊢
  exact read_end (by kernel_rfl) rfl rfl rfl hr2 ⟨rfl,hN2⟩
 have d2:decide (15 < (n:Int))=false:=decide_eq_false (by omega)
 rw [if_neg (by omega)]
 have HA:=Lib.hid (fun W=>(value_r (tx d) W (by rw [tx_size];omega) (by rw [bl_tx];exact hdg)).mono fun e w' h=>show e = _∧W=w' from ⟨h.1,h.2.symm⟩)
 rw [bl_tx] at HA
 have hsh:=run_sl_h s n hle
 have hvl:=val_lt hdg 15 (by omega)
 have hvl12:=fun h=>val_lt hdg 12 h
 rw [htk] at hsh
 have hsl:=run_sl_l s n hle
 obtain ⟨v,hv⟩:∃ v,Bare.valD d=v:=⟨_,rfl⟩
 rw [hv] at HA hvl hvl12 ⊢
 obtain ⟨dx,hdx⟩:∃ dx,tx d=dx:=⟨_,rfl⟩
 rw [hdx] at HA hsh
 rw [hn] at hvl12
 clear hv hdx htk hdg hn
 simp at hvl
 have hgv:(-1) * (v:Int)=(-(v:Int)):=by omega
 by_cases hend:n=s.size
 ·have d3:decide ((n:Int)=(s.size:Int))=true:=decide_eq_true (by omega)
  have d3':((n:Int) == (s.size:Int))=true:=d3
  have hhd:((bl s).drop n).head? ≠ some 46:=by rw [hend,head_end];simp
  rw [if_pos hhd]
  obtain ⟨x,hx⟩:∃ x,tx ((bl s).drop n)=x:=⟨_,rfl⟩
  rw [hx] at hsl
  rw [hgv]
  clear hend
  unfold ReadP bv bcs noIt
  simp only
  rw [hx]
  clear hhd hx h1 h15 hle hvl12
  go_enter Tryz.func59,Tryz.ntmps59
  go_upto_region 1 with fail
  obtain ⟨W,hW⟩:∃ W,w.alloc (.cells #[.int .u8 0,.int .i64 0,.string ⟨#[]⟩,.bool false] 23)=W:=⟨_,rfl⟩
  rw [hW] at hN hr ⊢
  obtain ⟨B,hB⟩:∃ B,w.heap.size=B:=⟨_,rfl⟩
  have hBw:w.heap.size ≤ B:=by omega
  rw [hB] at hr ⊢
  clear hW hB
  obtain ⟨⟨c0,c1,c2,c3⟩,f0,f1,f2,f3⟩:=row_facts hr
  go_upto_region 9 with (go_at_call 112;refine (HR.out _).mono ?_;rintro e w' ⟨rfl,rfl⟩)
  go_region_with (go_at_call 113;refine (HA.out _).mono ?_;rintro e w' ⟨rfl,rfl⟩)
  have hwr:IntKind.i64.wrap (-(v:Int))=(-(v:Int)):=by rw [IntKind.wrap_i64];omega
  rw [hwr]
  obtain ⟨hN2,hr2⟩:=set4 hN hBw hr (.int .u8 1) (.int .i64 (-(v:Int))) (.string ⟨#[]⟩) (.bool false)
  have hN2:=hN2.drew
  have hr2:((((W.setCell ⟨B,0,none⟩ (.int .u8 1)).setCell ⟨B,1,none⟩ (.int .i64 (-(v:Int)))).setCell ⟨B,2,none⟩ (.string ⟨#[]⟩)).setCell ⟨B,3,none⟩ (.bool false)).drew.heap[B]? = some (.cells #[(.int .u8 1),(.int .i64 (-(v:Int))),(.string ⟨#[]⟩),(.bool false)] 23 (0,0)):=hr2
  obtain ⟨W2,hW2⟩:∃ W2,((((W.setCell ⟨B,0,none⟩ (.int .u8 1)).setCell ⟨B,1,none⟩ (.int .i64 (-(v:Int)))).setCell ⟨B,2,none⟩ (.string ⟨#[]⟩)).setCell ⟨B,3,none⟩ (.bool false)).drew=W2:=⟨_,rfl⟩
  rw [hW2] at hN2 hr2 ⊢
  go_wp2_with fail
  exact read_end (by kernel_rfl) rfl rfl rfl hr2 ⟨rfl,hN2⟩
 have hlt:n < s.size:=by omega
 have d3:decide ((n:Int)=(s.size:Int))=false:=decide_eq_false (by omega)
 have d3':((n:Int) == (s.size:Int))=false:=d3
 have hixn:=run_idx s n hlt
 have hhn:=head_drop s n hlt
 have hq46:=u8_eq (gb s n) 46
 by_cases hq:gb s n=46
 case neg =>
  rw [decide_eq_false hq] at hq46
  have hhd:((bl s).drop n).head? ≠ some 46:=by rw [hhn];simpa using hq
  rw [if_pos hhd]
  obtain ⟨x,hx⟩:∃ x,tx ((bl s).drop n)=x:=⟨_,rfl⟩
  rw [hx] at hsl
  obtain ⟨q,hqn⟩:∃ q,(gb s n).toNat=q:=⟨_,rfl⟩
  rw [hqn] at hixn hq46
  have hq1:((q:Int) == 46)=false:=hq46.symm
  have hq2:((q:Int) != 46)=true:=by simp [bne,hq1]
  clear hq hqn hq46 hhd hhn hend hlt
  rw [hgv]
  unfold ReadP bv bcs noIt
  simp only
  rw [hx]
  clear hx h1 h15 hle hvl12
  go_enter Tryz.func59,Tryz.ntmps59
  go_upto_region 1 with fail
  obtain ⟨W,hW⟩:∃ W,w.alloc (.cells #[.int .u8 0,.int .i64 0,.string ⟨#[]⟩,.bool false] 23)=W:=⟨_,rfl⟩
  rw [hW] at hN hr ⊢
  obtain ⟨B,hB⟩:∃ B,w.heap.size=B:=⟨_,rfl⟩
  have hBw:w.heap.size ≤ B:=by omega
  rw [hB] at hr ⊢
  clear hW hB
  obtain ⟨⟨c0,c1,c2,c3⟩,f0,f1,f2,f3⟩:=row_facts hr
  go_upto_region 9 with (go_at_call 112;refine (HR.out _).mono ?_;rintro e w' ⟨rfl,rfl⟩)
  go_region_with (go_at_call 113;refine (HA.out _).mono ?_;rintro e w' ⟨rfl,rfl⟩)
  have hwr:IntKind.i64.wrap (-(v:Int))=(-(v:Int)):=by rw [IntKind.wrap_i64];omega
  rw [hwr]
  obtain ⟨hN2,hr2⟩:=set4 hN hBw hr (.int .u8 1) (.int .i64 (-(v:Int))) (.string ⟨#[]⟩) (.bool false)
  have hN2:=hN2.drew
  have hr2:((((W.setCell ⟨B,0,none⟩ (.int .u8 1)).setCell ⟨B,1,none⟩ (.int .i64 (-(v:Int)))).setCell ⟨B,2,none⟩ (.string ⟨#[]⟩)).setCell ⟨B,3,none⟩ (.bool false)).drew.heap[B]? = some (.cells #[(.int .u8 1),(.int .i64 (-(v:Int))),(.string ⟨#[]⟩),(.bool false)] 23 (0,0)):=hr2
  obtain ⟨W2,hW2⟩:∃ W2,((((W.setCell ⟨B,0,none⟩ (.int .u8 1)).setCell ⟨B,1,none⟩ (.int .i64 (-(v:Int)))).setCell ⟨B,2,none⟩ (.string ⟨#[]⟩)).setCell ⟨B,3,none⟩ (.bool false)).drew=W2:=⟨_,rfl⟩
  rw [hW2] at hN2 hr2 ⊢
  go_wp2_with fail
  exact read_end (by kernel_rfl) rfl rfl rfl hr2 ⟨rfl,hN2⟩
 case pos =>
  rw [decide_eq_true hq] at hq46
  have hhd:¬ ((bl s).drop n).head? ≠ some 46:=by rw [hhn,hq];simp
  rw [if_neg hhd]
  obtain ⟨q,hqn⟩:∃ q,(gb s n).toNat=q:=⟨_,rfl⟩
  rw [hqn] at hixn hq46
  have hq1:((q:Int) == 46)=true:=hq46.symm
  have hq2:((q:Int) != 46)=false:=by simp [bne,hq1]
  have hnb:(n:Int) ≤ 1000000:=by omega
  clear hq hqn hq46 hhd hhn hend hgv
  have hsl1:∀ W,(Instr.slice 9 (.string s) (some (.int .i64 ((n:Int) + 1))) none none).run Tryz.prog W = .ok (.string (tx ((bl s).drop (n + 1)))) W:=fun W=>run_sl_l s (n + 1) (by omega) W
  obtain ⟨U,hU⟩:∃ U,tx ((bl s).drop (n + 1))=U:=⟨_,rfl⟩
  have hUl:((bl s).drop n).drop 1=bl U:=by rw [← hU,List.drop_drop]
  have hUs:U.size=s.size - (n + 1):=by rw [← hU,tx_size,List.length_drop,bl_len]
  have hdd:∀ k,((bl s).drop n).drop (1 + k)=(bl s).drop (n + 1 + k):=fun k=>by rw [List.drop_drop];congr 1;omega
  have hpc:∀ k,piec s (n + 1) (n + 1 + k)=tx ((bl U).take k):=fun k=>by unfold piec;rw [← hU,Nat.add_sub_cancel_left]
  rw [hU] at hsl1
  rw [hUl]
  have HU:=Lib.hid (fun W=>(run_r U W (by omega)).mono fun e w' h=>show e = _∧W=w' from ⟨h.1,h.2.symm⟩)
  have hek:=Bare.takeWhile_len Bare.digB (bl U)
  have het:=Bare.takeWhile_take Bare.digB (bl U)
  have hed:=digs_take (bl U)
  obtain ⟨e,he⟩:∃ e,(bl U).takeWhile Bare.digB=e:=⟨_,rfl⟩
  rw [he] at HU hek het hed ⊢
  obtain ⟨k,hk⟩:∃ k,e.length=k:=⟨_,rfl⟩
  rw [hk] at HU hek het ⊢
  rw [bl_len,hUs] at hek
  rw [hdd]
  have hkb:(k:Int) ≤ 1000000:=by omega
  clear he hU hUl hdd
  by_cases hn12:12 < n
  ·have d4:decide (12 < (n:Int))=true:=decide_eq_true (by omega)
   rw [if_pos (.inl hn12)]
   unfold ReadP bv bcs noIt
   simp only
   clear hn12 h1 h15 hle hed het hpc hek hUs hlt hk hvl12
   go_enter Tryz.func59,Tryz.ntmps59
   go_upto_region 1 with fail
   obtain ⟨W,hW⟩:∃ W,w.alloc (.cells #[.int .u8 0,.int .i64 0,.string ⟨#[]⟩,.bool false] 23)=W:=⟨_,rfl⟩
   rw [hW] at hN hr ⊢
   obtain ⟨B,hB⟩:∃ B,w.heap.size=B:=⟨_,rfl⟩
   have hBw:w.heap.size ≤ B:=by omega
   rw [hB] at hr ⊢
   clear hW hB
   obtain ⟨⟨c0,c1,c2,c3⟩,f0,f1,f2,f3⟩:=row_facts hr
   go_wp2_with (first | (go_at_call 112;with_reducible refine (HR.out _).mono ?_;rintro e w' ⟨rfl,rfl⟩) | (go_at_call 112;refine (HU.out _).mono ?_;rintro e w' ⟨rfl,rfl⟩))
   refine (HNo.out _).mono ?_
   rintro e wn ⟨rfl,hNn⟩
   have hN:=hN.trans hNn
   have hr:=hNn.heap hr id
   clear c0 c1 c2 c3 f0 f1 f2 f3 hNn
   obtain ⟨⟨c0,c1,c2,c3⟩,f0,f1,f2,f3⟩:=row_facts hr
   go_wp2_with fail
   obtain ⟨hN2,hr2⟩:=set4 hN hBw hr (.int .u8 0) (.int .i64 0) (.string ⟨#[]⟩) (.bool false)
   obtain ⟨W2,hW2⟩:∃ W2,((((wn.setCell ⟨B,0,none⟩ (.int .u8 0)).setCell ⟨B,1,none⟩ (.int .i64 0)).setCell ⟨B,2,none⟩ (.string ⟨#[]⟩)).setCell ⟨B,3,none⟩ (.bool false))=W2:=⟨_,rfl⟩
   rw [hW2] at hN2 hr2 ⊢
   exact read_end (by kernel_rfl) rfl rfl rfl hr2 ⟨rfl,hN2⟩
  have d4:decide (12 < (n:Int))=false:=decide_eq_false (by omega)
  by_cases hk1:k < 1
  ·have d5:decide ((k:Int) < 1)=true:=decide_eq_true (by omega)
   rw [if_pos (.inr (.inl hk1))]
   unfold ReadP bv bcs noIt
   simp only
   clear hn12 h1 h15 hle hed het hpc hek hUs hlt hk hvl12 hk1
   go_enter Tryz.func59,Tryz.ntmps59
   go_upto_region 1 with fail
   obtain ⟨W,hW⟩:∃ W,w.alloc (.cells #[.int .u8 0,.int .i64 0,.string ⟨#[]⟩,.bool false] 23)=W:=⟨_,rfl⟩
   rw [hW] at hN hr ⊢
   obtain ⟨B,hB⟩:∃ B,w.heap.size=B:=⟨_,rfl⟩
   have hBw:w.heap.size ≤ B:=by omega
   rw [hB] at hr ⊢
   clear hW hB
   obtain ⟨⟨c0,c1,c2,c3⟩,f0,f1,f2,f3⟩:=row_facts hr
   go_wp2_with (first | (go_at_call 112;with_reducible refine (HR.out _).mono ?_;rintro e w' ⟨rfl,rfl⟩) | (go_at_call 112;refine (HU.out _).mono ?_;rintro e w' ⟨rfl,rfl⟩))
   refine (HNo.out _).mono ?_
   rintro e wn ⟨rfl,hNn⟩
   have hN:=hN.trans hNn
   have hr:=hNn.heap hr id
   clear c0 c1 c2 c3 f0 f1 f2 f3 hNn
   obtain ⟨⟨c0,c1,c2,c3⟩,f0,f1,f2,f3⟩:=row_facts hr
   go_wp2_with fail
   obtain ⟨hN2,hr2⟩:=set4 hN hBw hr (.int .u8 0) (.int .i64 0) (.string ⟨#[]⟩) (.bool false)
   obtain ⟨W2,hW2⟩:∃ W2,((((wn.setCell ⟨B,0,none⟩ (.int .u8 0)).setCell ⟨B,1,none⟩ (.int .i64 0)).setCell ⟨B,2,none⟩ (.string ⟨#[]⟩)).setCell ⟨B,3,none⟩ (.bool false))=W2:=⟨_,rfl⟩
   rw [hW2] at hN2 hr2 ⊢
   exact read_end (by kernel_rfl) rfl rfl rfl hr2 ⟨rfl,hN2⟩
  have d5:decide ((k:Int) < 1)=false:=decide_eq_false (by omega)
  by_cases hk3:3 < k
  ·have d6:decide (3 < (k:Int))=true:=decide_eq_true (by omega)
   rw [if_pos (.inr (.inr hk3))]
   unfold ReadP bv bcs noIt
   simp only
   clear hn12 h1 h15 hle hed het hpc hek hUs hlt hk hvl12 hk1 hk3
   go_enter Tryz.func59,Tryz.ntmps59
   go_upto_region 1 with fail
   obtain ⟨W,hW⟩:∃ W,w.alloc (.cells #[.int .u8 0,.int .i64 0,.string ⟨#[]⟩,.bool false] 23)=W:=⟨_,rfl⟩
   rw [hW] at hN hr ⊢
   obtain ⟨B,hB⟩:∃ B,w.heap.size=B:=⟨_,rfl⟩
   have hBw:w.heap.size ≤ B:=by omega
   rw [hB] at hr ⊢
   clear hW hB
   obtain ⟨⟨c0,c1,c2,c3⟩,f0,f1,f2,f3⟩:=row_facts hr
   go_wp2_with (first | (go_at_call 112;with_reducible refine (HR.out _).mono ?_;rintro e w' ⟨rfl,rfl⟩) | (go_at_call 112;refine (HU.out _).mono ?_;rintro e w' ⟨rfl,rfl⟩))
   refine (HNo.out _).mono ?_
   rintro e wn ⟨rfl,hNn⟩
   have hN:=hN.trans hNn
   have hr:=hNn.heap hr id
   clear c0 c1 c2 c3 f0 f1 f2 f3 hNn
   obtain ⟨⟨c0,c1,c2,c3⟩,f0,f1,f2,f3⟩:=row_facts hr
   go_wp2_with fail
   obtain ⟨hN2,hr2⟩:=set4 hN hBw hr (.int .u8 0) (.int .i64 0) (.string ⟨#[]⟩) (.bool false)
   obtain ⟨W2,hW2⟩:∃ W2,((((wn.setCell ⟨B,0,none⟩ (.int .u8 0)).setCell ⟨B,1,none⟩ (.int .i64 0)).setCell ⟨B,2,none⟩ (.string ⟨#[]⟩)).setCell ⟨B,3,none⟩ (.bool false))=W2:=⟨_,rfl⟩
   rw [hW2] at hN2 hr2 ⊢
   exact read_end (by kernel_rfl) rfl rfl rfl hr2 ⟨rfl,hN2⟩
  have d6:decide (3 < (k:Int))=false:=decide_eq_false (by omega)
  rw [if_neg (by omega)]
  have hv12:=hvl12 (by omega)
  simp at hv12
  have hsl2:∀ W,(Instr.slice 9 (.string s) (some (.int .i64 ((n:Int) + 1))) (some (.int .i64 ((n:Int) + 1 + (k:Int)))) none).run Tryz.prog W = .ok (.string (piec s (n + 1) (n + 1 + k))) W:=fun W=>run_sl s (n + 1) (n + 1 + k) (by omega) (by omega) W
  rw [hpc,het] at hsl2
  have hxx:(tx e ++ ⟨#[48,48]⟩).extract 0 3=tx ((e ++ [48,48]).take 3):=by
   rw [extract_piec,piec_head]
   rfl
  have hz1:1 ≤ (tx e).size:=by rw [tx_size,hk];omega
  have hz3:(tx e).size ≤ 3:=by rw [tx_size,hk];omega
  have hed2:((e ++ [48,48]).take 3).all Bare.digB=true:=by
   rw [List.all_eq_true] at hed ⊢
   intro x hx
   rcases List.mem_append.1 (List.mem_of_mem_take hx) with h | h
   ·exact hed x h
   ·simp at h;subst h;decide
  have hl3:((e ++ [48,48]).take 3).length=3:=by rw [List.length_take,List.length_append];show min 3 (e.length + 2)=3;omega
  have HA2:=Lib.hid (fun W=>(value_r (tx ((e ++ [48,48]).take 3)) W (by rw [tx_size];omega) (by rw [bl_tx];exact hed2)).mono fun e w' h=>show e = _∧W=w' from ⟨h.1,h.2.symm⟩)
  rw [bl_tx] at HA2
  have hv2:=val_lt hed2 3 (by omega)
  obtain ⟨v2,hv2e⟩:∃ v2,Bare.valD ((e ++ [48,48]).take 3)=v2:=⟨_,rfl⟩
  rw [hv2e] at HA2 hv2 ⊢
  simp at hv2
  rw [← hxx] at HA2
  obtain ⟨x1,hx1⟩:∃ x1,tx e=x1:=⟨_,rfl⟩
  rw [hx1] at hsl2 HA2 hz1 hz3
  have hsl3:∀ W,(Instr.slice 9 (.string s) (some (.int .i64 ((n:Int) + 1 + (k:Int)))) none none).run Tryz.prog W = .ok (.string (tx ((bl s).drop (n + 1 + k)))) W:=fun W=>run_sl_l s (n + 1 + k) (by omega) W
  obtain ⟨x,hx⟩:∃ x,tx ((bl s).drop (n + 1 + k))=x:=⟨_,rfl⟩
  rw [hx] at hsl3
  have hgv:(-1) * (1000 * (v:Int) + (v2:Int))=(-(1000 * (v:Int) + (v2:Int))):=by omega
  rw [hgv]
  clear hgv hv2e hxx hx1 hl3 hed2 hed het hpc hk hk1 hk3 hn12 hek hUs hlt hsl
  unfold ReadP bv bcs noIt
  simp only
  rw [hx]
  clear hx h1 h15 hle hvl12 hvl
  go_enter Tryz.func59,Tryz.ntmps59
  go_upto_region 1 with fail
  obtain ⟨W,hW⟩:∃ W,w.alloc (.cells #[.int .u8 0,.int .i64 0,.string ⟨#[]⟩,.bool false] 23)=W:=⟨_,rfl⟩
  rw [hW] at hN hr ⊢
  obtain ⟨B,hB⟩:∃ B,w.heap.size=B:=⟨_,rfl⟩
  have hBw:w.heap.size ≤ B:=by omega
  rw [hB] at hr ⊢
  clear hW hB
  obtain ⟨⟨c0,c1,c2,c3⟩,f0,f1,f2,f3⟩:=row_facts hr
  have hw1:IntKind.i64.wrap ((n:Int) + 1)=(n:Int) + 1:=by rw [IntKind.wrap_i64];omega
  have hw2:IntKind.i64.wrap ((n:Int) + 1 + (k:Int))=(n:Int) + 1 + (k:Int):=by rw [IntKind.wrap_i64];omega
  have hw3:IntKind.i64.wrap (1000 * (v:Int))=1000 * (v:Int):=by rw [IntKind.wrap_i64];omega
  have hw4:IntKind.i64.wrap (1000 * (v:Int) + (v2:Int))=1000 * (v:Int) + (v2:Int):=by rw [IntKind.wrap_i64];omega
  have hw5:IntKind.i64.wrap (-(1000 * (v:Int) + (v2:Int)))=(-(1000 * (v:Int) + (v2:Int))):=by rw [IntKind.wrap_i64];omega
  go_upto_region 14 with (first | (go_at_call 112;with_reducible refine (HR.out _).mono ?_;rintro e w' ⟨rfl,rfl⟩) | (go_at_call 112;refine (HU.out _).mono ?_;rintro e w' ⟨rfl,rfl⟩))
  go_region_with (first | (go_at_call 113;with_reducible refine (HA.out _).mono ?_;rintro e w' ⟨rfl,rfl⟩) | (go_at_call 113;refine (HA2.out _).mono ?_;rintro e w' ⟨rfl,rfl⟩))
  all_goals
   obtain ⟨hN2,hr2⟩:=set4 hN hBw hr (.int .u8 2) (.int .i64 (-(1000 * (v:Int) + (v2:Int)))) (.string ⟨#[]⟩) (.bool false)
   have hN2:=hN2.drew
   have hr2:((((W.setCell ⟨B,0,none⟩ (.int .u8 2)).setCell ⟨B,1,none⟩ (.int .i64 (-(1000 * (v:Int) + (v2:Int))))).setCell ⟨B,2,none⟩ (.string ⟨#[]⟩)).setCell ⟨B,3,none⟩ (.bool false)).drew.heap[B]? = some (.cells #[(.int .u8 2),(.int .i64 (-(1000 * (v:Int) + (v2:Int)))),(.string ⟨#[]⟩),(.bool false)] 23 (0,0)):=hr2
   obtain ⟨W2,hW2⟩:∃ W2,((((W.setCell ⟨B,0,none⟩ (.int .u8 2)).setCell ⟨B,1,none⟩ (.int .i64 (-(1000 * (v:Int) + (v2:Int))))).setCell ⟨B,2,none⟩ (.string ⟨#[]⟩)).setCell ⟨B,3,none⟩ (.bool false)).drew=W2:=⟨_,rfl⟩
   rw [hW2] at hN2 hr2 ⊢
   go_wp2_with fail
   exact read_end (by kernel_rfl) rfl rfl rfl hr2 ⟨rfl,hN2⟩
end Go.Proofs.YtnknmmbnhoanfaaGreatDoor
