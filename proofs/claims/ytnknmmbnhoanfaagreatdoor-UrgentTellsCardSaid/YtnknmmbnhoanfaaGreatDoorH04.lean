/- Texts joined. -/
import Derived.Test.YtnknmmbnhoanfaaGreatDoorH03
import Derived.Lib.AppendIntMem
import Derived.Test.YtnknmmbnhoanfaaGreatDoorRows
import Derived.LaidMore
import Derived.OpenShut
import Derived.ProofKit
import Derived.Stop.Joined
import Derived.Lib.LaidTab
import Derived.HandedShaped
import Derived.Test.YtnknmmbnhoanfaaGreatDoorH01
set_option linter.unusedSimpArgs false
set_option linter.unusedVariables false
set_option maxHeartbeats 16000000
set_option maxRecDepth 100000
namespace Go.Proofs.YtnknmmbnhoanfaaGreatDoor
open Go.RowKit Go.Shelf Go.Cs
attribute [local go_sem] Oper.semAt_some


theorem itoa_any (n:Int) (h0:-9223372036854775808 ≤ n) (h1:n ≤ 9223372036854775807) (w:World) (hT:Tab w) :
  Calls Tryz.prog 46 #[.int .i64 n] w fun e w'=>e = .returned (.string (tx (Lib.itoa n)))∧New w w' :=
 (Tryz.strconv_Itoa n h0 h1 w hT.pow).mono (by
  rintro e w' ⟨he,k,os,hw⟩
  exact ⟨he,by rw [hw];exact Mods.below (Lib.below_grow w.heap.size w (Nat.le_refl _) k os) (Nat.le_refl _)⟩)
theorem cat_bl (a b:ByteArray):a ++ b=tx (bl a ++ bl b):=by
 apply ByteArray.ext
 rw [ByteArray.data_append]
 apply Array.toList_inj.1
 rw [Array.toList_append]
theorem itoa_nat (n:Nat):Lib.itoa (n:Int)=Lib.decDigits n:=by
 unfold Lib.itoa
 rw [if_neg (by omega)]
 simp
theorem dec_size (n:Nat) (h:n ≤ 999999999999999):(tx (Lib.decDigits n)).size ≤ 15:=by
 rw [tx_size]
 exact Bare.dec_len n 14 (by have:=Bare.most_pow;omega)
theorem rep1_tx (c:UInt8) (new:Bare.Bs) (hc:new ≠ [c]) (s:ByteArray) (w:World) (hs:s.size ≤ 1000000) (hnew:new.length ≤ 10) (hT:Tab w) :
  Calls Tryz.prog 48 #[.string s,.string (tx [c]),.string (tx new)] w fun e w'=>e = .returned (.string (tx (Bare.rep1 c new (bl s))))∧New w w':=by
 obtain ⟨m,hm⟩:=hT.max
 have hcount:=Lib.countB_mul_le (tx [c]) (by rw [tx_size];simp) s.size s (Nat.le_refl _)
 rw [tx_size,List.length_singleton,Nat.mul_one] at hcount
 have hb:Lib.countB s (tx [c]) * (tx new).size ≤ 1000000 * 10:=by
  rw [tx_size]
  exact Nat.mul_le_mul (by omega) hnew
 refine (Tryz.strings_ReplaceAll s (tx [c]) (tx new) m w (by omega) hm (by rw [tx_size];simp) (by omega)).mono ?_
 rintro e w' ⟨he,hB⟩
 refine ⟨?_,Mods.below hB (Nat.le_refl _)⟩
 rw [he,show (tx [c]).data.toList = [c] from rfl,show (tx new).data.toList=new from rfl,Bare.replaceAll_one c new _ hc]
theorem decimal_any (n:Int) (h0:-999999999999999 ≤ n) (h1:n ≤ 999999999999999) (w:World) (hT:Tab w) :
  Calls Tryz.prog 47 #[.int .i64 n] w fun e w'=>e = .returned (.string (tx (Bare.decimal n)))∧New w w':=by
 have hN0:New w w:=Mods.refl _ _
 obtain ⟨m,hm⟩:∃ m:Nat,n.natAbs=m:=⟨_,rfl⟩
 have hml:m ≤ 999999999999999:=by omega
 have hd:=Bare.decimal_fin n
 rw [hm] at hd
 rw [hd]
 clear hd
 have HI1:=Lib.hid (fun W (hN:New w W)=>itoa_any ((1000 + m % 1000:Nat):Int) (by omega) (by omega) W (hT.new hN))
 have HI2:=Lib.hid (fun W (hN:New w W)=>itoa_any ((m / 1000:Nat):Int) (by omega) (by omega) W (hT.new hN))
 rw [itoa_nat] at HI1 HI2
 have h4:=Bare.dec4 (m % 1000) (by omega)
 have hl4:(Lib.decDigits (1000 + m % 1000)).length=4:=by
  have h:=congrArg List.length h4
  rw [List.length_drop] at h
  simp at h
  omega
 have hsl:∀ W,(Instr.slice 9 (.string (tx (Lib.decDigits (1000 + m % 1000)))) (some (.int .i64 1)) none none).run Tryz.prog W = .ok (.string (tx ((Lib.decDigits (1000 + m % 1000)).drop 1))) W:=fun W=>run_sl_l (tx (Lib.decDigits (1000 + m % 1000))) 1 (by rw [tx_size];omega) W
 have HTr:=Lib.hid (fun W=>(Tryz.strings_TrimRight_one (tx ((Lib.decDigits (1000 + m % 1000)).drop 1)) 48 (by decide) W (by rw [tx_size,List.length_drop];omega)).mono fun e w' h=>show e = .returned (.string (tx (Bare.trimR 48 ((Lib.decDigits (1000 + m % 1000)).drop 1))))∧W=w' from ⟨by rw [h.1,← trimB_lib],h.2.symm⟩)
 unfold Bare.fin
 have hz2:=dec_size (m / 1000) (by omega)
 obtain ⟨D4,hD4⟩:∃ x,tx (Lib.decDigits (1000 + m % 1000))=x:=⟨_,rfl⟩
 obtain ⟨D3,hD3⟩:∃ x,(Lib.decDigits (1000 + m % 1000)).drop 1=x:=⟨_,rfl⟩
 have hl3:D3.length=3:=by rw [← hD3,List.length_drop];omega
 rw [hD4] at HI1 hsl
 rw [hD3] at hsl HTr ⊢
 have htl:(Bare.trimR 48 D3).length ≤ 3:=by
  obtain ⟨k,hk⟩:=Bare.trimR_spec 48 D3
  have:=congrArg List.length hk
  rw [List.length_append] at this
  omega
 obtain ⟨P,hP⟩:∃ x,Bare.trimR 48 D3=x:=⟨_,rfl⟩
 rw [hP] at HTr htl ⊢
 have hem:=tx_empty P
 have hPz:=tx_size P
 obtain ⟨pt,hpt⟩:∃ x,tx P=x:=⟨_,rfl⟩
 obtain ⟨wt,hwt⟩:∃ x,tx (Lib.decDigits (m / 1000))=x:=⟨_,rfl⟩
 obtain ⟨d3,hd3⟩:∃ x,tx D3=x:=⟨_,rfl⟩
 have hwl:Lib.decDigits (m / 1000)=bl wt:=by rw [← hwt]
 have hpl:P=bl pt:=by rw [← hpt]
 rw [hpt] at HTr hem hPz
 rw [hwt] at HI2 hz2
 rw [hd3] at hsl HTr
 rw [hwl]
 clear h4 hl4 hD4 hD3 hP hpt hwt hd3 hwl hl3
 have hptz:pt.size ≤ 3:=by omega
 have hrem:(m:Int) % 1000=((m % 1000:Nat):Int):=by omega
 have hquo:(m:Int) / 1000=((m / 1000:Nat):Int):=by omega
 have e1:((1000 + m % 1000:Nat):Int)=1000 + (m:Int) % 1000:=by omega
 have e2:((m / 1000:Nat):Int)=(m:Int) / 1000:=by omega
 rw [e1] at HI1
 rw [e2] at HI2
 have hmb:(m:Int) ≤ 999999999999999:=by omega
 clear e1 e2 hrem hquo htl hPz
 have hNat:∀ l:Bare.Bs,True:=fun _=>trivial
 by_cases hneg:n < 0
 ·obtain rfl:n = -(m:Int):=by omega
  rw [if_pos hneg]
  have hm0:0 < m:=by omega
  clear hneg h0 h1 hm hml
  cases hP0:P.isEmpty <;> rw [hP0] at hem
  ·go_enter Tryz.func47,Tryz.ntmps47
   go_wp2_with (first | (go_at_call 46;with_reducible refine (HI1.out _ hN0).mono ?_;rintro e w1 ⟨rfl,hN1⟩) | (go_at_call 46;with_reducible refine (HI2.out _ hN1).mono ?_;rintro e w2 ⟨rfl,hN2⟩) | (go_at_call 62;refine (HTr.out _).mono ?_;rintro e w' ⟨rfl,rfl⟩))
   go_ret
   refine ⟨congrArg (fun x=>Ending.returned (.string x)) (?_:⟨#[45]⟩ ++ wt ++ ⟨#[46]⟩ ++ pt = _),hN1.trans hN2⟩
   simp only [cat_bl]
   exact congrArg tx (by show [45] ++ bl wt ++ [46] ++ bl pt = _;simp)
  ·go_enter Tryz.func47,Tryz.ntmps47
   go_wp2_with (first | (go_at_call 46;with_reducible refine (HI1.out _ hN0).mono ?_;rintro e w1 ⟨rfl,hN1⟩) | (go_at_call 46;with_reducible refine (HI2.out _ hN1).mono ?_;rintro e w2 ⟨rfl,hN2⟩) | (go_at_call 62;refine (HTr.out _).mono ?_;rintro e w' ⟨rfl,rfl⟩))
   go_ret
   refine ⟨congrArg (fun x=>Ending.returned (.string x)) (?_:⟨#[45]⟩ ++ wt ++ ⟨#[46]⟩ ++ ⟨#[48]⟩ = _),hN1.trans hN2⟩
   simp only [cat_bl]
   exact congrArg tx (by show [45] ++ bl wt ++ [46] ++ [48] = _;simp)
 ·obtain rfl:n=(m:Int):=by omega
  rw [if_neg hneg]
  have dn:decide ((m:Int) < 0)=false:=decide_eq_false hneg
  clear hneg h0 h1 hm hml
  cases hP0:P.isEmpty <;> rw [hP0] at hem
  ·go_enter Tryz.func47,Tryz.ntmps47
   go_wp2_with (first | (go_at_call 46;with_reducible refine (HI1.out _ hN0).mono ?_;rintro e w1 ⟨rfl,hN1⟩) | (go_at_call 46;with_reducible refine (HI2.out _ hN1).mono ?_;rintro e w2 ⟨rfl,hN2⟩) | (go_at_call 62;refine (HTr.out _).mono ?_;rintro e w' ⟨rfl,rfl⟩))
   go_ret
   refine ⟨congrArg (fun x=>Ending.returned (.string x)) (?_:wt ++ ⟨#[46]⟩ ++ pt = _),hN1.trans hN2⟩
   simp only [cat_bl]
   exact congrArg tx (by show bl wt ++ [46] ++ bl pt = _;simp)
  ·go_enter Tryz.func47,Tryz.ntmps47
   go_wp2_with (first | (go_at_call 46;with_reducible refine (HI1.out _ hN0).mono ?_;rintro e w1 ⟨rfl,hN1⟩) | (go_at_call 46;with_reducible refine (HI2.out _ hN1).mono ?_;rintro e w2 ⟨rfl,hN2⟩) | (go_at_call 62;refine (HTr.out _).mono ?_;rintro e w' ⟨rfl,rfl⟩))
   go_ret
   refine ⟨congrArg (fun x=>Ending.returned (.string x)) (?_:wt ++ ⟨#[46]⟩ ++ ⟨#[48]⟩ = _),hN1.trans hN2⟩
   simp only [cat_bl]
   exact congrArg tx (by show bl wt ++ [46] ++ [48] = _;simp)


def printV (r:Option Bare.Bs):Value:=match r with
 | some l=>.tuple #[.string (tx l),.int .i64 0]
 | none=>.tuple #[.string ⟨#[]⟩,.int .i64 2]
theorem right_kind {b:Bare.It} (h:Bare.rightI b=true):b.kind=1 ∨ b.kind=2 ∨ b.kind=3 ∨ b.kind=4 ∨ b.kind=5 ∨ b.kind=6:=by
 unfold Bare.rightI at h
 split at h
 ·omega
 ·split at h
  ·omega
  ·split at h
   ·omega
   ·split at h
    ·omega
    ·split at h
     ·omega
     ·cases h
theorem right_num {b:Bare.It} (h:Bare.rightI b=true) (hk:b.kind=1 ∨ b.kind=2):-999999999999999 ≤ b.int∧b.int ≤ 999999999999999:=by
 unfold Bare.rightI at h
 rw [if_pos hk] at h
 simp only [Bool.and_eq_true,decide_eq_true_eq] at h
 exact ⟨h.1,h.2.1⟩
theorem rep_len (c:UInt8) (new:Bare.Bs) (l:Bare.Bs) (n:Nat) (hl:l.length ≤ n) (hn:new.length ≤ 2):(Bare.rep1 c new l).length ≤ n * 3 :=
 Nat.le_trans (Bare.rep1_len c new l) (Nat.mul_le_mul hl (by omega))
theorem print_any (b:Bare.It) (h0:0 ≤ b.kind) (hl:b.text.length ≤ 10000) (w:World) (hT:Tab w) :
  Calls Tryz.prog 7 #[bv b] w fun e w'=>e = .returned (printV (Bare.printI b))∧New w w':=by
 have HRt:=Lib.hid (fun W=>right_any b h0 (by omega) W)
 obtain ⟨hN,hr⟩:=box_row w b
 cases hrt:Bare.rightI b with
 | false =>
  have e:Bare.printI b=none:=by unfold Bare.printI;rw [if_pos hrt]
  rw [e]
  rw [hrt] at HRt
  unfold printV
  clear hrt e
  obtain ⟨k,n,t,y⟩:=b
  unfold bv bcs at *
  simp only at hN hr HRt ⊢
  obtain ⟨s,hs⟩:∃ s,tx t=s:=⟨_,rfl⟩
  rw [hs] at hN hr HRt ⊢
  go_enter Tryz.func7,Tryz.ntmps7
  go_upto_region 1 with fail
  obtain ⟨W,hW⟩:∃ W,w.alloc (.cells #[.int .u8 k,.int .i64 n,.string s,.bool y] 23)=W:=⟨_,rfl⟩
  rw [hW] at hN hr ⊢
  obtain ⟨B,hB⟩:∃ B,w.heap.size=B:=⟨_,rfl⟩
  rw [hB] at hr ⊢
  clear hW hB
  obtain ⟨⟨c0,c1,c2,c3⟩,f0,f1,f2,f3⟩:=row_facts hr
  go_wp2_with fail
  refine (HRt.out _).mono ?_
  rintro e w1 ⟨rfl,hN1⟩
  go_wp2_with fail
  go_ret2
  exact ⟨rfl,hN.trans hN1⟩
 | true =>
  have hk:=right_kind hrt
  have hnum:=right_num hrt
  have e0:Bare.printI b=(if b.kind=1 then some (Lib.itoa b.int) else if b.kind=2 then some (Bare.decimal b.int) else if b.kind=3 then some (34::(Bare.esc b.text ++ [34])) else if b.kind=5 then some (58::(Bare.sixes b.text ++ [58])) else if b.kind=6 then some [63,if b.yes then 49 else 48] else some b.text):=by
   unfold Bare.printI;rw [if_neg (by rw [hrt];decide)]
  rw [e0]
  rw [hrt] at HRt
  unfold printV
  clear e0 hrt
  obtain ⟨k,n,t,y⟩:=b
  simp only at hk hnum hl h0 ⊢
  unfold bv bcs at *
  simp only at hN hr HRt ⊢
  rcases hk with rfl | rfl | rfl | rfl | rfl | rfl
  ·rw [if_pos rfl]
   simp only
   obtain ⟨s,hs⟩:∃ s,tx t=s:=⟨_,rfl⟩
   rw [hs] at hN hr HRt ⊢
   have HI:=Lib.hid (fun W (hN:New w W)=>itoa_any n (by have:=hnum (.inl rfl);omega) (by have:=hnum (.inl rfl);omega) W (hT.new hN))
   obtain ⟨x,hx⟩:∃ x,tx (Lib.itoa n)=x:=⟨_,rfl⟩
   rw [hx] at HI ⊢
   clear hnum hx
   go_enter Tryz.func7,Tryz.ntmps7
   go_upto_region 1 with fail
   obtain ⟨W,hW⟩:∃ W,w.alloc (.cells #[.int .u8 1,.int .i64 n,.string s,.bool y] 23)=W:=⟨_,rfl⟩
   rw [hW] at hN hr ⊢
   obtain ⟨B,hB⟩:∃ B,w.heap.size=B:=⟨_,rfl⟩
   rw [hB] at hr ⊢
   clear hW hB
   obtain ⟨⟨c0,c1,c2,c3⟩,f0,f1,f2,f3⟩:=row_facts hr
   go_wp2_with fail
   refine (HRt.out _).mono ?_
   rintro e w1 ⟨rfl,hN1⟩
   have hN:=hN.trans hN1
   have hr:=hN1.heap hr id
   clear c0 c1 c2 c3 f0 f1 f2 f3
   obtain ⟨⟨c0,c1,c2,c3⟩,f0,f1,f2,f3⟩:=row_facts hr
   go_wp2_with (go_at_call 46;refine (HI.out _ hN).mono ?_;rintro e w2 ⟨rfl,hN2⟩)
   go_ret2
   exact ⟨rfl,hN.trans hN2⟩
  ·rw [if_neg (by decide),if_pos rfl]
   simp only
   obtain ⟨s,hs⟩:∃ s,tx t=s:=⟨_,rfl⟩
   rw [hs] at hN hr HRt ⊢
   have HI:=Lib.hid (fun W (hN:New w W)=>decimal_any n (hnum (.inr rfl)).1 (hnum (.inr rfl)).2 W (hT.new hN))
   obtain ⟨x,hx⟩:∃ x,tx (Bare.decimal n)=x:=⟨_,rfl⟩
   rw [hx] at HI ⊢
   clear hnum hx
   go_enter Tryz.func7,Tryz.ntmps7
   go_upto_region 1 with fail
   obtain ⟨W,hW⟩:∃ W,w.alloc (.cells #[.int .u8 2,.int .i64 n,.string s,.bool y] 23)=W:=⟨_,rfl⟩
   rw [hW] at hN hr ⊢
   obtain ⟨B,hB⟩:∃ B,w.heap.size=B:=⟨_,rfl⟩
   rw [hB] at hr ⊢
   clear hW hB
   obtain ⟨⟨c0,c1,c2,c3⟩,f0,f1,f2,f3⟩:=row_facts hr
   go_wp2_with fail
   refine (HRt.out _).mono ?_
   rintro e w1 ⟨rfl,hN1⟩
   have hN:=hN.trans hN1
   have hr:=hN1.heap hr id
   clear c0 c1 c2 c3 f0 f1 f2 f3
   obtain ⟨⟨c0,c1,c2,c3⟩,f0,f1,f2,f3⟩:=row_facts hr
   go_wp2_with (go_at_call 47;refine (HI.out _ hN).mono ?_;rintro e w2 ⟨rfl,hN2⟩)
   go_ret2
   exact ⟨rfl,hN.trans hN2⟩
  ·rw [if_neg (by decide),if_neg (by decide),if_pos rfl]
   simp only
   rw [Bare.esc_rep]
   have hr1:=rep_len 92 [92,92] t 10000 hl (by decide)
   have hr2:=rep_len 34 [92,34] _ _ hr1 (by decide)
   have H1:=Lib.hid (fun W (hN:New w W)=>rep1_tx 92 [92,92] (by decide) (tx t) W (by rw [tx_size];omega) (by decide) (hT.new hN))
   have H2:=Lib.hid (fun W (hN:New w W)=>rep1_tx 34 [92,34] (by decide) (tx (Bare.rep1 92 [92,92] t)) W (by rw [tx_size];omega) (by decide) (hT.new hN))
   rw [bl_tx] at H1 H2
   obtain ⟨s,hs⟩:∃ s,tx t=s:=⟨_,rfl⟩
   rw [hs] at hN hr HRt H1 ⊢
   obtain ⟨l1,hl1⟩:∃ l,Bare.rep1 92 [92,92] t=l:=⟨_,rfl⟩
   rw [hl1] at H1 H2 hr1 hr2 ⊢
   obtain ⟨l2,hl2⟩:∃ l,Bare.rep1 34 [92,34] l1=l:=⟨_,rfl⟩
   rw [hl2] at H2 hr2 ⊢
   obtain ⟨x1,hx1⟩:∃ x,tx l1=x:=⟨_,rfl⟩
   rw [hx1] at H1 H2
   obtain ⟨x2,hx2⟩:∃ x,tx l2=x:=⟨_,rfl⟩
   have hz2:x2.size ≤ 90000:=by rw [← hx2,tx_size];exact hr2
   have hbl:l2=bl x2:=by rw [← hx2]
   rw [hx2] at H2
   rw [hbl]
   clear hnum hl1 hl2 hx1 hx2 hr1 hr2 hbl hs hl
   have H1:Hid (∀ W,New w W→Calls Tryz.prog 48 #[.string s,.string ⟨#[92]⟩,.string ⟨#[92,92]⟩] W fun e w'=>e = .returned (.string x1)∧New W w'):=H1
   have H2:Hid (∀ W,New w W→Calls Tryz.prog 48 #[.string x1,.string ⟨#[34]⟩,.string ⟨#[92,34]⟩] W fun e w'=>e = .returned (.string x2)∧New W w'):=H2
   go_enter Tryz.func7,Tryz.ntmps7
   go_upto_region 1 with fail
   obtain ⟨W,hW⟩:∃ W,w.alloc (.cells #[.int .u8 3,.int .i64 n,.string s,.bool y] 23)=W:=⟨_,rfl⟩
   rw [hW] at hN hr ⊢
   obtain ⟨B,hB⟩:∃ B,w.heap.size=B:=⟨_,rfl⟩
   rw [hB] at hr ⊢
   clear hW hB
   obtain ⟨⟨c0,c1,c2,c3⟩,f0,f1,f2,f3⟩:=row_facts hr
   go_wp2_with fail
   refine (HRt.out _).mono ?_
   rintro e w1 ⟨rfl,hN1⟩
   have hN:=hN.trans hN1
   have hr:=hN1.heap hr id
   clear c0 c1 c2 c3 f0 f1 f2 f3
   obtain ⟨⟨c0,c1,c2,c3⟩,f0,f1,f2,f3⟩:=row_facts hr
   go_wp2_with (first | (go_at_call 48;with_reducible refine (H1.out _ hN).mono ?_;rintro e w2 ⟨rfl,hN2⟩) | (go_at_call 48;with_reducible refine (H2.out _ (hN.trans hN2)).mono ?_;rintro e w3 ⟨rfl,hN3⟩))
   go_ret2
   refine ⟨congrArg (fun x=>Ending.returned (.tuple #[.string x,.int .i64 0])) (?_:⟨#[34]⟩ ++ x2 ++ ⟨#[34]⟩ = _),(hN.trans hN2).trans hN3⟩
   simp only [cat_bl]
   exact congrArg tx (by show [34] ++ bl x2 ++ [34] = _;simp)
  ·rw [if_neg (by decide),if_neg (by decide),if_neg (by decide),if_neg (by decide),if_neg (by decide)]
   simp only
   obtain ⟨s,hs⟩:∃ s,tx t=s:=⟨_,rfl⟩
   rw [hs] at hN hr HRt ⊢
   go_enter Tryz.func7,Tryz.ntmps7
   go_upto_region 1 with fail
   obtain ⟨W,hW⟩:∃ W,w.alloc (.cells #[.int .u8 4,.int .i64 n,.string s,.bool y] 23)=W:=⟨_,rfl⟩
   rw [hW] at hN hr ⊢
   obtain ⟨B,hB⟩:∃ B,w.heap.size=B:=⟨_,rfl⟩
   rw [hB] at hr ⊢
   clear hW hB
   obtain ⟨⟨c0,c1,c2,c3⟩,f0,f1,f2,f3⟩:=row_facts hr
   go_wp2_with fail
   refine (HRt.out _).mono ?_
   rintro e w1 ⟨rfl,hN1⟩
   have hN:=hN.trans hN1
   have hr:=hN1.heap hr id
   clear c0 c1 c2 c3 f0 f1 f2 f3
   obtain ⟨⟨c0,c1,c2,c3⟩,f0,f1,f2,f3⟩:=row_facts hr
   go_wp2_with fail
   go_ret2
   exact ⟨rfl,hN⟩
  ·rw [if_neg (by decide),if_neg (by decide),if_neg (by decide),if_pos rfl]
   simp only
   have H1:=Lib.hid (fun W=>sixes_any (tx t) W (by rw [tx_size];omega))
   rw [bl_tx] at H1
   have hz:=Bare.sixes_len t
   obtain ⟨s,hs⟩:∃ s,tx t=s:=⟨_,rfl⟩
   rw [hs] at hN hr HRt H1 ⊢
   obtain ⟨l2,hl2⟩:∃ l,Bare.sixes t=l:=⟨_,rfl⟩
   rw [hl2] at H1 hz ⊢
   obtain ⟨x2,hx2⟩:∃ x,tx l2=x:=⟨_,rfl⟩
   have hz2:x2.size ≤ 90000:=by rw [← hx2,tx_size];omega
   have hbl:l2=bl x2:=by rw [← hx2]
   rw [hx2] at H1
   rw [hbl]
   clear hnum hl2 hx2 hbl hs hl hz
   go_enter Tryz.func7,Tryz.ntmps7
   go_upto_region 1 with fail
   obtain ⟨W,hW⟩:∃ W,w.alloc (.cells #[.int .u8 5,.int .i64 n,.string s,.bool y] 23)=W:=⟨_,rfl⟩
   rw [hW] at hN hr ⊢
   obtain ⟨B,hB⟩:∃ B,w.heap.size=B:=⟨_,rfl⟩
   rw [hB] at hr ⊢
   clear hW hB
   obtain ⟨⟨c0,c1,c2,c3⟩,f0,f1,f2,f3⟩:=row_facts hr
   go_wp2_with fail
   refine (HRt.out _).mono ?_
   rintro e w1 ⟨rfl,hN1⟩
   have hN:=hN.trans hN1
   have hr:=hN1.heap hr id
   clear c0 c1 c2 c3 f0 f1 f2 f3
   obtain ⟨⟨c0,c1,c2,c3⟩,f0,f1,f2,f3⟩:=row_facts hr
   go_wp2_with (go_at_call 17;refine (H1.out _).mono ?_;rintro e w2 ⟨rfl,hN2⟩)
   go_ret2
   refine ⟨congrArg (fun x=>Ending.returned (.tuple #[.string x,.int .i64 0])) (?_:⟨#[58]⟩ ++ x2 ++ ⟨#[58]⟩ = _),hN.trans hN2⟩
   simp only [cat_bl]
   exact congrArg tx (by show [58] ++ bl x2 ++ [58] = _;simp)
  ·rw [if_neg (by decide),if_neg (by decide),if_neg (by decide),if_neg (by decide),if_pos rfl]
   simp only
   obtain ⟨s,hs⟩:∃ s,tx t=s:=⟨_,rfl⟩
   rw [hs] at hN hr HRt ⊢
   cases y
   ·go_enter Tryz.func7,Tryz.ntmps7
    go_upto_region 1 with fail
    obtain ⟨W,hW⟩:∃ W,w.alloc (.cells #[.int .u8 6,.int .i64 n,.string s,.bool false] 23)=W:=⟨_,rfl⟩
    rw [hW] at hN hr ⊢
    obtain ⟨B,hB⟩:∃ B,w.heap.size=B:=⟨_,rfl⟩
    rw [hB] at hr ⊢
    clear hW hB
    obtain ⟨⟨c0,c1,c2,c3⟩,f0,f1,f2,f3⟩:=row_facts hr
    go_wp2_with fail
    refine (HRt.out _).mono ?_
    rintro e w1 ⟨rfl,hN1⟩
    have hN:=hN.trans hN1
    have hr:=hN1.heap hr id
    clear c0 c1 c2 c3 f0 f1 f2 f3
    obtain ⟨⟨c0,c1,c2,c3⟩,f0,f1,f2,f3⟩:=row_facts hr
    go_wp2_with fail
    go_ret2
    exact ⟨rfl,hN⟩
   ·go_enter Tryz.func7,Tryz.ntmps7
    go_upto_region 1 with fail
    obtain ⟨W,hW⟩:∃ W,w.alloc (.cells #[.int .u8 6,.int .i64 n,.string s,.bool true] 23)=W:=⟨_,rfl⟩
    rw [hW] at hN hr ⊢
    obtain ⟨B,hB⟩:∃ B,w.heap.size=B:=⟨_,rfl⟩
    rw [hB] at hr ⊢
    clear hW hB
    obtain ⟨⟨c0,c1,c2,c3⟩,f0,f1,f2,f3⟩:=row_facts hr
    go_wp2_with fail
    refine (HRt.out _).mono ?_
    rintro e w1 ⟨rfl,hN1⟩
    have hN:=hN.trans hN1
    have hr:=hN1.heap hr id
    clear c0 c1 c2 c3 f0 f1 f2 f3
    obtain ⟨⟨c0,c1,c2,c3⟩,f0,f1,f2,f3⟩:=row_facts hr
    go_wp2_with fail
    go_ret2
    exact ⟨rfl,hN⟩
end Go.Proofs.YtnknmmbnhoanfaaGreatDoor
namespace Go.Proofs.YtnknmmbnhoanfaaGreatDoor
open Go.RowKit Go.Shelf Go.Cs Go.ChangeShapes Go.WideShapes Go.ChangeAt

def laidL:List (String × DataW Unit):=Rows.bareTellsRow.laid
theorem tPow:(Tryz.prog.globals[1]?).map (·.type)=some 194:=by kernel_rfl
theorem tab_of_laid {W:World} (h:laidMetH Tryz.prog laidL W) (hs:W.ShapedOpen Tryz.prog):Tab W:=by
 have hmax:=cell_of_shapedOpen_int (P:=Tryz.prog) (g:=0) (t:=3) (zero:=#[.int .i64 0]) hs (of_decide_eq_true (by kernel_rfl)) (by kernel_rfl) rfl (by kernel_rfl) (by kernel_rfl) Tryz.underlying3
 rw [MakeChecks.laidMetH_plain _ _ _ (by kernel_rfl)] at h
 obtain ⟨ps,⟨g0,t0,cs0,f0,p0,q0,hg0,ht0,hv0,hd0,⟨g1,t1,cs1,f1,p1,q1,hg1,ht1,hv1,hd1,⟨g,t,cs,fuel,p,q,hg,ht,hv,hd,_,_⟩,_⟩,_⟩,_,_⟩:=h
 obtain rfl:=Option.some.inj (gPow.symm.trans hg)
 obtain rfl:=Option.some.inj (tPow.symm.trans ht)
 have hd':DataW.trod (fun _=>()) Tryz.prog W 0 (fun _=>true) false fuel 194 cs.toList=some (Lib.tabData .u64 Lib.pow10Tab,p):=hd
 have e:=Lib.cells_of_tab Tryz.underlying194 Tryz.underlying178 (by kernel_rfl) (by kernel_rfl) hd'
 refine ⟨?_,?_⟩
 ·unfold Lib.TabIs
  rw [hv,← e]
 ·exact hmax
noncomputable def laidW (os:Os):World :=
 { World.doorLaid Tryz.prog 400 os with heap:=(World.doorLaid Tryz.prog 400 os).heap.modify 2 fun
   | .cells _ t frozen=>.cells (Pinned.utf8FirstZ.map fun n=>Value.int .u8 (n:Nat)).toArray t frozen
   | o=>o }
theorem laidW_met (os:Os) (args:Array Value):laidMetH Tryz.prog laidL ((laidW os).forCall (fun _ _=>0) ⟨#[],args,[]⟩).memory :=
 laidMetH_of_parts3 (fuel:=8) (laidMet_of_run' 8 (by kernel_rfl) (by kernel_rfl)) (by kernel_rfl) (by kernel_rfl)
end Go.Proofs.YtnknmmbnhoanfaaGreatDoor
namespace Go.Bare
open Go.Lib
structure Par where
 key:Bs
 bare:It
 deriving DecidableEq
structure Itm where
 bare:It
 params:List Par
 deriving DecidableEq
structure Mem where
 key:Bs
 inner:Bool
 items:List Itm
 params:List Par
 deriving DecidableEq
def smlB (c:UInt8):Bool:=(decide (97 ≤ c.toNat) && decide (c.toNat ≤ 122)) || c == 42
def inKey (c:UInt8):Bool:=smlB c || (digB c || [95,45,46].contains c)
def keyB:Bs→Bool
 | []=>false
 | c::r=>smlB c && r.all inKey
def aloneB:List Bs→Bool
 | []=>true
 | k::r=>keyB k && (!r.contains k && aloneB r)
def paramsB (l:List Par):Bool:=aloneB (l.map (·.key)) && l.all fun p=>rightI p.bare
def itemB (x:Itm):Bool:=rightI x.bare && paramsB x.params
def memB (m:Mem):Bool:=(m.inner || (decide (m.items.length=1) && m.params.isEmpty)) && (paramsB m.params && m.items.all itemB)
def rightD (d:List Mem):Bool:=aloneB (d.map (·.key)) && d.all memB
def yesI:It:=⟨6,0,[],true⟩
def textI (b:It):Bs:=(printI b).getD []
def valued (b:It):Bs:=if b=yesI then [] else 61::textI b
def told (l:List Par):Bs:=l.flatMap fun p=>59::(p.key ++ valued p.bare)
def toldI (x:Itm):Bs:=textI x.bare ++ told x.params
def joinW (sep:Bs):List Bs→Bs
 | []=>[]
 | [a]=>a
 | a::b::r=>a ++ (sep ++ joinW sep (b::r))
def noI:Itm:=⟨⟨0,0,[],false⟩,[]⟩
def toldM (m:Mem):Bs :=
 if m.inner then m.key ++ (61::40::(joinW [32] (m.items.map toldI) ++ (41::told m.params)))
 else m.key ++ (valued (m.items.headD noI).bare ++ told (m.items.headD noI).params)
def printD (d:List Mem):Option Bs:=if rightD d then some (joinW [44,32] (d.map toldM)) else none
def setP (l:List Par) (p:Par):List Par:=if (l.map (·.key)).contains p.key then l.map fun q=>if q.key=p.key then p else q else l ++ [p]
def setM (l:List Mem) (p:Mem):List Mem:=if (l.map (·.key)).contains p.key then l.map fun q=>if q.key=p.key then p else q else l ++ [p]
def skipB (some:Bs) (s:Bs):Bs:=s.dropWhile some.contains
def keyOf (s:Bs):Bs:=match s with
 | []=>[]
 | c::r=>if smlB c then c::r.takeWhile inKey else []
def readKey (s:Bs):Option (Bs × Bs):=let k:=keyOf s;if k.isEmpty then none else some (k,s.drop k.length)
theorem readKey_len {s k r:Bs} (h:readKey s=some (k,r)):r.length < s.length:=by
 unfold readKey at h
 cases s with
 | nil=>simp [keyOf] at h
 | cons c l =>
  simp only at h
  split at h
  ·cases h
  ·rename_i hk
   cases h
   have:1 ≤ (keyOf (c::l)).length:=by
    cases hq:keyOf (c::l) with
    | nil=>rw [hq] at hk;exact absurd rfl hk
    | cons a b=>simp
   simp only [List.length_drop,List.length_cons]
   omega
theorem parseI_len {s rest:Bs} {b:It} (h:parseI s=some (b,rest)):rest.length < s.length:=by
 obtain ⟨-,u,hu,h1,-⟩:=may h
 rw [hu]
 simp
 omega
def readVal (s:Bs):Option (It × Bs):=match s with
 | 61::r=>parseI r
 | s=>some (yesI,s)
theorem readVal_len {s rest:Bs} {b:It} (h:readVal s=some (b,rest)):rest.length ≤ s.length:=by
 unfold readVal at h
 split at h
 ·have:=parseI_len h;simp;omega
 ·cases h;exact Nat.le_refl _
theorem drop_len (p:UInt8→Bool):∀ s:Bs,(s.dropWhile p).length ≤ s.length
 | []=>Nat.le_refl _
 | c::r=>by
  rw [List.dropWhile_cons]
  split
  ·have:=drop_len p r;simp;omega
  ·exact Nat.le_refl _
theorem skip_len (l s:Bs):(skipB l s).length ≤ s.length:=drop_len _ s
def readParams (l:List Par) (s:Bs):Option (List Par × Bs) :=
 match s with
 | 59::r =>
  match h1:readKey (skipB [32] r) with
  | none=>none
  | some (k,r1) =>
   match h2:readVal r1 with
   | none=>none
   | some (b,r2)=>readParams (setP l ⟨k,b⟩) r2
 | s=>some (l,s)
termination_by s.length
decreasing_by
 have a1:=readKey_len h1
 have a2:=readVal_len h2
 have a3:=skip_len [32] r
 simp
 omega
def readItem (s:Bs):Option (Itm × Bs):=match parseI s with
 | none=>none
 | some (b,r)=>match readParams [] r with
  | none=>none
  | some (ps,r')=>some (⟨b,ps⟩,r')
theorem readParams_len:∀ (n:Nat) (s:Bs) (l ps:List Par) (r:Bs),s.length ≤ n→readParams l s=some (ps,r)→r.length ≤ s.length:=by
 intro n
 induction n with
 | zero =>
  intro s l ps r hn h
  have:s = []:=List.length_eq_zero_iff.1 (by omega)
  subst this
  rw [readParams] at h
  ·cases h;exact Nat.le_refl _
  ·intro _ h;cases h
 | succ n ih =>
  intro s l ps r hn h
  rw [readParams.eq_def] at h
  split at h
  ·rename_i r0
   split at h
   ·cases h
   ·rename_i k r1 h1
    split at h
    ·cases h
    ·rename_i b r2 h2
     have a1:=readKey_len h1
     have a2:=readVal_len h2
     have a3:=skip_len [32] r0
     simp only [List.length_cons] at hn ⊢
     have:=ih r2 _ ps r (by omega) h
     omega
  ·cases h;exact Nat.le_refl _
theorem readItem_len {s r:Bs} {x:Itm} (h:readItem s=some (x,r)):r.length < s.length:=by
 unfold readItem at h
 split at h
 ·cases h
 ·rename_i b r1 h1
  split at h
  ·cases h
  ·rename_i ps r2 h2
   cases h
   have:=parseI_len h1
   have:=readParams_len r1.length r1 [] ps _ (Nat.le_refl _) h2
   omega
def readInner (items:List Itm) (s:Bs):Option (List Itm × Bs) :=
 match hs:skipB [32] s with
 | 41::r=>some (items,r)
 | s' =>
  match h1:readItem s' with
  | none=>none
  | some (x,r)=>if r.head? = some 41 ∨ r.head? = some 32 then readInner (items ++ [x]) r else none
termination_by s.length
decreasing_by
 have a1:=readItem_len h1
 have a2:=skip_len [32] s
 rw [hs] at a2
 omega
def readRest (k:Bs) (r:Bs):Option (Mem × Bs) :=
  match r with
  | 61::40::r1=>(match readInner [] r1 with
   | none=>none
   | some (items,r2)=>(match readParams [] r2 with
    | none=>none
    | some (ps,r3)=>some (⟨k,true,items,ps⟩,r3)))
  | 61::r1=>(match readItem r1 with
   | none=>none
   | some (x,r2)=>some (⟨k,false,[x],[]⟩,r2))
  | r=>(match readParams [] r with
   | none=>none
   | some (ps,r2)=>some (⟨k,false,[⟨yesI,ps⟩],[]⟩,r2))
def readMem (s:Bs):Option (Mem × Bs) :=
 match readKey s with
 | none=>none
 | some (k,r)=>readRest k r
theorem readInner_len:∀ (n:Nat) (s:Bs) (l ps:List Itm) (r:Bs),s.length ≤ n→readInner l s=some (ps,r)→r.length ≤ s.length:=by
 intro n
 induction n with
 | zero =>
  intro s l ps r hn h
  have:s = []:=List.length_eq_zero_iff.1 (by omega)
  subst this
  rw [readInner.eq_def] at h
  simp [skipB,readItem,parseI] at h
 | succ n ih =>
  intro s l ps r hn h
  have a2:=skip_len [32] s
  rw [readInner.eq_def] at h
  split at h
  ·rename_i r0 hs
   cases h
   rw [hs] at a2
   simp at a2
   omega
  ·split at h
   ·cases h
   ·rename_i x r1 h1
    have a1:=readItem_len h1
    split at h
    ·have:=ih r1 _ ps r (by omega) h
     omega
    ·cases h
theorem readMem_len {s r:Bs} {m:Mem} (h:readMem s=some (m,r)):r.length < s.length:=by
 unfold readMem at h
 split at h
 ·cases h
 ·rename_i k r0 h0
  have a0:=readKey_len h0
  unfold readRest at h
  split at h
  ·rename_i r1
   split at h
   ·cases h
   ·rename_i items r2 h2
    split at h
    ·cases h
    ·rename_i ps r3 h3
     cases h
     have a2:=readInner_len _ _ _ _ _ (Nat.le_refl _) h2
     have a3:=readParams_len _ _ _ _ _ (Nat.le_refl _) h3
     simp only [List.length_cons] at a0
     omega
  ·split at h
   ·cases h
   ·rename_i x r2 h2
    cases h
    have a2:=readItem_len h2
    simp only [List.length_cons] at a0
    omega
  ·split at h
   ·cases h
   ·rename_i ps r2 h2
    cases h
    have a3:=readParams_len _ _ _ _ _ (Nat.le_refl _) h2
    omega
def readD (d:List Mem) (s:Bs):Option (List Mem) :=
 match s with
 | []=>some d
 | c::l =>
  match h1:readMem (c::l) with
  | none=>none
  | some (m,r) =>
   if r.isEmpty then some (setM d m)
   else match h2:skipB [32,9] r with
    | 44::r2=>let r3:=skipB [32,9] r2;if r3.isEmpty then none else readD (setM d m) r3
    | _=>none
termination_by s.length
decreasing_by
 have a1:=readMem_len h1
 have a2:=skip_len [32,9] r
 rw [h2] at a2
 have a3:=skip_len [32,9] r2
 simp only [List.length_cons] at a1 a2 ⊢
 omega
def parseD (s:Bs):Option (List Mem):=readD [] (trimR 32 (skipB [32] s))
def Behind (x:Bs):Prop:=∀ c,x.head? = some c→c=44 ∨ c=59 ∨ c=32 ∨ c=41 ∨ c=40 ∨ c=9
theorem key_cons {k:Bs} (h:keyB k=true):∃ c r,k=c::r∧smlB c=true∧r.all inKey=true:=by
 cases k with
 | nil=>cases h
 | cons c r =>
  simp only [keyB,Bool.and_eq_true] at h
  exact ⟨c,r,rfl,h.1,h.2⟩
theorem readKey_app {k x:Bs} (h:keyB k=true) (hx:Stops inKey x):readKey (k ++ x)=some (k,x):=by
 obtain ⟨c,r,rfl,hc,hr⟩:=key_cons h
 have e:keyOf ((c::r) ++ x)=c::r:=by
  rw [List.cons_append]
  show (if smlB c then c::(r ++ x).takeWhile inKey else []) = _
  rw [if_pos hc,takeWhile_app hr hx]
 unfold readKey
 rw [e]
 simp
theorem sml_facts {c:UInt8} (h:smlB c=true):inKey c=true∧c ≠ 32∧c ≠ 9∧c ≠ 41∧c ≠ 59∧c ≠ 61∧c ≠ 44:=by
 have:∀ c:Fin 256,smlB (UInt8.ofNat c.1)=true→inKey (UInt8.ofNat c.1)=true∧UInt8.ofNat c.1 ≠ 32∧UInt8.ofNat c.1 ≠ 9∧UInt8.ofNat c.1 ≠ 41∧UInt8.ofNat c.1 ≠ 59∧UInt8.ofNat c.1 ≠ 61∧UInt8.ofNat c.1 ≠ 44:=by decide +kernel
 have hh:=this ⟨c.toNat,UInt8.toNat_lt c⟩
 simp only [UInt8.ofNat_toNat] at hh
 exact hh h
theorem parse_head {c:UInt8} {r:Bs} {y:It × Bs} (h:parseI (c::r)=some y):c ≠ 32∧c ≠ 41∧c ≠ 40∧c ≠ 59∧c ≠ 44∧c ≠ 9:=by
 rw [parseI_cons] at h
 refine ⟨?_,?_,?_,?_,?_,?_⟩ <;> (rintro rfl;revert h;rw [if_neg (by decide),if_neg (by decide),if_neg (by decide),if_neg (by decide),if_neg (by decide)];intro h;cases h)
theorem text_back {b:It} (h:rightI b=true) {x:Bs} (hx:Behind x):parseI (textI b ++ x)=some (b,x)∧∃ c r,textI b=c::r:=by
 obtain ⟨t,h1,h2⟩:=back h x hx
 unfold textI
 rw [h1]
 refine ⟨h2,?_⟩
 obtain ⟨t0,h3,h4⟩:=back h [] (fun c hc=>by cases hc)
 rw [h1] at h3
 cases h3
 obtain ⟨-,u,hu,hu1,-⟩:=may h4
 simp only [Option.getD_some]
 cases t with
 | nil=>simp at hu;subst hu;simp at hu1
 | cons c r=>exact ⟨c,r,rfl⟩
theorem readVal_app {b:It} (h:rightI b=true) {x:Bs} (hx:Behind x):readVal (valued b ++ x)=some (b,x):=by
 unfold valued
 split
 ·rename_i hb
  subst hb
  rw [List.nil_append]
  unfold readVal
  split
  ·have:=hx 61 rfl
   rcases this with h | h | h | h | h | h <;> exact absurd h (by decide)
  ·rfl
 ·rw [List.cons_append]
  show parseI (textI b ++ x) = _
  exact (text_back h hx).1
theorem valued_head (b:It) {x:Bs} (hx:Behind x):Stops inKey (valued b ++ x):=by
 intro c hc
 unfold valued at hc
 split at hc
 ·rcases hx c hc with rfl | rfl | rfl | rfl | rfl | rfl <;> decide
 ·simp at hc;subst hc;decide
theorem skip_none {l s:Bs} (h:∀ c,s.head? = some c→l.contains c=false):skipB l s=s:=by
 unfold skipB
 cases s with
 | nil=>rfl
 | cons c r =>
  rw [List.dropWhile_cons,if_neg]
  rw [h c rfl];decide
theorem readParams_semi (l:List Par) (r:Bs):readParams l (59::r)=(match readKey (skipB [32] r) with
  | none=>none
  | some (k,r1)=>match readVal r1 with
   | none=>none
   | some (b,r2)=>readParams (setP l ⟨k,b⟩) r2):=by
 rw [readParams.eq_def]
 simp only
 split
 ·rename_i h;rw [h]
 ·rename_i k r1 h
  rw [h]
  simp only
  split
  ·rename_i h2;rw [h2]
  ·rename_i b r2 h2;rw [h2]
theorem readParams_end (l:List Par) (s:Bs) (h:s.head? ≠ some 59):readParams l s=some (l,s):=by
 rw [readParams.eq_def]
 split
 ·exact absurd rfl h
 ·rfl
theorem aloneB_append {a b:List Bs} (h:aloneB (a ++ b)=true):(∀ k ∈ a,keyB k=true)∧aloneB b=true∧∀ k ∈ b,k ∉ a:=by
 induction a with
 | nil=>exact ⟨(fun k hk=>by cases hk),h,(fun _ _ hk=>by cases hk)⟩
 | cons k a ih =>
  simp only [List.cons_append,aloneB,Bool.and_eq_true,Bool.not_eq_true'] at h
  obtain ⟨h1,h2,h3⟩:=h
  obtain ⟨i1,i2,i3⟩:=ih h3
  refine ⟨fun q hq=>?_,i2,fun q hq hm=>?_⟩
  ·rcases List.mem_cons.1 hq with rfl | hq
   ·exact h1
   ·exact i1 q hq
  ·rcases List.mem_cons.1 hm with rfl | hm
   ·have:(a ++ b).contains q=true:=by simpa using Or.inr hq
    rw [this] at h2;cases h2
   ·exact i3 q hq hm
theorem setP_new {l:List Par} {p:Par} (h:p.key ∉ l.map (·.key)):setP l p=l ++ [p]:=by
 unfold setP
 rw [if_neg]
 simpa using h
theorem setM_new {l:List Mem} {p:Mem} (h:p.key ∉ l.map (·.key)):setM l p=l ++ [p]:=by
 unfold setM
 rw [if_neg]
 simpa using h
theorem told_cons (p:Par) (l:List Par):told (p::l)=59::(p.key ++ (valued p.bare ++ told l)):=by
 unfold told
 simp
def BehindP (x:Bs):Prop:=∀ c,x.head? = some c→c=44 ∨ c=32 ∨ c=41 ∨ c=9
theorem BehindP.behind {x:Bs} (h:BehindP x):Behind x:=fun c hc=>by rcases h c hc with rfl | rfl | rfl | rfl <;> decide
theorem told_behind (l:List Par) {x:Bs} (h:BehindP x):Behind (told l ++ x):=by
 cases l with
 | nil=>exact h.behind
 | cons p l =>
  rw [told_cons]
  intro c hc
  simp at hc
  subst hc
  decide
theorem readParams_app:∀ (l acc:List Par) (x:Bs),aloneB ((acc ++ l).map (·.key))=true→(l.all fun p=>rightI p.bare)=true→BehindP x→readParams acc (told l ++ x)=some (acc ++ l,x)
 | [],acc,x,_,_,hx=>by
  rw [List.append_nil]
  refine readParams_end acc x fun h=>?_
  rcases hx 59 h with h | h | h | h <;> exact absurd h (by decide)
 | p::l,acc,x,ha,hr,hx=>by
  simp only [List.all_cons,Bool.and_eq_true] at hr
  have ha':=ha
  rw [List.map_append] at ha'
  obtain ⟨-,a2,a3⟩:=aloneB_append ha'
  simp only [List.map_cons,aloneB,Bool.and_eq_true] at a2
  have hk:=a2.1
  have hnew:p.key ∉ acc.map (·.key):=a3 p.key (by simp)
  rw [told_cons,List.cons_append,readParams_semi]
  obtain ⟨c,r,hc,hs,-⟩:=key_cons hk
  have hsk:skipB [32] (p.key ++ (valued p.bare ++ told l) ++ x)=p.key ++ (valued p.bare ++ told l) ++ x:=skip_none fun q hq=>by
   rw [hc] at hq
   simp at hq
   subst hq
   have:=(sml_facts hs).2.1
   simpa using this
  have hb:=told_behind l hx
  rw [hsk,List.append_assoc,List.append_assoc,readKey_app hk (valued_head p.bare hb)]
  simp only
  rw [readVal_app hr.1 hb]
  simp only
  rw [setP_new hnew]
  have:=readParams_app l (acc ++ [p]) x (by simpa using ha) hr.2 hx
  rw [List.append_assoc] at this
  exact this
theorem item_parts {x:Itm} (h:itemB x=true):rightI x.bare=true∧aloneB (x.params.map (·.key))=true∧(x.params.all fun p=>rightI p.bare)=true:=by
 unfold itemB paramsB at h
 simp only [Bool.and_eq_true] at h
 exact ⟨h.1,h.2.1,h.2.2⟩
theorem readItem_app {x:Itm} (h:itemB x=true) {y:Bs} (hy:BehindP y):readItem (toldI x ++ y)=some (x,y)∧∃ c r,toldI x=c::r∧c ≠ 32∧c ≠ 41∧c ≠ 40:=by
 obtain ⟨h1,h2,h3⟩:=item_parts h
 have hb:=told_behind x.params hy
 obtain ⟨t1,c,r,hc⟩:=text_back h1 hb
 constructor
 ·unfold readItem toldI
  rw [List.append_assoc,t1]
  simp only
  rw [readParams_app x.params [] y (by simpa using h2) h3 hy]
  rfl
 ·unfold toldI
  rw [hc] at t1 ⊢
  have:=parse_head t1
  exact ⟨c,r ++ told x.params,rfl,this.1,this.2.1,this.2.2.1⟩
theorem readInner_close (l:List Itm) (r:Bs):readInner l (41::r)=some (l,r):=by
 rw [readInner.eq_def]
 have:skipB [32] (41::r)=41::r:=skip_none fun c hc=>by cases hc;decide
 split
 ·rename_i r0 h
  rw [this] at h
  cases h
  rfl
 ·rename_i h
  exact absurd this (h r)
theorem readInner_item {l:List Itm} {s y:Bs} {x:Itm} (hs:∀ r,skipB [32] s ≠ 41::r) (h:readItem (skipB [32] s)=some (x,y)) (hy:y.head? = some 41 ∨ y.head? = some 32) :
  readInner l s=readInner (l ++ [x]) y:=by
 rw [readInner.eq_def]
 split
 ·rename_i r0 h0
  exact absurd h0 (hs r0)
 ·split
  ·rename_i h1;rw [h] at h1;cases h1
  ·rename_i x1 y1 h1
   rw [h] at h1
   cases h1
   rw [if_pos hy]
theorem readInner_blank (l:List Itm) (s:Bs):readInner l (32::s)=readInner l s:=by
 have:skipB [32] (32::s)=skipB [32] s:=rfl
 rw [readInner.eq_def,readInner.eq_def l s,this]
theorem readInner_app:∀ (items acc:List Itm) (y:Bs),items.all itemB=true→readInner acc (joinW [32] (items.map toldI) ++ 41::y)=some (acc ++ items,y)
 | [],acc,y,_=>by
  rw [List.append_nil]
  exact readInner_close acc y
 | [x],acc,y,h=>by
  simp only [List.all_cons,List.all_nil,Bool.and_true] at h
  obtain ⟨h1,c,r,hc,n1,n2,-⟩:=readItem_app h (y:=41::y) (fun q hq=>by cases hq;decide)
  show readInner acc (toldI x ++ 41::y) = _
  have hsk:skipB [32] (toldI x ++ 41::y)=toldI x ++ 41::y:=skip_none fun q hq=>by rw [hc] at hq;simp at hq;subst hq;simpa using n1
  rw [readInner_item (x:=x) (y:=41::y) (fun r0 he=>by rw [hsk,hc] at he;simp at he;exact n2 he.1) (by rw [hsk];exact h1) (.inl rfl),readInner_close]
 | x::x2::items,acc,y,h=>by
  simp only [List.all_cons,Bool.and_eq_true] at h
  have ih:=readInner_app (x2::items) (acc ++ [x]) y (by simp only [List.all_cons,Bool.and_eq_true];exact h.2)
  obtain ⟨z,hz⟩:∃ z,joinW [32] ((x2::items).map toldI) ++ 41::y=z:=⟨_,rfl⟩
  obtain ⟨h1,c,r,hc,n1,n2,-⟩:=readItem_app h.1 (y:=32::z) (fun q hq=>by cases hq;decide)
  have e:joinW [32] ((x::x2::items).map toldI) ++ 41::y=toldI x ++ 32::z:=by
   rw [← hz]
   simp [joinW]
  rw [hz] at ih
  rw [e]
  have hsk:skipB [32] (toldI x ++ 32::z)=toldI x ++ 32::z:=skip_none fun q hq=>by rw [hc] at hq;simp at hq;subst hq;simpa using n1
  rw [readInner_item (x:=x) (y:=32::z) (fun r0 he=>by rw [hsk,hc] at he;simp at he;exact n2 he.1) (by rw [hsk];exact h1) (.inr rfl),readInner_blank,ih,List.append_assoc]
  rfl
theorem mem_parts {m:Mem} (h:memB m=true):(m.inner=true ∨ (m.items.length=1∧m.params = []))∧aloneB (m.params.map (·.key))=true∧(m.params.all fun p=>rightI p.bare)=true∧m.items.all itemB=true:=by
 unfold memB paramsB at h
 simp only [Bool.and_eq_true,Bool.or_eq_true,decide_eq_true_eq,List.isEmpty_iff] at h
 obtain ⟨h1,⟨h2,h3⟩,h4⟩:=h
 exact ⟨h1,h2,h3,h4⟩
def BehindM (x:Bs):Prop:=∀ c,x.head? = some c→c=44 ∨ c=32 ∨ c=9
theorem BehindM.p {x:Bs} (h:BehindM x):BehindP x:=fun c hc=>by rcases h c hc with rfl | rfl | rfl <;> decide
theorem stops_eq {c:UInt8} {r:Bs} (h:inKey c=false):Stops inKey (c::r):=fun q hq=>by cases hq;exact h
theorem readMem_app {m:Mem} (hk:keyB m.key=true) (h:memB m=true) {y:Bs} (hy:BehindM y):readMem (toldM m ++ y)=some (m,y):=by
 obtain ⟨h1,h2,h3,h4⟩:=mem_parts h
 obtain ⟨k,inner,items,ps⟩:=m
 simp only at hk h1 h2 h3 h4
 unfold toldM
 cases inner with
 | true =>
  simp only [if_true]
  unfold readMem
  rw [List.append_assoc,List.cons_append,readKey_app hk (stops_eq (c:=61) (by decide))]
  simp only
  unfold readRest
  simp only [List.cons_append,List.append_assoc]
  rw [readInner_app items [] (told ps ++ y) h4]
  simp only [List.nil_append]
  rw [readParams_app ps [] y (by simpa using h2) h3 hy.p]
  rfl
 | false =>
  obtain ⟨hl,rfl⟩:=h1.resolve_left (by simp)
  obtain ⟨x,rfl⟩:=List.length_eq_one_iff.1 hl
  simp only [List.all_cons,List.all_nil,Bool.and_true] at h4
  obtain ⟨i1,i2,i3⟩:=item_parts h4
  obtain ⟨b,xs⟩:=x
  simp only at i1 i2 i3
  simp only [Bool.false_eq_true,if_false,List.headD_cons]
  have hb:=told_behind xs hy.p
  unfold readMem
  rw [List.append_assoc,List.append_assoc,readKey_app hk (valued_head b hb)]
  simp only
  unfold readRest
  by_cases hyes:b=yesI
  ·subst hyes
   have hv:valued yesI = []:=by unfold valued;rw [if_pos rfl]
   rw [hv,List.nil_append]
   obtain ⟨z,hz⟩:∃ z,told xs ++ y=z:=⟨_,rfl⟩
   have hp:=readParams_app xs [] y (by simpa using i2) i3 hy.p
   rw [hz] at hp hb ⊢
   split
   ·have:=hb 61 rfl
    rcases this with h | h | h | h | h | h <;> exact absurd h (by decide)
   ·have:=hb 61 rfl
    rcases this with h | h | h | h | h | h <;> exact absurd h (by decide)
   ·rw [hp]
    rfl
  ·have hv:valued b=61::textI b:=by unfold valued;rw [if_neg hyes]
   rw [hv,List.cons_append]
   obtain ⟨r1,c,r,hc,n1,n2,n3⟩:=readItem_app h4 hy.p
   have e:textI b ++ (told xs ++ y)=toldI ⟨b,xs⟩ ++ y:=by unfold toldI;rw [List.append_assoc]
   rw [e]
   rw [hc] at r1 ⊢
   rw [List.cons_append] at r1 ⊢
   split
   ·rename_i h0
    simp at h0
    exact absurd h0.1 n3
   ·rename_i h0
    simp at h0
    obtain ⟨-,h0⟩:=h0
    subst_vars
    rw [r1]
   ·rename_i h0
    exact absurd rfl (h0 _)
theorem toldM_head {m:Mem} (hk:keyB m.key=true):∃ c r,toldM m=c::r∧smlB c=true:=by
 obtain ⟨c,r,hc,hs,-⟩:=key_cons hk
 unfold toldM
 rw [hc]
 split
 ·exact ⟨c,_,rfl,hs⟩
 ·exact ⟨c,_,rfl,hs⟩
def sepB (s:Bs):Prop:=∃ a b:Bs,s=a ++ 44::b∧(∀ c ∈ a,c=32 ∨ c=9)∧∀ c ∈ b,c=32 ∨ c=9
theorem skip_app {a:Bs} (h:∀ c ∈ a,c=32 ∨ c=9) (s:Bs):skipB [32,9] (a ++ s)=skipB [32,9] s:=by
 induction a with
 | nil=>rfl
 | cons c r ih =>
  have hc:=h c (List.mem_cons_self ..)
  unfold skipB at ih ⊢
  rw [List.cons_append,List.dropWhile_cons,if_pos (by rcases hc with rfl | rfl <;> decide)]
  exact ih fun q hq=>h q (List.mem_cons_of_mem _ hq)
theorem readD_one {d:List Mem} {s:Bs} {m:Mem} (hs:s ≠ []) (h:readMem s=some (m,[])):readD d s=some (setM d m):=by
 cases s with
 | nil=>exact absurd rfl hs
 | cons c l =>
  rw [readD.eq_def]
  simp only
  split
  ·rename_i h0;rw [h] at h0;cases h0
  ·rename_i m1 r1 h0
   rw [h] at h0
   cases h0
   rfl
theorem readD_step {d:List Mem} {s y:Bs} {m:Mem} {sep:Bs} (hsep:sepB sep) (hs:s ≠ []) (h:readMem s=some (m,sep ++ y)) (hy:∃ c r,y=c::r∧c ≠ 32∧c ≠ 9):readD d s=readD (setM d m) y:=by
 obtain ⟨a,b,rfl,ha,hb⟩:=hsep
 obtain ⟨c,r,rfl,n1,n2⟩:=hy
 have e1:skipB [32,9] (a ++ 44::b ++ c::r)=44::(b ++ c::r):=by
  rw [List.append_assoc,skip_app ha]
  rfl
 have e2:skipB [32,9] (b ++ c::r)=c::r:=by
  rw [skip_app hb]
  exact skip_none fun q hq=>by cases hq;simpa using ⟨n1,n2⟩
 have e3:(a ++ 44::b ++ c::r:Bs).isEmpty=false:=by cases a <;> rfl
 cases s with
 | nil=>exact absurd rfl hs
 | cons c0 l0 =>
  rw [readD.eq_def]
  simp only
  split
  ·rename_i h0;rw [h] at h0;cases h0
  ·rename_i m1 r1 h0
   rw [h] at h0
   cases h0
   rw [if_neg (by rw [e3];decide)]
   split
   ·rename_i r2 h2
    rw [e1] at h2
    cases h2
    simp only [e2]
    rfl
   ·rename_i h2
    exact absurd e1 (h2 _)
theorem comma_sep:sepB [44,32]:=⟨[],[32],rfl,(fun c hc=>by cases hc),fun c hc=>by simp at hc;exact .inl hc⟩
theorem rightD_cons {m:Mem} {d:List Mem} (h:rightD (m::d)=true):keyB m.key=true∧memB m=true∧m.key ∉ d.map (·.key)∧rightD d=true:=by
 unfold rightD at h ⊢
 simp only [List.map_cons,aloneB,Bool.and_eq_true,List.all_cons,Bool.not_eq_true'] at h ⊢
 obtain ⟨⟨h1,h2,h3⟩,h4,h5⟩:=h
 refine ⟨h1,h4,fun hm=>?_,h3,h5⟩
 have:(d.map (·.key)).contains m.key=true:=by simpa using hm
 rw [this] at h2
 cases h2
theorem sepM {sep y:Bs} (h:sepB sep):BehindM (sep ++ y):=by
 obtain ⟨a,b,rfl,ha,-⟩:=h
 intro c hc
 cases a with
 | nil=>simp at hc;exact .inl hc.symm
 | cons q r =>
  simp at hc
  subst hc
  rcases ha q (List.mem_cons_self ..) with h | h
  ·exact .inr (.inl h)
  ·exact .inr (.inr h)
theorem readD_app:∀ (a:List Mem) (d:List Mem),rightD a=true→readD d (joinW [44,32] (a.map toldM))=some (a.foldl setM d)
 | [],d,_=>by show readD d [] = _;rw [readD.eq_def];rfl
 | [m],d,h=>by
  obtain ⟨h1,h2,-,-⟩:=rightD_cons h
  obtain ⟨c,r,hc,-⟩:=toldM_head (m:=m) h1
  show readD d (toldM m) = _
  have:=readMem_app h1 h2 (y:=[]) (fun c hc=>by cases hc)
  rw [List.append_nil] at this
  rw [readD_one (by rw [hc];simp) this]
  rfl
 | m::m2::a,d,h=>by
  obtain ⟨h1,h2,-,h4⟩:=rightD_cons h
  obtain ⟨c,r,hc,-⟩:=toldM_head (m:=m) h1
  have ih:=readD_app (m2::a) (setM d m) h4
  obtain ⟨z,hz⟩:∃ z,joinW [44,32] ((m2::a).map toldM)=z:=⟨_,rfl⟩
  rw [hz] at ih
  have e:joinW [44,32] ((m::m2::a).map toldM)=toldM m ++ ([44,32] ++ z):=by
   rw [← hz];simp [joinW]
  rw [e]
  have hz2:∃ c r,z=c::r∧c ≠ 32∧c ≠ 9:=by
   obtain ⟨q,r2,hq,hs⟩:=toldM_head (m:=m2) (rightD_cons h4).1
   have:=sml_facts hs
   cases a with
   | nil=>exact ⟨q,r2,by rw [← hz];exact hq,this.2.1,this.2.2.1⟩
   | cons m3 a=>exact ⟨q,r2 ++ ([44,32] ++ joinW [44,32] ((m3::a).map toldM)),by rw [← hz];simp [joinW,hq],this.2.1,this.2.2.1⟩
  rw [readD_step comma_sep (by rw [hc];simp) (readMem_app h1 h2 (sepM comma_sep)) hz2,ih]
  rfl
theorem fold_new:∀ (a d:List Mem),(∀ k ∈ a.map (·.key),k ∉ d.map (·.key))→rightD a=true→a.foldl setM d=d ++ a
 | [],d,_,_=>by simp
 | m::a,d,h,hr=>by
  obtain ⟨h1,h2,h3,h4⟩:=rightD_cons hr
  rw [List.foldl_cons,setM_new (h m.key (by simp)),fold_new a (d ++ [m]) (fun k hk=>by
   rw [List.map_append,List.mem_append]
   rintro (h' | h')
   ·exact h k (by simp at hk ⊢;exact .inr hk) h'
   ·simp at h'
    subst h'
    exact h3 hk) h4]
  simp
def LastOk (l:Bs):Prop:=∀ q,l.getLast? = some q→q ≠ 32
theorem LastOk.nil:LastOk []:=fun q h=>by cases h
theorem LastOk.app {a b:Bs} (hb:LastOk b) (ha:b = []→LastOk a):LastOk (a ++ b):=by
 intro q hq
 rw [List.getLast?_append] at hq
 cases hbb:b.getLast? with
 | none =>
  rw [hbb] at hq
  exact ha (List.getLast?_eq_none_iff.1 hbb) q hq
 | some v =>
  rw [hbb] at hq
  cases hq
  exact hb _ hbb
theorem LastOk.cons {c:UInt8} {l:Bs} (hc:c ≠ 32) (h:LastOk l):LastOk (c::l):=by
 rw [← List.singleton_append]
 exact LastOk.app h fun _ q hq=>by cases hq;exact hc
theorem LastOk.snoc {a:Bs} {c:UInt8} (h:c ≠ 32):LastOk (a ++ [c]):=fun q hq=>by
 rw [List.getLast?_concat] at hq
 cases hq
 exact h
theorem LastOk.all {p:UInt8→Bool} (hp:p 32=false) {l:Bs} (h:l.all p=true):LastOk l:=fun q hq=>by
 have hm:=List.mem_of_getLast? hq
 have:=List.all_eq_true.1 h q hm
 rintro rfl
 rw [hp] at this
 cases this
theorem trimR_last {c:UInt8} {l:Bs} (k:Nat) (h:∀ q,l.getLast? = some q→q ≠ c):trimR c (l ++ List.replicate k c)=l:=by
 unfold trimR
 rw [List.reverse_append,List.reverse_replicate]
 have h1:(List.replicate k c ++ l.reverse).dropWhile (· == c)=l.reverse:=by
  induction k with
  | zero =>
   simp only [List.replicate_zero,List.nil_append]
   cases hl:l.reverse with
   | nil=>rfl
   | cons a r =>
    have ha:l.getLast? = some a:=by rw [List.getLast?_eq_head?_reverse,hl];rfl
    have:(a == c)=false:=by simpa using h a ha
    rw [List.dropWhile_cons,if_neg (by rw [this];decide)]
  | succ k ih =>
   rw [List.replicate_succ,List.cons_append,List.dropWhile_cons,if_pos (by simp)]
   exact ih
 rw [h1,List.reverse_reverse]
theorem dec_last (n:Nat):LastOk (decDigits n):=LastOk.all (p:=digB) (by decide) (dec_facts n).1
theorem text_last {b:It} (h:rightI b=true):LastOk (textI b):=by
 obtain ⟨t,h1,-⟩:=back h [] (fun c hc=>by cases hc)
 have ht:textI b=t:=by unfold textI;rw [h1];rfl
 rw [ht]
 unfold printI at h1
 rw [if_neg (by rw [h];decide)] at h1
 split at h1
 ·cases h1
  rw [itoa_eq]
  exact LastOk.app (dec_last _) fun e=>absurd e (dec_facts _).2.2
 split at h1
 ·cases h1
  rw [decimal_eq]
  obtain ⟨p1,p2,-⟩:=part_facts (m:=b.int.natAbs % 1000) (by omega)
  refine LastOk.app ?_ fun e=>by simp at e
  rw [← List.singleton_append]
  refine LastOk.app (LastOk.all (p:=digB) (by decide) p1) fun e=>?_
  rw [e] at p2
  simp at p2
 split at h1
 ·cases h1
  rw [← List.cons_append]
  exact LastOk.snoc (by decide)
 split at h1
 ·cases h1
  rw [← List.cons_append]
  exact LastOk.snoc (by decide)
 split at h1
 ·cases h1
  cases b.yes <;> (intro q hq;cases hq;decide)
 ·rename_i n1 n2 n3 n5 n6
  simp only [Option.some.injEq] at h1
  subst h1
  unfold rightI at h
  rw [if_neg (by omega),if_neg n3] at h
  split at h
  ·simp only [Bool.and_eq_true] at h
   obtain ⟨c,r,-,-,ha⟩:=tok_all h.2.2
   exact LastOk.all (p:=inTok) (by decide) ha
  ·first
   | (rw [if_neg n5,if_neg n6] at h;cases h)
   | cases h
theorem key_last {k:Bs} (h:keyB k=true):LastOk k:=by
 obtain ⟨c,r,rfl,hs,hr⟩:=key_cons h
 exact LastOk.all (p:=inKey) (by decide) (by rw [List.all_cons,(sml_facts hs).1,hr];rfl)
theorem valued_last {b:It} (h:rightI b=true):LastOk (valued b):=by
 unfold valued
 split
 ·exact LastOk.nil
 ·rw [← List.singleton_append]
  obtain ⟨-,c,r,hc⟩:=text_back h (x:=[]) (fun c hc=>by cases hc)
  exact LastOk.app (text_last h) fun e=>by rw [hc] at e;cases e
theorem told_last:∀ {l:List Par},aloneB (l.map (·.key))=true→(l.all fun p=>rightI p.bare)=true→LastOk (told l)
 | [],_,_=>LastOk.nil
 | p::l,h,hr=>by
  simp only [List.map_cons,aloneB,Bool.and_eq_true] at h
  simp only [List.all_cons,Bool.and_eq_true] at hr
  rw [told_cons,← List.singleton_append]
  obtain ⟨c,r,hc,-⟩:=key_cons h.1
  refine LastOk.app (LastOk.app (LastOk.app (told_last h.2.2 hr.2) fun _=>valued_last hr.1) fun _=>key_last h.1) fun e=>?_
  rw [hc] at e
  cases e
theorem toldM_last {m:Mem} (hk:keyB m.key=true) (h:memB m=true):LastOk (toldM m):=by
 obtain ⟨h1,h2,h3,h4⟩:=mem_parts h
 unfold toldM
 split
 ·exact LastOk.app (LastOk.cons (by decide) (LastOk.cons (by decide) (LastOk.app (LastOk.cons (by decide) (told_last h2 h3)) fun e=>by cases e))) fun e=>by cases e
 ·rename_i hi
  obtain ⟨hl,-⟩:=h1.resolve_left hi
  obtain ⟨x,hx⟩:=List.length_eq_one_iff.1 hl
  rw [hx] at h4 ⊢
  simp only [List.all_cons,List.all_nil,Bool.and_true] at h4
  obtain ⟨i1,i2,i3⟩:=item_parts h4
  simp only [List.headD_cons]
  exact LastOk.app (LastOk.app (told_last i2 i3) fun _=>valued_last i1) fun _=>key_last hk
theorem join_last:∀ {a:List Mem},rightD a=true→LastOk (joinW [44,32] (a.map toldM))
 | [],_=>LastOk.nil
 | [m],h=>by
  obtain ⟨h1,h2,-,-⟩:=rightD_cons h
  exact toldM_last h1 h2
 | m::m2::a,h=>by
  obtain ⟨h1,h2,-,h4⟩:=rightD_cons h
  have ih:=join_last h4
  obtain ⟨q,r2,hq,-⟩:=toldM_head (m:=m2) (rightD_cons h4).1
  show LastOk (toldM m ++ ([44,32] ++ joinW [44,32] ((m2::a).map toldM)))
  have hne:joinW [44,32] ((m2::a).map toldM) ≠ []:=by
   cases a with
   | nil=>show toldM m2 ≠ [];rw [hq];simp
   | cons m3 a=>show toldM m2 ++ _ ≠ [];rw [hq];simp
  exact LastOk.app (LastOk.app ih fun e=>absurd e hne) fun e=>by simp at e
theorem join_head {a:List Mem} (h:rightD a=true) (hne:a ≠ []):∃ c r,joinW [44,32] (a.map toldM)=c::r∧c ≠ 32∧c ≠ 9:=by
 cases a with
 | nil=>exact absurd rfl hne
 | cons m a =>
  obtain ⟨q,r2,hq,hs⟩:=toldM_head (m:=m) (rightD_cons h).1
  have:=sml_facts hs
  cases a with
  | nil=>exact ⟨q,r2,hq,this.2.1,this.2.2.1⟩
  | cons m3 a=>exact ⟨q,r2 ++ ([44,32] ++ joinW [44,32] ((m3::a).map toldM)),by show toldM m ++ _ = _;rw [hq];rfl,this.2.1,this.2.2.1⟩
theorem parseD_eq (i k:Nat) {t:Bs} (h0:∀ c,t.head? = some c→c ≠ 32) (h1:LastOk t):parseD (List.replicate i 32 ++ t ++ List.replicate k 32)=readD [] t:=by
 unfold parseD
 congr 1
 have e1:skipB [32] (List.replicate i 32 ++ t ++ List.replicate k 32)=skipB [32] (t ++ List.replicate k 32):=by
  rw [List.append_assoc]
  unfold skipB
  induction i with
  | zero=>rfl
  | succ i ih=>rw [List.replicate_succ,List.cons_append,List.dropWhile_cons,if_pos (by decide)];exact ih
 rw [e1]
 cases t with
 | nil =>
  rw [List.nil_append]
  have:skipB [32] (List.replicate k 32) = []:=by
   clear e1 h0 h1
   unfold skipB
   induction k with
   | zero=>rfl
   | succ k ih=>rw [List.replicate_succ,List.dropWhile_cons,if_pos (by decide)];exact ih
  rw [this]
  rfl
 | cons c r =>
  have e2:skipB [32] ((c::r) ++ List.replicate k 32)=(c::r) ++ List.replicate k 32:=skip_none fun q hq=>by
   simp at hq
   subst hq
   simpa using h0 c rfl
  rw [e2]
  exact trimR_last k h1
theorem join_first {a:List Mem} (h:rightD a=true):∀ c,(joinW [44,32] (a.map toldM)).head? = some c→c ≠ 32:=by
 intro c hc
 cases a with
 | nil=>cases hc
 | cons m a =>
  obtain ⟨q,r,hq,n1,-⟩:=join_head h (by simp)
  rw [hq] at hc
  cases hc
  exact n1
theorem foldl_self {d:List Mem} (h:rightD d=true):d.foldl setM []=d:=by
 have:=fold_new d [] (fun k _ h=>by cases h) h
 simpa using this
theorem dict_back {d:List Mem} (h:rightD d=true) (i k:Nat):parseD (List.replicate i 32 ++ joinW [44,32] (d.map toldM) ++ List.replicate k 32)=some d:=by
 rw [parseD_eq i k (join_first h) (join_last h),readD_app d [] h,foldl_self h]
theorem alone_snoc {l:List Bs} {k:Bs} (h:aloneB l=true) (hk:keyB k=true) (hn:k ∉ l):aloneB (l ++ [k])=true:=by
 induction l with
 | nil=>simp [aloneB,hk]
 | cons a l ih =>
  simp only [aloneB,Bool.and_eq_true,Bool.not_eq_true',List.cons_append] at h ⊢
  obtain ⟨h1,h2,h3⟩:=h
  simp only [List.mem_cons,not_or] at hn
  refine ⟨h1,?_,ih h3 hn.2⟩
  have h2':a ∉ l:=by simpa using h2
  have:a ∉ l ++ [k]:=by
   simp only [List.mem_append,List.mem_singleton,not_or]
   exact ⟨h2',fun e=>hn.1 e.symm⟩
  simpa using this
theorem setP_right {l:List Par} {p:Par} (h:paramsB l=true) (hk:keyB p.key=true) (hr:rightI p.bare=true):paramsB (setP l p)=true:=by
 unfold paramsB at h ⊢
 simp only [Bool.and_eq_true] at h ⊢
 obtain ⟨h1,h2⟩:=h
 unfold setP
 split
 ·have e:(l.map fun q=>if q.key=p.key then p else q).map (·.key)=l.map (·.key):=by
   rw [List.map_map]
   refine List.map_congr_left fun q _=>?_
   simp only [Function.comp]
   split
   ·rename_i e;exact e.symm
   ·rfl
  refine ⟨by rw [e];exact h1,?_⟩
  rw [List.all_eq_true] at h2 ⊢
  intro q hq
  obtain ⟨q0,hq0,rfl⟩:=List.mem_map.1 hq
  split
  ·exact hr
  ·exact h2 q0 hq0
 ·rename_i hc
  refine ⟨?_,by rw [List.all_append,h2];simp [hr]⟩
  rw [List.map_append]
  exact alone_snoc h1 hk (by simpa using hc)
theorem setM_right {l:List Mem} {p:Mem} (h:rightD l=true) (hk:keyB p.key=true) (hr:memB p=true):rightD (setM l p)=true:=by
 unfold rightD at h ⊢
 simp only [Bool.and_eq_true] at h ⊢
 obtain ⟨h1,h2⟩:=h
 unfold setM
 split
 ·have e:(l.map fun q=>if q.key=p.key then p else q).map (·.key)=l.map (·.key):=by
   rw [List.map_map]
   refine List.map_congr_left fun q _=>?_
   simp only [Function.comp]
   split
   ·rename_i e;exact e.symm
   ·rfl
  refine ⟨by rw [e];exact h1,?_⟩
  rw [List.all_eq_true] at h2 ⊢
  intro q hq
  obtain ⟨q0,hq0,rfl⟩:=List.mem_map.1 hq
  split
  ·exact hr
  ·exact h2 q0 hq0
 ·rename_i hc
  refine ⟨?_,by rw [List.all_append,h2];simp [hr]⟩
  rw [List.map_append]
  exact alone_snoc h1 hk (by simpa using hc)
theorem readKey_right {s k r:Bs} (h:readKey s=some (k,r)):keyB k=true:=by
 unfold readKey at h
 simp only at h
 split at h
 ·cases h
 ·rename_i hk
  cases h
  cases s with
  | nil=>exact absurd rfl hk
  | cons c l =>
   have e:keyOf (c::l)=if smlB c then c::l.takeWhile inKey else []:=rfl
   rw [e] at hk ⊢
   split
   ·rename_i hc
    simp only [keyB,hc,Bool.true_and]
    exact all_takeWhile inKey l
   ·rename_i hc
    rw [if_neg hc] at hk
    exact absurd rfl hk
theorem yes_right:rightI yesI=true:=by decide
theorem readVal_right {s r:Bs} {b:It} (h:readVal s=some (b,r)):rightI b=true:=by
 unfold readVal at h
 split at h
 ·exact (may h).1
 ·cases h;exact yes_right
theorem readParams_right:∀ (n:Nat) (s:Bs) (l ps:List Par) (r:Bs),s.length ≤ n→paramsB l=true→readParams l s=some (ps,r)→paramsB ps=true:=by
 intro n
 induction n with
 | zero =>
  intro s l ps r hn hl h
  have:s = []:=List.length_eq_zero_iff.1 (by omega)
  subst this
  rw [readParams_end l [] (by simp)] at h
  cases h;exact hl
 | succ n ih =>
  intro s l ps r hn hl h
  rw [readParams.eq_def] at h
  split at h
  ·rename_i r0
   split at h
   ·cases h
   ·rename_i k r1 h1
    split at h
    ·cases h
    ·rename_i b r2 h2
     have a1:=readKey_len h1
     have a2:=readVal_len h2
     have a3:=skip_len [32] r0
     simp only [List.length_cons] at hn
     exact ih r2 _ ps r (by omega) (setP_right hl (readKey_right h1) (readVal_right h2)) h
  ·cases h;exact hl
theorem readItem_right {s r:Bs} {x:Itm} (h:readItem s=some (x,r)):itemB x=true:=by
 unfold readItem at h
 split at h
 ·cases h
 ·rename_i b r1 h1
  split at h
  ·cases h
  ·rename_i ps r2 h2
   cases h
   unfold itemB
   rw [(may h1).1,readParams_right _ _ _ _ _ (Nat.le_refl _) rfl h2]
   rfl
theorem readInner_right:∀ (n:Nat) (s:Bs) (l ps:List Itm) (r:Bs),s.length ≤ n→l.all itemB=true→readInner l s=some (ps,r)→ps.all itemB=true:=by
 intro n
 induction n with
 | zero =>
  intro s l ps r hn hl h
  have:s = []:=List.length_eq_zero_iff.1 (by omega)
  subst this
  rw [readInner.eq_def] at h
  simp [skipB,readItem,parseI] at h
 | succ n ih =>
  intro s l ps r hn hl h
  have a2:=skip_len [32] s
  rw [readInner.eq_def] at h
  split at h
  ·cases h;exact hl
  ·split at h
   ·cases h
   ·rename_i x r1 h1
    have a1:=readItem_len h1
    split at h
    ·exact ih r1 _ ps r (by omega) (by rw [List.all_append,hl];simp [readItem_right h1]) h
    ·cases h
theorem readMem_right {s r:Bs} {m:Mem} (h:readMem s=some (m,r)):keyB m.key=true∧memB m=true:=by
 unfold readMem at h
 split at h
 ·cases h
 ·rename_i k r0 h0
  have a0:=readKey_right h0
  unfold readRest at h
  split at h
  ·split at h
   ·cases h
   ·rename_i items r2 h2
    split at h
    ·cases h
    ·rename_i ps r3 h3
     cases h
     refine ⟨a0,?_⟩
     unfold memB
     simp only [Bool.true_or,Bool.true_and]
     rw [readParams_right _ _ _ _ _ (Nat.le_refl _) rfl h3,readInner_right _ _ _ _ _ (Nat.le_refl _) rfl h2]
     rfl
  ·split at h
   ·cases h
   ·rename_i x r2 h2
    cases h
    refine ⟨a0,?_⟩
    unfold memB
    simp only [List.all_cons,List.all_nil,readItem_right h2]
    rfl
  ·split at h
   ·cases h
   ·rename_i ps r2 h2
    cases h
    refine ⟨a0,?_⟩
    unfold memB itemB
    simp only [List.all_cons,List.all_nil,yes_right,readParams_right _ _ _ _ _ (Nat.le_refl _) (show paramsB []=true from rfl) h2]
    rfl
theorem readD_right:∀ (n:Nat) (s:Bs) (d e:List Mem),s.length ≤ n→rightD d=true→readD d s=some e→rightD e=true:=by
 intro n
 induction n with
 | zero =>
  intro s d e hn hd h
  have:s = []:=List.length_eq_zero_iff.1 (by omega)
  subst this
  rw [readD.eq_def] at h
  cases h;exact hd
 | succ n ih =>
  intro s d e hn hd h
  rw [readD.eq_def] at h
  split at h
  ·cases h;exact hd
  ·rename_i c l
   split at h
   ·cases h
   ·rename_i m r h1
    obtain ⟨k1,k2⟩:=readMem_right h1
    have hm:=setM_right hd k1 k2
    split at h
    ·cases h;exact hm
    ·split at h
     ·rename_i r2 h2
      simp only at h
      split at h
      ·cases h
      ·have a1:=readMem_len h1
       have a2:=skip_len [32,9] r
       rw [h2] at a2
       have a3:=skip_len [32,9] r2
       simp only [List.length_cons] at a1 a2 hn
       exact ih _ _ e (by omega) hm h
     ·cases h
theorem dict_may {s:Bs} {d:List Mem} (h:parseD s=some d):rightD d=true∧printD d=some (joinW [44,32] (d.map toldM))∧parseD (joinW [44,32] (d.map toldM))=some d:=by
 have hr:=readD_right _ _ _ _ (Nat.le_refl _) (show rightD []=true from rfl) h
 refine ⟨hr,by unfold printD;rw [if_pos hr],?_⟩
 have:=dict_back hr 0 0
 simpa using this
theorem readRest_item (k:Bs) {c:UInt8} (t:Bs) (h:c ≠ 40):readRest k (61::c::t)=(match readItem (c::t) with
   | none=>none
   | some (x,r2)=>some (⟨k,false,[x],[]⟩,r2)):=by
 unfold readRest
 split
 ·rename_i he;cases he;exact absurd rfl h
 ·rename_i he;cases he;rfl
 ·rename_i he1 he2;exact absurd rfl (he2 _)
theorem readRest_else (k:Bs) {c:UInt8} (t:Bs) (h:c ≠ 61):readRest k (c::t)=(match readParams [] (c::t) with
   | none=>none
   | some (ps,r2)=>some (⟨k,false,[⟨yesI,ps⟩],[]⟩,r2)):=by
 unfold readRest
 split
 ·rename_i he;cases he;exact absurd rfl h
 ·rename_i he;cases he;exact absurd rfl h
 ·rfl
theorem readRest_inner (k t:Bs):readRest k (61::40::t)=(match readInner [] t with
   | none=>none
   | some (items,r2)=>(match readParams [] r2 with
    | none=>none
    | some (ps,r3)=>some (⟨k,true,items,ps⟩,r3))):=rfl
def heard (d:List Mem) (k:Bs):Option It:=match d.find? (·.key=k) with
 | some m=>if m.inner=false∧m.items.length=1 then some (m.items.headD noI).bare else none
 | none=>none
def urgOf (d:List Mem):Int:=match heard d [117] with
 | some b=>if b.kind=1∧0 ≤ b.int∧b.int ≤ 7 then b.int else 3
 | none=>3
def incOf (d:List Mem):Bool:=match heard d [105] with
 | some b=>decide (b.kind=6) && b.yes
 | none=>false
def prioD (u:Int) (i:Bool):List Mem:=(if u=3 then [] else [⟨[117],false,[⟨⟨1,u,[],false⟩,[]⟩],[]⟩]) ++ (if i then [⟨[105],false,[⟨yesI,[]⟩],[]⟩] else [])
end Go.Bare

namespace Go.Bare
abbrev Pr:=Int × Bool
abbrev Wt:=Int × Pr
def pre (K:List Wt) (s:Int):List Wt:=K.takeWhile fun w=>decide (w.1 ≠ s)
def look (K:List Wt) (s:Int):Option Pr:=(K.find? fun w=>decide (w.1=s)).map (·.2)
def Many (K:List Wt) (s:Int) (M:Nat):Prop:=∃ l:List Int,l.Nodup∧M ≤ l.length∧∀ t ∈ l,t ∈ (pre K s).map (·.1)
structure Kept (M:Nat) (last:Int) (waits K:List Wt):Prop where
 look:∀ w ∈ waits,look K w.1=some w.2
 order:waits.Pairwise fun a b=>b.1 ∈ (pre K a.1).map (·.1)
 diff:(waits.map (·.1)).Nodup
 gone:∀ s,last < s→s ∈ K.map (·.1)→s ∉ waits.map (·.1)→Many K s M
 most:waits.length ≤ M
theorem pre_cons {K:List Wt} {t s:Int} {q:Pr} (h:t ≠ s):pre ((t,q)::K) s=(t,q)::pre K s:=by
 unfold pre
 rw [List.takeWhile_cons,if_pos (by simpa using h)]
theorem look_cons {K:List Wt} {t s:Int} {q:Pr} (h:t ≠ s):look ((t,q)::K) s=look K s:=by
 unfold look
 rw [List.find?_cons]
 simp [h]
theorem look_self (K:List Wt) (t:Int) (q:Pr):look ((t,q)::K) t=some q:=by
 unfold look
 simp
theorem Many.cons {K:List Wt} {t s:Int} {q:Pr} {M:Nat} (h:Many K s M) (hne:t ≠ s):Many ((t,q)::K) s M:=by
 obtain ⟨l,h1,h2,h3⟩:=h
 refine ⟨l,h1,h2,fun x hx=>?_⟩
 rw [pre_cons hne,List.map_cons]
 exact List.mem_cons_of_mem _ (h3 x hx)
theorem Kept.start (M:Nat) (last:Int):Kept M last [] [] :=
 ⟨(fun w h=>by cases h),.nil,.nil,(fun s _ h=>by cases h),Nat.zero_le _⟩
def keep (M:Nat) (waits:List Wt) (t:Int) (q:Pr):List Wt:=let l:=waits.filter (fun w=>decide (w.1 ≠ t)) ++ [(t,q)];l.drop (l.length - M)
theorem Kept.keep {M:Nat} {last:Int} {waits K:List Wt} (h:Kept M last waits K) (hM:1 ≤ M) (t:Int) (q:Pr):Kept M last (keep M waits t q) ((t,q)::K):=by
 obtain ⟨f,hf⟩:∃ f,waits.filter (fun w=>decide (w.1 ≠ t))=f:=⟨_,rfl⟩
 have hfm:∀ w ∈ f,w ∈ waits∧w.1 ≠ t:=fun w hw=>by
  rw [← hf] at hw
  have:=List.mem_filter.1 hw
  exact ⟨this.1,by simpa using this.2⟩
 have hsub:f.Sublist waits:=by rw [← hf];exact List.filter_sublist
 have hlen:f.length ≤ M:=Nat.le_trans hsub.length_le h.most
 have hlookL:∀ w ∈ f ++ [(t,q)],Go.Bare.look ((t,q)::K) w.1=some w.2:=by
  intro w hw
  rcases List.mem_append.1 hw with hw | hw
  ·obtain ⟨h1,h2⟩:=hfm w hw
   rw [look_cons (Ne.symm h2)]
   exact h.look w h1
  ·simp at hw
   subst hw
   exact look_self K t q
 have hord:(f ++ [(t,q)]).Pairwise fun a b=>b.1 ∈ (pre ((t,q)::K) a.1).map (·.1):=by
  rw [List.pairwise_append]
  refine ⟨?_,by simp,fun a ha b hb=>?_⟩
  ·refine (h.order.sublist hsub).imp_of_mem fun {a b} ha hb hab=>?_
   rw [pre_cons (Ne.symm (hfm a ha).2),List.map_cons]
   exact List.mem_cons_of_mem _ hab
  ·simp at hb
   subst hb
   rw [pre_cons (Ne.symm (hfm a ha).2),List.map_cons]
   exact List.mem_cons_self ..
 have hdiff:((f ++ [(t,q)]).map (·.1)).Nodup:=by
  rw [List.map_append,List.nodup_append]
  refine ⟨h.diff.sublist (hsub.map _),by simp,fun a ha b hb=>?_⟩
  obtain ⟨w,hw,rfl⟩:=List.mem_map.1 ha
  simp at hb
  subst hb
  exact (hfm w hw).2
 unfold Go.Bare.keep
 rw [hf]
 simp only
 obtain ⟨L,hL⟩:∃ L,f ++ [(t,q)]=L:=⟨_,rfl⟩
 have hLl:L.length=f.length + 1:=by rw [← hL];simp
 rw [hL] at hlookL hord hdiff ⊢
 have hds:(L.drop (L.length - M)).Sublist L:=List.drop_sublist ..
 refine ⟨fun w hw=>hlookL w (hds.subset hw),hord.sublist hds,hdiff.sublist (hds.map _),fun s hs hm hno=>?_,by simp;omega⟩
 by_cases hst:t=s
 ·subst hst
  exfalso
  refine hno (List.mem_map.2 ⟨(t,q),?_,rfl⟩)
  rw [← hL,List.drop_append_of_le_length (by rw [hL];omega)]
  exact List.mem_append_right _ (List.mem_singleton.2 rfl)
 ·have hmK:s ∈ K.map (·.1):=by
   simp only [List.map_cons,List.mem_cons] at hm
   exact hm.resolve_left (Ne.symm hst)
  by_cases hw:s ∈ waits.map (·.1)
  ·obtain ⟨w,hww,rfl⟩:=List.mem_map.1 hw
   have hwf:w ∈ f:=by rw [← hf];exact List.mem_filter.2 ⟨hww,by simpa using Ne.symm hst⟩
   have hwL:w ∈ L:=by rw [← hL];exact List.mem_append_left _ hwf
   -- it is the eldest one
   cases hLc:L with
   | nil=>rw [hLc] at hwL;cases hwL
   | cons a L' =>
    have hgt:L.length=M + 1:=by
     rcases Nat.lt_or_ge M L.length with h1 | h1
     ·omega
     ·exfalso
      rw [show L.length - M=0 by omega,List.drop_zero] at hno
      exact hno (List.mem_map.2 ⟨w,hwL,rfl⟩)
    have hdrop:L.drop (L.length - M)=L':=by rw [hgt,show M + 1 - M=1 by omega,hLc];rfl
    rw [hdrop] at hno
    have hwa:w=a:=by
     rw [hLc] at hwL
     rcases List.mem_cons.1 hwL with e | e
     ·exact e
     ·exact absurd (List.mem_map.2 ⟨w,e,rfl⟩) hno
    subst hwa
    rw [hLc] at hord hdiff hgt
    refine ⟨L'.map (·.1),(List.nodup_cons.1 hdiff).2,by simp at hgt ⊢;omega,fun x hx=>?_⟩
    obtain ⟨b,hb,rfl⟩:=List.mem_map.1 hx
    exact (List.pairwise_cons.1 hord).1 b hb
  ·exact (h.gone s hs hmK hw).cons hst
theorem Kept.opened {M:Nat} {last:Int} {waits K:List Wt} (h:Kept M last waits K) {s:Int} (hs:last < s):Kept M s (waits.filter fun w=>decide (s < w.1)) K:=by
 have hsub:(waits.filter fun w=>decide (s < w.1)).Sublist waits:=List.filter_sublist
 refine ⟨fun w hw=>h.look w (hsub.subset hw),h.order.sublist hsub,h.diff.sublist (hsub.map _),fun x hx hm hno=>?_,Nat.le_trans hsub.length_le h.most⟩
 refine h.gone x (by omega) hm fun hw=>hno ?_
 obtain ⟨w,hww,rfl⟩:=List.mem_map.1 hw
 exact List.mem_map.2 ⟨w,List.mem_filter.2 ⟨hww,by simpa using hx⟩,rfl⟩
end Go.Bare

namespace Go.Bare
open Go.Lib
def memsL (s:Bs):List Mem × Bool :=
 match s with
 | []=>([],false)
 | c::l =>
  match h1:readMem (c::l) with
  | none=>([],true)
  | some (m,r) =>
   if r.isEmpty then ([m],false)
   else match h2:skipB [32,9] r with
    | 44::r2=>let r3:=skipB [32,9] r2;if r3.isEmpty then ([m],true) else (m::(memsL r3).1,(memsL r3).2)
    | _=>([m],true)
termination_by s.length
decreasing_by
 all_goals
  have a1:=readMem_len h1
  have a2:=skip_len [32,9] r
  rw [h2] at a2
  have a3:=skip_len [32,9] r2
  simp only [List.length_cons] at a1 a2 ⊢
  omega
theorem memsL_nil:memsL []=([],false):=by rw [memsL]
theorem memsL_none {s:Bs} (hs:s ≠ []) (h:readMem s=none):memsL s=([],true):=by
 cases s with
 | nil=>exact absurd rfl hs
 | cons c l =>
  rw [memsL]
  split
  ·rfl
  ·rename_i m r h1;rw [h] at h1;cases h1
theorem memsL_last {s:Bs} {m:Mem} (hs:s ≠ []) (h:readMem s=some (m,[])):memsL s=([m],false):=by
 cases s with
 | nil=>exact absurd rfl hs
 | cons c l =>
  rw [memsL]
  split
  ·rename_i h1;rw [h] at h1;cases h1
  ·rename_i m' r h1;rw [h] at h1;cases h1;rfl
theorem memsL_some {s r:Bs} {m:Mem} (hs:s ≠ []) (h:readMem s=some (m,r)) (hr:r ≠ []) :
  memsL s=(match skipB [32,9] r with
   | 44::r2=>if (skipB [32,9] r2).isEmpty then ([m],true) else (m::(memsL (skipB [32,9] r2)).1,(memsL (skipB [32,9] r2)).2)
   | _=>([m],true)):=by
 cases s with
 | nil=>exact absurd rfl hs
 | cons c l =>
  rw [memsL]
  split
  ·rename_i h1;rw [h] at h1;cases h1
  ·rename_i m' r' h1
   rw [h] at h1
   cases h1
   rw [if_neg (by simpa using hr)]
   split
   ·rename_i r2 h2;rw [h2];rfl
   ·rename_i h2
    split
    ·rename_i r2 h3;exact absurd h3 (h2 r2)
    ·rfl
theorem memsL_stop {s r:Bs} {m:Mem} (hs:s ≠ []) (h:readMem s=some (m,r)) (hr:r ≠ []) (hn:(skipB [32,9] r).head? ≠ some 44):memsL s=([m],true):=by
 rw [memsL_some hs h hr]
 split
 ·rename_i r2 h2;rw [h2] at hn;exact absurd rfl hn
 ·rfl
theorem memsL_comma {s r r2:Bs} {m:Mem} (hs:s ≠ []) (h:readMem s=some (m,r)) (h2:skipB [32,9] r=44::r2) :
  memsL s=if (skipB [32,9] r2).isEmpty then ([m],true) else (m::(memsL (skipB [32,9] r2)).1,(memsL (skipB [32,9] r2)).2):=by
 rw [memsL_some hs h (by rintro rfl;cases h2),h2];rfl
theorem readD_mems:∀ (n:Nat) (s:Bs) (d:List Mem),s.length ≤ n→readD d s=if (memsL s).2 then none else some ((memsL s).1.foldl setM d):=by
 intro n
 induction n with
 | zero =>
  intro s d hn
  have:s = []:=List.length_eq_zero_iff.1 (by omega)
  subst this
  rw [memsL_nil,readD]
  rfl
 | succ n ih =>
  intro s d hn
  cases s with
  | nil=>rw [memsL_nil,readD];rfl
  | cons c l =>
   cases h:readMem (c::l) with
   | none =>
    rw [memsL_none (by simp) h,readD]
    split
    ·rfl
    ·rename_i h1;rw [h] at h1;cases h1
   | some y =>
    obtain ⟨m,r⟩:=y
    rw [readD]
    split
    ·rename_i h1;rw [h] at h1;cases h1
    ·rename_i m' r' h1
     rw [h] at h1
     cases h1
     by_cases hr:r = []
     ·subst hr
      rw [memsL_last (by simp) h]
      rfl
     ·rw [if_neg (by simpa using hr),memsL_some (by simp) h hr]
      split
      ·rename_i r2 h2
       simp only
       rw [h2]
       simp only
       have a1:=readMem_len h
       have a2:=skip_len [32,9] r
       rw [h2] at a2
       have a3:=skip_len [32,9] r2
       simp only [List.length_cons] at a1 a2 hn
       by_cases h3:(skipB [32,9] r2).isEmpty
       ·rw [if_pos h3,if_pos h3];rfl
       ·rw [if_neg h3,if_neg h3,ih _ _ (by omega)]
        rfl
      ·rename_i h2
       split
       ·rename_i r2 h3;exact absurd h3 (h2 r2)
       ·rfl
end Go.Bare
namespace Go.Proofs.YtnknmmbnhoanfaaGreatDoor
open Go.RowKit Go.Shelf Go.Cs


def noP:Bare.Par:=⟨[],noIt⟩
def noM:Bare.Mem:=⟨[],false,[],[]⟩
def pcs (p:Bare.Par):List Value:=[.string (tx p.key),.int .u8 p.bare.kind,.int .i64 p.bare.int,.string (tx p.bare.text),.bool p.bare.yes]
def ics (x:Bare.Itm) (pv:Value):List Value:=[.int .u8 x.bare.kind,.int .i64 x.bare.int,.string (tx x.bare.text),.bool x.bare.yes,pv]
def mcs (m:Bare.Mem) (iv pv:Value):List Value:=[.string (tx m.key),.bool m.inner,iv,pv]
def TagAt (W:World) (v:Value) (t:TypeId):Prop:=∀ g,v.ownBlock=some g→∃ cs fr,W.heap[g]? = some (.cells cs t fr)
theorem TagAt.mods {W W':World} {v:Value} {t:TypeId} (h:TagAt W v t) {S:Nat→Prop} (hN:Mods S W W') (hS:∀ g cs fr,S g→W.heap[g]? ≠ some (.cells cs t fr)):TagAt W' v t:=fun g hg=>by
 obtain ⟨cs,fr,hc⟩:=h g hg
 exact ⟨cs,fr,hN.heap hc fun hs=>hS g cs fr hs hc⟩
def RowR (W:World) (v:Value) (n sz:Nat) (f:Nat→List Value):Prop :=
 n ≤ 281474976710656∧∃ ao cap,v = .slice ao n cap∧∀ i,i < n→∃ b o,ao=some ⟨b,o,none⟩∧W.rangeAt b (o + i * sz) (f i)
theorem RowR.kept {W W':World} {v:Value} {n sz:Nat} {f:Nat→List Value} (h:RowR W v n sz f) {S:Nat→Prop} (hN:Mods S W W') (hS:0 < n→∀ g,v.ownBlock=some g→¬ S g):RowR W' v n sz f:=by
 obtain ⟨hl,ao,cap,rfl,hc⟩:=h
 refine ⟨hl,ao,cap,rfl,fun i hi=>?_⟩
 obtain ⟨b,o,rfl,h⟩:=hc i hi
 exact ⟨b,o,rfl,fun j v hv=>hN.cell (h j v hv) (hS (by omega) b rfl)⟩
theorem RowR.new {W W':World} {v:Value} {n sz:Nat} {f:Nat→List Value} (h:RowR W v n sz f) (hN:New W W'):RowR W' v n sz f:=h.kept hN fun _ _ _=>id
theorem RowR.nil (W:World) (ao:Option Addr) (cap sz:Nat) (f:Nat→List Value):RowR W (.slice ao 0 cap) 0 sz f:=⟨by omega,ao,cap,rfl,fun i hi=>by omega⟩
theorem RowR.congr {W:World} {v:Value} {n sz:Nat} {f g:Nat→List Value} (h:RowR W v n sz f) (he:∀ i,i < n→f i=g i):RowR W v n sz g:=by
 obtain ⟨hl,ao,cap,rfl,hc⟩:=h
 exact ⟨hl,ao,cap,rfl,fun i hi=>by rw [← he i hi];exact hc i hi⟩
theorem RowR.slice {W:World} {v:Value} {n sz:Nat} {f:Nat→List Value} (h:RowR W v n sz f):∃ ao cap,v = .slice ao n cap:=by
 obtain ⟨_,ao,cap,e,_⟩:=h
 exact ⟨ao,cap,e⟩
theorem RowR.at {W:World} {ao:Option Addr} {n cap sz m:Nat} {f:Nat→List Value} (h:RowR W (.slice ao n cap) m sz f):m=n∧n ≤ 281474976710656∧∀ k,k < n→∃ b o,ao=some ⟨b,o,none⟩∧W.rangeAt b (o + k * sz) (f k):=by
 obtain ⟨hl,ao',cap',e,h⟩:=h
 cases e
 exact ⟨rfl,hl,h⟩
theorem cells4 {W:World} {b o:Nat} {c0 c1 c2 c3:Value} (h:W.rangeAt b o [c0,c1,c2,c3]):W.cell? ⟨b,o,none⟩=some c0∧W.cell? ⟨b,o + 1,none⟩=some c1∧W.cell? ⟨b,o + 2,none⟩=some c2∧W.cell? ⟨b,o + 3,none⟩=some c3 :=
 ⟨h 0 _ rfl,h 1 _ rfl,h 2 _ rfl,h 3 _ rfl⟩
theorem cells5 {W:World} {b o:Nat} {c0 c1 c2 c3 c4:Value} (h:W.rangeAt b o [c0,c1,c2,c3,c4]):W.cell? ⟨b,o,none⟩=some c0∧W.cell? ⟨b,o + 1,none⟩=some c1∧W.cell? ⟨b,o + 2,none⟩=some c2∧W.cell? ⟨b,o + 3,none⟩=some c3∧W.cell? ⟨b,o + 4,none⟩=some c4 :=
 ⟨h 0 _ rfl,h 1 _ rfl,h 2 _ rfl,h 3 _ rfl,h 4 _ rfl⟩
def RdP (τ:Bool) (W:World) (v:Value) (L:List Bare.Par):Prop:=RowR W v L.length 5 (fun i=>pcs (L.getD i noP))∧(τ = true→TagAt W v 83)
def RdI (τ:Bool) (W:World) (v:Value) (L:List Bare.Itm):Prop :=
 ∃ pv:Nat→Value,RowR W v L.length 5 (fun i=>ics (L.getD i Bare.noI) (pv i))∧(τ = true→TagAt W v 85)∧∀ i,i < L.length→RdP τ W (pv i) (L.getD i Bare.noI).params
def RdD (τ:Bool) (W:World) (v:Value) (d:List Bare.Mem):Prop :=
 ∃ iv pv:Nat→Value,RowR W v d.length 4 (fun i=>mcs (d.getD i noM) (iv i) (pv i))∧(τ = true→TagAt W v 44)∧∀ i,i < d.length→RdI τ W (iv i) (d.getD i noM).items∧RdP τ W (pv i) (d.getD i noM).params
def RdX (τ:Bool) (W:World) (v:Value) (x:Bare.Itm):Prop:=∃ pv,v = .agg (ics x pv).toArray∧RdP τ W pv x.params
def RdM (τ:Bool) (W:World) (v:Value) (m:Bare.Mem):Prop:=∃ iv pv,v = .agg (mcs m iv pv).toArray∧RdI τ W iv m.items∧RdP τ W pv m.params
theorem tag_none {P:Prop}:(false=true→P):=fun h=>by cases h
theorem tag_new {τ:Bool} {W W':World} {v:Value} {t:TypeId} (h:τ = true→TagAt W v t) (hN:New W W'):τ = true→TagAt W' v t:=fun e=>(h e).mods hN fun _ _ _ h=>h.elim
theorem RdP.new {τ:Bool} {W W':World} {v:Value} {L:List Bare.Par} (h:RdP τ W v L) (hN:New W W'):RdP τ W' v L:=⟨h.1.new hN,tag_new h.2 hN⟩
theorem RdI.new {τ:Bool} {W W':World} {v:Value} {L:List Bare.Itm} (h:RdI τ W v L) (hN:New W W'):RdI τ W' v L:=by
 obtain ⟨pv,h1,h2,h3⟩:=h
 exact ⟨pv,h1.new hN,tag_new h2 hN,fun i hi=>(h3 i hi).new hN⟩
theorem RdD.new {τ:Bool} {W W':World} {v:Value} {d:List Bare.Mem} (h:RdD τ W v d) (hN:New W W'):RdD τ W' v d:=by
 obtain ⟨iv,pv,h1,h2,h3⟩:=h
 exact ⟨iv,pv,h1.new hN,tag_new h2 hN,fun i hi=>⟨(h3 i hi).1.new hN,(h3 i hi).2.new hN⟩⟩
theorem RdX.new {τ:Bool} {W W':World} {v:Value} {x:Bare.Itm} (h:RdX τ W v x) (hN:New W W'):RdX τ W' v x:=by
 obtain ⟨pv,e,h⟩:=h
 exact ⟨pv,e,h.new hN⟩
theorem RdM.new {τ:Bool} {W W':World} {v:Value} {m:Bare.Mem} (h:RdM τ W v m) (hN:New W W'):RdM τ W' v m:=by
 obtain ⟨iv,pv,e,h,h'⟩:=h
 exact ⟨iv,pv,e,h.new hN,h'.new hN⟩
def FarI (W:World) (S:Nat→Prop):Prop:=∀ g cs t fr,S g→W.heap[g]? = some (.cells cs t fr)→t ≠ 83∧t ≠ 85
def FarD (W:World) (S:Nat→Prop):Prop:=FarI W S∧∀ g cs t fr,S g→W.heap[g]? = some (.cells cs t fr)→t ≠ 44
theorem row_far {W W':World} {v:Value} {n sz:Nat} {f:Nat→List Value} {t:TypeId} (h:RowR W v n sz f) (ht:TagAt W v t) {S:Nat→Prop} (hN:Mods S W W') (hS:∀ g cs fr,S g→W.heap[g]? ≠ some (.cells cs t fr)):RowR W' v n sz f :=
 h.kept hN fun _ g hg hs=>by
  obtain ⟨cs,fr,hc⟩:=ht g hg
  exact hS g cs fr hs hc
theorem RdP.far {W W':World} {v:Value} {L:List Bare.Par} (h:RdP true W v L) {S:Nat→Prop} (hN:Mods S W W') (hS:FarI W S):RdP true W' v L:=by
 have hS':∀ g cs fr,S g→W.heap[g]? ≠ some (.cells cs 83 fr):=fun g cs fr hs hc=>(hS g cs _ fr hs hc).1 rfl
 exact ⟨row_far h.1 (h.2 rfl) hN hS',fun _=>(h.2 rfl).mods hN hS'⟩
theorem RdI.far {W W':World} {v:Value} {L:List Bare.Itm} (h:RdI true W v L) {S:Nat→Prop} (hN:Mods S W W') (hS:FarI W S):RdI true W' v L:=by
 have hS':∀ g cs fr,S g→W.heap[g]? ≠ some (.cells cs 85 fr):=fun g cs fr hs hc=>(hS g cs _ fr hs hc).2 rfl
 obtain ⟨pv,h1,h2,h3⟩:=h
 exact ⟨pv,row_far h1 (h2 rfl) hN hS',fun _=>(h2 rfl).mods hN hS',fun i hi=>(h3 i hi).far hN hS⟩
theorem RdM.far {W W':World} {v:Value} {m:Bare.Mem} (h:RdM true W v m) {S:Nat→Prop} (hN:Mods S W W') (hS:FarI W S):RdM true W' v m:=by
 obtain ⟨iv,pv,e,h,h'⟩:=h
 exact ⟨iv,pv,e,h.far hN hS,h'.far hN hS⟩
theorem RdD.far {W W':World} {v:Value} {d:List Bare.Mem} (h:RdD true W v d) {S:Nat→Prop} (hN:Mods S W W') (hS:FarD W S):RdD true W' v d:=by
 have hS':∀ g cs fr,S g→W.heap[g]? ≠ some (.cells cs 44 fr):=fun g cs fr hs hc=>hS.2 g cs _ fr hs hc rfl
 obtain ⟨iv,pv,h1,h2,h3⟩:=h
 exact ⟨iv,pv,row_far h1 (h2 rfl) hN hS',fun _=>(h2 rfl).mods hN hS',fun i hi=>⟨(h3 i hi).1.far hN hS.1,(h3 i hi).2.far hN hS.1⟩⟩
theorem RdP.any {τ:Bool} {W:World} {v:Value} {L:List Bare.Par} (h:RdP τ W v L):RdP false W v L:=⟨h.1,tag_none⟩
theorem RdI.any {τ:Bool} {W:World} {v:Value} {L:List Bare.Itm} (h:RdI τ W v L):RdI false W v L:=by
 obtain ⟨pv,h1,h2,h3⟩:=h
 exact ⟨pv,h1,tag_none,fun i hi=>(h3 i hi).any⟩
theorem RdD.any {τ:Bool} {W:World} {v:Value} {d:List Bare.Mem} (h:RdD τ W v d):RdD false W v d:=by
 obtain ⟨iv,pv,h1,h2,h3⟩:=h
 exact ⟨iv,pv,h1,tag_none,fun i hi=>⟨(h3 i hi).1.any,(h3 i hi).2.any⟩⟩
theorem RdP.slice {τ:Bool} {W:World} {v:Value} {L:List Bare.Par} (h:RdP τ W v L):∃ ao cap,v = .slice ao L.length cap:=h.1.slice
theorem RdI.slice {τ:Bool} {W:World} {v:Value} {L:List Bare.Itm} (h:RdI τ W v L):∃ ao cap,v = .slice ao L.length cap:=by
 obtain ⟨pv,h1,_⟩:=h
 exact h1.slice
theorem RdD.slice {τ:Bool} {W:World} {v:Value} {d:List Bare.Mem} (h:RdD τ W v d):∃ ao cap,v = .slice ao d.length cap:=by
 obtain ⟨iv,pv,h1,_⟩:=h
 exact h1.slice
theorem RdP.nil (τ:Bool) (W:World) (cap:Nat):RdP τ W (.slice none 0 cap) []:=⟨.nil _ _ _ _ _,fun _ g hg=>by cases hg⟩
theorem RdI.nil (τ:Bool) (W:World) (cap:Nat):RdI τ W (.slice none 0 cap) []:=⟨fun _=>undef,.nil _ _ _ _ _,(fun _ g hg=>by cases hg),fun i hi=>by simp at hi⟩
theorem RdD.nil (τ:Bool) (W:World) (cap:Nat):RdD τ W (.slice none 0 cap) []:=⟨fun _=>undef,fun _=>undef,.nil _ _ _ _ _,(fun _ g hg=>by cases hg),fun i hi=>by simp at hi⟩
def SmP (p:Bare.Par):Prop:=p.key.length ≤ 100000∧0 ≤ p.bare.kind∧p.bare.text.length ≤ 10000
def SmX (x:Bare.Itm):Prop:=0 ≤ x.bare.kind∧x.bare.text.length ≤ 10000∧x.params.length ≤ 2000000∧∀ p ∈ x.params,SmP p
def SmM (m:Bare.Mem):Prop:=m.key.length ≤ 100000∧m.items.length ≤ 2000000∧m.params.length ≤ 2000000∧(∀ x ∈ m.items,SmX x)∧∀ p ∈ m.params,SmP p
end Go.Proofs.YtnknmmbnhoanfaaGreatDoor
