/- Texts joined. -/
import Derived.Test.YtnknmmbnhoanfaaGreatDoorC03
import Derived.Lib.AppendIntMem
import Derived.Test.YtnknmmbnhoanfaaGreatDoorRows
import Derived.LaidMore
import Derived.OpenShut
import Derived.ProofKit
import Derived.Stop.Joined
import Derived.Lib.LaidTab
import Derived.HandedShaped
import Derived.Test.YtnknmmbnhoanfaaGreatDoorC01
import Derived.Test.YtnknmmbnhoanfaaGreatDoorC00
import Derived.MapKept
import Derived.Laws.StructEq
set_option linter.unusedSimpArgs false
set_option linter.unusedVariables false
set_option maxHeartbeats 16000000
set_option maxRecDepth 100000
namespace Go.Proofs.YtnknmmbnhoanfaaGreatDoor
open Go.RowKit Go.Shelf Go.Cs
attribute [local go_sem] Oper.semAt_some


theorem itoa_any (n:Int) (h0:-9223372036854775808 ≤ n) (h1:n ≤ 9223372036854775807) (w:World) (hT:Tab w) :
  Calls Tryz.prog 46 #[.int .i64 n] w fun e w'=>e = .returned (.string (tx (Lib.itoa n)))∧New w w' :=
 (Tryz.strconv_Itoa n h0 h1 w hT.pow).mono (by
  rintro e w' ⟨he,k,os,hw⟩
  exact ⟨he,by rw [hw];exact Mods.below (Lib.below_grow w.heap.size w (Nat.le_refl _) k os) (Nat.le_refl _)⟩)
theorem cat_bl (a b:ByteArray):a ++ b=tx (bl a ++ bl b):=by
 apply ByteArray.ext
 rw [ByteArray.data_append]
 apply Array.toList_inj.1
 rw [Array.toList_append]
theorem itoa_nat (n:Nat):Lib.itoa (n:Int)=Lib.decDigits n:=by
 unfold Lib.itoa
 rw [if_neg (by omega)]
 simp
theorem dec_size (n:Nat) (h:n ≤ 999999999999999):(tx (Lib.decDigits n)).size ≤ 15:=by
 rw [tx_size]
 exact Bare.dec_len n 14 (by have:=Bare.most_pow;omega)
theorem rep1_tx (c:UInt8) (new:Bare.Bs) (hc:new ≠ [c]) (s:ByteArray) (w:World) (hs:s.size ≤ 1000000) (hnew:new.length ≤ 10) (hT:Tab w) :
  Calls Tryz.prog 48 #[.string s,.string (tx [c]),.string (tx new)] w fun e w'=>e = .returned (.string (tx (Bare.rep1 c new (bl s))))∧New w w':=by
 obtain ⟨m,hm⟩:=hT.max
 have hcount:=Lib.countB_mul_le (tx [c]) (by rw [tx_size];simp) s.size s (Nat.le_refl _)
 rw [tx_size,List.length_singleton,Nat.mul_one] at hcount
 have hb:Lib.countB s (tx [c]) * (tx new).size ≤ 1000000 * 10:=by
  rw [tx_size]
  exact Nat.mul_le_mul (by omega) hnew
 refine (Tryz.strings_ReplaceAll s (tx [c]) (tx new) m w (by omega) hm (by rw [tx_size];simp) (by omega)).mono ?_
 rintro e w' ⟨he,hB⟩
 refine ⟨?_,Mods.below hB (Nat.le_refl _)⟩
 rw [he,show (tx [c]).data.toList = [c] from rfl,show (tx new).data.toList=new from rfl,Bare.replaceAll_one c new _ hc]
theorem decimal_any (n:Int) (h0:-999999999999999 ≤ n) (h1:n ≤ 999999999999999) (w:World) (hT:Tab w) :
  Calls Tryz.prog 47 #[.int .i64 n] w fun e w'=>e = .returned (.string (tx (Bare.decimal n)))∧New w w':=by
 have hN0:New w w:=Mods.refl _ _
 obtain ⟨m,hm⟩:∃ m:Nat,n.natAbs=m:=⟨_,rfl⟩
 have hml:m ≤ 999999999999999:=by omega
 have hd:=Bare.decimal_fin n
 rw [hm] at hd
 rw [hd]
 clear hd
 have HI1:=Lib.hid (fun W (hN:New w W)=>itoa_any ((1000 + m % 1000:Nat):Int) (by omega) (by omega) W (hT.new hN))
 have HI2:=Lib.hid (fun W (hN:New w W)=>itoa_any ((m / 1000:Nat):Int) (by omega) (by omega) W (hT.new hN))
 rw [itoa_nat] at HI1 HI2
 have h4:=Bare.dec4 (m % 1000) (by omega)
 have hl4:(Lib.decDigits (1000 + m % 1000)).length=4:=by
  have h:=congrArg List.length h4
  rw [List.length_drop] at h
  simp at h
  omega
 have hsl:∀ W,(Instr.slice 9 (.string (tx (Lib.decDigits (1000 + m % 1000)))) (some (.int .i64 1)) none none).run Tryz.prog W = .ok (.string (tx ((Lib.decDigits (1000 + m % 1000)).drop 1))) W:=fun W=>run_sl_l (tx (Lib.decDigits (1000 + m % 1000))) 1 (by rw [tx_size];omega) W
 have HTr:=Lib.hid (fun W=>(Tryz.strings_TrimRight_one (tx ((Lib.decDigits (1000 + m % 1000)).drop 1)) 48 (by decide) W (by rw [tx_size,List.length_drop];omega)).mono fun e w' h=>show e = .returned (.string (tx (Bare.trimR 48 ((Lib.decDigits (1000 + m % 1000)).drop 1))))∧W=w' from ⟨by rw [h.1,← trimB_lib],h.2.symm⟩)
 unfold Bare.fin
 have hz2:=dec_size (m / 1000) (by omega)
 obtain ⟨D4,hD4⟩:∃ x,tx (Lib.decDigits (1000 + m % 1000))=x:=⟨_,rfl⟩
 obtain ⟨D3,hD3⟩:∃ x,(Lib.decDigits (1000 + m % 1000)).drop 1=x:=⟨_,rfl⟩
 have hl3:D3.length=3:=by rw [← hD3,List.length_drop];omega
 rw [hD4] at HI1 hsl
 rw [hD3] at hsl HTr ⊢
 have htl:(Bare.trimR 48 D3).length ≤ 3:=by
  obtain ⟨k,hk⟩:=Bare.trimR_spec 48 D3
  have:=congrArg List.length hk
  rw [List.length_append] at this
  omega
 obtain ⟨P,hP⟩:∃ x,Bare.trimR 48 D3=x:=⟨_,rfl⟩
 rw [hP] at HTr htl ⊢
 have hem:=tx_empty P
 have hPz:=tx_size P
 obtain ⟨pt,hpt⟩:∃ x,tx P=x:=⟨_,rfl⟩
 obtain ⟨wt,hwt⟩:∃ x,tx (Lib.decDigits (m / 1000))=x:=⟨_,rfl⟩
 obtain ⟨d3,hd3⟩:∃ x,tx D3=x:=⟨_,rfl⟩
 have hwl:Lib.decDigits (m / 1000)=bl wt:=by rw [← hwt]
 have hpl:P=bl pt:=by rw [← hpt]
 rw [hpt] at HTr hem hPz
 rw [hwt] at HI2 hz2
 rw [hd3] at hsl HTr
 rw [hwl]
 clear h4 hl4 hD4 hD3 hP hpt hwt hd3 hwl hl3
 have hptz:pt.size ≤ 3:=by omega
 have hrem:(m:Int) % 1000=((m % 1000:Nat):Int):=by omega
 have hquo:(m:Int) / 1000=((m / 1000:Nat):Int):=by omega
 have e1:((1000 + m % 1000:Nat):Int)=1000 + (m:Int) % 1000:=by omega
 have e2:((m / 1000:Nat):Int)=(m:Int) / 1000:=by omega
 rw [e1] at HI1
 rw [e2] at HI2
 have hmb:(m:Int) ≤ 999999999999999:=by omega
 clear e1 e2 hrem hquo htl hPz
 have hNat:∀ l:Bare.Bs,True:=fun _=>trivial
 by_cases hneg:n < 0
 ·obtain rfl:n = -(m:Int):=by omega
  rw [if_pos hneg]
  have hm0:0 < m:=by omega
  clear hneg h0 h1 hm hml
  cases hP0:P.isEmpty <;> rw [hP0] at hem
  ·go_enter Tryz.func47,Tryz.ntmps47
   go_wp2_with (first | (go_at_call 46;with_reducible refine (HI1.out _ hN0).mono ?_;rintro e w1 ⟨rfl,hN1⟩) | (go_at_call 46;with_reducible refine (HI2.out _ hN1).mono ?_;rintro e w2 ⟨rfl,hN2⟩) | (go_at_call 62;refine (HTr.out _).mono ?_;rintro e w' ⟨rfl,rfl⟩))
   go_ret
   refine ⟨congrArg (fun x=>Ending.returned (.string x)) (?_:⟨#[45]⟩ ++ wt ++ ⟨#[46]⟩ ++ pt = _),hN1.trans hN2⟩
   simp only [cat_bl]
   exact congrArg tx (by show [45] ++ bl wt ++ [46] ++ bl pt = _;simp)
  ·go_enter Tryz.func47,Tryz.ntmps47
   go_wp2_with (first | (go_at_call 46;with_reducible refine (HI1.out _ hN0).mono ?_;rintro e w1 ⟨rfl,hN1⟩) | (go_at_call 46;with_reducible refine (HI2.out _ hN1).mono ?_;rintro e w2 ⟨rfl,hN2⟩) | (go_at_call 62;refine (HTr.out _).mono ?_;rintro e w' ⟨rfl,rfl⟩))
   go_ret
   refine ⟨congrArg (fun x=>Ending.returned (.string x)) (?_:⟨#[45]⟩ ++ wt ++ ⟨#[46]⟩ ++ ⟨#[48]⟩ = _),hN1.trans hN2⟩
   simp only [cat_bl]
   exact congrArg tx (by show [45] ++ bl wt ++ [46] ++ [48] = _;simp)
 ·obtain rfl:n=(m:Int):=by omega
  rw [if_neg hneg]
  have dn:decide ((m:Int) < 0)=false:=decide_eq_false hneg
  clear hneg h0 h1 hm hml
  cases hP0:P.isEmpty <;> rw [hP0] at hem
  ·go_enter Tryz.func47,Tryz.ntmps47
   go_wp2_with (first | (go_at_call 46;with_reducible refine (HI1.out _ hN0).mono ?_;rintro e w1 ⟨rfl,hN1⟩) | (go_at_call 46;with_reducible refine (HI2.out _ hN1).mono ?_;rintro e w2 ⟨rfl,hN2⟩) | (go_at_call 62;refine (HTr.out _).mono ?_;rintro e w' ⟨rfl,rfl⟩))
   go_ret
   refine ⟨congrArg (fun x=>Ending.returned (.string x)) (?_:wt ++ ⟨#[46]⟩ ++ pt = _),hN1.trans hN2⟩
   simp only [cat_bl]
   exact congrArg tx (by show bl wt ++ [46] ++ bl pt = _;simp)
  ·go_enter Tryz.func47,Tryz.ntmps47
   go_wp2_with (first | (go_at_call 46;with_reducible refine (HI1.out _ hN0).mono ?_;rintro e w1 ⟨rfl,hN1⟩) | (go_at_call 46;with_reducible refine (HI2.out _ hN1).mono ?_;rintro e w2 ⟨rfl,hN2⟩) | (go_at_call 62;refine (HTr.out _).mono ?_;rintro e w' ⟨rfl,rfl⟩))
   go_ret
   refine ⟨congrArg (fun x=>Ending.returned (.string x)) (?_:wt ++ ⟨#[46]⟩ ++ ⟨#[48]⟩ = _),hN1.trans hN2⟩
   simp only [cat_bl]
   exact congrArg tx (by show bl wt ++ [46] ++ [48] = _;simp)


def printV (r:Option Bare.Bs):Value:=match r with
 | some l=>.tuple #[.string (tx l),.int .i64 0]
 | none=>.tuple #[.string ⟨#[]⟩,.int .i64 2]
theorem right_kind {b:Bare.It} (h:Bare.rightI b=true):b.kind=1 ∨ b.kind=2 ∨ b.kind=3 ∨ b.kind=4 ∨ b.kind=5 ∨ b.kind=6:=by
 unfold Bare.rightI at h
 split at h
 ·omega
 ·split at h
  ·omega
  ·split at h
   ·omega
   ·split at h
    ·omega
    ·split at h
     ·omega
     ·cases h
theorem right_num {b:Bare.It} (h:Bare.rightI b=true) (hk:b.kind=1 ∨ b.kind=2):-999999999999999 ≤ b.int∧b.int ≤ 999999999999999:=by
 unfold Bare.rightI at h
 rw [if_pos hk] at h
 simp only [Bool.and_eq_true,decide_eq_true_eq] at h
 exact ⟨h.1,h.2.1⟩
theorem rep_len (c:UInt8) (new:Bare.Bs) (l:Bare.Bs) (n:Nat) (hl:l.length ≤ n) (hn:new.length ≤ 2):(Bare.rep1 c new l).length ≤ n * 3 :=
 Nat.le_trans (Bare.rep1_len c new l) (Nat.mul_le_mul hl (by omega))
theorem print_any (b:Bare.It) (h0:0 ≤ b.kind) (hl:b.text.length ≤ 10000) (w:World) (hT:Tab w) :
  Calls Tryz.prog 7 #[bv b] w fun e w'=>e = .returned (printV (Bare.printI b))∧New w w':=by
 have HRt:=Lib.hid (fun W=>right_any b h0 (by omega) W)
 obtain ⟨hN,hr⟩:=box_row w b
 cases hrt:Bare.rightI b with
 | false =>
  have e:Bare.printI b=none:=by unfold Bare.printI;rw [if_pos hrt]
  rw [e]
  rw [hrt] at HRt
  unfold printV
  clear hrt e
  obtain ⟨k,n,t,y⟩:=b
  unfold bv bcs at *
  simp only at hN hr HRt ⊢
  obtain ⟨s,hs⟩:∃ s,tx t=s:=⟨_,rfl⟩
  rw [hs] at hN hr HRt ⊢
  go_enter Tryz.func7,Tryz.ntmps7
  go_upto_region 1 with fail
  obtain ⟨W,hW⟩:∃ W,w.alloc (.cells #[.int .u8 k,.int .i64 n,.string s,.bool y] 23)=W:=⟨_,rfl⟩
  rw [hW] at hN hr ⊢
  obtain ⟨B,hB⟩:∃ B,w.heap.size=B:=⟨_,rfl⟩
  rw [hB] at hr ⊢
  clear hW hB
  obtain ⟨⟨c0,c1,c2,c3⟩,f0,f1,f2,f3⟩:=row_facts hr
  go_wp2_with fail
  refine (HRt.out _).mono ?_
  rintro e w1 ⟨rfl,hN1⟩
  go_wp2_with fail
  go_ret2
  exact ⟨rfl,hN.trans hN1⟩
 | true =>
  have hk:=right_kind hrt
  have hnum:=right_num hrt
  have e0:Bare.printI b=(if b.kind=1 then some (Lib.itoa b.int) else if b.kind=2 then some (Bare.decimal b.int) else if b.kind=3 then some (34::(Bare.esc b.text ++ [34])) else if b.kind=5 then some (58::(Bare.sixes b.text ++ [58])) else if b.kind=6 then some [63,if b.yes then 49 else 48] else some b.text):=by
   unfold Bare.printI;rw [if_neg (by rw [hrt];decide)]
  rw [e0]
  rw [hrt] at HRt
  unfold printV
  clear e0 hrt
  obtain ⟨k,n,t,y⟩:=b
  simp only at hk hnum hl h0 ⊢
  unfold bv bcs at *
  simp only at hN hr HRt ⊢
  rcases hk with rfl | rfl | rfl | rfl | rfl | rfl
  ·rw [if_pos rfl]
   simp only
   obtain ⟨s,hs⟩:∃ s,tx t=s:=⟨_,rfl⟩
   rw [hs] at hN hr HRt ⊢
   have HI:=Lib.hid (fun W (hN:New w W)=>itoa_any n (by have:=hnum (.inl rfl);omega) (by have:=hnum (.inl rfl);omega) W (hT.new hN))
   obtain ⟨x,hx⟩:∃ x,tx (Lib.itoa n)=x:=⟨_,rfl⟩
   rw [hx] at HI ⊢
   clear hnum hx
   go_enter Tryz.func7,Tryz.ntmps7
   go_upto_region 1 with fail
   obtain ⟨W,hW⟩:∃ W,w.alloc (.cells #[.int .u8 1,.int .i64 n,.string s,.bool y] 23)=W:=⟨_,rfl⟩
   rw [hW] at hN hr ⊢
   obtain ⟨B,hB⟩:∃ B,w.heap.size=B:=⟨_,rfl⟩
   rw [hB] at hr ⊢
   clear hW hB
   obtain ⟨⟨c0,c1,c2,c3⟩,f0,f1,f2,f3⟩:=row_facts hr
   go_wp2_with fail
   refine (HRt.out _).mono ?_
   rintro e w1 ⟨rfl,hN1⟩
   have hN:=hN.trans hN1
   have hr:=hN1.heap hr id
   clear c0 c1 c2 c3 f0 f1 f2 f3
   obtain ⟨⟨c0,c1,c2,c3⟩,f0,f1,f2,f3⟩:=row_facts hr
   go_wp2_with (go_at_call 46;refine (HI.out _ hN).mono ?_;rintro e w2 ⟨rfl,hN2⟩)
   go_ret2
   exact ⟨rfl,hN.trans hN2⟩
  ·rw [if_neg (by decide),if_pos rfl]
   simp only
   obtain ⟨s,hs⟩:∃ s,tx t=s:=⟨_,rfl⟩
   rw [hs] at hN hr HRt ⊢
   have HI:=Lib.hid (fun W (hN:New w W)=>decimal_any n (hnum (.inr rfl)).1 (hnum (.inr rfl)).2 W (hT.new hN))
   obtain ⟨x,hx⟩:∃ x,tx (Bare.decimal n)=x:=⟨_,rfl⟩
   rw [hx] at HI ⊢
   clear hnum hx
   go_enter Tryz.func7,Tryz.ntmps7
   go_upto_region 1 with fail
   obtain ⟨W,hW⟩:∃ W,w.alloc (.cells #[.int .u8 2,.int .i64 n,.string s,.bool y] 23)=W:=⟨_,rfl⟩
   rw [hW] at hN hr ⊢
   obtain ⟨B,hB⟩:∃ B,w.heap.size=B:=⟨_,rfl⟩
   rw [hB] at hr ⊢
   clear hW hB
   obtain ⟨⟨c0,c1,c2,c3⟩,f0,f1,f2,f3⟩:=row_facts hr
   go_wp2_with fail
   refine (HRt.out _).mono ?_
   rintro e w1 ⟨rfl,hN1⟩
   have hN:=hN.trans hN1
   have hr:=hN1.heap hr id
   clear c0 c1 c2 c3 f0 f1 f2 f3
   obtain ⟨⟨c0,c1,c2,c3⟩,f0,f1,f2,f3⟩:=row_facts hr
   go_wp2_with (go_at_call 47;refine (HI.out _ hN).mono ?_;rintro e w2 ⟨rfl,hN2⟩)
   go_ret2
   exact ⟨rfl,hN.trans hN2⟩
  ·rw [if_neg (by decide),if_neg (by decide),if_pos rfl]
   simp only
   rw [Bare.esc_rep]
   have hr1:=rep_len 92 [92,92] t 10000 hl (by decide)
   have hr2:=rep_len 34 [92,34] _ _ hr1 (by decide)
   have H1:=Lib.hid (fun W (hN:New w W)=>rep1_tx 92 [92,92] (by decide) (tx t) W (by rw [tx_size];omega) (by decide) (hT.new hN))
   have H2:=Lib.hid (fun W (hN:New w W)=>rep1_tx 34 [92,34] (by decide) (tx (Bare.rep1 92 [92,92] t)) W (by rw [tx_size];omega) (by decide) (hT.new hN))
   rw [bl_tx] at H1 H2
   obtain ⟨s,hs⟩:∃ s,tx t=s:=⟨_,rfl⟩
   rw [hs] at hN hr HRt H1 ⊢
   obtain ⟨l1,hl1⟩:∃ l,Bare.rep1 92 [92,92] t=l:=⟨_,rfl⟩
   rw [hl1] at H1 H2 hr1 hr2 ⊢
   obtain ⟨l2,hl2⟩:∃ l,Bare.rep1 34 [92,34] l1=l:=⟨_,rfl⟩
   rw [hl2] at H2 hr2 ⊢
   obtain ⟨x1,hx1⟩:∃ x,tx l1=x:=⟨_,rfl⟩
   rw [hx1] at H1 H2
   obtain ⟨x2,hx2⟩:∃ x,tx l2=x:=⟨_,rfl⟩
   have hz2:x2.size ≤ 90000:=by rw [← hx2,tx_size];exact hr2
   have hbl:l2=bl x2:=by rw [← hx2]
   rw [hx2] at H2
   rw [hbl]
   clear hnum hl1 hl2 hx1 hx2 hr1 hr2 hbl hs hl
   have H1:Hid (∀ W,New w W→Calls Tryz.prog 48 #[.string s,.string ⟨#[92]⟩,.string ⟨#[92,92]⟩] W fun e w'=>e = .returned (.string x1)∧New W w'):=H1
   have H2:Hid (∀ W,New w W→Calls Tryz.prog 48 #[.string x1,.string ⟨#[34]⟩,.string ⟨#[92,34]⟩] W fun e w'=>e = .returned (.string x2)∧New W w'):=H2
   go_enter Tryz.func7,Tryz.ntmps7
   go_upto_region 1 with fail
   obtain ⟨W,hW⟩:∃ W,w.alloc (.cells #[.int .u8 3,.int .i64 n,.string s,.bool y] 23)=W:=⟨_,rfl⟩
   rw [hW] at hN hr ⊢
   obtain ⟨B,hB⟩:∃ B,w.heap.size=B:=⟨_,rfl⟩
   rw [hB] at hr ⊢
   clear hW hB
   obtain ⟨⟨c0,c1,c2,c3⟩,f0,f1,f2,f3⟩:=row_facts hr
   go_wp2_with fail
   refine (HRt.out _).mono ?_
   rintro e w1 ⟨rfl,hN1⟩
   have hN:=hN.trans hN1
   have hr:=hN1.heap hr id
   clear c0 c1 c2 c3 f0 f1 f2 f3
   obtain ⟨⟨c0,c1,c2,c3⟩,f0,f1,f2,f3⟩:=row_facts hr
   go_wp2_with (first | (go_at_call 48;with_reducible refine (H1.out _ hN).mono ?_;rintro e w2 ⟨rfl,hN2⟩) | (go_at_call 48;with_reducible refine (H2.out _ (hN.trans hN2)).mono ?_;rintro e w3 ⟨rfl,hN3⟩))
   go_ret2
   refine ⟨congrArg (fun x=>Ending.returned (.tuple #[.string x,.int .i64 0])) (?_:⟨#[34]⟩ ++ x2 ++ ⟨#[34]⟩ = _),(hN.trans hN2).trans hN3⟩
   simp only [cat_bl]
   exact congrArg tx (by show [34] ++ bl x2 ++ [34] = _;simp)
  ·rw [if_neg (by decide),if_neg (by decide),if_neg (by decide),if_neg (by decide),if_neg (by decide)]
   simp only
   obtain ⟨s,hs⟩:∃ s,tx t=s:=⟨_,rfl⟩
   rw [hs] at hN hr HRt ⊢
   go_enter Tryz.func7,Tryz.ntmps7
   go_upto_region 1 with fail
   obtain ⟨W,hW⟩:∃ W,w.alloc (.cells #[.int .u8 4,.int .i64 n,.string s,.bool y] 23)=W:=⟨_,rfl⟩
   rw [hW] at hN hr ⊢
   obtain ⟨B,hB⟩:∃ B,w.heap.size=B:=⟨_,rfl⟩
   rw [hB] at hr ⊢
   clear hW hB
   obtain ⟨⟨c0,c1,c2,c3⟩,f0,f1,f2,f3⟩:=row_facts hr
   go_wp2_with fail
   refine (HRt.out _).mono ?_
   rintro e w1 ⟨rfl,hN1⟩
   have hN:=hN.trans hN1
   have hr:=hN1.heap hr id
   clear c0 c1 c2 c3 f0 f1 f2 f3
   obtain ⟨⟨c0,c1,c2,c3⟩,f0,f1,f2,f3⟩:=row_facts hr
   go_wp2_with fail
   go_ret2
   exact ⟨rfl,hN⟩
  ·rw [if_neg (by decide),if_neg (by decide),if_neg (by decide),if_pos rfl]
   simp only
   have H1:=Lib.hid (fun W=>sixes_any (tx t) W (by rw [tx_size];omega))
   rw [bl_tx] at H1
   have hz:=Bare.sixes_len t
   obtain ⟨s,hs⟩:∃ s,tx t=s:=⟨_,rfl⟩
   rw [hs] at hN hr HRt H1 ⊢
   obtain ⟨l2,hl2⟩:∃ l,Bare.sixes t=l:=⟨_,rfl⟩
   rw [hl2] at H1 hz ⊢
   obtain ⟨x2,hx2⟩:∃ x,tx l2=x:=⟨_,rfl⟩
   have hz2:x2.size ≤ 90000:=by rw [← hx2,tx_size];omega
   have hbl:l2=bl x2:=by rw [← hx2]
   rw [hx2] at H1
   rw [hbl]
   clear hnum hl2 hx2 hbl hs hl hz
   go_enter Tryz.func7,Tryz.ntmps7
   go_upto_region 1 with fail
   obtain ⟨W,hW⟩:∃ W,w.alloc (.cells #[.int .u8 5,.int .i64 n,.string s,.bool y] 23)=W:=⟨_,rfl⟩
   rw [hW] at hN hr ⊢
   obtain ⟨B,hB⟩:∃ B,w.heap.size=B:=⟨_,rfl⟩
   rw [hB] at hr ⊢
   clear hW hB
   obtain ⟨⟨c0,c1,c2,c3⟩,f0,f1,f2,f3⟩:=row_facts hr
   go_wp2_with fail
   refine (HRt.out _).mono ?_
   rintro e w1 ⟨rfl,hN1⟩
   have hN:=hN.trans hN1
   have hr:=hN1.heap hr id
   clear c0 c1 c2 c3 f0 f1 f2 f3
   obtain ⟨⟨c0,c1,c2,c3⟩,f0,f1,f2,f3⟩:=row_facts hr
   go_wp2_with (go_at_call 17;refine (H1.out _).mono ?_;rintro e w2 ⟨rfl,hN2⟩)
   go_ret2
   refine ⟨congrArg (fun x=>Ending.returned (.tuple #[.string x,.int .i64 0])) (?_:⟨#[58]⟩ ++ x2 ++ ⟨#[58]⟩ = _),hN.trans hN2⟩
   simp only [cat_bl]
   exact congrArg tx (by show [58] ++ bl x2 ++ [58] = _;simp)
  ·rw [if_neg (by decide),if_neg (by decide),if_neg (by decide),if_neg (by decide),if_pos rfl]
   simp only
   obtain ⟨s,hs⟩:∃ s,tx t=s:=⟨_,rfl⟩
   rw [hs] at hN hr HRt ⊢
   cases y
   ·go_enter Tryz.func7,Tryz.ntmps7
    go_upto_region 1 with fail
    obtain ⟨W,hW⟩:∃ W,w.alloc (.cells #[.int .u8 6,.int .i64 n,.string s,.bool false] 23)=W:=⟨_,rfl⟩
    rw [hW] at hN hr ⊢
    obtain ⟨B,hB⟩:∃ B,w.heap.size=B:=⟨_,rfl⟩
    rw [hB] at hr ⊢
    clear hW hB
    obtain ⟨⟨c0,c1,c2,c3⟩,f0,f1,f2,f3⟩:=row_facts hr
    go_wp2_with fail
    refine (HRt.out _).mono ?_
    rintro e w1 ⟨rfl,hN1⟩
    have hN:=hN.trans hN1
    have hr:=hN1.heap hr id
    clear c0 c1 c2 c3 f0 f1 f2 f3
    obtain ⟨⟨c0,c1,c2,c3⟩,f0,f1,f2,f3⟩:=row_facts hr
    go_wp2_with fail
    go_ret2
    exact ⟨rfl,hN⟩
   ·go_enter Tryz.func7,Tryz.ntmps7
    go_upto_region 1 with fail
    obtain ⟨W,hW⟩:∃ W,w.alloc (.cells #[.int .u8 6,.int .i64 n,.string s,.bool true] 23)=W:=⟨_,rfl⟩
    rw [hW] at hN hr ⊢
    obtain ⟨B,hB⟩:∃ B,w.heap.size=B:=⟨_,rfl⟩
    rw [hB] at hr ⊢
    clear hW hB
    obtain ⟨⟨c0,c1,c2,c3⟩,f0,f1,f2,f3⟩:=row_facts hr
    go_wp2_with fail
    refine (HRt.out _).mono ?_
    rintro e w1 ⟨rfl,hN1⟩
    have hN:=hN.trans hN1
    have hr:=hN1.heap hr id
    clear c0 c1 c2 c3 f0 f1 f2 f3
    obtain ⟨⟨c0,c1,c2,c3⟩,f0,f1,f2,f3⟩:=row_facts hr
    go_wp2_with fail
    go_ret2
    exact ⟨rfl,hN⟩
end Go.Proofs.YtnknmmbnhoanfaaGreatDoor
namespace Go.Proofs.YtnknmmbnhoanfaaGreatDoor
open Go.RowKit Go.Shelf Go.Cs Go.ChangeShapes Go.WideShapes Go.ChangeAt

def laidL:List (String × DataW Unit):=Rows.bareTellsRow.laid
theorem tPow:(Tryz.prog.globals[1]?).map (·.type)=some 194:=by kernel_rfl
theorem tab_of_laid {W:World} (h:laidMetH Tryz.prog laidL W) (hs:W.ShapedOpen Tryz.prog):Tab W:=by
 have hmax:=cell_of_shapedOpen_int (P:=Tryz.prog) (g:=0) (t:=3) (zero:=#[.int .i64 0]) hs (of_decide_eq_true (by kernel_rfl)) (by kernel_rfl) rfl (by kernel_rfl) (by kernel_rfl) Tryz.underlying3
 rw [MakeChecks.laidMetH_plain _ _ _ (by kernel_rfl)] at h
 obtain ⟨ps,⟨g0,t0,cs0,f0,p0,q0,hg0,ht0,hv0,hd0,⟨g1,t1,cs1,f1,p1,q1,hg1,ht1,hv1,hd1,⟨g,t,cs,fuel,p,q,hg,ht,hv,hd,_,_⟩,_⟩,_⟩,_,_⟩:=h
 obtain rfl:=Option.some.inj (gPow.symm.trans hg)
 obtain rfl:=Option.some.inj (tPow.symm.trans ht)
 have hd':DataW.trod (fun _=>()) Tryz.prog W 0 (fun _=>true) false fuel 194 cs.toList=some (Lib.tabData .u64 Lib.pow10Tab,p):=hd
 have e:=Lib.cells_of_tab Tryz.underlying194 Tryz.underlying178 (by kernel_rfl) (by kernel_rfl) hd'
 refine ⟨?_,?_⟩
 ·unfold Lib.TabIs
  rw [hv,← e]
 ·exact hmax
noncomputable def laidW (os:Os):World :=
 { World.doorLaid Tryz.prog 400 os with heap:=(World.doorLaid Tryz.prog 400 os).heap.modify 2 fun
   | .cells _ t frozen=>.cells (Pinned.utf8FirstZ.map fun n=>Value.int .u8 (n:Nat)).toArray t frozen
   | o=>o }
theorem laidW_met (os:Os) (args:Array Value):laidMetH Tryz.prog laidL ((laidW os).forCall (fun _ _=>0) ⟨#[],args,[]⟩).memory :=
 laidMetH_of_parts3 (fuel:=8) (laidMet_of_run' 8 (by kernel_rfl) (by kernel_rfl)) (by kernel_rfl) (by kernel_rfl)
end Go.Proofs.YtnknmmbnhoanfaaGreatDoor
namespace Go.Bare
open Go.Lib
structure Par where
 key:Bs
 bare:It
 deriving DecidableEq
structure Itm where
 bare:It
 params:List Par
 deriving DecidableEq
structure Mem where
 key:Bs
 inner:Bool
 items:List Itm
 params:List Par
 deriving DecidableEq
def smlB (c:UInt8):Bool:=(decide (97 ≤ c.toNat) && decide (c.toNat ≤ 122)) || c == 42
def inKey (c:UInt8):Bool:=smlB c || (digB c || [95,45,46].contains c)
def keyB:Bs→Bool
 | []=>false
 | c::r=>smlB c && r.all inKey
def aloneB:List Bs→Bool
 | []=>true
 | k::r=>keyB k && (!r.contains k && aloneB r)
def paramsB (l:List Par):Bool:=aloneB (l.map (·.key)) && l.all fun p=>rightI p.bare
def itemB (x:Itm):Bool:=rightI x.bare && paramsB x.params
def memB (m:Mem):Bool:=(m.inner || (decide (m.items.length=1) && m.params.isEmpty)) && (paramsB m.params && m.items.all itemB)
def rightD (d:List Mem):Bool:=aloneB (d.map (·.key)) && d.all memB
def yesI:It:=⟨6,0,[],true⟩
def textI (b:It):Bs:=(printI b).getD []
def valued (b:It):Bs:=if b=yesI then [] else 61::textI b
def told (l:List Par):Bs:=l.flatMap fun p=>59::(p.key ++ valued p.bare)
def toldI (x:Itm):Bs:=textI x.bare ++ told x.params
def joinW (sep:Bs):List Bs→Bs
 | []=>[]
 | [a]=>a
 | a::b::r=>a ++ (sep ++ joinW sep (b::r))
def noI:Itm:=⟨⟨0,0,[],false⟩,[]⟩
def toldM (m:Mem):Bs :=
 if m.inner then m.key ++ (61::40::(joinW [32] (m.items.map toldI) ++ (41::told m.params)))
 else m.key ++ (valued (m.items.headD noI).bare ++ told (m.items.headD noI).params)
def printD (d:List Mem):Option Bs:=if rightD d then some (joinW [44,32] (d.map toldM)) else none
def setP (l:List Par) (p:Par):List Par:=if (l.map (·.key)).contains p.key then l.map fun q=>if q.key=p.key then p else q else l ++ [p]
def setM (l:List Mem) (p:Mem):List Mem:=if (l.map (·.key)).contains p.key then l.map fun q=>if q.key=p.key then p else q else l ++ [p]
def skipB (some:Bs) (s:Bs):Bs:=s.dropWhile some.contains
def keyOf (s:Bs):Bs:=match s with
 | []=>[]
 | c::r=>if smlB c then c::r.takeWhile inKey else []
def readKey (s:Bs):Option (Bs × Bs):=let k:=keyOf s;if k.isEmpty then none else some (k,s.drop k.length)
theorem readKey_len {s k r:Bs} (h:readKey s=some (k,r)):r.length < s.length:=by
 unfold readKey at h
 cases s with
 | nil=>simp [keyOf] at h
 | cons c l =>
  simp only at h
  split at h
  ·cases h
  ·rename_i hk
   cases h
   have:1 ≤ (keyOf (c::l)).length:=by
    cases hq:keyOf (c::l) with
    | nil=>rw [hq] at hk;exact absurd rfl hk
    | cons a b=>simp
   simp only [List.length_drop,List.length_cons]
   omega
theorem parseI_len {s rest:Bs} {b:It} (h:parseI s=some (b,rest)):rest.length < s.length:=by
 obtain ⟨-,u,hu,h1,-⟩:=may h
 rw [hu]
 simp
 omega
def readVal (s:Bs):Option (It × Bs):=match s with
 | 61::r=>parseI r
 | s=>some (yesI,s)
theorem readVal_len {s rest:Bs} {b:It} (h:readVal s=some (b,rest)):rest.length ≤ s.length:=by
 unfold readVal at h
 split at h
 ·have:=parseI_len h;simp;omega
 ·cases h;exact Nat.le_refl _
theorem drop_len (p:UInt8→Bool):∀ s:Bs,(s.dropWhile p).length ≤ s.length
 | []=>Nat.le_refl _
 | c::r=>by
  rw [List.dropWhile_cons]
  split
  ·have:=drop_len p r;simp;omega
  ·exact Nat.le_refl _
theorem skip_len (l s:Bs):(skipB l s).length ≤ s.length:=drop_len _ s
def readParams (l:List Par) (s:Bs):Option (List Par × Bs) :=
 match s with
 | 59::r =>
  match h1:readKey (skipB [32] r) with
  | none=>none
  | some (k,r1) =>
   match h2:readVal r1 with
   | none=>none
   | some (b,r2)=>readParams (setP l ⟨k,b⟩) r2
 | s=>some (l,s)
termination_by s.length
decreasing_by
 have a1:=readKey_len h1
 have a2:=readVal_len h2
 have a3:=skip_len [32] r
 simp
 omega
def readItem (s:Bs):Option (Itm × Bs):=match parseI s with
 | none=>none
 | some (b,r)=>match readParams [] r with
  | none=>none
  | some (ps,r')=>some (⟨b,ps⟩,r')
theorem readParams_len:∀ (n:Nat) (s:Bs) (l ps:List Par) (r:Bs),s.length ≤ n→readParams l s=some (ps,r)→r.length ≤ s.length:=by
 intro n
 induction n with
 | zero =>
  intro s l ps r hn h
  have:s = []:=List.length_eq_zero_iff.1 (by omega)
  subst this
  rw [readParams] at h
  ·cases h;exact Nat.le_refl _
  ·intro _ h;cases h
 | succ n ih =>
  intro s l ps r hn h
  rw [readParams.eq_def] at h
  split at h
  ·rename_i r0
   split at h
   ·cases h
   ·rename_i k r1 h1
    split at h
    ·cases h
    ·rename_i b r2 h2
     have a1:=readKey_len h1
     have a2:=readVal_len h2
     have a3:=skip_len [32] r0
     simp only [List.length_cons] at hn ⊢
     have:=ih r2 _ ps r (by omega) h
     omega
  ·cases h;exact Nat.le_refl _
theorem readItem_len {s r:Bs} {x:Itm} (h:readItem s=some (x,r)):r.length < s.length:=by
 unfold readItem at h
 split at h
 ·cases h
 ·rename_i b r1 h1
  split at h
  ·cases h
  ·rename_i ps r2 h2
   cases h
   have:=parseI_len h1
   have:=readParams_len r1.length r1 [] ps _ (Nat.le_refl _) h2
   omega
def readInner (items:List Itm) (s:Bs):Option (List Itm × Bs) :=
 match hs:skipB [32] s with
 | 41::r=>some (items,r)
 | s' =>
  match h1:readItem s' with
  | none=>none
  | some (x,r)=>if r.head? = some 41 ∨ r.head? = some 32 then readInner (items ++ [x]) r else none
termination_by s.length
decreasing_by
 have a1:=readItem_len h1
 have a2:=skip_len [32] s
 rw [hs] at a2
 omega
def readRest (k:Bs) (r:Bs):Option (Mem × Bs) :=
  match r with
  | 61::40::r1=>(match readInner [] r1 with
   | none=>none
   | some (items,r2)=>(match readParams [] r2 with
    | none=>none
    | some (ps,r3)=>some (⟨k,true,items,ps⟩,r3)))
  | 61::r1=>(match readItem r1 with
   | none=>none
   | some (x,r2)=>some (⟨k,false,[x],[]⟩,r2))
  | r=>(match readParams [] r with
   | none=>none
   | some (ps,r2)=>some (⟨k,false,[⟨yesI,ps⟩],[]⟩,r2))
def readMem (s:Bs):Option (Mem × Bs) :=
 match readKey s with
 | none=>none
 | some (k,r)=>readRest k r
theorem readInner_len:∀ (n:Nat) (s:Bs) (l ps:List Itm) (r:Bs),s.length ≤ n→readInner l s=some (ps,r)→r.length ≤ s.length:=by
 intro n
 induction n with
 | zero =>
  intro s l ps r hn h
  have:s = []:=List.length_eq_zero_iff.1 (by omega)
  subst this
  rw [readInner.eq_def] at h
  simp [skipB,readItem,parseI] at h
 | succ n ih =>
  intro s l ps r hn h
  have a2:=skip_len [32] s
  rw [readInner.eq_def] at h
  split at h
  ·rename_i r0 hs
   cases h
   rw [hs] at a2
   simp at a2
   omega
  ·split at h
   ·cases h
   ·rename_i x r1 h1
    have a1:=readItem_len h1
    split at h
    ·have:=ih r1 _ ps r (by omega) h
     omega
    ·cases h
theorem readMem_len {s r:Bs} {m:Mem} (h:readMem s=some (m,r)):r.length < s.length:=by
 unfold readMem at h
 split at h
 ·cases h
 ·rename_i k r0 h0
  have a0:=readKey_len h0
  unfold readRest at h
  split at h
  ·rename_i r1
   split at h
   ·cases h
   ·rename_i items r2 h2
    split at h
    ·cases h
    ·rename_i ps r3 h3
     cases h
     have a2:=readInner_len _ _ _ _ _ (Nat.le_refl _) h2
     have a3:=readParams_len _ _ _ _ _ (Nat.le_refl _) h3
     simp only [List.length_cons] at a0
     omega
  ·split at h
   ·cases h
   ·rename_i x r2 h2
    cases h
    have a2:=readItem_len h2
    simp only [List.length_cons] at a0
    omega
  ·split at h
   ·cases h
   ·rename_i ps r2 h2
    cases h
    have a3:=readParams_len _ _ _ _ _ (Nat.le_refl _) h2
    omega
def readD (d:List Mem) (s:Bs):Option (List Mem) :=
 match s with
 | []=>some d
 | c::l =>
  match h1:readMem (c::l) with
  | none=>none
  | some (m,r) =>
   if r.isEmpty then some (setM d m)
   else match h2:skipB [32,9] r with
    | 44::r2=>let r3:=skipB [32,9] r2;if r3.isEmpty then none else readD (setM d m) r3
    | _=>none
termination_by s.length
decreasing_by
 have a1:=readMem_len h1
 have a2:=skip_len [32,9] r
 rw [h2] at a2
 have a3:=skip_len [32,9] r2
 simp only [List.length_cons] at a1 a2 ⊢
 omega
def parseD (s:Bs):Option (List Mem):=readD [] (trimR 32 (skipB [32] s))
def Behind (x:Bs):Prop:=∀ c,x.head? = some c→c=44 ∨ c=59 ∨ c=32 ∨ c=41 ∨ c=40 ∨ c=9
theorem text_back {b:It} (h:rightI b=true) {x:Bs} (hx:Behind x):parseI (textI b ++ x)=some (b,x)∧∃ c r,textI b=c::r:=by
 obtain ⟨t,h1,h2⟩:=back h x hx
 unfold textI
 rw [h1]
 refine ⟨h2,?_⟩
 obtain ⟨t0,h3,h4⟩:=back h [] (fun c hc=>by cases hc)
 rw [h1] at h3
 cases h3
 obtain ⟨-,u,hu,hu1,-⟩:=may h4
 simp only [Option.getD_some]
 cases t with
 | nil=>simp at hu;subst hu;simp at hu1
 | cons c r=>exact ⟨c,r,rfl⟩
theorem skip_none {l s:Bs} (h:∀ c,s.head? = some c→l.contains c=false):skipB l s=s:=by
 unfold skipB
 cases s with
 | nil=>rfl
 | cons c r =>
  rw [List.dropWhile_cons,if_neg]
  rw [h c rfl];decide
theorem readParams_semi (l:List Par) (r:Bs):readParams l (59::r)=(match readKey (skipB [32] r) with
  | none=>none
  | some (k,r1)=>match readVal r1 with
   | none=>none
   | some (b,r2)=>readParams (setP l ⟨k,b⟩) r2):=by
 rw [readParams.eq_def]
 simp only
 split
 ·rename_i h;rw [h]
 ·rename_i k r1 h
  rw [h]
  simp only
  split
  ·rename_i h2;rw [h2]
  ·rename_i b r2 h2;rw [h2]
theorem readParams_end (l:List Par) (s:Bs) (h:s.head? ≠ some 59):readParams l s=some (l,s):=by
 rw [readParams.eq_def]
 split
 ·exact absurd rfl h
 ·rfl
theorem setP_new {l:List Par} {p:Par} (h:p.key ∉ l.map (·.key)):setP l p=l ++ [p]:=by
 unfold setP
 rw [if_neg]
 simpa using h
theorem setM_new {l:List Mem} {p:Mem} (h:p.key ∉ l.map (·.key)):setM l p=l ++ [p]:=by
 unfold setM
 rw [if_neg]
 simpa using h
theorem told_cons (p:Par) (l:List Par):told (p::l)=59::(p.key ++ (valued p.bare ++ told l)):=by
 unfold told
 simp
def BehindP (x:Bs):Prop:=∀ c,x.head? = some c→c=44 ∨ c=32 ∨ c=41 ∨ c=9
theorem BehindP.behind {x:Bs} (h:BehindP x):Behind x:=fun c hc=>by rcases h c hc with rfl | rfl | rfl | rfl <;> decide
theorem readInner_close (l:List Itm) (r:Bs):readInner l (41::r)=some (l,r):=by
 rw [readInner.eq_def]
 have:skipB [32] (41::r)=41::r:=skip_none fun c hc=>by cases hc;decide
 split
 ·rename_i r0 h
  rw [this] at h
  cases h
  rfl
 ·rename_i h
  exact absurd this (h r)
theorem readInner_item {l:List Itm} {s y:Bs} {x:Itm} (hs:∀ r,skipB [32] s ≠ 41::r) (h:readItem (skipB [32] s)=some (x,y)) (hy:y.head? = some 41 ∨ y.head? = some 32) :
  readInner l s=readInner (l ++ [x]) y:=by
 rw [readInner.eq_def]
 split
 ·rename_i r0 h0
  exact absurd h0 (hs r0)
 ·split
  ·rename_i h1;rw [h] at h1;cases h1
  ·rename_i x1 y1 h1
   rw [h] at h1
   cases h1
   rw [if_pos hy]
theorem readInner_blank (l:List Itm) (s:Bs):readInner l (32::s)=readInner l s:=by
 have:skipB [32] (32::s)=skipB [32] s:=rfl
 rw [readInner.eq_def,readInner.eq_def l s,this]
theorem mem_parts {m:Mem} (h:memB m=true):(m.inner=true ∨ (m.items.length=1∧m.params = []))∧aloneB (m.params.map (·.key))=true∧(m.params.all fun p=>rightI p.bare)=true∧m.items.all itemB=true:=by
 unfold memB paramsB at h
 simp only [Bool.and_eq_true,Bool.or_eq_true,decide_eq_true_eq,List.isEmpty_iff] at h
 obtain ⟨h1,⟨h2,h3⟩,h4⟩:=h
 exact ⟨h1,h2,h3,h4⟩
def BehindM (x:Bs):Prop:=∀ c,x.head? = some c→c=44 ∨ c=32 ∨ c=9
theorem BehindM.p {x:Bs} (h:BehindM x):BehindP x:=fun c hc=>by rcases h c hc with rfl | rfl | rfl <;> decide
def LastOk (l:Bs):Prop:=∀ q,l.getLast? = some q→q ≠ 32
theorem LastOk.nil:LastOk []:=fun q h=>by cases h
theorem LastOk.app {a b:Bs} (hb:LastOk b) (ha:b = []→LastOk a):LastOk (a ++ b):=by
 intro q hq
 rw [List.getLast?_append] at hq
 cases hbb:b.getLast? with
 | none =>
  rw [hbb] at hq
  exact ha (List.getLast?_eq_none_iff.1 hbb) q hq
 | some v =>
  rw [hbb] at hq
  cases hq
  exact hb _ hbb
theorem LastOk.cons {c:UInt8} {l:Bs} (hc:c ≠ 32) (h:LastOk l):LastOk (c::l):=by
 rw [← List.singleton_append]
 exact LastOk.app h fun _ q hq=>by cases hq;exact hc
theorem LastOk.all {p:UInt8→Bool} (hp:p 32=false) {l:Bs} (h:l.all p=true):LastOk l:=fun q hq=>by
 have hm:=List.mem_of_getLast? hq
 have:=List.all_eq_true.1 h q hm
 rintro rfl
 rw [hp] at this
 cases this
theorem readRest_item (k:Bs) {c:UInt8} (t:Bs) (h:c ≠ 40):readRest k (61::c::t)=(match readItem (c::t) with
   | none=>none
   | some (x,r2)=>some (⟨k,false,[x],[]⟩,r2)):=by
 unfold readRest
 split
 ·rename_i he;cases he;exact absurd rfl h
 ·rename_i he;cases he;rfl
 ·rename_i he1 he2;exact absurd rfl (he2 _)
theorem readRest_else (k:Bs) {c:UInt8} (t:Bs) (h:c ≠ 61):readRest k (c::t)=(match readParams [] (c::t) with
   | none=>none
   | some (ps,r2)=>some (⟨k,false,[⟨yesI,ps⟩],[]⟩,r2)):=by
 unfold readRest
 split
 ·rename_i he;cases he;exact absurd rfl h
 ·rename_i he;cases he;exact absurd rfl h
 ·rfl
theorem readRest_inner (k t:Bs):readRest k (61::40::t)=(match readInner [] t with
   | none=>none
   | some (items,r2)=>(match readParams [] r2 with
    | none=>none
    | some (ps,r3)=>some (⟨k,true,items,ps⟩,r3))):=rfl
def prioD (u:Int) (i:Bool):List Mem:=(if u=3 then [] else [⟨[117],false,[⟨⟨1,u,[],false⟩,[]⟩],[]⟩]) ++ (if i then [⟨[105],false,[⟨yesI,[]⟩],[]⟩] else [])
end Go.Bare

namespace Go.Bare
abbrev Pr:=Int × Bool
abbrev Wt:=Int × Pr
def pre (K:List Wt) (s:Int):List Wt:=K.takeWhile fun w=>decide (w.1 ≠ s)
def look (K:List Wt) (s:Int):Option Pr:=(K.find? fun w=>decide (w.1=s)).map (·.2)
def Many (K:List Wt) (s:Int) (M:Nat):Prop:=∃ l:List Int,l.Nodup∧M ≤ l.length∧∀ t ∈ l,t ∈ (pre K s).map (·.1)
structure Kept (M:Nat) (last:Int) (waits K:List Wt):Prop where
 look:∀ w ∈ waits,look K w.1=some w.2
 order:waits.Pairwise fun a b=>b.1 ∈ (pre K a.1).map (·.1)
 diff:(waits.map (·.1)).Nodup
 gone:∀ s,last < s→s ∈ K.map (·.1)→s ∉ waits.map (·.1)→Many K s M
 most:waits.length ≤ M
theorem pre_cons {K:List Wt} {t s:Int} {q:Pr} (h:t ≠ s):pre ((t,q)::K) s=(t,q)::pre K s:=by
 unfold pre
 rw [List.takeWhile_cons,if_pos (by simpa using h)]
theorem look_cons {K:List Wt} {t s:Int} {q:Pr} (h:t ≠ s):look ((t,q)::K) s=look K s:=by
 unfold look
 rw [List.find?_cons]
 simp [h]
theorem look_self (K:List Wt) (t:Int) (q:Pr):look ((t,q)::K) t=some q:=by
 unfold look
 simp
theorem Many.cons {K:List Wt} {t s:Int} {q:Pr} {M:Nat} (h:Many K s M) (hne:t ≠ s):Many ((t,q)::K) s M:=by
 obtain ⟨l,h1,h2,h3⟩:=h
 refine ⟨l,h1,h2,fun x hx=>?_⟩
 rw [pre_cons hne,List.map_cons]
 exact List.mem_cons_of_mem _ (h3 x hx)
theorem Kept.start (M:Nat) (last:Int):Kept M last [] [] :=
 ⟨(fun w h=>by cases h),.nil,.nil,(fun s _ h=>by cases h),Nat.zero_le _⟩
def keep (M:Nat) (waits:List Wt) (t:Int) (q:Pr):List Wt:=let l:=waits.filter (fun w=>decide (w.1 ≠ t)) ++ [(t,q)];l.drop (l.length - M)
theorem Kept.keep {M:Nat} {last:Int} {waits K:List Wt} (h:Kept M last waits K) (hM:1 ≤ M) (t:Int) (q:Pr):Kept M last (keep M waits t q) ((t,q)::K):=by
 obtain ⟨f,hf⟩:∃ f,waits.filter (fun w=>decide (w.1 ≠ t))=f:=⟨_,rfl⟩
 have hfm:∀ w ∈ f,w ∈ waits∧w.1 ≠ t:=fun w hw=>by
  rw [← hf] at hw
  have:=List.mem_filter.1 hw
  exact ⟨this.1,by simpa using this.2⟩
 have hsub:f.Sublist waits:=by rw [← hf];exact List.filter_sublist
 have hlen:f.length ≤ M:=Nat.le_trans hsub.length_le h.most
 have hlookL:∀ w ∈ f ++ [(t,q)],Go.Bare.look ((t,q)::K) w.1=some w.2:=by
  intro w hw
  rcases List.mem_append.1 hw with hw | hw
  ·obtain ⟨h1,h2⟩:=hfm w hw
   rw [look_cons (Ne.symm h2)]
   exact h.look w h1
  ·simp at hw
   subst hw
   exact look_self K t q
 have hord:(f ++ [(t,q)]).Pairwise fun a b=>b.1 ∈ (pre ((t,q)::K) a.1).map (·.1):=by
  rw [List.pairwise_append]
  refine ⟨?_,by simp,fun a ha b hb=>?_⟩
  ·refine (h.order.sublist hsub).imp_of_mem fun {a b} ha hb hab=>?_
   rw [pre_cons (Ne.symm (hfm a ha).2),List.map_cons]
   exact List.mem_cons_of_mem _ hab
  ·simp at hb
   subst hb
   rw [pre_cons (Ne.symm (hfm a ha).2),List.map_cons]
   exact List.mem_cons_self ..
 have hdiff:((f ++ [(t,q)]).map (·.1)).Nodup:=by
  rw [List.map_append,List.nodup_append]
  refine ⟨h.diff.sublist (hsub.map _),by simp,fun a ha b hb=>?_⟩
  obtain ⟨w,hw,rfl⟩:=List.mem_map.1 ha
  simp at hb
  subst hb
  exact (hfm w hw).2
 unfold Go.Bare.keep
 rw [hf]
 simp only
 obtain ⟨L,hL⟩:∃ L,f ++ [(t,q)]=L:=⟨_,rfl⟩
 have hLl:L.length=f.length + 1:=by rw [← hL];simp
 rw [hL] at hlookL hord hdiff ⊢
 have hds:(L.drop (L.length - M)).Sublist L:=List.drop_sublist ..
 refine ⟨fun w hw=>hlookL w (hds.subset hw),hord.sublist hds,hdiff.sublist (hds.map _),fun s hs hm hno=>?_,by simp;omega⟩
 by_cases hst:t=s
 ·subst hst
  exfalso
  refine hno (List.mem_map.2 ⟨(t,q),?_,rfl⟩)
  rw [← hL,List.drop_append_of_le_length (by rw [hL];omega)]
  exact List.mem_append_right _ (List.mem_singleton.2 rfl)
 ·have hmK:s ∈ K.map (·.1):=by
   simp only [List.map_cons,List.mem_cons] at hm
   exact hm.resolve_left (Ne.symm hst)
  by_cases hw:s ∈ waits.map (·.1)
  ·obtain ⟨w,hww,rfl⟩:=List.mem_map.1 hw
   have hwf:w ∈ f:=by rw [← hf];exact List.mem_filter.2 ⟨hww,by simpa using Ne.symm hst⟩
   have hwL:w ∈ L:=by rw [← hL];exact List.mem_append_left _ hwf
   -- it is the eldest one
   cases hLc:L with
   | nil=>rw [hLc] at hwL;cases hwL
   | cons a L' =>
    have hgt:L.length=M + 1:=by
     rcases Nat.lt_or_ge M L.length with h1 | h1
     ·omega
     ·exfalso
      rw [show L.length - M=0 by omega,List.drop_zero] at hno
      exact hno (List.mem_map.2 ⟨w,hwL,rfl⟩)
    have hdrop:L.drop (L.length - M)=L':=by rw [hgt,show M + 1 - M=1 by omega,hLc];rfl
    rw [hdrop] at hno
    have hwa:w=a:=by
     rw [hLc] at hwL
     rcases List.mem_cons.1 hwL with e | e
     ·exact e
     ·exact absurd (List.mem_map.2 ⟨w,e,rfl⟩) hno
    subst hwa
    rw [hLc] at hord hdiff hgt
    refine ⟨L'.map (·.1),(List.nodup_cons.1 hdiff).2,by simp at hgt ⊢;omega,fun x hx=>?_⟩
    obtain ⟨b,hb,rfl⟩:=List.mem_map.1 hx
    exact (List.pairwise_cons.1 hord).1 b hb
  ·exact (h.gone s hs hmK hw).cons hst
theorem Kept.opened {M:Nat} {last:Int} {waits K:List Wt} (h:Kept M last waits K) {s:Int} (hs:last < s):Kept M s (waits.filter fun w=>decide (s < w.1)) K:=by
 have hsub:(waits.filter fun w=>decide (s < w.1)).Sublist waits:=List.filter_sublist
 refine ⟨fun w hw=>h.look w (hsub.subset hw),h.order.sublist hsub,h.diff.sublist (hsub.map _),fun x hx hm hno=>?_,Nat.le_trans hsub.length_le h.most⟩
 refine h.gone x (by omega) hm fun hw=>hno ?_
 obtain ⟨w,hww,rfl⟩:=List.mem_map.1 hw
 exact List.mem_map.2 ⟨w,List.mem_filter.2 ⟨hww,by simpa using hx⟩,rfl⟩
end Go.Bare

namespace Go.Bare
open Go.Lib
def memsL (s:Bs):List Mem × Bool :=
 match s with
 | []=>([],false)
 | c::l =>
  match h1:readMem (c::l) with
  | none=>([],true)
  | some (m,r) =>
   if r.isEmpty then ([m],false)
   else match h2:skipB [32,9] r with
    | 44::r2=>let r3:=skipB [32,9] r2;if r3.isEmpty then ([m],true) else (m::(memsL r3).1,(memsL r3).2)
    | _=>([m],true)
termination_by s.length
decreasing_by
 all_goals
  have a1:=readMem_len h1
  have a2:=skip_len [32,9] r
  rw [h2] at a2
  have a3:=skip_len [32,9] r2
  simp only [List.length_cons] at a1 a2 ⊢
  omega
theorem memsL_nil:memsL []=([],false):=by rw [memsL]
theorem memsL_none {s:Bs} (hs:s ≠ []) (h:readMem s=none):memsL s=([],true):=by
 cases s with
 | nil=>exact absurd rfl hs
 | cons c l =>
  rw [memsL]
  split
  ·rfl
  ·rename_i m r h1;rw [h] at h1;cases h1
theorem memsL_last {s:Bs} {m:Mem} (hs:s ≠ []) (h:readMem s=some (m,[])):memsL s=([m],false):=by
 cases s with
 | nil=>exact absurd rfl hs
 | cons c l =>
  rw [memsL]
  split
  ·rename_i h1;rw [h] at h1;cases h1
  ·rename_i m' r h1;rw [h] at h1;cases h1;rfl
theorem memsL_some {s r:Bs} {m:Mem} (hs:s ≠ []) (h:readMem s=some (m,r)) (hr:r ≠ []) :
  memsL s=(match skipB [32,9] r with
   | 44::r2=>if (skipB [32,9] r2).isEmpty then ([m],true) else (m::(memsL (skipB [32,9] r2)).1,(memsL (skipB [32,9] r2)).2)
   | _=>([m],true)):=by
 cases s with
 | nil=>exact absurd rfl hs
 | cons c l =>
  rw [memsL]
  split
  ·rename_i h1;rw [h] at h1;cases h1
  ·rename_i m' r' h1
   rw [h] at h1
   cases h1
   rw [if_neg (by simpa using hr)]
   split
   ·rename_i r2 h2;rw [h2];rfl
   ·rename_i h2
    split
    ·rename_i r2 h3;exact absurd h3 (h2 r2)
    ·rfl
theorem memsL_stop {s r:Bs} {m:Mem} (hs:s ≠ []) (h:readMem s=some (m,r)) (hr:r ≠ []) (hn:(skipB [32,9] r).head? ≠ some 44):memsL s=([m],true):=by
 rw [memsL_some hs h hr]
 split
 ·rename_i r2 h2;rw [h2] at hn;exact absurd rfl hn
 ·rfl
theorem memsL_comma {s r r2:Bs} {m:Mem} (hs:s ≠ []) (h:readMem s=some (m,r)) (h2:skipB [32,9] r=44::r2) :
  memsL s=if (skipB [32,9] r2).isEmpty then ([m],true) else (m::(memsL (skipB [32,9] r2)).1,(memsL (skipB [32,9] r2)).2):=by
 rw [memsL_some hs h (by rintro rfl;cases h2),h2];rfl
theorem readD_mems:∀ (n:Nat) (s:Bs) (d:List Mem),s.length ≤ n→readD d s=if (memsL s).2 then none else some ((memsL s).1.foldl setM d):=by
 intro n
 induction n with
 | zero =>
  intro s d hn
  have:s = []:=List.length_eq_zero_iff.1 (by omega)
  subst this
  rw [memsL_nil,readD]
  rfl
 | succ n ih =>
  intro s d hn
  cases s with
  | nil=>rw [memsL_nil,readD];rfl
  | cons c l =>
   cases h:readMem (c::l) with
   | none =>
    rw [memsL_none (by simp) h,readD]
    split
    ·rfl
    ·rename_i h1;rw [h] at h1;cases h1
   | some y =>
    obtain ⟨m,r⟩:=y
    rw [readD]
    split
    ·rename_i h1;rw [h] at h1;cases h1
    ·rename_i m' r' h1
     rw [h] at h1
     cases h1
     by_cases hr:r = []
     ·subst hr
      rw [memsL_last (by simp) h]
      rfl
     ·rw [if_neg (by simpa using hr),memsL_some (by simp) h hr]
      split
      ·rename_i r2 h2
       simp only
       rw [h2]
       simp only
       have a1:=readMem_len h
       have a2:=skip_len [32,9] r
       rw [h2] at a2
       have a3:=skip_len [32,9] r2
       simp only [List.length_cons] at a1 a2 hn
       by_cases h3:(skipB [32,9] r2).isEmpty
       ·rw [if_pos h3,if_pos h3];rfl
       ·rw [if_neg h3,if_neg h3,ih _ _ (by omega)]
        rfl
      ·rename_i h2
       split
       ·rename_i r2 h3;exact absurd h3 (h2 r2)
       ·rfl
end Go.Bare
namespace Go.Proofs.YtnknmmbnhoanfaaGreatDoor
open Go.RowKit Go.Shelf Go.Cs


def noP:Bare.Par:=⟨[],noIt⟩
def noM:Bare.Mem:=⟨[],false,[],[]⟩
def pcs (p:Bare.Par):List Value:=[.string (tx p.key),.int .u8 p.bare.kind,.int .i64 p.bare.int,.string (tx p.bare.text),.bool p.bare.yes]
def ics (x:Bare.Itm) (pv:Value):List Value:=[.int .u8 x.bare.kind,.int .i64 x.bare.int,.string (tx x.bare.text),.bool x.bare.yes,pv]
def mcs (m:Bare.Mem) (iv pv:Value):List Value:=[.string (tx m.key),.bool m.inner,iv,pv]
def TagAt (W:World) (v:Value) (t:TypeId):Prop:=∀ g,v.ownBlock=some g→∃ cs fr,W.heap[g]? = some (.cells cs t fr)
theorem TagAt.mods {W W':World} {v:Value} {t:TypeId} (h:TagAt W v t) {S:Nat→Prop} (hN:Mods S W W') (hS:∀ g cs fr,S g→W.heap[g]? ≠ some (.cells cs t fr)):TagAt W' v t:=fun g hg=>by
 obtain ⟨cs,fr,hc⟩:=h g hg
 exact ⟨cs,fr,hN.heap hc fun hs=>hS g cs fr hs hc⟩
def RowR (W:World) (v:Value) (n sz:Nat) (f:Nat→List Value):Prop :=
 n ≤ 281474976710656∧∃ ao cap,v = .slice ao n cap∧∀ i,i < n→∃ b o,ao=some ⟨b,o,none⟩∧W.rangeAt b (o + i * sz) (f i)
theorem RowR.kept {W W':World} {v:Value} {n sz:Nat} {f:Nat→List Value} (h:RowR W v n sz f) {S:Nat→Prop} (hN:Mods S W W') (hS:0 < n→∀ g,v.ownBlock=some g→¬ S g):RowR W' v n sz f:=by
 obtain ⟨hl,ao,cap,rfl,hc⟩:=h
 refine ⟨hl,ao,cap,rfl,fun i hi=>?_⟩
 obtain ⟨b,o,rfl,h⟩:=hc i hi
 exact ⟨b,o,rfl,fun j v hv=>hN.cell (h j v hv) (hS (by omega) b rfl)⟩
theorem RowR.new {W W':World} {v:Value} {n sz:Nat} {f:Nat→List Value} (h:RowR W v n sz f) (hN:New W W'):RowR W' v n sz f:=h.kept hN fun _ _ _=>id
theorem RowR.nil (W:World) (ao:Option Addr) (cap sz:Nat) (f:Nat→List Value):RowR W (.slice ao 0 cap) 0 sz f:=⟨by omega,ao,cap,rfl,fun i hi=>by omega⟩
theorem RowR.congr {W:World} {v:Value} {n sz:Nat} {f g:Nat→List Value} (h:RowR W v n sz f) (he:∀ i,i < n→f i=g i):RowR W v n sz g:=by
 obtain ⟨hl,ao,cap,rfl,hc⟩:=h
 exact ⟨hl,ao,cap,rfl,fun i hi=>by rw [← he i hi];exact hc i hi⟩
theorem RowR.slice {W:World} {v:Value} {n sz:Nat} {f:Nat→List Value} (h:RowR W v n sz f):∃ ao cap,v = .slice ao n cap:=by
 obtain ⟨_,ao,cap,e,_⟩:=h
 exact ⟨ao,cap,e⟩
theorem RowR.at {W:World} {ao:Option Addr} {n cap sz m:Nat} {f:Nat→List Value} (h:RowR W (.slice ao n cap) m sz f):m=n∧n ≤ 281474976710656∧∀ k,k < n→∃ b o,ao=some ⟨b,o,none⟩∧W.rangeAt b (o + k * sz) (f k):=by
 obtain ⟨hl,ao',cap',e,h⟩:=h
 cases e
 exact ⟨rfl,hl,h⟩
theorem cells4 {W:World} {b o:Nat} {c0 c1 c2 c3:Value} (h:W.rangeAt b o [c0,c1,c2,c3]):W.cell? ⟨b,o,none⟩=some c0∧W.cell? ⟨b,o + 1,none⟩=some c1∧W.cell? ⟨b,o + 2,none⟩=some c2∧W.cell? ⟨b,o + 3,none⟩=some c3 :=
 ⟨h 0 _ rfl,h 1 _ rfl,h 2 _ rfl,h 3 _ rfl⟩
theorem cells5 {W:World} {b o:Nat} {c0 c1 c2 c3 c4:Value} (h:W.rangeAt b o [c0,c1,c2,c3,c4]):W.cell? ⟨b,o,none⟩=some c0∧W.cell? ⟨b,o + 1,none⟩=some c1∧W.cell? ⟨b,o + 2,none⟩=some c2∧W.cell? ⟨b,o + 3,none⟩=some c3∧W.cell? ⟨b,o + 4,none⟩=some c4 :=
 ⟨h 0 _ rfl,h 1 _ rfl,h 2 _ rfl,h 3 _ rfl,h 4 _ rfl⟩
def RdP (τ:Bool) (W:World) (v:Value) (L:List Bare.Par):Prop:=RowR W v L.length 5 (fun i=>pcs (L.getD i noP))∧(τ = true→TagAt W v 83)
def RdI (τ:Bool) (W:World) (v:Value) (L:List Bare.Itm):Prop :=
 ∃ pv:Nat→Value,RowR W v L.length 5 (fun i=>ics (L.getD i Bare.noI) (pv i))∧(τ = true→TagAt W v 85)∧∀ i,i < L.length→RdP τ W (pv i) (L.getD i Bare.noI).params
def RdD (τ:Bool) (W:World) (v:Value) (d:List Bare.Mem):Prop :=
 ∃ iv pv:Nat→Value,RowR W v d.length 4 (fun i=>mcs (d.getD i noM) (iv i) (pv i))∧(τ = true→TagAt W v 44)∧∀ i,i < d.length→RdI τ W (iv i) (d.getD i noM).items∧RdP τ W (pv i) (d.getD i noM).params
def RdX (τ:Bool) (W:World) (v:Value) (x:Bare.Itm):Prop:=∃ pv,v = .agg (ics x pv).toArray∧RdP τ W pv x.params
def RdM (τ:Bool) (W:World) (v:Value) (m:Bare.Mem):Prop:=∃ iv pv,v = .agg (mcs m iv pv).toArray∧RdI τ W iv m.items∧RdP τ W pv m.params
theorem tag_none {P:Prop}:(false=true→P):=fun h=>by cases h
theorem tag_new {τ:Bool} {W W':World} {v:Value} {t:TypeId} (h:τ = true→TagAt W v t) (hN:New W W'):τ = true→TagAt W' v t:=fun e=>(h e).mods hN fun _ _ _ h=>h.elim
theorem RdP.new {τ:Bool} {W W':World} {v:Value} {L:List Bare.Par} (h:RdP τ W v L) (hN:New W W'):RdP τ W' v L:=⟨h.1.new hN,tag_new h.2 hN⟩
theorem RdI.new {τ:Bool} {W W':World} {v:Value} {L:List Bare.Itm} (h:RdI τ W v L) (hN:New W W'):RdI τ W' v L:=by
 obtain ⟨pv,h1,h2,h3⟩:=h
 exact ⟨pv,h1.new hN,tag_new h2 hN,fun i hi=>(h3 i hi).new hN⟩
theorem RdD.new {τ:Bool} {W W':World} {v:Value} {d:List Bare.Mem} (h:RdD τ W v d) (hN:New W W'):RdD τ W' v d:=by
 obtain ⟨iv,pv,h1,h2,h3⟩:=h
 exact ⟨iv,pv,h1.new hN,tag_new h2 hN,fun i hi=>⟨(h3 i hi).1.new hN,(h3 i hi).2.new hN⟩⟩
theorem RdX.new {τ:Bool} {W W':World} {v:Value} {x:Bare.Itm} (h:RdX τ W v x) (hN:New W W'):RdX τ W' v x:=by
 obtain ⟨pv,e,h⟩:=h
 exact ⟨pv,e,h.new hN⟩
theorem RdM.new {τ:Bool} {W W':World} {v:Value} {m:Bare.Mem} (h:RdM τ W v m) (hN:New W W'):RdM τ W' v m:=by
 obtain ⟨iv,pv,e,h,h'⟩:=h
 exact ⟨iv,pv,e,h.new hN,h'.new hN⟩
def FarI (W:World) (S:Nat→Prop):Prop:=∀ g cs t fr,S g→W.heap[g]? = some (.cells cs t fr)→t ≠ 83∧t ≠ 85
def FarD (W:World) (S:Nat→Prop):Prop:=FarI W S∧∀ g cs t fr,S g→W.heap[g]? = some (.cells cs t fr)→t ≠ 44
theorem row_far {W W':World} {v:Value} {n sz:Nat} {f:Nat→List Value} {t:TypeId} (h:RowR W v n sz f) (ht:TagAt W v t) {S:Nat→Prop} (hN:Mods S W W') (hS:∀ g cs fr,S g→W.heap[g]? ≠ some (.cells cs t fr)):RowR W' v n sz f :=
 h.kept hN fun _ g hg hs=>by
  obtain ⟨cs,fr,hc⟩:=ht g hg
  exact hS g cs fr hs hc
theorem RdP.far {W W':World} {v:Value} {L:List Bare.Par} (h:RdP true W v L) {S:Nat→Prop} (hN:Mods S W W') (hS:FarI W S):RdP true W' v L:=by
 have hS':∀ g cs fr,S g→W.heap[g]? ≠ some (.cells cs 83 fr):=fun g cs fr hs hc=>(hS g cs _ fr hs hc).1 rfl
 exact ⟨row_far h.1 (h.2 rfl) hN hS',fun _=>(h.2 rfl).mods hN hS'⟩
theorem RdI.far {W W':World} {v:Value} {L:List Bare.Itm} (h:RdI true W v L) {S:Nat→Prop} (hN:Mods S W W') (hS:FarI W S):RdI true W' v L:=by
 have hS':∀ g cs fr,S g→W.heap[g]? ≠ some (.cells cs 85 fr):=fun g cs fr hs hc=>(hS g cs _ fr hs hc).2 rfl
 obtain ⟨pv,h1,h2,h3⟩:=h
 exact ⟨pv,row_far h1 (h2 rfl) hN hS',fun _=>(h2 rfl).mods hN hS',fun i hi=>(h3 i hi).far hN hS⟩
theorem RdM.far {W W':World} {v:Value} {m:Bare.Mem} (h:RdM true W v m) {S:Nat→Prop} (hN:Mods S W W') (hS:FarI W S):RdM true W' v m:=by
 obtain ⟨iv,pv,e,h,h'⟩:=h
 exact ⟨iv,pv,e,h.far hN hS,h'.far hN hS⟩
theorem RdD.far {W W':World} {v:Value} {d:List Bare.Mem} (h:RdD true W v d) {S:Nat→Prop} (hN:Mods S W W') (hS:FarD W S):RdD true W' v d:=by
 have hS':∀ g cs fr,S g→W.heap[g]? ≠ some (.cells cs 44 fr):=fun g cs fr hs hc=>hS.2 g cs _ fr hs hc rfl
 obtain ⟨iv,pv,h1,h2,h3⟩:=h
 exact ⟨iv,pv,row_far h1 (h2 rfl) hN hS',fun _=>(h2 rfl).mods hN hS',fun i hi=>⟨(h3 i hi).1.far hN hS.1,(h3 i hi).2.far hN hS.1⟩⟩
theorem RdP.any {τ:Bool} {W:World} {v:Value} {L:List Bare.Par} (h:RdP τ W v L):RdP false W v L:=⟨h.1,tag_none⟩
theorem RdI.any {τ:Bool} {W:World} {v:Value} {L:List Bare.Itm} (h:RdI τ W v L):RdI false W v L:=by
 obtain ⟨pv,h1,h2,h3⟩:=h
 exact ⟨pv,h1,tag_none,fun i hi=>(h3 i hi).any⟩
theorem RdD.any {τ:Bool} {W:World} {v:Value} {d:List Bare.Mem} (h:RdD τ W v d):RdD false W v d:=by
 obtain ⟨iv,pv,h1,h2,h3⟩:=h
 exact ⟨iv,pv,h1,tag_none,fun i hi=>⟨(h3 i hi).1.any,(h3 i hi).2.any⟩⟩
theorem RdP.slice {τ:Bool} {W:World} {v:Value} {L:List Bare.Par} (h:RdP τ W v L):∃ ao cap,v = .slice ao L.length cap:=h.1.slice
theorem RdI.slice {τ:Bool} {W:World} {v:Value} {L:List Bare.Itm} (h:RdI τ W v L):∃ ao cap,v = .slice ao L.length cap:=by
 obtain ⟨pv,h1,_⟩:=h
 exact h1.slice
theorem RdD.slice {τ:Bool} {W:World} {v:Value} {d:List Bare.Mem} (h:RdD τ W v d):∃ ao cap,v = .slice ao d.length cap:=by
 obtain ⟨iv,pv,h1,_⟩:=h
 exact h1.slice
theorem RdP.nil (τ:Bool) (W:World) (cap:Nat):RdP τ W (.slice none 0 cap) []:=⟨.nil _ _ _ _ _,fun _ g hg=>by cases hg⟩
theorem RdI.nil (τ:Bool) (W:World) (cap:Nat):RdI τ W (.slice none 0 cap) []:=⟨fun _=>undef,.nil _ _ _ _ _,(fun _ g hg=>by cases hg),fun i hi=>by simp at hi⟩
theorem RdD.nil (τ:Bool) (W:World) (cap:Nat):RdD τ W (.slice none 0 cap) []:=⟨fun _=>undef,fun _=>undef,.nil _ _ _ _ _,(fun _ g hg=>by cases hg),fun i hi=>by simp at hi⟩
def SmP (p:Bare.Par):Prop:=p.key.length ≤ 100000∧0 ≤ p.bare.kind∧p.bare.text.length ≤ 10000
def SmX (x:Bare.Itm):Prop:=0 ≤ x.bare.kind∧x.bare.text.length ≤ 10000∧x.params.length ≤ 2000000∧∀ p ∈ x.params,SmP p
def SmM (m:Bare.Mem):Prop:=m.key.length ≤ 100000∧m.items.length ≤ 2000000∧m.params.length ≤ 2000000∧(∀ x ∈ m.items,SmX x)∧∀ p ∈ m.params,SmP p
end Go.Proofs.YtnknmmbnhoanfaaGreatDoor
namespace Go.Proofs.YtnknmmbnhoanfaaGreatDoor
open Go.RowKit Go.Shelf Go.Cs
attribute [local go_sem] Oper.semAt_some


theorem len4 {α:Type}:∀ {l:List α},l.length=4→∃ a b c d,l = [a,b,c,d]
 | [a,b,c,d],_=>⟨a,b,c,d,rfl⟩
theorem len5 {α:Type}:∀ {l:List α},l.length=5→∃ a b c d e,l = [a,b,c,d,e]
 | [a,b,c,d,e],_=>⟨a,b,c,d,e,rfl⟩
theorem infoP:(Tryz.prog.info? 83).map (fun i=>(i.zero,i.size,i.bytes))=some (some (.agg #[.string ⟨#[]⟩,.int .u8 0,.int .i64 0,.string ⟨#[]⟩,.bool false]),5,56):=by kernel_rfl
theorem sizeP:(Tryz.prog.info? 83).map (·.size)=some 5:=by kernel_rfl
def OwP (base:Nat) (W:World) (v:Value) (n:Nat) (f:Nat→List Value):Prop:=(∀ i,(f i).length=5)∧(∀ i,i < n→∀ u ∈ f i,u.oneCell'=true)∧W.ownsRow base 83 5 v n (flatF n f)
theorem OwP.nil (base:Nat) (W:World) (f:Nat→List Value) (hf:∀ i,(f i).length=5):OwP base W (.slice none 0 0) 0 f:=⟨hf,(fun i hi=>by omega),World.ownsRow_nil _ _ _ _⟩
theorem OwP.mods {base:Nat} {W W':World} {v:Value} {n:Nat} {f:Nat→List Value} (h:OwP base W v n f) {S:Nat→Prop} (hN:Mods S W W') (hS:∀ g,v.ownBlock=some g→¬ S g):OwP base W' v n f:=⟨h.1,h.2.1,Mods.ownsRow hN h.2.2 hS⟩
theorem OwP.new {base:Nat} {W W':World} {v:Value} {n:Nat} {f:Nat→List Value} (h:OwP base W v n f) (hN:New W W'):OwP base W' v n f:=h.mods hN fun _ _ h=>h
theorem OwP.congr {base:Nat} {W:World} {v:Value} {n:Nat} {f g:Nat→List Value} (h:OwP base W v n f) (hg:∀ i,(g i).length=5) (he:∀ i,i < n→f i=g i):OwP base W v n g :=
 ⟨hg,(fun i hi=>by rw [← he i hi];exact h.2.1 i hi),by rw [← flatF_congr he];exact h.2.2⟩
theorem OwP.slice {base:Nat} {W:World} {v:Value} {n:Nat} {f:Nat→List Value} (h:OwP base W v n f):∃ ao cap,v = .slice ao n cap:=owns_slice h.2.2
theorem OwP.lt {base:Nat} {W:World} {v:Value} {n:Nat} {f:Nat→List Value} (h:OwP base W v n f) {g:Nat} (hg:v.ownBlock=some g):base ≤ g∧g < W.heap.size:=World.ownsRow.lt h.2.2 g hg
theorem OwP.row {base:Nat} {W:World} {v:Value} {n:Nat} {f:Nat→List Value} (h:OwP base W v n f) (hn:n ≤ 281474976710656):RowR W v n 5 f :=
 ⟨hn,rows_ofOwns (by decide) h.1 h.2.2⟩
theorem OwP.tag {base:Nat} {W:World} {v:Value} {n:Nat} {f:Nat→List Value} (h:OwP base W v n f):TagAt W v 83:=fun g hg=>by
 rcases h.2.2.2 with ⟨rfl,_⟩ | ⟨b,cap,cur,rfl,_,hb,_⟩
 ·cases hg
 ·cases hg;exact ⟨_,_,hb⟩
theorem OwP.mono {base base':Nat} {W:World} {v:Value} {n:Nat} {f:Nat→List Value} (h:OwP base W v n f) (hb:base' ≤ base):OwP base' W v n f:=⟨h.1,h.2.1,owns_mono h.2.2 hb⟩
theorem OwP.frozen {base:Nat} {W:World} {v:Value} {n:Nat} {f:Nat→List Value} (h:OwP base W v n f) {g:Nat} (hg:v.ownBlock=some g) (o:Nat):W.frozen? ⟨g,o,none⟩=false:=by
 rcases h.2.2.2 with ⟨rfl,_⟩ | ⟨b,cap,cur,rfl,_,hb,_⟩
 ·cases hg
 ·cases hg;exact frozen_row hb
theorem run_append_P {o:Oper} {a:Act} {w W:World} {s x:Operand} {base:Nat} {v:Value} {n:Nat} {f:Nat→List Value} {c:List Value} (hop:o.op = .call { callee:=.builtin .append,args:=#[s,x],argTypes:=#[42,42] })
  (hs:a.eval s=v) (hx:a.eval x = .slice (some ⟨w.heap.size,0,none⟩) 1 1) (hW:w.alloc (.cells c.toArray 83)=W) (hc:c.length=5) (hone:∀ u ∈ c,u.oneCell'=true) (hown:OwP base w v n f) (hn:n ≤ 2000000) (hbase:base ≤ w.heap.size) :
  ∃ v' W',(execOp a.eval o).run Tryz.prog W = .ok (.value v') W'∧OwP base W' v' (n + 1) (fun i=>if i=n then c else f i)∧∀ (w0:World) (S:Nat→Prop),Mods S w0 w→(∀ g,v.ownBlock=some g→w0.heap.size ≤ g ∨ S g)→Mods S w0 W':=by
 obtain ⟨i0,hi,hz0,hz1,hz2⟩:=info_parts infoP
 have hown':W.ownsRow base 83 5 v n (flatF n f):=by rw [← hW];exact hown.2.2.alloc _
 obtain ⟨v',w',hr,ho,hg,-⟩:=run_append_own (P:=Tryz.prog) W base 42 o.type 83 i0 _ 5 56 Tryz.underlying42 hi hz0 hz1 hz2 rfl (by decide) v n (flatF n f) hown' ⟨w.heap.size,0,none⟩ 1 1 c (by rw [hc]) (fun j u hj=>by
  rw [← hW,add_at,cell_of_row _ _ _ _ _ _ (World.alloc_heap_new w (.cells c.toArray 83))];simpa using hj) hone (by unfold maxLen;omega) (by omega) (by rw [← hW];simp;omega)
 refine ⟨v',w',?_,⟨fun i=>?_,fun i hi=>?_,?_⟩,fun w0 S hN hb=>?_⟩
 ·simp [execOp,hop,resolve,invoke,builtin,hs,hx,hr,Result.andThen]
 ·dsimp only;split
  ·exact hc
  ·exact hown.1 i
 ·dsimp only;split
  ·exact hone
  ·exact hown.2.1 i (by omega)
 ·rw [flatF_succ,if_pos rfl,flatF_congr (g:=f) (fun i hi=>if_neg (by omega))]
  exact ho
 ·rw [← hW] at hg
  exact (hN.alloc _).grown hg (fun g hg=>(hb g hg).imp id fun h=>⟨h,own_cells (hown.2.2.alloc _) hg⟩)
theorem wpList_append_P {ops:Array Oper} {Q:Exit→Act→World→Prop} {rest:List Oper} {o:Oper} {a:Act} {w W:World} (s x:Operand) {base:Nat} {v:Value} {n:Nat} {f:Nat→List Value} {c:List Value} (hgd:o.guard=none) (hop:o.op = .call { callee:=.builtin .append,args:=#[s,x],argTypes:=#[42,42] })
  (hs:a.eval s=v) (hx:a.eval x = .slice (some ⟨w.heap.size,0,none⟩) 1 1) (hW:w.alloc (.cells c.toArray 83)=W) (hc:c.length=5) (hone:∀ u ∈ c,u.oneCell'=true) (hown:OwP base w v n f) (hn:n ≤ 2000000) (hbase:base ≤ w.heap.size)
  (h:∀ v' W',OwP base W' v' (n + 1) (fun i=>if i=n then c else f i)→(∀ (w0:World) (S:Nat→Prop),Mods S w0 w→(∀ g,v.ownBlock=some g→w0.heap.size ≤ g ∨ S g)→Mods S w0 W')→wpList Tryz.prog ops Q rest (a.put o.dst v') W'):wpList Tryz.prog ops Q (o::rest) a W:=by
 refine wpList_plain hgd fun K hK=>?_
 obtain ⟨v',w',hr,ho,hg⟩:=run_append_P hop hs hx hW hc hone hown hn hbase
 unfold Oper.wp
 rw [hr]
 exact hK _ _ (h v' w' ho hg)
theorem OwP.put {base g cap:Nat} {W:World} {n:Nat} {f:Nat→List Value} (h:OwP base W (.slice (some ⟨g,0,none⟩) n cap) n f) {i:Nat} (hi:i < n) (c0 c1 c2 c3 c4:Value) (hone:∀ u ∈ [c0,c1,c2,c3,c4],u.oneCell'=true) :
  OwP base ((((((W.setCell ⟨g,i * 5 + 0,none⟩ c0).setCell ⟨g,i * 5 + 1,none⟩ c1).setCell ⟨g,i * 5 + 2,none⟩ c2).setCell ⟨g,i * 5 + 3,none⟩ c3).setCell ⟨g,i * 5 + 4,none⟩ c4)) (.slice (some ⟨g,0,none⟩) n cap) n (fun k=>if k=i then [c0,c1,c2,c3,c4] else f k):=by
 refine ⟨fun k=>?_,fun k hk=>?_,?_⟩
 ·dsimp only;split
  ·rfl
  ·exact h.1 k
 ·dsimp only;split
  ·exact hone
  ·exact h.2.1 k hk
 ·have s0:=own_set h.1 h.2.2 hi (show 0 < 5 by decide) c0
  have l1:=set_len (f:=_) (i:=i) (r:=0) (u:=c0) h.1
  have s1:=own_set l1 s0 hi (show 1 < 5 by decide) c1
  have l2:=set_len (f:=_) (i:=i) (r:=1) (u:=c1) l1
  have s2:=own_set l2 s1 hi (show 2 < 5 by decide) c2
  have l3:=set_len (f:=_) (i:=i) (r:=2) (u:=c2) l2
  have s3:=own_set l3 s2 hi (show 3 < 5 by decide) c3
  have l4:=set_len (f:=_) (i:=i) (r:=3) (u:=c3) l3
  have s4:=own_set l4 s3 hi (show 4 < 5 by decide) c4
  refine cast (congrArg _ (flatF_congr fun k hk=>?_)) s4
  by_cases e:k=i
  ·subst e
   simp only [if_true]
   obtain ⟨d0,d1,d2,d3,d4,hd⟩:=len5 (h.1 k)
   rw [hd]
   rfl
  ·simp only [if_neg e]
theorem infoX:(Tryz.prog.info? 85).map (fun i=>(i.zero,i.size,i.bytes))=some (some (.agg #[.int .u8 0,.int .i64 0,.string ⟨#[]⟩,.bool false,.slice none 0 0]),5,64):=by kernel_rfl
theorem sizeX:(Tryz.prog.info? 85).map (·.size)=some 5:=by kernel_rfl
def OwX (base:Nat) (W:World) (v:Value) (n:Nat) (f:Nat→List Value):Prop:=(∀ i,(f i).length=5)∧(∀ i,i < n→∀ u ∈ f i,u.oneCell'=true)∧W.ownsRow base 85 5 v n (flatF n f)
theorem OwX.nil (base:Nat) (W:World) (f:Nat→List Value) (hf:∀ i,(f i).length=5):OwX base W (.slice none 0 0) 0 f:=⟨hf,(fun i hi=>by omega),World.ownsRow_nil _ _ _ _⟩
theorem OwX.mods {base:Nat} {W W':World} {v:Value} {n:Nat} {f:Nat→List Value} (h:OwX base W v n f) {S:Nat→Prop} (hN:Mods S W W') (hS:∀ g,v.ownBlock=some g→¬ S g):OwX base W' v n f:=⟨h.1,h.2.1,Mods.ownsRow hN h.2.2 hS⟩
theorem OwX.new {base:Nat} {W W':World} {v:Value} {n:Nat} {f:Nat→List Value} (h:OwX base W v n f) (hN:New W W'):OwX base W' v n f:=h.mods hN fun _ _ h=>h
theorem OwX.congr {base:Nat} {W:World} {v:Value} {n:Nat} {f g:Nat→List Value} (h:OwX base W v n f) (hg:∀ i,(g i).length=5) (he:∀ i,i < n→f i=g i):OwX base W v n g :=
 ⟨hg,(fun i hi=>by rw [← he i hi];exact h.2.1 i hi),by rw [← flatF_congr he];exact h.2.2⟩
theorem OwX.slice {base:Nat} {W:World} {v:Value} {n:Nat} {f:Nat→List Value} (h:OwX base W v n f):∃ ao cap,v = .slice ao n cap:=owns_slice h.2.2
theorem OwX.lt {base:Nat} {W:World} {v:Value} {n:Nat} {f:Nat→List Value} (h:OwX base W v n f) {g:Nat} (hg:v.ownBlock=some g):base ≤ g∧g < W.heap.size:=World.ownsRow.lt h.2.2 g hg
theorem OwX.row {base:Nat} {W:World} {v:Value} {n:Nat} {f:Nat→List Value} (h:OwX base W v n f) (hn:n ≤ 281474976710656):RowR W v n 5 f :=
 ⟨hn,rows_ofOwns (by decide) h.1 h.2.2⟩
theorem OwX.tag {base:Nat} {W:World} {v:Value} {n:Nat} {f:Nat→List Value} (h:OwX base W v n f):TagAt W v 85:=fun g hg=>by
 rcases h.2.2.2 with ⟨rfl,_⟩ | ⟨b,cap,cur,rfl,_,hb,_⟩
 ·cases hg
 ·cases hg;exact ⟨_,_,hb⟩
theorem OwX.mono {base base':Nat} {W:World} {v:Value} {n:Nat} {f:Nat→List Value} (h:OwX base W v n f) (hb:base' ≤ base):OwX base' W v n f:=⟨h.1,h.2.1,owns_mono h.2.2 hb⟩
theorem OwX.frozen {base:Nat} {W:World} {v:Value} {n:Nat} {f:Nat→List Value} (h:OwX base W v n f) {g:Nat} (hg:v.ownBlock=some g) (o:Nat):W.frozen? ⟨g,o,none⟩=false:=by
 rcases h.2.2.2 with ⟨rfl,_⟩ | ⟨b,cap,cur,rfl,_,hb,_⟩
 ·cases hg
 ·cases hg;exact frozen_row hb
theorem run_append_X {o:Oper} {a:Act} {w W:World} {s x:Operand} {base:Nat} {v:Value} {n:Nat} {f:Nat→List Value} {c:List Value} (hop:o.op = .call { callee:=.builtin .append,args:=#[s,x],argTypes:=#[41,41] })
  (hs:a.eval s=v) (hx:a.eval x = .slice (some ⟨w.heap.size,0,none⟩) 1 1) (hW:w.alloc (.cells c.toArray 85)=W) (hc:c.length=5) (hone:∀ u ∈ c,u.oneCell'=true) (hown:OwX base w v n f) (hn:n ≤ 2000000) (hbase:base ≤ w.heap.size) :
  ∃ v' W',(execOp a.eval o).run Tryz.prog W = .ok (.value v') W'∧OwX base W' v' (n + 1) (fun i=>if i=n then c else f i)∧∀ (w0:World) (S:Nat→Prop),Mods S w0 w→(∀ g,v.ownBlock=some g→w0.heap.size ≤ g ∨ S g)→Mods S w0 W':=by
 obtain ⟨i0,hi,hz0,hz1,hz2⟩:=info_parts infoX
 have hown':W.ownsRow base 85 5 v n (flatF n f):=by rw [← hW];exact hown.2.2.alloc _
 obtain ⟨v',w',hr,ho,hg,-⟩:=run_append_own (P:=Tryz.prog) W base 41 o.type 85 i0 _ 5 64 Tryz.underlying41 hi hz0 hz1 hz2 rfl (by decide) v n (flatF n f) hown' ⟨w.heap.size,0,none⟩ 1 1 c (by rw [hc]) (fun j u hj=>by
  rw [← hW,add_at,cell_of_row _ _ _ _ _ _ (World.alloc_heap_new w (.cells c.toArray 85))];simpa using hj) hone (by unfold maxLen;omega) (by omega) (by rw [← hW];simp;omega)
 refine ⟨v',w',?_,⟨fun i=>?_,fun i hi=>?_,?_⟩,fun w0 S hN hb=>?_⟩
 ·simp [execOp,hop,resolve,invoke,builtin,hs,hx,hr,Result.andThen]
 ·dsimp only;split
  ·exact hc
  ·exact hown.1 i
 ·dsimp only;split
  ·exact hone
  ·exact hown.2.1 i (by omega)
 ·rw [flatF_succ,if_pos rfl,flatF_congr (g:=f) (fun i hi=>if_neg (by omega))]
  exact ho
 ·rw [← hW] at hg
  exact (hN.alloc _).grown hg (fun g hg=>(hb g hg).imp id fun h=>⟨h,own_cells (hown.2.2.alloc _) hg⟩)
theorem OwX.put {base g cap:Nat} {W:World} {n:Nat} {f:Nat→List Value} (h:OwX base W (.slice (some ⟨g,0,none⟩) n cap) n f) {i:Nat} (hi:i < n) (c0 c1 c2 c3 c4:Value) (hone:∀ u ∈ [c0,c1,c2,c3,c4],u.oneCell'=true) :
  OwX base ((((((W.setCell ⟨g,i * 5 + 0,none⟩ c0).setCell ⟨g,i * 5 + 1,none⟩ c1).setCell ⟨g,i * 5 + 2,none⟩ c2).setCell ⟨g,i * 5 + 3,none⟩ c3).setCell ⟨g,i * 5 + 4,none⟩ c4)) (.slice (some ⟨g,0,none⟩) n cap) n (fun k=>if k=i then [c0,c1,c2,c3,c4] else f k):=by
 refine ⟨fun k=>?_,fun k hk=>?_,?_⟩
 ·dsimp only;split
  ·rfl
  ·exact h.1 k
 ·dsimp only;split
  ·exact hone
  ·exact h.2.1 k hk
 ·have s0:=own_set h.1 h.2.2 hi (show 0 < 5 by decide) c0
  have l1:=set_len (f:=_) (i:=i) (r:=0) (u:=c0) h.1
  have s1:=own_set l1 s0 hi (show 1 < 5 by decide) c1
  have l2:=set_len (f:=_) (i:=i) (r:=1) (u:=c1) l1
  have s2:=own_set l2 s1 hi (show 2 < 5 by decide) c2
  have l3:=set_len (f:=_) (i:=i) (r:=2) (u:=c2) l2
  have s3:=own_set l3 s2 hi (show 3 < 5 by decide) c3
  have l4:=set_len (f:=_) (i:=i) (r:=3) (u:=c3) l3
  have s4:=own_set l4 s3 hi (show 4 < 5 by decide) c4
  refine cast (congrArg _ (flatF_congr fun k hk=>?_)) s4
  by_cases e:k=i
  ·subst e
   simp only [if_true]
   obtain ⟨d0,d1,d2,d3,d4,hd⟩:=len5 (h.1 k)
   rw [hd]
   rfl
  ·simp only [if_neg e]
theorem infoM:(Tryz.prog.info? 44).map (fun i=>(i.zero,i.size,i.bytes))=some (some (.agg #[.string ⟨#[]⟩,.bool false,.slice none 0 0,.slice none 0 0]),4,72):=by kernel_rfl
theorem sizeM:(Tryz.prog.info? 44).map (·.size)=some 4:=by kernel_rfl
def OwM (base:Nat) (W:World) (v:Value) (n:Nat) (f:Nat→List Value):Prop:=(∀ i,(f i).length=4)∧(∀ i,i < n→∀ u ∈ f i,u.oneCell'=true)∧W.ownsRow base 44 4 v n (flatF n f)
theorem OwM.nil (base:Nat) (W:World) (f:Nat→List Value) (hf:∀ i,(f i).length=4):OwM base W (.slice none 0 0) 0 f:=⟨hf,(fun i hi=>by omega),World.ownsRow_nil _ _ _ _⟩
theorem OwM.mods {base:Nat} {W W':World} {v:Value} {n:Nat} {f:Nat→List Value} (h:OwM base W v n f) {S:Nat→Prop} (hN:Mods S W W') (hS:∀ g,v.ownBlock=some g→¬ S g):OwM base W' v n f:=⟨h.1,h.2.1,Mods.ownsRow hN h.2.2 hS⟩
theorem OwM.new {base:Nat} {W W':World} {v:Value} {n:Nat} {f:Nat→List Value} (h:OwM base W v n f) (hN:New W W'):OwM base W' v n f:=h.mods hN fun _ _ h=>h
theorem OwM.congr {base:Nat} {W:World} {v:Value} {n:Nat} {f g:Nat→List Value} (h:OwM base W v n f) (hg:∀ i,(g i).length=4) (he:∀ i,i < n→f i=g i):OwM base W v n g :=
 ⟨hg,(fun i hi=>by rw [← he i hi];exact h.2.1 i hi),by rw [← flatF_congr he];exact h.2.2⟩
theorem OwM.slice {base:Nat} {W:World} {v:Value} {n:Nat} {f:Nat→List Value} (h:OwM base W v n f):∃ ao cap,v = .slice ao n cap:=owns_slice h.2.2
theorem OwM.lt {base:Nat} {W:World} {v:Value} {n:Nat} {f:Nat→List Value} (h:OwM base W v n f) {g:Nat} (hg:v.ownBlock=some g):base ≤ g∧g < W.heap.size:=World.ownsRow.lt h.2.2 g hg
theorem OwM.row {base:Nat} {W:World} {v:Value} {n:Nat} {f:Nat→List Value} (h:OwM base W v n f) (hn:n ≤ 281474976710656):RowR W v n 4 f :=
 ⟨hn,rows_ofOwns (by decide) h.1 h.2.2⟩
theorem OwM.tag {base:Nat} {W:World} {v:Value} {n:Nat} {f:Nat→List Value} (h:OwM base W v n f):TagAt W v 44:=fun g hg=>by
 rcases h.2.2.2 with ⟨rfl,_⟩ | ⟨b,cap,cur,rfl,_,hb,_⟩
 ·cases hg
 ·cases hg;exact ⟨_,_,hb⟩
theorem OwM.mono {base base':Nat} {W:World} {v:Value} {n:Nat} {f:Nat→List Value} (h:OwM base W v n f) (hb:base' ≤ base):OwM base' W v n f:=⟨h.1,h.2.1,owns_mono h.2.2 hb⟩
theorem OwM.frozen {base:Nat} {W:World} {v:Value} {n:Nat} {f:Nat→List Value} (h:OwM base W v n f) {g:Nat} (hg:v.ownBlock=some g) (o:Nat):W.frozen? ⟨g,o,none⟩=false:=by
 rcases h.2.2.2 with ⟨rfl,_⟩ | ⟨b,cap,cur,rfl,_,hb,_⟩
 ·cases hg
 ·cases hg;exact frozen_row hb
theorem run_append_M {o:Oper} {a:Act} {w W:World} {s x:Operand} {base:Nat} {v:Value} {n:Nat} {f:Nat→List Value} {c:List Value} (hop:o.op = .call { callee:=.builtin .append,args:=#[s,x],argTypes:=#[36,36] })
  (hs:a.eval s=v) (hx:a.eval x = .slice (some ⟨w.heap.size,0,none⟩) 1 1) (hW:w.alloc (.cells c.toArray 44)=W) (hc:c.length=4) (hone:∀ u ∈ c,u.oneCell'=true) (hown:OwM base w v n f) (hn:n ≤ 2000000) (hbase:base ≤ w.heap.size) :
  ∃ v' W',(execOp a.eval o).run Tryz.prog W = .ok (.value v') W'∧OwM base W' v' (n + 1) (fun i=>if i=n then c else f i)∧∀ (w0:World) (S:Nat→Prop),Mods S w0 w→(∀ g,v.ownBlock=some g→w0.heap.size ≤ g ∨ S g)→Mods S w0 W':=by
 obtain ⟨i0,hi,hz0,hz1,hz2⟩:=info_parts infoM
 have hown':W.ownsRow base 44 4 v n (flatF n f):=by rw [← hW];exact hown.2.2.alloc _
 obtain ⟨v',w',hr,ho,hg,-⟩:=run_append_own (P:=Tryz.prog) W base 36 o.type 44 i0 _ 4 72 Tryz.underlying36 hi hz0 hz1 hz2 rfl (by decide) v n (flatF n f) hown' ⟨w.heap.size,0,none⟩ 1 1 c (by rw [hc]) (fun j u hj=>by
  rw [← hW,add_at,cell_of_row _ _ _ _ _ _ (World.alloc_heap_new w (.cells c.toArray 44))];simpa using hj) hone (by unfold maxLen;omega) (by omega) (by rw [← hW];simp;omega)
 refine ⟨v',w',?_,⟨fun i=>?_,fun i hi=>?_,?_⟩,fun w0 S hN hb=>?_⟩
 ·simp [execOp,hop,resolve,invoke,builtin,hs,hx,hr,Result.andThen]
 ·dsimp only;split
  ·exact hc
  ·exact hown.1 i
 ·dsimp only;split
  ·exact hone
  ·exact hown.2.1 i (by omega)
 ·rw [flatF_succ,if_pos rfl,flatF_congr (g:=f) (fun i hi=>if_neg (by omega))]
  exact ho
 ·rw [← hW] at hg
  exact (hN.alloc _).grown hg (fun g hg=>(hb g hg).imp id fun h=>⟨h,own_cells (hown.2.2.alloc _) hg⟩)
theorem OwM.put {base g cap:Nat} {W:World} {n:Nat} {f:Nat→List Value} (h:OwM base W (.slice (some ⟨g,0,none⟩) n cap) n f) {i:Nat} (hi:i < n) (c0 c1 c2 c3:Value) (hone:∀ u ∈ [c0,c1,c2,c3],u.oneCell'=true) :
  OwM base (((((W.setCell ⟨g,i * 4 + 0,none⟩ c0).setCell ⟨g,i * 4 + 1,none⟩ c1).setCell ⟨g,i * 4 + 2,none⟩ c2).setCell ⟨g,i * 4 + 3,none⟩ c3)) (.slice (some ⟨g,0,none⟩) n cap) n (fun k=>if k=i then [c0,c1,c2,c3] else f k):=by
 refine ⟨fun k=>?_,fun k hk=>?_,?_⟩
 ·dsimp only;split
  ·rfl
  ·exact h.1 k
 ·dsimp only;split
  ·exact hone
  ·exact h.2.1 k hk
 ·have s0:=own_set h.1 h.2.2 hi (show 0 < 4 by decide) c0
  have l1:=set_len (f:=_) (i:=i) (r:=0) (u:=c0) h.1
  have s1:=own_set l1 s0 hi (show 1 < 4 by decide) c1
  have l2:=set_len (f:=_) (i:=i) (r:=1) (u:=c1) l1
  have s2:=own_set l2 s1 hi (show 2 < 4 by decide) c2
  have l3:=set_len (f:=_) (i:=i) (r:=2) (u:=c2) l2
  have s3:=own_set l3 s2 hi (show 3 < 4 by decide) c3
  refine cast (congrArg _ (flatF_congr fun k hk=>?_)) s3
  by_cases e:k=i
  ·subst e
   simp only [if_true]
   obtain ⟨d0,d1,d2,d3,hd⟩:=len4 (h.1 k)
   rw [hd]
   rfl
  ·simp only [if_neg e]
end Go.Proofs.YtnknmmbnhoanfaaGreatDoor
namespace Go.Cs
open Go.RowKit
structure KeyLike (P:Program) (k:TypeId) {α:Type} (enc:α→Value):Prop where
 inj:∀ a b,enc a=enc b→a=b
 check:∀ (w:World) (em:Bool) (a:α),(Instr.checkKey em 10000 k (enc a)).run P w = .ok () w
 find:∀ (w:World) (a:α) (es:List MapEntry),(∀ e ∈ es,∃ b,e.key=enc b) →
  ((Instr.findKey k (enc a) es).run P w = .ok none w∧∀ e ∈ es,e.key ≠ enc a) ∨ ∃ j e,(Instr.findKey k (enc a) es).run P w = .ok (some (j,e.val)) w∧es[j]? = some e∧e.key=enc a
 stays:∀ (w:World) (a:α),(Instr.keyThatStays (enc a) (enc a)).run P w = .ok (enc a) w
variable {P:Program} {k:TypeId} {α:Type} {enc:α→Value}
theorem KeyLike.now {d:TypeDesc} (hd:P.underlying k=some d) (hk:∀ a,MapKept.IsKey d (enc a)) (hi:∀ a b,enc a=enc b→a=b):KeyLike P k enc where
 inj:=hi
 check w em a:=MapKept.run_checkKey hd (hk a) em 9999
 find w a es h:=by
  rcases MapKept.findNow_spec (hk a) es 0 (fun e he=>by obtain ⟨b,hb⟩:=h e he;rw [hb];exact hk b) with ⟨h1,h2⟩ | ⟨j,e,h1,h2,h3⟩
  ·exact .inl ⟨MapKept.run_findKey hd h1,h2⟩
  ·exact .inr ⟨j,e,by rw [Nat.zero_add] at h1;exact MapKept.run_findKey hd h1,h2,h3⟩
 stays w a:=MapKept.run_keyThatStays (hk a)
theorem run_findAsking [DecidableEq α] (heq:∀ w a b,(Op.equal k (enc a) (enc b)).run P w = .ok (decide (a=b)) w) (w:World) (a:α):∀ (es:List MapEntry) (i:Nat),(∀ e ∈ es,∃ b,e.key=enc b) →
  ((Instr.findAsking k (enc a) es i).run P w = .ok none w∧∀ e ∈ es,∃ b,e.key=enc b∧b ≠ a) ∨ ∃ j e,(Instr.findAsking k (enc a) es i).run P w = .ok (some (i + j,e.val)) w∧es[j]? = some e∧e.key=enc a
 | [],i,_=>.inl ⟨by simp [Instr.findAsking],fun e he=>by cases he⟩
 | e::es,i,h=>by
  obtain ⟨b,hb⟩:=h e (by simp)
  by_cases hab:a=b
  ·refine .inr ⟨0,e,?_,rfl,by rw [hb,hab]⟩
   simp [Instr.findAsking,hb,heq,hab,Sem.run_bind]
  ·have hd:decide (a=b)=false:=by simpa using hab
   have step:(Instr.findAsking k (enc a) (e::es) i).run P w=(Instr.findAsking k (enc a) es (i + 1)).run P w:=by
    simp [Instr.findAsking,hb,heq,hd,Sem.run_bind]
   rcases run_findAsking heq w a es (i + 1) (fun e he=>h e (by simp [he])) with ⟨h1,h2⟩ | ⟨j,e',h1,h2,h3⟩
   ·refine .inl ⟨by rw [step,h1],fun e' he=>?_⟩
    rcases List.mem_cons.1 he with rfl | he
    ·exact ⟨b,hb,fun e=>hab e.symm⟩
    ·exact h2 e' he
   ·exact .inr ⟨j + 1,e',by rw [step,h1];congr 3;omega,by simpa using h2,h3⟩
theorem KeyLike.asked [DecidableEq α] {d:TypeDesc} (hd:P.underlying k=some d) (hno:∀ a es i,Instr.findNow d (enc a) es i=if es = [] then some none else none) (hi:∀ a b,enc a=enc b→a=b)
  (hc:∀ (w:World) (em:Bool) (a:α),(Instr.checkKey em 10000 k (enc a)).run P w = .ok () w) (heq:∀ w a b,(Op.equal k (enc a) (enc b)).run P w = .ok (decide (a=b)) w) (hs:∀ a,Instr.sameBits 10000 (enc a) (enc a)=true):KeyLike P k enc where
 inj:=hi
 check:=hc
 find w a es h:=by
  cases es with
  | nil=>exact .inl ⟨by simp [Instr.findKey,run_underlying hd,Result.andThen,hno],fun e he=>by cases he⟩
  | cons e es =>
   have step:(Instr.findKey k (enc a) (e::es)).run P w=(Instr.findAsking k (enc a) (e::es)).run P w:=by
    simp [Instr.findKey,run_underlying hd,Result.andThen,hno]
   rw [step]
   rcases run_findAsking heq w a (e::es) 0 h with ⟨h1,h2⟩ | ⟨j,e',h1,h2,h3⟩
   ·refine .inl ⟨h1,fun e' he hk=>?_⟩
    obtain ⟨b,hb,hne⟩:=h2 e' he
    exact hne (hi _ _ (hb.symm.trans hk))
   ·exact .inr ⟨j,e',by rw [h1,Nat.zero_add],h2,h3⟩
 stays w a:=by simp [Instr.keyThatStays,hs]
def MapFn (enc:α→Value) (W:World) (B n:Nat) (f:α→Option Value):Prop :=
 ∃ es c,W.heap[B]? = some (.map es c)∧es.size ≤ n∧(∀ e ∈ es.toList,∃ a,e.key=enc a∧f a=some e.val)∧∀ a v,f a=some v→∃ e ∈ es.toList,e.key=enc a
theorem MapFn.made {W:World} {B c:Nat} (h:W.heap[B]? = some (.map #[] c)):MapFn enc W B 0 (fun _=>none) :=
 ⟨#[],c,h,by simp,fun e he=>by simp at he,fun a v h=>by cases h⟩
theorem MapFn.keep {W W':World} {B n:Nat} {f:α→Option Value} (h:MapFn enc W B n f) (hk:∀ o,W.heap[B]? = some o→W'.heap[B]? = some o):MapFn enc W' B n f:=by
 obtain ⟨es,c,h1,r⟩:=h
 exact ⟨es,c,hk _ h1,r⟩
theorem MapFn.new {W W':World} {B n:Nat} {f:α→Option Value} (h:MapFn enc W B n f) (hN:New W W'):MapFn enc W' B n f:=h.keep fun _ ho=>hN.heap ho id
theorem MapFn.congr {W:World} {B n:Nat} {f g:α→Option Value} (h:MapFn enc W B n f) (hf:∀ a,f a=g a):MapFn enc W B n g:=by
 have e:f=g:=funext hf
 rwa [← e]
theorem MapFn.find (K:KeyLike P k enc) {W:World} {B n:Nat} {f:α→Option Value} (h:MapFn enc W B n f) (a:α) :
  ∃ es c,W.heap[B]? = some (.map es c)∧es.size ≤ n∧∃ r,(Instr.findKey k (enc a) es.toList).run P W = .ok r W∧r.map (·.2)=f a:=by
 obtain ⟨es,c,h1,hn,h2,h3⟩:=h
 refine ⟨es,c,h1,hn,?_⟩
 rcases K.find W a es.toList (fun e he=>by obtain ⟨b,hb,_⟩:=h2 e he;exact ⟨b,hb⟩) with ⟨hf,hne⟩ | ⟨j,e,hf,hj,hk⟩
 ·refine ⟨none,hf,?_⟩
  cases hfa:f a with
  | none=>rfl
  | some v =>
   obtain ⟨e,he,hk⟩:=h3 a v hfa
   exact absurd hk (hne e he)
 ·refine ⟨_,hf,?_⟩
  obtain ⟨b,hb,hv⟩:=h2 e (List.mem_of_getElem? hj)
  rw [K.inj _ _ (hk.symm.trans hb),hv]
  rfl
theorem MapFn.look (K:KeyLike P k enc) {t e:TypeId} (ht:P.underlying t=some (.map k e)) {W:World} {z:Value} (hz:(zeroValue e).run P W = .ok z W) {B n:Nat} {f:α→Option Value} (h:MapFn enc W B n f) (a:α) (ok:Bool) :
  (Instr.lookup t (.map (some B)) (enc a) ok).run P W = .ok (if ok then .tuple #[(f a).getD z,.bool (f a).isSome] else (f a).getD z) W:=by
 obtain ⟨es,c,h1,_,r,hf,hr⟩:=h.find K a
 have hg:=MapKept.run_getObj_map (P:=P) h1
 simp only [Instr.lookup,Sem.run_bind,run_underlying ht W,Result.andThen_ok,hg,Sem.run_pure,K.check,hf]
 rw [← hr]
 cases r with
 | none=>cases ok <;> simp [hz]
 | some p=>cases ok <;> simp
theorem MapFn.put [DecidableEq α] (K:KeyLike P k enc) {t e:TypeId} (ht:P.underlying t=some (.map k e)) {W:World} {B n:Nat} {f:α→Option Value} (h:MapFn enc W B n f) (a:α) (v:Value) (hfa:f a=none) :
  ∃ o,(Instr.mapUpdate t (.map (some B)) (enc a) v).run P W = .ok () (W.putObj B o)∧o.isCells=false∧MapFn enc (W.putObj B o) B (n + 1) (fun b=>if b=a then some v else f b):=by
 obtain ⟨es,c,h1,hn,h2,h3⟩:=h
 have hg:=MapKept.run_getObj_map (P:=P) h1
 have hs:=fun o=>MapKept.run_setObj_map (P:=P) o h1
 have hlt:=(Array.getElem?_eq_some_iff.1 h1).1
 rcases K.find W a es.toList (fun e he=>by obtain ⟨b,hb,_⟩:=h2 e he;exact ⟨b,hb⟩) with ⟨hf,hne⟩ | ⟨j,e',hf,hj,hk⟩
 ·refine ⟨.map (es.push { key:=enc a,val:=v,born:=c }) (c + 1),?_,rfl,es.push { key:=enc a,val:=v,born:=c },c + 1,World.putObj_heap_same hlt,by simp;omega,?_,?_⟩
  ·simp only [Instr.mapUpdate,Sem.run_bind,run_underlying ht W,Result.andThen_ok,hg,K.check,hf,hs]
   rfl
  ·intro x hx
   rw [Array.toList_push,List.mem_append] at hx
   rcases hx with hx | hx
   ·obtain ⟨b,hb,hv⟩:=h2 x hx
    exact ⟨b,hb,(if_neg (fun e=>hne x hx (by rw [hb,e]))).trans hv⟩
   ·rw [List.mem_singleton] at hx
    subst hx
    exact ⟨a,rfl,by simp⟩
  ·intro b u hb
   rw [Array.toList_push]
   by_cases e:b=a
   ·exact ⟨{ key:=enc a,val:=v,born:=c },by simp,by rw [e]⟩
   ·have hb:(if b=a then some v else f b)=some u:=hb
    rw [if_neg e] at hb
    obtain ⟨x,hx,hk⟩:=h3 b u hb
    exact ⟨x,by simp [hx],hk⟩
 ·obtain ⟨b,hb,hv⟩:=h2 e' (List.mem_of_getElem? hj)
  rw [← K.inj _ _ (hk.symm.trans hb),hfa] at hv
  cases hv
end Go.Cs
namespace Go.Proofs.YtnknmmbnhoanfaaGreatDoor
open Go.RowKit Go.Shelf Go.Cs
attribute [local go_sem] Oper.semAt_some


def ItI (b:Bare.It):Prop:=-9223372036854775808 ≤ b.int∧b.int ≤ 9223372036854775807
end Go.Proofs.YtnknmmbnhoanfaaGreatDoor
