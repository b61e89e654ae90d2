/- Texts joined. -/
import Derived.Test.YtkiiameibdhdfaaGreatDoorS18
import Derived.Deep.CutBlock
import Derived.Deep.DeepCutAuto
import Derived.Test.YtkiiameibdhdfaaGreatDoorS10
import Derived.Test.YtkiiameibdhdfaaGreatDoorS14
import Derived.Test.YtkiiameibdhdfaaGreatDoorS13
import Derived.Test.YtkiiameibdhdfaaGreatDoorS12
import Derived.Test.YtkiiameibdhdfaaGreatDoorS04
set_option linter.unusedSimpArgs false
set_option linter.unusedVariables false
set_option maxHeartbeats 16000000
set_option maxRecDepth 100000
namespace Go.Proofs.YtkiiameibdhdfaaGreatDoor
open Go.RowKit Go.Shelf Go.Cs
attribute [local go_sem] Oper.semAt_some


theorem first_r14 (w:World):Calls Tryz.prog 23 #[] w fun e w'=>e = .returned (prV 3 false)∧New w w':=by
 unfold prV
 go_enter Tryz.func23,Tryz.ntmps23
 go_upto_region 1 with fail
 have hA:New w (w.alloc (.cells #[.int .u8 0,.bool false] 31)):=(Mods.refl _ _).alloc _
 have r0:=World.alloc_heap_new w (.cells #[.int .u8 0,.bool false] 31)
 obtain ⟨W,hW⟩:∃ W,w.alloc (.cells #[.int .u8 0,.bool false] 31)=W:=⟨_,rfl⟩
 obtain ⟨R,hR⟩:∃ R,w.heap.size=R:=⟨_,rfl⟩
 have hwR:w.heap.size ≤ R:=by omega
 rw [hW] at hA r0 ⊢
 rw [hR] at r0 ⊢
 clear hW hR
 go_wp2_with (refine op_skip rfl (run_store_row 31 (.tmp 0) (.tmp 1) rfl R rfl 31 [.int .u8 0,.bool false] [.int .u8 3,.bool false] rfl r0 sizePr rfl (by decide)) ?_)
 have hrow:=setRow_heap W R _ #[.int .u8 3,.bool false] _ _ r0
 refine bodyPost_ret (v:=.agg #[.int .u8 3,.bool false]) (results_cell_row rfl _ _ R 31 _ (0,0) _ rfl hrow Tryz.underlying31 rfl sizePr) rfl ?_
 exact ⟨rfl,hA.setRow hwR _⟩
def okU (b:Bare.It) (y:Bool):Bool:=y && decide (b.kind=1) && decide (0 ≤ b.int) && decide (b.int ≤ 7)
def okB (b:Bare.It) (y:Bool):Bool:=y && decide (b.kind=6)
theorem urg_ok (d:List Bare.Mem):Bare.urgOf d=if okU ((Bare.heard d [117]).getD noIt) (Bare.heard d [117]).isSome=true then ((Bare.heard d [117]).getD noIt).int else 3:=by
 unfold Bare.urgOf okU
 cases Bare.heard d [117] with
 | none=>rfl
 | some b=>simp [and_assoc]
theorem inc_ok (d:List Bare.Mem):Bare.incOf d=if okB ((Bare.heard d [105]).getD noIt) (Bare.heard d [105]).isSome=true then ((Bare.heard d [105]).getD noIt).yes else false:=by
 unfold Bare.incOf okB
 cases Bare.heard d [105] with
 | none=>rfl
 | some b =>
  by_cases h:b.kind=6 <;> simp [h]
theorem ba_row (w:World) (k n:Int) (t:ByteArray) (y:Bool):∃ V M,w.alloc (.cells #[.int .u8 k,.int .i64 n,.string t,.bool y] 66)=V∧w.heap.size=M∧V.heap[M]? = some (.cells #[.int .u8 k,.int .i64 n,.string t,.bool y] 66 (0,0))∧New w V:=⟨_,_,rfl,rfl,World.alloc_heap_new _ _,(Mods.refl _ _).alloc _⟩
theorem prq_cells {W:World} {B:Nat} {u:Int} {i:Bool} (hr:W.heap[B]? = some (.cells #[.int .u8 u,.bool i] 31 (0,0))):W.cell? ⟨B,0,none⟩=some (.int .u8 u)∧W.cell? ⟨B,1,none⟩=some (.bool i) :=
 ⟨cell_of_row _ _ 0 _ _ _ hr,cell_of_row _ _ 1 _ _ _ hr⟩
theorem prow (w:World) (u:Int) (i:Bool):∃ V P,w.alloc (.cells #[.int .u8 u,.bool i] 31)=V∧w.heap.size=P∧V.heap[P]? = some (.cells #[.int .u8 u,.bool i] 31 (0,0))∧New w V∧w.heap.size ≤ P:=⟨_,_,rfl,rfl,World.alloc_heap_new _ _,(Mods.refl _ _).alloc _,Nat.le_refl _⟩
theorem of_r14 {τ:Bool} (v:Value) (d:List Bare.Mem) (w:World) (h:RdD τ w v d) (hd:d.length ≤ 1000000) (hf:∀ i,i < d.length→FitO (d.getD i noM)) :
  Calls Tryz.prog 50 #[v] w fun e w'=>e = .returned (prV (Bare.urgOf d) (Bare.incOf d))∧New w w':=by
 have HU:=Lib.hid (fun W (hN:New w W)=>bare_r14 v ⟨#[117]⟩ d W (h.new hN) hd hf)
 have HI:=Lib.hid (fun W (hN:New w W)=>bare_r14 v ⟨#[105]⟩ d W (h.new hN) hd hf)
 rw [show bl ⟨#[117]⟩ = [117] from rfl] at HU
 rw [show bl ⟨#[105]⟩ = [105] from rfl] at HI
 have hu:=urg_ok d
 have hi:=inc_ok d
 unfold heardV at HU HI
 obtain ⟨b,hb⟩:∃ b,(Bare.heard d [117]).getD noIt=b:=⟨_,rfl⟩
 obtain ⟨y,hy⟩:∃ b,(Bare.heard d [117]).isSome=b:=⟨_,rfl⟩
 obtain ⟨c,hc⟩:∃ b,(Bare.heard d [105]).getD noIt=b:=⟨_,rfl⟩
 obtain ⟨z,hz⟩:∃ b,(Bare.heard d [105]).isSome=b:=⟨_,rfl⟩
 rw [hb,hy] at HU hu
 rw [hc,hz] at HI hi
 obtain ⟨uu,huu⟩:∃ b,Bare.urgOf d=b:=⟨_,rfl⟩
 obtain ⟨ii,hii⟩:∃ b,Bare.incOf d=b:=⟨_,rfl⟩
 rw [huu] at hu ⊢
 rw [hii] at hi ⊢
 have Hu:=Lib.hid hu
 have Hi:=Lib.hid hi
 obtain ⟨ao,cap,rfl⟩:∃ ao cap,v = .slice ao d.length cap:=by obtain ⟨_,_,h1,_⟩:=h;exact h1.slice
 obtain ⟨n,hn⟩:∃ n,d.length=n:=⟨_,rfl⟩
 rw [hn] at HU HI ⊢
 obtain ⟨bk,hbk⟩:∃ x,b.kind=x:=⟨_,rfl⟩
 obtain ⟨bn,hbn⟩:∃ x,b.int=x:=⟨_,rfl⟩
 obtain ⟨bt,hbt⟩:∃ x,tx b.text=x:=⟨_,rfl⟩
 obtain ⟨by',hby⟩:∃ x,b.yes=x:=⟨_,rfl⟩
 obtain ⟨ck,hck⟩:∃ x,c.kind=x:=⟨_,rfl⟩
 obtain ⟨cn,hcn⟩:∃ x,c.int=x:=⟨_,rfl⟩
 obtain ⟨ct,hct⟩:∃ x,tx c.text=x:=⟨_,rfl⟩
 obtain ⟨cy,hcy⟩:∃ x,c.yes=x:=⟨_,rfl⟩
 rw [hbk,hbn,hbt,hby] at HU
 rw [hck,hcn,hct,hcy] at HI
 unfold okU at Hu
 unfold okB at Hi
 rw [hbk,hbn] at Hu
 rw [hck,hcy] at Hi
 obtain ⟨c1,hc1⟩:∃ x,(y && decide (bk=1) && decide (0 ≤ bn) && decide (bn ≤ 7))=x:=⟨_,rfl⟩
 obtain ⟨c2,hc2⟩:∃ x,(z && decide (ck=6))=x:=⟨_,rfl⟩
 rw [hc1] at Hu
 rw [hc2] at Hi
 have HC1:=Lib.hid hc1
 have HC2:=Lib.hid hc2
 clear h hf hd hu hi hb hy hc hz huu hii hn hbk hbn hbt hby hck hcn hct hcy hc1 hc2
 unfold prV
 go_enter Tryz.func50,Tryz.ntmps50
 go_upto_region 1 with fail
 obtain ⟨w1,P,hW1,hP,rP,hN1,hwP⟩:=prow w 0 false
 rw [hW1,hP]
 clear hW1 hP
 go_upto_region 2 with (go_at_call 23;refine (first_r14 _).mono ?_;rintro e w2 ⟨rfl,hN2⟩;unfold prV)
 obtain ⟨w3,Q,hW3,hQ,rQ,hN3,hwQ⟩:=prow w2 3 false
 rw [hW3,hQ]
 have hPl:=(Array.getElem?_eq_some_iff.1 rP).1
 have hPQ:¬ P=Q:=by have:=hN2.size;omega
 have hwQ':w.heap.size ≤ Q:=by have:=hN2.size;have:=hN1.size;omega
 have hN:=(hN1.trans hN2).trans hN3
 replace rP:=(hN2.trans hN3).heap rP id
 clear hW3 hQ hN1 hN2 hN3 hPl hwQ
 go_upto_region 3 with (go_at_call 92;refine (HU.out _ hN).mono ?_;rintro e w4 ⟨rfl,hk⟩)
 obtain ⟨w5,U,hW5,hU,rU,hk5⟩:=ba_row w4 bk bn bt by'
 rw [hW5,hU]
 have hkk:=hk.trans hk5
 replace hN:=hN.trans hkk
 replace rP:=hkk.heap rP id
 replace rQ:=hkk.heap rQ id
 clear hW5 hU hk hk5 hkk HU
 obtain ⟨u0,u1⟩:w5.cell? ⟨U,0,none⟩=some (.int .u8 bk)∧w5.cell? ⟨U,1,none⟩=some (.int .i64 bn):=⟨cell_of_row _ _ 0 _ _ _ rU,cell_of_row _ _ 1 _ _ _ rU⟩
 go_cut [29] from 14 (fun s29 wx=>s29 = .bool c1∧New w5 wx)
 case first =>
  cases y with
  | false =>
   have hh:c1=false:=by rw [← HC1.out];rfl
   subst hh
   go_wp2_with fail
   go_meet
   exact ⟨rfl,Mods.refl _ _⟩
  | true =>
   by_cases h1:bk=1
   ·have e1:(bk == 1)=true:=by rw [beq_iff_eq];exact h1
    by_cases h2:0 ≤ bn
    ·have e2:decide (0 ≤ bn)=true:=decide_eq_true h2
     by_cases h3:bn ≤ 7
     ·have e3:decide (bn ≤ 7)=true:=decide_eq_true h3
      have hh:c1=true:=by rw [← HC1.out,decide_eq_true h1,e2,e3];rfl
      subst hh
      clear h1
      go_wp2_with fail
      go_meet
      exact ⟨rfl,Mods.refl _ _⟩
     ·have e3:decide (bn ≤ 7)=false:=decide_eq_false h3
      have hh:c1=false:=by rw [← HC1.out,e3];simp
      subst hh
      clear h1
      go_wp2_with fail
      go_meet
      exact ⟨rfl,Mods.refl _ _⟩
    ·have e2:decide (0 ≤ bn)=false:=decide_eq_false h2
     have hh:c1=false:=by rw [← HC1.out,e2];simp
     subst hh
     clear h1
     go_wp2_with fail
     go_meet
     exact ⟨rfl,Mods.refl _ _⟩
   ·have e1:(bk == 1)=false:=by rw [beq_eq_false_iff_ne];exact h1
    have hh:c1=false:=by rw [← HC1.out,decide_eq_false h1];simp
    subst hh
    go_wp2_with fail
    go_meet
    exact ⟨rfl,Mods.refl _ _⟩
 case rest =>
  obtain ⟨rfl,hk⟩:=hcut
  clear u0 u1
  replace hN:=hN.trans hk
  replace rP:=hk.heap rP id
  replace rQ:=hk.heap rQ id
  replace rU:=hk.heap rU id
  clear hk
  cases c1 with
  | true =>
   have hc:=HC1.out
   simp only [Bool.and_eq_true,decide_eq_true_eq] at hc
   have hn0:0 ≤ bn:=hc.1.2
   have hn7:bn ≤ 7:=hc.2
   have huv:uu=bn:=by rw [Hu.out];rfl
   have u1:=cell_of_row _ _ 1 _ _ _ rU
   simp only [gS] at u1
   have q0:=cell_of_row _ _ 0 _ _ _ rQ
   simp only [gS] at q0
   have f0:=frozen_row (i:=0) rQ
   have hwr:IntKind.u8.wrap bn=bn:=IntWalk.u8_in _ ⟨by omega,by omega⟩
   have hHuv:=Lib.hid huv
   clear hc huv
   go_upto_region 5 with fail
   have hm:=setMods wc Q 0 (.int .u8 bn)
   have rQ2:=setCell_heap (i:=0) rQ (.int .u8 bn)
   simp only [pS] at rQ2
   have rP2:=hm.heap rP hPQ
   obtain ⟨wz,hwz⟩:∃ V,wc.setCell ⟨Q,0,none⟩ (.int .u8 bn)=V:=⟨_,rfl⟩
   rw [hwz] at hm rQ2 rP2 ⊢
   replace hN:New w wz:=((Mods.ofNew hN).trans hm).new (fun g hg=>by omega)
   replace rQ:=rQ2
   replace rP:=rP2
   clear hwz q0 f0 u1 hm rQ2 rP2 rU hwr
   have huv:=Lib.hid hHuv.out
   go_upto_region 6 with (go_at_call 92;refine (HI.out _ hN).mono ?_;rintro e w8 ⟨rfl,hk⟩)
   obtain ⟨w9,X,hW9,hX,rX,hk9⟩:=ba_row w8 ck cn ct cy
   rw [hW9,hX]
   have hkk:=hk.trans hk9
   replace hN:=hN.trans hkk
   replace rP:=hkk.heap rP id
   replace rQ:=hkk.heap rQ id
   clear hW9 hX hk hk9 hkk HI
   obtain ⟨x0,x3⟩:w9.cell? ⟨X,0,none⟩=some (.int .u8 ck)∧w9.cell? ⟨X,3,none⟩=some (.bool cy):=⟨cell_of_row _ _ 0 _ _ _ rX,cell_of_row _ _ 3 _ _ _ rX⟩
   go_cut [44] from 39 (fun s44 wx=>s44 = .bool c2∧New w9 wx)
   case first =>
    cases z with
    | false =>
     have hh:c2=false:=by rw [← HC2.out];rfl
     subst hh
     go_wp2_with fail
     go_meet
     exact ⟨rfl,Mods.refl _ _⟩
    | true =>
     by_cases h1:ck=6
     ·have e1:(ck == 6)=true:=by rw [beq_iff_eq];exact h1
      have hh:c2=true:=by rw [← HC2.out,decide_eq_true h1];rfl
      subst hh
      clear h1
      go_wp2_with fail
      go_meet
      exact ⟨rfl,Mods.refl _ _⟩
     ·have e1:(ck == 6)=false:=by rw [beq_eq_false_iff_ne];exact h1
      have hh:c2=false:=by rw [← HC2.out,decide_eq_false h1];rfl
      subst hh
      clear h1
      go_wp2_with fail
      go_meet
      exact ⟨rfl,Mods.refl _ _⟩
   case rest =>
    obtain ⟨rfl,hk⟩:=hcut
    clear x0 x3
    replace hN:=hN.trans hk
    replace rP:=hk.heap rP id
    replace rQ:=hk.heap rQ id
    replace rX:=hk.heap rX id
    have x3:=cell_of_row _ _ 3 _ _ _ rX
    simp only [gS] at x3
    clear hk
    cases c2 with
    | true =>
     have q1:=cell_of_row _ _ 1 _ _ _ rQ
     simp only [gS] at q1
     have f1:=frozen_row (i:=1) rQ
     have hii:ii=cy:=by rw [Hi.out];rfl
     go_upto_region 8 with fail
     have hm:=setMods wc Q 1 (.bool cy)
     have rQ2:=setCell_heap (i:=1) rQ (.bool cy)
     simp only [pS] at rQ2
     have rP2:=hm.heap rP hPQ
     obtain ⟨wz,hwz⟩:∃ V,wc.setCell ⟨Q,1,none⟩ (.bool cy)=V:=⟨_,rfl⟩
     rw [hwz] at hm rQ2 rP2 ⊢
     have hN2:New w wz:=((Mods.ofNew hN).trans hm).new (fun g hg=>by omega)
     clear hwz q1 f1 x3 hm
     obtain ⟨q0,q1⟩:=prq_cells rQ2
     go_wp2_with (refine op_skip rfl (run_store_row 31 (.tmp 2) (.tmp 48) rfl P rfl 31 [.int .u8 0,.bool false] [.int .u8 bn,.bool cy] rfl rP2 sizePr rfl (by simp [Value.oneCell'])) ?_)
     have hrow:=setRow_heap wz P _ #[.int .u8 bn,.bool cy] _ _ rP2
     refine bodyPost_ret (v:=.agg #[.int .u8 bn,.bool cy]) (results_cell_row rfl _ _ P 31 _ (0,0) _ rfl hrow Tryz.underlying31 rfl sizePr) rfl ?_
     exact ⟨by first | rw [hii,huv.out] | rw [huv.out],hN2.setRow hwP _⟩
    | false =>
     have hii:ii=false:=by rw [Hi.out];rfl
     clear x3
     obtain ⟨q0,q1⟩:=prq_cells rQ
     go_wp2_with (refine op_skip rfl (run_store_row 31 (.tmp 2) (.tmp 48) rfl P rfl 31 [.int .u8 0,.bool false] [.int .u8 bn,.bool false] rfl rP sizePr rfl (by simp [Value.oneCell'])) ?_)
     have hrow:=setRow_heap wc P _ #[.int .u8 bn,.bool false] _ _ rP
     refine bodyPost_ret (v:=.agg #[.int .u8 bn,.bool false]) (results_cell_row rfl _ _ P 31 _ (0,0) _ rfl hrow Tryz.underlying31 rfl sizePr) rfl ?_
     exact ⟨by first | rw [hii,huv.out] | rw [huv.out],hN.setRow hwP _⟩
  | false =>
   have huv:Hid (uu=3):=Lib.hid (by rw [Hu.out];rfl)
   go_upto_region 6 with (go_at_call 92;refine (HI.out _ hN).mono ?_;rintro e w8 ⟨rfl,hk⟩)
   obtain ⟨w9,X,hW9,hX,rX,hk9⟩:=ba_row w8 ck cn ct cy
   rw [hW9,hX]
   have hkk:=hk.trans hk9
   replace hN:=hN.trans hkk
   replace rP:=hkk.heap rP id
   replace rQ:=hkk.heap rQ id
   clear hW9 hX hk hk9 hkk HI
   obtain ⟨x0,x3⟩:w9.cell? ⟨X,0,none⟩=some (.int .u8 ck)∧w9.cell? ⟨X,3,none⟩=some (.bool cy):=⟨cell_of_row _ _ 0 _ _ _ rX,cell_of_row _ _ 3 _ _ _ rX⟩
   go_cut [44] from 39 (fun s44 wx=>s44 = .bool c2∧New w9 wx)
   case first =>
    cases z with
    | false =>
     have hh:c2=false:=by rw [← HC2.out];rfl
     subst hh
     go_wp2_with fail
     go_meet
     exact ⟨rfl,Mods.refl _ _⟩
    | true =>
     by_cases h1:ck=6
     ·have e1:(ck == 6)=true:=by rw [beq_iff_eq];exact h1
      have hh:c2=true:=by rw [← HC2.out,decide_eq_true h1];rfl
      subst hh
      clear h1
      go_wp2_with fail
      go_meet
      exact ⟨rfl,Mods.refl _ _⟩
     ·have e1:(ck == 6)=false:=by rw [beq_eq_false_iff_ne];exact h1
      have hh:c2=false:=by rw [← HC2.out,decide_eq_false h1];rfl
      subst hh
      clear h1
      go_wp2_with fail
      go_meet
      exact ⟨rfl,Mods.refl _ _⟩
   case rest =>
    obtain ⟨rfl,hk⟩:=hcut
    clear x0 x3
    replace hN:=hN.trans hk
    replace rP:=hk.heap rP id
    replace rQ:=hk.heap rQ id
    replace rX:=hk.heap rX id
    have x3:=cell_of_row _ _ 3 _ _ _ rX
    simp only [gS] at x3
    clear hk
    cases c2 with
    | true =>
     have q1:=cell_of_row _ _ 1 _ _ _ rQ
     simp only [gS] at q1
     have f1:=frozen_row (i:=1) rQ
     have hii:ii=cy:=by rw [Hi.out];rfl
     go_upto_region 8 with fail
     have hm:=setMods wc Q 1 (.bool cy)
     have rQ2:=setCell_heap (i:=1) rQ (.bool cy)
     simp only [pS] at rQ2
     have rP2:=hm.heap rP hPQ
     obtain ⟨wz,hwz⟩:∃ V,wc.setCell ⟨Q,1,none⟩ (.bool cy)=V:=⟨_,rfl⟩
     rw [hwz] at hm rQ2 rP2 ⊢
     have hN2:New w wz:=((Mods.ofNew hN).trans hm).new (fun g hg=>by omega)
     clear hwz q1 f1 x3 hm
     obtain ⟨q0,q1⟩:=prq_cells rQ2
     go_wp2_with (refine op_skip rfl (run_store_row 31 (.tmp 2) (.tmp 48) rfl P rfl 31 [.int .u8 0,.bool false] [.int .u8 3,.bool cy] rfl rP2 sizePr rfl (by simp [Value.oneCell'])) ?_)
     have hrow:=setRow_heap wz P _ #[.int .u8 3,.bool cy] _ _ rP2
     refine bodyPost_ret (v:=.agg #[.int .u8 3,.bool cy]) (results_cell_row rfl _ _ P 31 _ (0,0) _ rfl hrow Tryz.underlying31 rfl sizePr) rfl ?_
     exact ⟨by first | rw [hii,huv.out] | rw [huv.out],hN2.setRow hwP _⟩
    | false =>
     have hii:ii=false:=by rw [Hi.out];rfl
     clear x3
     obtain ⟨q0,q1⟩:=prq_cells rQ
     go_wp2_with (refine op_skip rfl (run_store_row 31 (.tmp 2) (.tmp 48) rfl P rfl 31 [.int .u8 0,.bool false] [.int .u8 3,.bool false] rfl rP sizePr rfl (by simp [Value.oneCell'])) ?_)
     have hrow:=setRow_heap wc P _ #[.int .u8 3,.bool false] _ _ rP
     refine bodyPost_ret (v:=.agg #[.int .u8 3,.bool false]) (results_cell_row rfl _ _ P 31 _ (0,0) _ rfl hrow Tryz.underlying31 rfl sizePr) rfl ?_
     exact ⟨by first | rw [hii,huv.out] | rw [huv.out],hN.setRow hwP _⟩


theorem fitO_of_sz {d:List Bare.Mem} (h:SzD 1000000 d):∀ i,i < d.length→FitO (d.getD i noM):=fun i hi=>by
 obtain ⟨-,h2,h3,h4⟩:=h.2 (d.getD i noM) (getD_mem (d:=noM) hi)
 refine ⟨by omega,by have:=h3.1;omega,fun j hj=>?_⟩
 have:=(h4 _ (getD_mem (d:=Bare.noI) hj)).2.1
 omega
theorem read_r14 (s:ByteArray) (w:World) (hs:s.size ≤ 1000000) :
  Calls Tryz.prog 16 #[.string s] w fun e w'=>(e=match Bare.parseD (bl s) with
   | some d=>.returned (.tuple #[prV (Bare.urgOf d) (Bare.incOf d),.bool true])
   | none=>.returned (.tuple #[prV 3 false,.bool false]))∧New w w':=by
 have hN0:New w (w.alloc (.cells #[.int .u8 0,.bool false] 31)):=(Mods.refl _ _).alloc _
 have r0:=World.alloc_heap_new w (.cells #[.int .u8 0,.bool false] 31)
 have H1:=Lib.hid (fun W (hN:New w W)=>parse_r13 s W hs)
 have hsz:(bl s).length=s.size:=bl_len s
 obtain ⟨E,hE⟩:∃ E:Ending,(match Bare.parseD (bl s) with
   | some d=>.returned (.tuple #[prV (Bare.urgOf d) (Bare.incOf d),.bool true])
   | none=>.returned (.tuple #[prV 3 false,.bool false]))=E:=⟨_,rfl⟩
 rw [hE]
 have HE:=Lib.hid hE
 clear hE
 go_enter Tryz.func16,Tryz.ntmps16
 go_upto_region 1 with fail
 obtain ⟨w1,hw1⟩:∃ W,w.alloc (.cells #[.int .u8 0,.bool false] 31)=W:=⟨_,rfl⟩
 obtain ⟨R,hR⟩:∃ b,w.heap.size=b:=⟨_,rfl⟩
 have hwR:w.heap.size ≤ R:=by omega
 rw [hw1] at hN0 r0 ⊢
 rw [hR] at r0 ⊢
 clear hw1 hR
 cases hp:Bare.parseD (bl s) with
 | none =>
  have H1:=Lib.hid (fun W (hN:New w W)=>(H1.out W hN).mono (R':=fun e w'=>e = .returned (.tuple #[.slice none 0 0,.int .i64 130])∧New W w') (by
   rintro e w' ⟨v,z,rfl,hN',h⟩
   rw [hp] at h
   obtain ⟨rfl,rfl⟩:=h
   exact ⟨rfl,hN'⟩))
  have HE':Hid (E = .returned (.tuple #[prV 3 false,.bool false])):=Lib.hid (by have:=HE.out;rw [hp] at this;exact this.symm)
  clear hp
  go_wp2_with fail
  refine (H1.out _ hN0).mono ?_
  rintro e w2 ⟨rfl,hN2⟩
  replace hN0:=hN0.trans hN2
  replace r0:=hN2.heap r0 id
  go_wp2_with fail
  refine (first_r14 _).mono ?_
  rintro e w3 ⟨rfl,hN3⟩
  unfold prV
  replace hN0:=hN0.trans hN3
  replace r0:=hN3.heap r0 id
  go_wp2_with (refine op_skip rfl (run_store_row 31 (.tmp 2) (.tmp 13) rfl R rfl 31 [.int .u8 0,.bool false] [.int .u8 3,.bool false] rfl r0 sizePr rfl (by decide)) ?_)
  have hrow:=setRow_heap w3 R _ #[.int .u8 3,.bool false] _ _ r0
  refine bodyPost_ret (v:=.tuple #[.agg #[.int .u8 3,.bool false],.bool false]) (results_row2 rfl _ _ R 31 _ (0,0) _ rfl hrow Tryz.underlying31 rfl sizePr rfl) rfl ?_
  exact ⟨HE'.out.symm,hN0.setRow hwR _⟩
 | some d =>
  have hbl:(bl s).length ≤ 1000000:=by omega
  have hsd:=parse_sz (by decide) hbl hp
  have H1:=Lib.hid (fun W (hN:New w W)=>(H1.out W hN).mono (R':=fun e w'=>∃ v,e = .returned (.tuple #[v,.int .i64 0])∧RdD true w' v d∧New W w') (by
   rintro e w' ⟨v,z,rfl,hN',h⟩
   rw [hp] at h
   obtain ⟨rfl,h,-⟩:=h
   exact ⟨v,rfl,h,hN'⟩))
  have HO:=Lib.hid (fun v W (h:RdD true W v d)=>of_r14 v d W h (by have:=hsd.1;omega) (fitO_of_sz hsd))
  have HE':Hid (E = .returned (.tuple #[prV (Bare.urgOf d) (Bare.incOf d),.bool true])):=Lib.hid (by have:=HE.out;rw [hp] at this;exact this.symm)
  clear hp hsd
  obtain ⟨u,hu⟩:∃ u,Bare.urgOf d=u:=⟨_,rfl⟩
  obtain ⟨i,hi'⟩:∃ u,Bare.incOf d=u:=⟨_,rfl⟩
  rw [hu,hi'] at HO
  rw [hu,hi'] at HE'
  clear hu hi'
  go_wp2_with fail
  refine (H1.out _ hN0).mono ?_
  rintro e w2 ⟨v,rfl,hv,hN2⟩
  replace hN0:=hN0.trans hN2
  replace r0:=hN2.heap r0 id
  go_wp2_with fail
  refine (HO.out v _ hv).mono ?_
  rintro e w3 ⟨rfl,hN3⟩
  unfold prV
  replace hN0:=hN0.trans hN3
  replace r0:=hN3.heap r0 id
  go_wp2_with (refine op_skip rfl (run_store_row 31 (.tmp 2) (.tmp 15) rfl R rfl 31 [.int .u8 0,.bool false] [.int .u8 u,.bool i] rfl r0 sizePr rfl (by simp [Value.oneCell'])) ?_)
  have hrow:=setRow_heap w3 R _ #[.int .u8 u,.bool i] _ _ r0
  refine bodyPost_ret (v:=.tuple #[.agg #[.int .u8 u,.bool i],.bool true]) (results_row2 rfl _ _ R 31 _ (0,0) _ rfl hrow Tryz.underlying31 rfl sizePr rfl) rfl ?_
  exact ⟨HE'.out.symm,hN0.setRow hwR _⟩


theorem read_pr14 (T:ByteArray) (w:World) (hs:T.size ≤ 1000000) :
  Calls Tryz.prog 16 #[.string T] w fun e w'=>e = .returned (.tuple #[.agg #[.int .u8 ((readP T).getD (3,false)).1,.bool ((readP T).getD (3,false)).2],.bool (readP T).isSome])∧New w w' :=
 (read_r14 T w hs).mono fun e w' ⟨he,hN⟩=>by
  refine ⟨?_,hN⟩
  rw [he]
  unfold readP prV
  cases Bare.parseD (bl T) with
  | none=>rfl
  | some d =>
   have:=(urg_bounds d).1
   simp only [Option.map_some,Option.getD_some,Option.isSome_some]
   rw [Int.toNat_of_nonneg this]
end Go.Proofs.YtkiiameibdhdfaaGreatDoor
namespace Go.Proofs.YtkiiameibdhdfaaGreatDoor
open Go.RowKit Go.Shelf Go.Cs


def wt (x:WP):Bare.Wt:=(x.s,((x.u:Int),x.i))
def dueL (own q:Nat × Bool) (s:Int):List WP→List Int→Bool
 | [],_=>decide (q=own)
 | x::K,seen=>if x.s=s then decide (q=(x.u,x.i)) || (decide (4 ≤ seen.length) && decide (q=own)) else dueL own q s K (if x.s ∈ seen then seen else seen ++ [x.s])
theorem due_none {own:Nat × Bool} {s:Int}:∀ {K:List WP} {seen:List Int},(∀ x ∈ K,x.s ≠ s)→dueL own own s K seen=true
 | [],_,_=>by simp [dueL]
 | x::K,seen,h=>by
  rw [dueL,if_neg (h x (List.mem_cons_self ..))]
  exact due_none fun y hy=>h y (List.mem_cons_of_mem _ hy)
theorem due_look {own:Nat × Bool} {s:Int} {y:WP}:∀ {K:List WP} {seen:List Int},(K.find? fun x=>decide (x.s=s))=some y→dueL own (y.u,y.i) s K seen=true
 | [],_,h=>by cases h
 | x::K,seen,h=>by
  rw [dueL]
  by_cases e:x.s=s
  ·rw [List.find?_cons_of_pos (by simpa using e)] at h
   cases h
   rw [if_pos e]
   simp
  ·rw [List.find?_cons_of_neg (by simpa using e)] at h
   rw [if_neg e]
   exact due_look h
theorem len_sub:∀ {l m:List Int},l.Nodup→(∀ t ∈ l,t ∈ m)→l.length ≤ m.length
 | [],m,_,_=>Nat.zero_le _
 | x::l,m,hn,h=>by
  obtain ⟨h1,h2⟩:=List.nodup_cons.1 hn
  have hx:=h x (List.mem_cons_self ..)
  have:=len_sub (l:=l) (m:=m.erase x) h2 (fun t ht=>(List.mem_erase_of_ne (fun e=>h1 (by rw [← e];exact ht))).2 (h t (List.mem_cons_of_mem _ ht)))
  rw [List.length_erase_of_mem hx] at this
  have:=List.length_pos_of_mem hx
  simp only [List.length_cons]
  omega
theorem due_many {own:Nat × Bool} {s:Int} {l:List Int} (hn:l.Nodup) (hl:4 ≤ l.length):∀ {K:List WP} {seen:List Int},(∀ t ∈ l,t ∈ seen ∨ t ∈ (K.takeWhile fun x=>decide (x.s ≠ s)).map (·.s))→dueL own own s K seen=true
 | [],_,_=>by simp [dueL]
 | x::K,seen,h=>by
  rw [dueL]
  by_cases e:x.s=s
  ·rw [if_pos e]
   rw [List.takeWhile_cons,if_neg (by simpa using e)] at h
   have:=len_sub hn (m:=seen) (fun t ht=>(h t ht).resolve_right (by simp))
   rw [decide_eq_true (show 4 ≤ seen.length by omega)]
   simp
  ·rw [if_neg e]
   rw [List.takeWhile_cons,if_pos (by simpa using e),List.map_cons] at h
   refine due_many hn hl fun t ht=>?_
   rcases h t ht with h1 | h1
   ·left;split
    ·exact h1
    ·exact List.mem_append_left _ h1
   ·rcases List.mem_cons.1 h1 with rfl | h1
    ·left;split
     ·assumption
     ·exact List.mem_append_right _ (List.mem_singleton.2 rfl)
    ·exact .inr h1
structure Due (l:Int) (d K:List WP):Prop where
 right:rightP l d=true
 kept:Bare.Kept 4 l (d.map wt) (K.map wt)
theorem right_of {l:Int} {d:List WP} (h1:l=0 ∨ oddP l=true) (h2:d.length ≤ 4) (h3:(d.map (·.s)).Nodup) (h4:∀ x ∈ d,okW l x=true):rightP l d=true :=
 right_mk h1 h2 h3 fun j hj=>h4 _ (getD_mem hj)
theorem right_last {l:Int} {d:List WP} (h:rightP l d=true):l=0 ∨ oddP l=true:=by
 unfold rightP at h
 simp only [Bool.and_eq_true,Bool.or_eq_true,decide_eq_true_eq] at h
 exact h.1
theorem right_ok {l:Int} {d:List WP} (h:rightP l d=true):∀ x ∈ d,okW l x=true:=by
 unfold rightP at h
 simp only [Bool.and_eq_true,List.all_eq_true] at h
 exact h.2.2.2
theorem map_s (d:List WP):(d.map wt).map (·.1)=d.map (·.s):=by
 rw [List.map_map];rfl
theorem Due.start:Due 0 [] []:=⟨by decide +kernel,Bare.Kept.start 4 0⟩
theorem map_keep (d:List WP) (s:Int) (u:Nat) (i:Bool):(lastN ((d.filter fun x=>!decide (x.s=s)) ++ [⟨s,u,i⟩])).map wt=Bare.keep 4 (d.map wt) s ((u:Int),i):=by
 have e:(d.map wt).filter (fun w=>decide (w.1 ≠ s))=(d.filter fun x=>!decide (x.s=s)).map wt:=by
  rw [List.filter_map]
  congr 1
  refine congrFun (congrArg _ (funext fun x=>?_)) _
  show decide (x.s ≠ s) = !decide (x.s=s)
  by_cases e:x.s=s <;> simp [e]
 unfold lastN Bare.keep
 rw [e]
 simp [wt]
theorem Due.update {l s:Int} {d K:List WP} (h:Due l d K) {q:Nat × Bool} (hq:q.1 ≤ 7) (hs:withinP l s=true):Due l (lastN ((d.filter fun x=>!decide (x.s=s)) ++ [⟨s,q.1,q.2⟩])) (⟨s,q.1,q.2⟩::K):=by
 refine ⟨?_,?_⟩
 ·have hf:=h.right
  obtain ⟨-,-,h4,h5,-⟩:=right_facts hf
  have hsub:(lastN ((d.filter fun x=>!decide (x.s=s)) ++ [⟨s,q.1,q.2⟩])).Sublist ((d.filter fun x=>!decide (x.s=s)) ++ [⟨s,q.1,q.2⟩]):=List.drop_sublist _ _
  refine right_of (right_last hf) (by unfold lastN;rw [List.length_drop];omega) ?_ fun x hx=>?_
  ·refine List.Nodup.sublist (hsub.map _) ?_
   rw [List.map_append,List.nodup_append]
   refine ⟨h5.sublist (List.filter_sublist.map _),by simp,fun a ha b hb=>?_⟩
   simp only [List.map_cons,List.map_nil,List.mem_singleton] at hb
   subst hb
   obtain ⟨x,hx,rfl⟩:=List.mem_map.1 ha
   have:=(List.mem_filter.1 hx).2
   simpa using this
  ·rcases List.mem_append.1 (hsub.subset hx) with h1 | h1
   ·exact right_ok hf x (List.mem_filter.1 h1).1
   ·rw [List.mem_singleton] at h1
    subst h1
    unfold okW
    rw [hs,decide_eq_true hq]
    rfl
 ·rw [map_keep]
  exact h.kept.keep (by decide) s ((q.1:Int),q.2)
theorem Due.opened {l s:Int} {d K:List WP} (h:Due l d K) (ho:oddP s=true) (hs:l < s):Due s (d.filter fun x=>decide (s < x.s)) K:=by
 refine ⟨?_,?_⟩
 ·obtain ⟨-,-,h4,h5,h6⟩:=right_facts h.right
  refine right_of (.inr ho) (Nat.le_trans (List.length_filter_le _ _) h4) (h5.sublist (List.filter_sublist.map _)) fun x hx=>?_
  obtain ⟨hx,hlt⟩:=List.mem_filter.1 hx
  have hok:=right_ok h.right x hx
  obtain ⟨-,a1,a2,a3⟩:=h6 x hx
  have hlt:s < x.s:=by simpa using hlt
  unfold okW withinP at hok ⊢
  simp only [Bool.and_eq_true,decide_eq_true_eq] at hok ⊢
  exact ⟨⟨hok.1.1,hlt,by omega⟩,hok.2⟩
 ·have e:(d.map wt).filter (fun w=>decide (s < w.1))=(d.filter fun x=>decide (s < x.s)).map wt:=by
   rw [List.filter_map]
   rfl
  rw [← e]
  exact h.kept.opened hs
theorem Due.due {l s:Int} {d K:List WP} (h:Due l d K) (hs:l < s) (own:Nat × Bool):dueL own (match waitP l d s with | some x=>(x.u,x.i) | none=>own) s K []=true:=by
 cases hw:waitP l d s with
 | some x =>
  unfold waitP at hw
  rw [if_pos h.right] at hw
  have hx:=List.find?_some hw
  have hm:x ∈ d:=List.mem_reverse.1 (List.mem_of_find?_eq_some hw)
  have hxs:x.s=s:=by simpa using hx
  have hl:=h.kept.look (wt x) (List.mem_map.2 ⟨x,hm,rfl⟩)
  unfold Bare.look at hl
  rw [List.find?_map,Option.map_map,Option.map_eq_some_iff] at hl
  obtain ⟨y,hy,hyx⟩:=hl
  have e:(y.u,y.i)=(x.u,x.i):=by
   have:((y.u:Int),y.i)=((x.u:Int),x.i):=hyx
   have h1:=congrArg Prod.fst this
   have h2:=congrArg Prod.snd this
   simp only at h1 h2
   rw [show y.u=x.u by omega,h2]
  show dueL own (x.u,x.i) s K []=true
  rw [← e]
  refine due_look ?_
  rw [← hy,← hxs]
  rfl
 | none =>
  show dueL own own s K []=true
  by_cases hK:s ∈ K.map (·.s)
  ·have hno:s ∉ (d.map wt).map (·.1):=by
    rw [map_s]
    intro hin
    obtain ⟨x,hx,hxs⟩:=List.mem_map.1 hin
    have:=wait_own h.right hx
    rw [hxs,hw] at this
    cases this
   obtain ⟨t,h1,h2,h3⟩:=h.kept.gone s hs (by rw [map_s];exact hK) hno
   refine due_many h1 h2 fun x hx=>.inr ?_
   have:=h3 x hx
   unfold Bare.pre at this
   rw [List.takeWhile_map,map_s] at this
   exact this
  ·exact due_none fun x hx e=>hK (List.mem_map.2 ⟨x,hx,e⟩)
end Go.Proofs.YtkiiameibdhdfaaGreatDoor
namespace Go.Proofs.YtkiiameibdhdfaaGreatDoor
open Go.RowKit Go.Shelf Go.Cs
attribute [local go_sem] Oper.semAt_some


theorem infoI:(Tryz.prog.info? 3).map (fun i=>(i.zero,i.size,i.bytes))=some (some (.int .i64 0),1,8):=by kernel_rfl
def OwI (base:Nat) (W:World) (v:Value) (n:Nat) (f:Nat→List Value):Prop:=(∀ i,(f i).length=1)∧(∀ i,i < n→∀ u ∈ f i,u.oneCell'=true)∧W.ownsRow base 3 1 v n (flatF n f)
theorem OwI.nil (base:Nat) (W:World) (f:Nat→List Value) (hf:∀ i,(f i).length=1):OwI base W (.slice none 0 0) 0 f:=⟨hf,(fun i hi=>by omega),World.ownsRow_nil _ _ _ _⟩
theorem OwI.mods {base:Nat} {W W':World} {v:Value} {n:Nat} {f:Nat→List Value} (h:OwI base W v n f) {S:Nat→Prop} (hN:Mods S W W') (hS:∀ g,v.ownBlock=some g→¬ S g):OwI base W' v n f:=⟨h.1,h.2.1,Mods.ownsRow hN h.2.2 hS⟩
theorem OwI.new {base:Nat} {W W':World} {v:Value} {n:Nat} {f:Nat→List Value} (h:OwI base W v n f) (hN:New W W'):OwI base W' v n f:=h.mods hN fun _ _ h=>h
theorem OwI.congr {base:Nat} {W:World} {v:Value} {n:Nat} {f g:Nat→List Value} (h:OwI base W v n f) (hg:∀ i,(g i).length=1) (he:∀ i,i < n→f i=g i):OwI base W v n g :=
 ⟨hg,(fun i hi=>by rw [← he i hi];exact h.2.1 i hi),by rw [← flatF_congr he];exact h.2.2⟩
theorem OwI.slice {base:Nat} {W:World} {v:Value} {n:Nat} {f:Nat→List Value} (h:OwI base W v n f):∃ ao cap,v = .slice ao n cap:=owns_slice h.2.2
theorem OwI.lt {base:Nat} {W:World} {v:Value} {n:Nat} {f:Nat→List Value} (h:OwI base W v n f) {g:Nat} (hg:v.ownBlock=some g):base ≤ g∧g < W.heap.size:=World.ownsRow.lt h.2.2 g hg
theorem OwI.row {base:Nat} {W:World} {v:Value} {n:Nat} {f:Nat→List Value} (h:OwI base W v n f) (hn:n ≤ 281474976710656):RowR W v n 1 f :=
 ⟨hn,rows_ofOwns (by decide) h.1 h.2.2⟩
theorem OwI.tag {base:Nat} {W:World} {v:Value} {n:Nat} {f:Nat→List Value} (h:OwI base W v n f):TagAt W v 3:=fun g hg=>by
 rcases h.2.2.2 with ⟨rfl,_⟩ | ⟨b,cap,cur,rfl,_,hb,_⟩
 ·cases hg
 ·cases hg;exact ⟨_,_,hb⟩
theorem OwI.mono {base base':Nat} {W:World} {v:Value} {n:Nat} {f:Nat→List Value} (h:OwI base W v n f) (hb:base' ≤ base):OwI base' W v n f:=⟨h.1,h.2.1,owns_mono h.2.2 hb⟩
theorem OwI.frozen {base:Nat} {W:World} {v:Value} {n:Nat} {f:Nat→List Value} (h:OwI base W v n f) {g:Nat} (hg:v.ownBlock=some g) (o:Nat):W.frozen? ⟨g,o,none⟩=false:=by
 rcases h.2.2.2 with ⟨rfl,_⟩ | ⟨b,cap,cur,rfl,_,hb,_⟩
 ·cases hg
 ·cases hg;exact frozen_row hb
theorem run_append_I {o:Oper} {a:Act} {w W:World} {s x:Operand} {base:Nat} {v:Value} {n:Nat} {f:Nat→List Value} {c:List Value} (hop:o.op = .call { callee:=.builtin .append,args:=#[s,x],argTypes:=#[86,86] })
  (hs:a.eval s=v) (hx:a.eval x = .slice (some ⟨w.heap.size,0,none⟩) 1 1) (hW:w.alloc (.cells c.toArray 3)=W) (hc:c.length=1) (hone:∀ u ∈ c,u.oneCell'=true) (hown:OwI base w v n f) (hn:n ≤ 2000000) (hbase:base ≤ w.heap.size) :
  ∃ v' W',(execOp a.eval o).run Tryz.prog W = .ok (.value v') W'∧OwI base W' v' (n + 1) (fun i=>if i=n then c else f i)∧∀ (w0:World) (S:Nat→Prop),Mods S w0 w→(∀ g,v.ownBlock=some g→w0.heap.size ≤ g ∨ S g)→Mods S w0 W':=by
 obtain ⟨i0,hi,hz0,hz1,hz2⟩:=info_parts infoI
 have hown':W.ownsRow base 3 1 v n (flatF n f):=by rw [← hW];exact hown.2.2.alloc _
 obtain ⟨v',w',hr,ho,hg,-⟩:=run_append_own (P:=Tryz.prog) W base 86 o.type 3 i0 _ 1 8 Tryz.underlying86 hi hz0 hz1 hz2 rfl (by decide) v n (flatF n f) hown' ⟨w.heap.size,0,none⟩ 1 1 c (by rw [hc]) (fun j u hj=>by
  rw [← hW,add_at,cell_of_row _ _ _ _ _ _ (World.alloc_heap_new w (.cells c.toArray 3))];simpa using hj) hone (by unfold maxLen;omega) (by omega) (by rw [← hW];simp;omega)
 refine ⟨v',w',?_,⟨fun i=>?_,fun i hi=>?_,?_⟩,fun w0 S hN hb=>?_⟩
 ·simp [execOp,hop,resolve,invoke,builtin,hs,hx,hr,Result.andThen]
 ·dsimp only;split
  ·exact hc
  ·exact hown.1 i
 ·dsimp only;split
  ·exact hone
  ·exact hown.2.1 i (by omega)
 ·rw [flatF_succ,if_pos rfl,flatF_congr (g:=f) (fun i hi=>if_neg (by omega))]
  exact ho
 ·rw [← hW] at hg
  exact (hN.alloc _).grown hg (fun g hg=>(hb g hg).imp id fun h=>⟨h,own_cells (hown.2.2.alloc _) hg⟩)
theorem wpList_append_I {ops:Array Oper} {Q:Exit→Act→World→Prop} {rest:List Oper} {o:Oper} {a:Act} {w W:World} (s x:Operand) {base:Nat} {v:Value} {n:Nat} {f:Nat→List Value} {c:List Value} (hgd:o.guard=none) (hop:o.op = .call { callee:=.builtin .append,args:=#[s,x],argTypes:=#[86,86] })
  (hs:a.eval s=v) (hx:a.eval x = .slice (some ⟨w.heap.size,0,none⟩) 1 1) (hW:w.alloc (.cells c.toArray 3)=W) (hc:c.length=1) (hone:∀ u ∈ c,u.oneCell'=true) (hown:OwI base w v n f) (hn:n ≤ 2000000) (hbase:base ≤ w.heap.size)
  (h:∀ v' W',OwI base W' v' (n + 1) (fun i=>if i=n then c else f i)→(∀ (w0:World) (S:Nat→Prop),Mods S w0 w→(∀ g,v.ownBlock=some g→w0.heap.size ≤ g ∨ S g)→Mods S w0 W')→wpList Tryz.prog ops Q rest (a.put o.dst v') W'):wpList Tryz.prog ops Q (o::rest) a W:=by
 refine wpList_plain hgd fun K hK=>?_
 obtain ⟨v',w',hr,ho,hg⟩:=run_append_I hop hs hx hW hc hone hown hn hbase
 unfold Oper.wp
 rw [hr]
 exact hK _ _ (h v' w' ho hg)
def ifn (l:List Int):Nat→List Value:=fun i=>[.int .i64 (l.getD i 0)]
theorem litd76 (t:Array Value) (h:t.size=76):∃ u:Nat→Value,t=(u 0::u 1::u 2::u 3::u 4::u 5::u 6::u 7::u 8::u 9::u 10::u 11::u 12::u 13::u 14::u 15::u 16::u 17::u 18::u 19::u 20::u 21::u 22::u 23::u 24::u 25::u 26::u 27::u 28::u 29::u 30::u 31::u 32::u 33::u 34::u 35::u 36::u 37::u 38::u 39::u 40::u 41::u 42::u 43::u 44::u 45::u 46::u 47::u 48::u 49::u 50::u 51::u 52::u 53::u 54::u 55::u 56::u 57::u 58::u 59::u 60::u 61::u 62::u 63::u 64::u 65::u 66::u 67::u 68::u 69::u 70::u 71::u 72::u 73::u 74::u 75::([]:List Value)).toArray:=⟨fun i=>t.getD i undef,range_lit t 76 h⟩
noncomputable def reg_causeylaw24_due_13:Code:=((Tryz.f19.body.bind (regionOf 13)).getD .skip)
theorem due13t (t:Array Value) (hs:t.size=76) (w:World) {sb so m sc X k:Nat} {t1 t2:Int}
  (hq11:t.getD 11 undef = .slice (some ⟨sb,so,none⟩) m sc)
  (hq13:t.getD 13 undef = .pointer (some ⟨X,0,none⟩))
  (hq14:t.getD 14 undef = .bool true)
  (hq15:t.getD 15 undef = .int .i64 k)
  (hk:k < m) (hid:decide ((k:Int) < (m:Int))=true) :
  reg_causeylaw24_due_13.wp Tryz.prog (Only fun a' W'=>∃ z:Nat→Value,a'=⟨((pz t z [56,57,58,59,60,61,62,63,64,65]).setIfInBounds 14 (.bool true)),[]⟩∧New w W') ⟨t,[]⟩ w:=by
 conv=>arg 2;whnf
 obtain ⟨u,rfl⟩:=litd76 t hs
 have hq11:u 11 = _:=hq11
 have hq13:u 13 = _:=hq13
 have hq14:u 14 = _:=hq14
 have hq15:u 15 = _:=hq15
 rw [hq11,hq13,hq14,hq15]
 clear hq11 hq13 hq14 hq15 hs
 refine wp_region_held (S:=fun W=>New w W) (by kernel_rfl) ?_
 show wpAnyH _ _ _ _ _ 11 _ _ w.drew
 have hN:New w w.drew:=(Mods.refl _ _).drew
 have hS:New w w.drew:=(Mods.refl _ _).drew
 refine tkI 0 (some 56) (.bool true) hS ?_
 simp only [pS]
 refine tkI 1 (some 57) (.bool true) hS ?_
 simp only [pS]
 refine tkU 2 (some 58) hS ?_
 simp only [pS]
 refine tkU 3 (some 59) hS ?_
 simp only [pS]
 refine tkU 4 (some 60) hS ?_
 simp only [pS]
 refine tkU 5 (some 61) hS ?_
 simp only [pS]
 refine tkU 6 (some 62) hS ?_
 simp only [pS]
 refine tkU 7 (some 63) hS ?_
 simp only [pS]
 refine tkU 8 (some 64) hS ?_
 simp only [pS]
 refine tkI 9 (some 65) (.bool true) hS ?_
 simp only [pS]
 refine tkI 10 (some 14) (.bool true) hS ?_
 simp only [pS]
 refine wpAnyH_done (by kernel_rfl) ?_ _
 exact zc rfl hN
theorem due13f (t:Array Value) (hs:t.size=76) (w:World) {sb so m sc X k:Nat} {t1 t2:Int}
  (hq11:t.getD 11 undef = .slice (some ⟨sb,so,none⟩) m sc)
  (hq13:t.getD 13 undef = .pointer (some ⟨X,0,none⟩))
  (hq14:t.getD 14 undef = .bool false)
  (hq15:t.getD 15 undef = .int .i64 k)
  (hk:k < m) (hid:decide ((k:Int) < (m:Int))=true) (c0:w.cell? ⟨sb,so + k,none⟩=some (.int .i64 t1)) (c1:w.cell? ⟨X,0,none⟩=some (.int .i64 t2)) :
  reg_causeylaw24_due_13.wp Tryz.prog (Only fun a' W'=>∃ z:Nat→Value,a'=⟨((pz t z [56,57,58,59,60,61,62,63,64,65]).setIfInBounds 14 (.bool (t1 == t2))),[]⟩∧New w W') ⟨t,[]⟩ w:=by
 conv=>arg 2;whnf
 obtain ⟨u,rfl⟩:=litd76 t hs
 have hq11:u 11 = _:=hq11
 have hq13:u 13 = _:=hq13
 have hq14:u 14 = _:=hq14
 have hq15:u 15 = _:=hq15
 rw [hq11,hq13,hq14,hq15]
 clear hq11 hq13 hq14 hq15 hs
 refine wp_region_held (S:=fun W=>New w W) (by kernel_rfl) ?_
 show wpAnyH _ _ _ _ _ 11 _ _ w.drew
 have hN:New w w.drew:=(Mods.refl _ _).drew
 have hS:New w w.drew:=(Mods.refl _ _).drew
 refine tkI 0 (some 56) (.bool false) hS ?_
 simp only [pS]
 refine tkI 1 (some 57) (.bool false) hS ?_
 simp only [pS]
 refine tkI 2 (some 58) (.slice (some ⟨sb,so,none⟩) m sc) hS ?_
 simp only [pS]
 refine tkI 3 (some 59) (.int .i64 k) hS ?_
 simp only [pS]
 refine tkI 4 (some 60) (.pointer (some ⟨sb,so + k,none⟩)) hS ?_
 simp only [pS]
 refine tkA 5 rfl (some 61) (.int .i64 t1) (.inl ⟨by rfl,fun W hW=>by have q:=hW.cell c0 id;go_simp⟩) hS ?_
 simp only [pS]
 refine tkI 6 (some 62) (.pointer (some ⟨X,0,none⟩)) hS ?_
 simp only [pS]
 refine tkA 7 rfl (some 63) (.int .i64 t2) (.inl ⟨by rfl,fun W hW=>by have q:=hW.cell c1 id;go_simp⟩) hS ?_
 simp only [pS]
 refine tkI 8 (some 64) (.bool (t1 == t2)) hS ?_
 simp only [pS]
 refine tkI 9 (some 65) (.bool (t1 == t2)) hS ?_
 simp only [pS]
 refine tkI 10 (some 14) (.bool (t1 == t2)) hS ?_
 simp only [pS]
 refine wpAnyH_done (by kernel_rfl) ?_ _
 exact zc rfl hN
theorem wt_facts {W:World} {B:Nat} {a b c:Value} (h:W.heap[B]? = some (.cells #[a,b,c] 40 (0,0))):W.cell? ⟨B,0,none⟩=some a∧W.cell? ⟨B,1,none⟩=some b∧W.cell? ⟨B,2,none⟩=some c :=
 ⟨cell_of_row _ _ 0 _ _ _ h,cell_of_row _ _ 1 _ _ _ h,cell_of_row _ _ 2 _ _ _ h⟩
theorem prdec (a b:Nat) (i j:Bool):(decide ((a:Int)=(b:Int)) && decide (i=j))=decide ((a,i)=(b,j)):=by
 rw [Bool.eq_iff_iff]
 simp only [Bool.and_eq_true,decide_eq_true_eq,Prod.mk.injEq]
 exact and_congr Int.ofNat_inj Iff.rfl
theorem due_l (q:Nat × Bool) (kv:Value) (kl:List WP) (s:Int) (T:ByteArray) (w:World) (h:RdW w kv kl) (hl:kl.length ≤ 1000) (hs:T.size ≤ 1000000) :
  Calls Tryz.prog 19 #[.agg #[.int .u8 q.1,.bool q.2],kv,.int .i64 s,.string T] w fun e w'=>e = .returned (.bool (dueL ((readP T).getD (3,false)) q s kl.reverse []))∧New w w':=by
 obtain ⟨qu,qi⟩:=q
 have HRd:=Lib.hid (fun W=>read_pr14 T W hs)
 have HD:=Lib.hid h
 obtain ⟨ao,cap,rfl⟩:=h.slice
 obtain ⟨n,hn⟩:∃ n,kl.length=n:=⟨_,rfl⟩
 have HN:=Lib.hid hn
 obtain ⟨⟨ru,ri⟩,hrr⟩:∃ r,(readP T).getD (3,false)=r:=⟨_,rfl⟩
 obtain ⟨ry,hry⟩:∃ r,(readP T).isSome=r:=⟨_,rfl⟩
 rw [hrr,hry] at HRd
 rw [hrr]
 rw [hn] at HD hl ⊢
 simp only at HRd
 obtain ⟨R,hR⟩:∃ R,dueL (ru,ri) (qu,qi) s kl.reverse []=R:=⟨_,rfl⟩
 have HR:=Lib.hid hR
 rw [hR]
 clear h hn hrr hry hR
 go_enter Tryz.func19,Tryz.ntmps19
 go_upto_region 1 with fail
 obtain ⟨W1,P4,hW1,hP4,rQ,hN,-⟩:=prow w qu qi
 rw [hW1,hP4]
 clear hW1 hP4
 go_upto_region 2 with (go_at_call 16;refine (HRd.out _).mono ?_;rintro e w2 ⟨rfl,hk⟩)
 obtain ⟨W3,P9,hW3,hP9,rO,hN3,-⟩:=prow w2 ru ri
 rw [hW3,hP9]
 replace hN:=hN.trans (hk.trans hN3)
 replace rQ:=(hk.trans hN3).heap rQ id
 have HRQ:=Lib.hid rQ
 have HRO:=Lib.hid rO
 clear hW3 hP9 hk hN3 rQ rO HRd
 have hwr:IntKind.i64.wrap ((n:Int) - 1)=(n:Int) - 1:=by rw [IntWalk.i64_in] <;> omega
 go_upto_region 4 with fail
 go_loopw [11,12] (fun a b wr=>∃ (k:Nat) (seen:List Int),k ≤ n∧b = .int .i64 ((k:Int) - 1)∧seen.length + k ≤ n∧Hid (dueL (ru,ri) (qu,qi) s ((kl.take k).reverse) seen=R)∧Hid (OwI W3.heap.size wr a seen.length (ifn seen))∧New W3 wr) (fun _ b _=>(intOf b + 1).toNat)
 case atStart=>exact ⟨n,[],Nat.le_refl _,rfl,by simp,Lib.hid (by rw [List.take_of_length_le (by rw [HN.out];exact Nat.le_refl _)];exact HR.out),Lib.hid (OwI.nil _ _ _ fun i=>rfl),Mods.refl _ _⟩
 case round =>
  obtain ⟨k,seen,hk,rfl,hsk,HRk,HOk,hNr⟩:=hrel
  have hNw:=hN.trans hNr
  obtain ⟨sa,sc,rfl⟩:=HOk.out.slice
  obtain ⟨m,hm⟩:∃ m,seen.length=m:=⟨_,rfl⟩
  have HMs:=Lib.hid hm
  rw [hm] at HOk hsk ⊢
  clear hm
  by_cases hlt:0 < k
  ·obtain ⟨j,rfl⟩:∃ j,k=j + 1:=⟨k - 1,by omega⟩
   have ej:((j + 1:Nat):Int) - 1=(j:Int):=by omega
   rw [ej]
   have hkd:decide ((0:Int) ≤ (j:Int))=true:=decide_eq_true (by omega)
   obtain ⟨b1,o1,rfl,hrow⟩:=(HD.out.new hNw).at.2.2 j (by omega)
   obtain ⟨x,hx⟩:∃ x,kl.getD j noW=x:=⟨_,rfl⟩
   have hrow:wr.rangeAt b1 (o1 + j * 3) (wcs x):=by rw [← hx];exact hrow
   obtain ⟨t0,t1,t2⟩:=cells3w hrow
   have hstep:(kl.take (j + 1)).reverse=x::(kl.take j).reverse:=by
    rw [List.take_add_one,List.reverse_append]
    have:kl[j]? = some x:=by
     rw [← hx,List.getD_eq_getElem?_getD,List.getElem?_eq_getElem (by rw [HN.out];omega)]
     rfl
    rw [this]
    rfl
   have HRj:=HRk.out
   rw [hstep,dueL] at HRj
   have HRj:=Lib.hid HRj
   clear hrow hx hstep HRk
   have r1:=World.alloc_heap_new wr (.cells #[.int .i64 x.s,.int .u8 x.u,.bool x.i] 40)
   have hAx:New wr (wr.alloc (.cells #[.int .i64 x.s,.int .u8 x.u,.bool x.i] 40)):=(Mods.refl _ _).alloc _
   obtain ⟨W4,hW4⟩:∃ W,wr.alloc (.cells #[.int .i64 x.s,.int .u8 x.u,.bool x.i] 40)=W:=⟨_,rfl⟩
   obtain ⟨X,hX⟩:∃ X,wr.heap.size=X:=⟨_,rfl⟩
   go_upto_region 7 with fail
   rw [hW4] at hAx r1
   rw [hX] at r1
   have hNx:=hNr.trans hAx
   have HO4:=Lib.hid (HOk.out.new hAx)
   clear t0 t1 t2 hW4 hX HOk hNr
   have q0:=cell_of_row _ _ 0 _ _ _ r1
   have q1:=cell_of_row _ _ 1 _ _ _ r1
   have q2:=cell_of_row _ _ 2 _ _ _ r1
   simp only [List.getElem?_toArray,List.getElem?_cons_zero,List.getElem?_cons_succ] at q0 q1 q2
   have HRX:=Lib.hid r1
   clear r1
   by_cases he:x.s=s
   ·have hse:(x.s == s)=true:=by simp [he]
    have HRj2:=HRj.out
    rw [if_pos he] at HRj2
    have hq1:=fun w=>binop_pr qu x.u qi x.i w
    have hq2:=fun w=>binop_pr qu ru qi ri w
    rw [prdec] at hq1 hq2
    obtain ⟨y1,hy1⟩:∃ y,decide ((qu,qi)=(x.u,x.i))=y:=⟨_,rfl⟩
    obtain ⟨y2,hy2⟩:∃ y,decide ((qu,qi)=(ru,ri))=y:=⟨_,rfl⟩
    obtain ⟨y3,hy3⟩:∃ y,decide (4 ≤ m)=y:=⟨_,rfl⟩
    rw [HMs.out,hy1,hy2,hy3] at HRj2
    rw [hy1] at hq1
    rw [hy2] at hq2
    have hy4:decide ((4:Int) ≤ (m:Int))=y3:=by rw [← hy3];exact decide_eq_decide.2 (by omega)
    obtain ⟨c0,c1⟩:=prq_cells (hNx.heap HRQ.out id)
    obtain ⟨d0,d1⟩:=prq_cells (hNx.heap HRO.out id)
    clear he hy1 hy2 hy3 HRj
    cases y1 with
    | true =>
     obtain rfl:true=R:=by rw [← HRj2];rfl
     clear hy4 hq2
     go_wp2_with fail
     go_ret
     exact ⟨rfl,hN.trans hNx⟩
    | false =>
     cases y3 with
     | false =>
      obtain rfl:false=R:=by rw [← HRj2];rfl
      go_wp2_with fail
      go_ret
      exact ⟨rfl,hN.trans hNx⟩
     | true =>
      obtain rfl:y2=R:=by rw [← HRj2];rfl
      go_wp2_with fail
      go_ret
      exact ⟨rfl,hN.trans hNx⟩
   ·have hse:(x.s == s)=false:=by simp [he]
    have HRj2:=HRj.out
    rw [if_neg he] at HRj2
    have HRj:=Lib.hid HRj2
    clear he HRj2
    have hwj:IntKind.i64.wrap ((j:Int) - 1)=(j:Int) - 1:=by rw [IntWalk.i64_in] <;> omega
    have hseL:seen.length=m:=HMs.out
    have HSeL:=Lib.hid hseL
    clear hseL
    go_upto_region 11 with fail
    clear hse q0 q1 q2
    go_loopw [14,15] (fun a b wi=>∃ (i:Nat) (y:Bool),i ≤ m∧a = .bool y∧b = .int .i64 i∧Hid (y=decide (x.s ∈ seen.take i))∧New W4 wi) (fun _ b _=>m - (intOf b).toNat)
    case atStart=>exact ⟨0,false,Nat.zero_le _,rfl,rfl,Lib.hid (by simp),Mods.refl _ _⟩
    case round =>
     obtain ⟨i,y,hi,rfl,rfl,HY,hNi⟩:=hrel
     have hNxi:=hNx.trans hNi
     have HO5:=Lib.hid (HO4.out.new hNi)
     obtain ⟨q0,-,-⟩:=wt_facts (hNi.heap HRX.out id)
     by_cases hil:i < m
     ·have hid:decide ((i:Int) < (m:Int))=true:=decide_eq_true (by omega)
      obtain ⟨b2,o2,rfl,hrow⟩:=(HO5.out.row (by omega)).at.2.2 i hil
      have c0:wr.cell? ⟨b2,o2 + i,none⟩=some (.int .i64 (seen.getD i 0)):=by
       have:=hrow 0 _ rfl
       rw [Nat.mul_one] at this
       exact this
      obtain ⟨t1,ht1⟩:∃ t,seen.getD i 0=t:=⟨_,rfl⟩
      rw [ht1] at c0
      have hstep:seen.take (i + 1)=seen.take i ++ [t1]:=by
       rw [List.take_add_one,List.getElem?_eq_getElem (by rw [HSeL.out];exact hil),← ht1,List.getD_eq_getElem?_getD,List.getElem?_eq_getElem (by rw [HSeL.out];exact hil)]
       rfl
      cases y with
      | true =>
       have hy2:Hid (true=decide (x.s ∈ seen.take (i + 1))):=Lib.hid (by
        rw [hstep,eq_comm,decide_eq_true_eq]
        exact List.mem_append_left _ (of_decide_eq_true HY.out.symm))
       clear hrow ht1 hstep c0 q0
       go_upto_region 13 with fail
       refine piece (fun _=>_) (due13t (t1:=0) (t2:=0) _ rfl wr rfl rfl rfl rfl hil hid) ?_
       rintro a' w5 ⟨zg,rfl,hN5⟩
       simp only [pS]
       go_wp2_with fail
       go_roundw
       case rel=>exact ⟨i + 1,true,by omega,rfl,by go_num,hy2,hNi.trans hN5⟩
       case measure=>simp [intOf];omega
      | false =>
       have hy2:Hid ((t1 == x.s)=decide (x.s ∈ seen.take (i + 1))):=Lib.hid (by
        have hno:¬ x.s ∈ seen.take i:=of_decide_eq_false HY.out.symm
        rw [hstep,Bool.eq_iff_iff,beq_iff_eq,decide_eq_true_eq,List.mem_append,List.mem_singleton]
        exact ⟨fun h=>.inr h.symm,fun h=>h.elim (fun h=>absurd h hno) Eq.symm⟩)
       clear hrow ht1 hstep
       go_upto_region 13 with fail
       refine piece (fun _=>_) (due13f (t1:=t1) (t2:=x.s) _ rfl wr rfl rfl rfl rfl hil hid c0 q0) ?_
       rintro a' w5 ⟨zg,rfl,hN5⟩
       simp only [pS]
       go_wp2_with fail
       go_roundw
       case rel=>exact ⟨i + 1,_,by omega,rfl,by go_num,hy2,hNi.trans hN5⟩
       case measure=>simp [intOf];omega
     ·have hid:decide ((i:Int) < (m:Int))=false:=decide_eq_false (by omega)
      obtain rfl:i=m:=by omega
      have hyy:y=decide (x.s ∈ seen):=by rw [HY.out,List.take_of_length_le (by rw [HSeL.out];exact Nat.le_refl _)]
      have HYY:=Lib.hid hyy
      clear HY hyy
      cases y with
      | true =>
       have HRn:Hid (dueL (ru,ri) (qu,qi) s ((kl.take j).reverse) seen=R):=Lib.hid (by
        have:=HRj.out
        rw [if_pos (of_decide_eq_true HYY.out.symm)] at this
        exact this)
       clear HRj HYY
       go_wp2_with fail
       go_roundw
       case rel=>exact ⟨j,seen,by omega,by first | rfl | exact congrArg _ hwj,by have:=HSeL.out;omega,HRn,by rw [HSeL.out];exact HO5,hNxi⟩
       case measure=>simp [intOf]
      | false =>
       have HRn:Hid (dueL (ru,ri) (qu,qi) s ((kl.take j).reverse) (seen ++ [x.s])=R):=Lib.hid (by
        have:=HRj.out
        rw [if_neg (of_decide_eq_false HYY.out.symm)] at this
        exact this)
       have hwb:W3.heap.size ≤ wr.heap.size:=hNxi.size
       clear HRj HYY
       go_wp2_with (at_builtin;refine wpList_append_I (w:=wr) (c:=[.int .i64 x.s]) _ _ rfl rfl rfl rfl rfl rfl (by intro u hu;rw [List.mem_singleton] at hu;subst hu;rfl) HO5.out (by omega) hwb ?_;intro v' W' ho' hm';obtain ⟨a',c',rfl⟩:=ho'.slice)
       go_wp2_with fail
       go_roundw
       case rel =>
        refine ⟨j,seen ++ [x.s],by omega,by first | rfl | exact congrArg _ hwj,by have:=HSeL.out;simp;omega,HRn,Lib.hid ?_,hm' W3 _ hNxi (fun g hg=>.inl (HO5.out.lt hg).1)⟩
        rw [List.length_append,HSeL.out]
        refine ho'.congr (fun i=>rfl) fun i' hi'=>?_
        unfold ifn
        by_cases e:i'=i
        ·rw [if_pos e,e,List.getD_eq_getElem?_getD,List.getElem?_append_right (by rw [HSeL.out];exact Nat.le_refl _),HSeL.out,Nat.sub_self];rfl
        ·rw [if_neg e,List.getD_eq_getElem?_getD,List.getD_eq_getElem?_getD,List.getElem?_append_left (by rw [HSeL.out];have:i' < i + 1:=hi';omega)]
       case measure=>simp [intOf]
  ·obtain rfl:k=0:=by omega
   have hkd:decide ((0:Int) ≤ (((0:Nat):Int) - 1))=false:=by decide
   have hq2:=fun w=>binop_pr qu ru qi ri w
   rw [prdec] at hq2
   have HRj2:=HRk.out
   rw [List.take_zero,List.reverse_nil,dueL] at HRj2
   rw [HRj2] at hq2
   obtain ⟨c0,c1⟩:=prq_cells (hNr.heap HRQ.out id)
   obtain ⟨d0,d1⟩:=prq_cells (hNr.heap HRO.out id)
   clear HRj2 HRk HOk
   go_wp2_with fail
   go_ret
   exact ⟨rfl,hNw⟩


theorem pio_row (w:World) (l:Int) (v:Value):∃ V M,w.alloc (.cells #[.int .i64 l,v] 26)=V∧w.heap.size=M∧V.heap[M]? = some (.cells #[.int .i64 l,v] 26 (0,0))∧New w V:=⟨_,_,rfl,rfl,World.alloc_heap_new _ _,(Mods.refl _ _).alloc _⟩


theorem upd_last {l s:Int} {d K:List WP} (h:Due l d K) (T:ByteArray) {F:List WP} {what qu fc:Nat} {qi fw:Bool} (hE:updP l d s (readP T)=(F,what,(qu,qi),(fw,fc))) :
  (what=0∧F=d∧((fw=false∧fc=0) ∨ (fw=true∧fc=1∧(s < 1 ∨ s % 2=0)))) ∨ (what=2∧F=d∧readP T=some (qu,qi)∧s ≤ l∧fw=false∧fc=0) ∨ (what=1∧Due l F (⟨s,qu,qi⟩::K)∧readP T=some (qu,qi)∧l < s∧fw=false∧fc=0):=by
 unfold updP at hE
 rw [if_neg (by rw [h.right];decide)] at hE
 by_cases h1:s < 1 ∨ s % 2=0
 ·rw [if_pos h1] at hE
  cases hE
  exact .inl ⟨rfl,rfl,.inr ⟨rfl,rfl,h1⟩⟩
 rw [if_neg h1] at hE
 cases hr:readP T with
 | none =>
  rw [hr] at hE
  cases hE
  exact .inl ⟨rfl,rfl,.inl ⟨rfl,rfl⟩⟩
 | some q =>
  rw [hr] at hE
  have hq7:q.1 ≤ 7:=by
   unfold readP at hr
   obtain ⟨d',-,rfl⟩:=Option.map_eq_some_iff.1 hr
   have:=(urg_bounds d').2
   show (Bare.urgOf d').toNat ≤ 7
   omega
  simp only at hE
  by_cases h2:l < s∧withinP l s=false
  ·rw [if_pos h2] at hE
   cases hE
   exact .inl ⟨rfl,rfl,.inl ⟨rfl,rfl⟩⟩
  rw [if_neg h2] at hE
  by_cases h3:s ≤ l
  ·rw [if_pos h3] at hE
   cases hE
   exact .inr (.inl ⟨rfl,rfl,rfl,h3,rfl,rfl⟩)
  ·rw [if_neg h3] at hE
   have hw:withinP l s=true:=by
    cases hw:withinP l s with
    | true=>rfl
    | false=>exact absurd ⟨by omega,hw⟩ h2
   cases hE
   exact .inr (.inr ⟨rfl,h.update hq7 hw,rfl,by omega,rfl,rfl⟩)
theorem open_last {l s:Int} {d K:List WP} (h:Due l d K) (r:Option (Nat × Bool)) {l':Int} {F:List WP} {qu:Nat} {qi ok:Bool} (hE:openP l d s true r=(l',F,(qu,qi),ok)) :
  (ok=true∧l'=s∧l < s∧Due s F K∧dueL (r.getD (3,false)) (qu,qi) s K []=true) ∨ (ok=false∧l'=l∧F=d):=by
 unfold openP at hE
 split at hE
 ·rename_i hc
  simp only [Bool.and_eq_true,decide_eq_true_eq] at hc
  obtain ⟨-,ho,hs⟩:=hc
  have hd:=h.due hs (r.getD (3,false))
  cases hw:waitP l d s with
  | some x =>
   rw [hw] at hE hd
   cases hE
   exact .inl ⟨rfl,rfl,hs,h.opened ho hs,hd⟩
  | none =>
   rw [hw] at hE hd
   simp only [if_true] at hE
   obtain ⟨a,b⟩:∃ q,r.getD (3,false)=q:=⟨_,rfl⟩
   rw [b] at hE hd ⊢
   cases hE
   exact .inl ⟨rfl,rfl,hs,h.opened ho hs,hd⟩
 ·cases hE
  exact .inr ⟨rfl,rfl,rfl⟩
structure DD where
 o:Bool
 s:Int
 t:ByteArray
def noDD:DD:=⟨false,0,⟨#[]⟩⟩
def ddc (d:DD):List Value:=[.bool d.o,.int .i64 d.s,.string d.t]
def RdDD (W:World) (v:Value) (D:List DD):Prop:=RowR W v D.length 3 (fun i=>ddc (D.getD i noDD))
theorem dd_facts {W:World} {B:Nat} {a b c:Value} (h:W.heap[B]? = some (.cells #[a,b,c] 29 (0,0))):W.cell? ⟨B,0,none⟩=some a∧W.cell? ⟨B,1,none⟩=some b∧W.cell? ⟨B,2,none⟩=some c :=
 ⟨cell_of_row _ _ 0 _ _ _ h,cell_of_row _ _ 1 _ _ _ h,cell_of_row _ _ 2 _ _ _ h⟩
theorem dd_row (w:World) (a b c:Value):∃ V X,w.alloc (.cells #[a,b,c] 29)=V∧w.heap.size=X∧V.heap[X]? = some (.cells #[a,b,c] 29 (0,0))∧New w V:=⟨_,_,rfl,rfl,World.alloc_heap_new _ _,(Mods.refl _ _).alloc _⟩
theorem flt_facts {W:World} {B:Nat} {a b c:Value} (h:W.heap[B]? = some (.cells #[a,b,c] 34 (0,0))):W.cell? ⟨B,0,none⟩=some a∧W.cell? ⟨B,1,none⟩=some b∧W.cell? ⟨B,2,none⟩=some c :=
 ⟨cell_of_row _ _ 0 _ _ _ h,cell_of_row _ _ 1 _ _ _ h,cell_of_row _ _ 2 _ _ _ h⟩
theorem pc_set {W:World} {B:Nat} {a b:Value} (h:W.heap[B]? = some (.cells #[a,b] 26 (0,0))) (a' b':Value) :
  ((W.setCell ⟨B,0,none⟩ a').setCell ⟨B,1,none⟩ b').heap[B]? = some (.cells #[a',b'] 26 (0,0))∧Mods (fun b=>b=B) W ((W.setCell ⟨B,0,none⟩ a').setCell ⟨B,1,none⟩ b'):=by
 have r2:=setCell_heap (i:=1) (setCell_heap (i:=0) h a') b'
 simp only [pS] at r2
 exact ⟨r2,(setMods W B 0 a').trans (setMods _ B 1 b')⟩
theorem wf_snoc_rev (x:WP) (K:List WP) (i:Nat) (hi:i < K.length + 1):(if i=K.length then wcs x else wf K.reverse i)=wf (x::K).reverse i:=by
 unfold wf
 rw [List.reverse_cons]
 by_cases e:i=K.length
 ·rw [if_pos e,e,List.getD_eq_getElem?_getD,List.getElem?_append_right (by simp),List.length_reverse,Nat.sub_self]
  rfl
 ·rw [if_neg e,List.getD_eq_getElem?_getD,List.getD_eq_getElem?_getD,List.getElem?_append_left (by rw [List.length_reverse];omega)]
end Go.Proofs.YtkiiameibdhdfaaGreatDoor
namespace Go.Proofs.YtkiiameibdhdfaaGreatDoor
open Go.RowKit Go.Shelf Go.Cs Go.ChangeShapes Go.WideShapes Go.ChangeAt Go.WideMaps Go.WideElems Go.ChangeMaps

section
variable {H:Type} {enc:TypeId × Value→H} {w:World} {base:Nat} {spare:Nat→Bool} {held:Bool} {fuel:Nat}
theorem len_3 {α:Type}:∀ {l:List α},l.length=3→∃ a b c,l = [a,b,c]
 | [a,b,c],_=>⟨a,b,c,rfl⟩
theorem open_deed {cs:List Value} {x:DataW H × List MemPlace} (h:DataW.trod enc Tryz.prog w base spare held fuel 29 cs=some x) :
  ∃ y:DD,cs=ddc y∧y.t.size ≤ 9223372036854775807:=by
 obtain ⟨xs,n,rfl,rfl,hl,hn,hf⟩:=DataW.trod_struct Tryz.underlying29 h
 have cW:Tryz.prog.cellsOf 29=3:=by kernel_rfl
 have c4:Tryz.prog.cellsOf 4=1:=by kernel_rfl
 have c3:Tryz.prog.cellsOf 3=1:=by kernel_rfl
 have c9:Tryz.prog.cellsOf 9=1:=by kernel_rfl
 rw [cW] at hl
 have hn:xs.length=3:=hn
 obtain ⟨a0,a1,a2,rfl⟩:=len_3 hl
 obtain ⟨x0,x1,x2,rfl⟩:=len_3 hn
 have g0:DataW.trod enc Tryz.prog w base spare held n 4 [a0]=some x0:=by
  have:(([a0,a1,a2]:List Value).drop 0).take (Tryz.prog.cellsOf 4) = [a0]:=by rw [c4];rfl
  rw [← this];exact hf 0 _ rfl
 have g1:DataW.trod enc Tryz.prog w base spare held n 3 [a1]=some x1:=by
  have:(([a0,a1,a2]:List Value).drop 1).take (Tryz.prog.cellsOf 3) = [a1]:=by rw [c3];rfl
  rw [← this];exact hf 1 _ rfl
 have g2:DataW.trod enc Tryz.prog w base spare held n 9 [a2]=some x2:=by
  have:(([a0,a1,a2]:List Value).drop 2).take (Tryz.prog.cellsOf 9) = [a2]:=by rw [c9];rfl
  rw [← this];exact hf 2 _ rfl
 obtain ⟨y0,e0,y0'⟩:=DataW.trod_bool Tryz.underlying4 g0
 obtain ⟨n1,e1,y1,w1⟩:=DataW.trod_int Tryz.underlying3 g1
 obtain ⟨s2,e2,y2,hs2⟩:=DataW.trod_string Tryz.underlying9 g2
 cases e0
 cases e1
 cases e2
 refine ⟨⟨y0,n1,s2⟩,rfl,?_⟩
 unfold maxLen at hs2
 show s2.size ≤ _
 omega
theorem open_deeds {v:Value} {x:DataW H × List MemPlace} (h:DataW.trod enc Tryz.prog w base spare held fuel 22 [v]=some x) (hq:∀ n ∈ x.1.weights Tryz.prog 22,n ≤ reachBytes) :
  ∃ L:List DD,RdDD w v L∧∀ y ∈ L,y.t.size ≤ 9223372036854775807:=by
 have cW:Tryz.prog.cellsOf 29=3:=by kernel_rfl
 have bW:Tryz.prog.bytesOf 29=32:=by kernel_rfl
 obtain ⟨L,ao,cap,rfl,hL,f,hfr⟩:=open_rowW Tryz.underlying22 cW bW (by decide) h hq (fun cs y=>cs=ddc y∧y.t.size ≤ 9223372036854775807) noDD (fun cs y n hy hk=>open_deed hy)
 have reach_num':reachBytes=140737488351232:=rfl
 rw [reach_num'] at hL
 refine ⟨L,⟨by omega,ao,cap,rfl,fun i hi=>?_⟩,fun y hy=>?_⟩
 ·obtain ⟨⟨e,-⟩,b,o,ha,hr⟩:=hfr i hi
  rw [e] at hr
  exact ⟨b,o,ha,hr⟩
 ·obtain ⟨i,hi,e⟩:=List.mem_iff_getElem.1 hy
  have:=(hfr i hi).1.2
  rw [List.getD_eq_getElem?_getD,List.getElem?_eq_getElem hi] at this
  rw [← e]
  exact this
end
end Go.Proofs.YtkiiameibdhdfaaGreatDoor
namespace Go.Proofs.YtkiiameibdhdfaaGreatDoor
open Go.RowKit Go.Shelf Go.Cs
attribute [local go_sem] Oper.semAt_some


theorem last_law (v:Value) (D:List DD) (w:World) (h:RdDD w v D) (hT:Tab w) (hTs:∀ x ∈ D,x.t.size ≤ 9223372036854775807) :
  Calls Tryz.prog 3 #[v] w fun e w'=>e = .returned (.bool true)∧New w w':=by
 have HW:=Lib.hid (fun W (hN:New w W)=>wakes_p W (hT.new hN))
 have HTb:=Lib.hid hT
 have HD:=Lib.hid h
 have HTs:=Lib.hid hTs
 obtain ⟨ao,cap,rfl⟩:=h.slice
 have hn1:D.length ≤ 281474976710656:=h.1
 obtain ⟨n,hn⟩:∃ n,D.length=n:=⟨_,rfl⟩
 have HN:=Lib.hid hn
 rw [hn] at HD hn1 ⊢
 clear h hn hT hTs
 go_enter Tryz.func3,Tryz.ntmps3
 by_cases hgr:(60:Int) < (n:Int)
 ·have hgd:decide ((60:Int) < (n:Int))=true:=decide_eq_true hgr
  clear hgr
  go_wp2_with fail
  refine (HW.out _ (Mods.refl _ _)).mono ?_
  rintro e w2 ⟨rfl,hk⟩
  go_wp2_with fail
  go_ret
  exact ⟨rfl,hk⟩
 have hgd:decide ((60:Int) < (n:Int))=false:=decide_eq_false hgr
 have hn60:n ≤ 60:=by omega
 clear hgr
 go_wp2_with fail
 refine (new_p _).mono ?_
 rintro e w1 ⟨rfl,hk⟩
 clear hgd
 go_upto_region 4 with fail
 obtain ⟨W0,P,hW0,hP,r0,hN0⟩:=pio_row w1 0 (.slice none 0 0)
 rw [hW0,hP]
 have hPw:w.heap.size ≤ P:=by have:=hk.size;omega
 have hPb:P < W0.heap.size:=(Array.getElem?_eq_some_iff.1 r0).1
 have hN:=hk.trans hN0
 clear hW0 hP hk hN0
 go_upto_region 6 with fail
 go_loopw [4,5] (fun a b wr=>∃ (k:Nat) (K d:List WP) (l:Int) (pv:Value),k ≤ n∧b = .int .i64 k∧K.length ≤ k∧K.length ≤ 60∧Hid (Due l d K)∧Hid (OwW W0.heap.size wr a K.length (wf K.reverse))∧wr.heap[P]? = some (.cells #[.int .i64 l,pv] 26 (0,0))∧Hid (RdW wr pv d)∧Mods (fun b=>b=P) W0 wr) (fun _ b _=>n - (intOf b).toNat)
 case atStart=>exact ⟨0,[],[],0,.slice none 0 0,Nat.zero_le _,rfl,Nat.le_refl _,by decide,Lib.hid Due.start,Lib.hid (OwW.nil _ _ _ (wf_len _)),r0,Lib.hid (RowR.nil _ _ _ _ _),Mods.refl _ _⟩
 case round =>
  obtain ⟨k,K,d,l,pv,hk,rfl,hKk,hK60,HDue,HOw,rP,HRd,hM⟩:=hrel
  clear r0
  have hNw:New w wr:=((Mods.ofNew hN).trans hM).new (fun g hg=>by omega)
  obtain ⟨oa,oc,rfl⟩:=HOw.out.slice
  by_cases hlt:k < n
  ·have hkd:decide ((k:Int) < (n:Int))=true:=decide_eq_true (by omega)
   obtain ⟨b1,o1,rfl,hrow⟩:=(HD.out.new hNw).at.2.2 k hlt
   obtain ⟨x,hx⟩:∃ x,D.getD k noDD=x:=⟨_,rfl⟩
   have hrow:wr.rangeAt b1 (o1 + k * 3) (ddc x):=by rw [← hx];exact hrow
   have hxs:x.t.size ≤ 9223372036854775807:=HTs.out x (by rw [← hx];exact getD_mem (by rw [HN.out];exact hlt))
   obtain ⟨xo,xs,xt⟩:=x
   obtain ⟨k0,k1,k2⟩:=cells3w hrow
   clear hrow hx
   go_upto_region 9 with fail
   obtain ⟨W2,X,hW2,hX,rX,hA⟩:=dd_row wr (.bool xo) (.int .i64 xs) (.string xt)
   rw [hW2,hX]
   have HO2:=Lib.hid (HOw.out.new hA)
   have HR2:=Lib.hid (HRd.out.new hA)
   have rP2:=hA.heap rP id
   have hM2:=hM.trans (Mods.ofNew hA)
   have hNw2:=hNw.trans hA
   clear hW2 hX k0 k1 k2 rP HOw HRd hM hA hNw
   obtain ⟨x0,x1,x2⟩:=dd_facts rX
   by_cases h500:(500:Int) < (xt.size:Int)
   ·have hgd:decide ((500:Int) < (xt.size:Int))=true:=decide_eq_true h500
    clear h500
    go_wp2_with fail
    refine (HW.out _ hNw2).mono ?_
    rintro e w3 ⟨rfl,hk⟩
    go_wp2_with fail
    go_ret
    exact ⟨rfl,hNw2.trans hk⟩
   have hgd:decide ((500:Int) < (xt.size:Int))=false:=decide_eq_false h500
   have hxs2:xt.size ≤ 1000000:=by omega
   clear h500 hxs
   have HRX:=Lib.hid rX
   obtain ⟨m,hm⟩:∃ m,K.length=m:=⟨_,rfl⟩
   have HKm:=Lib.hid hm
   rw [hm] at HO2 hKk hK60 ⊢
   clear hm rX
   go_upto_if 38 with fail
   clear hgd
   go_cut [4] from 39 to 164 (fun a wx=>∃ (K' d':List WP) (l':Int) (pv':Value),K'.length ≤ k + 1∧Hid (Due l' d' K')∧Hid (OwW W0.heap.size wx a K'.length (wf K'.reverse))∧wx.heap[P]? = some (.cells #[.int .i64 l',pv'] 26 (0,0))∧Hid (RdW wx pv' d')∧Mods (fun b=>b=P) W0 wx)
   case first =>
    obtain ⟨pa,pc,rfl⟩:=HR2.out.slice
    obtain ⟨n2,hn2⟩:∃ n,d.length=n:=⟨_,rfl⟩
    have HN2:=Lib.hid hn2
    rw [hn2] at rP2 HR2
    clear hn2
    obtain ⟨⟨p0,p1⟩,-⟩:=pc_facts rP2
    cases xo with
    | false =>
     obtain ⟨-,-,hd4,-,hd6⟩:=right_facts HDue.out.right
     have hu:∀ x ∈ d,x.u < 256:=fun x hx=>by have:=(hd6 x hx).2.2.2;omega
     have hd5:d.length ≤ 1000:=by omega
     have HUp:=Lib.hid (update_f l xs (.slice pa n2 pc) d xt W2 HR2.out hu hd5 hxs2 (HTb.out.new hNw2))
     obtain ⟨⟨F,what,⟨qu,qi⟩,fw,fc⟩,hE⟩:∃ r,updP l d xs (readP xt)=r:=⟨_,rfl⟩
     have HC:=Lib.hid (upd_last HDue.out xt hE)
     rw [hE] at HUp
     unfold updE faV at HUp
     simp only at HUp
     have HRd:=Lib.hid (fun W=>read_pr14 xt W hxs2)
     obtain ⟨⟨ru,ri⟩,hrr⟩:∃ r,(readP xt).getD (3,false)=r:=⟨_,rfl⟩
     obtain ⟨ry,hry⟩:∃ r,(readP xt).isSome=r:=⟨_,rfl⟩
     rw [hrr,hry] at HRd
     simp only at HRd
     have HRR:=Lib.hid hrr
     have HRY:=Lib.hid hry
     clear hd4 hd5 hd6 hu hE hrr hry
     go_wp2_with fail
     refine HUp.out.mono ?_
     rintro e w3 ⟨v3,rfl,⟨hF,hFg⟩,hk⟩
     obtain ⟨fa,fcap,rfl⟩:=hF.slice
     obtain ⟨n3,hn3⟩:∃ n,F.length=n:=⟨_,rfl⟩
     have HN3:=Lib.hid hn3
     rw [hn3] at hF hFg ⊢
     have HF3:=Lib.hid hF
     have HFg:=Lib.hid hFg
     have rP3:=hk.heap rP2 id
     have rX3:=hk.heap HRX.out id
     have hkv:∀ g,(Value.slice oa m oc).ownBlock=some g→W0.heap.size ≤ g∧g < W2.heap.size:=fun g hg=>HO2.out.lt hg
     have HKV:=Lib.hid hkv
     have hPW:P < W2.heap.size:=by have:=hM2.size;omega
     have h23:W2.heap.size ≤ w3.heap.size:=hk.size
     clear hn3 hF hFg HUp p0 p1 x0 x1 x2 hkv
     go_upto_region 13 with fail
     have ha:=alloc3 w3 (.cells #[.int .i64 l,.slice fa n3 fcap] 26) (.cells #[.int .u8 qu,.bool qi] 31) (.cells #[.bool fw,.int .i64 0,.int .u32 fc] 34)
     obtain ⟨w4,hw⟩:∃ V,(((w3.alloc (.cells #[.int .i64 l,.slice fa n3 fcap] 26)).alloc (.cells #[.int .u8 qu,.bool qi] 31)).alloc (.cells #[.bool fw,.int .i64 0,.int .u32 fc] 34))=V:=⟨_,rfl⟩
     obtain ⟨Y,hY⟩:∃ b,w3.heap.size=b:=⟨_,rfl⟩
     rw [hw,hY] at ha
     rw [hY] at h23
     simp only [hw,hY,Nat.add_assoc,Nat.reduceAdd]
     obtain ⟨hk4,rF,rQ,rE⟩:=ha
     have rX4:=hk4.heap rX3 id
     obtain ⟨x0,x1,x2⟩:=dd_facts rX4
     clear hw hY rX3
     go_upto_region 14 with (go_at_call 16;refine (HRd.out _).mono ?_;rintro e w5 ⟨rfl,hk5⟩)
     obtain ⟨w6,P11,hW6,hP11,rR,hk6,-⟩:=prow w5 ru ri
     rw [hW6,hP11]
     have hk56:=hk5.trans hk6
     have hkk:=(hk.trans hk4).trans hk56
     have rP6:=hkk.heap rP2 id
     have rX6:=hkk.heap HRX.out id
     have rF6:=hk56.heap rF id
     have rQ6:=hk56.heap rQ id
     have rE6:=hk56.heap rE id
     have HO6:=Lib.hid (HO2.out.new hkk)
     have HF6:=Lib.hid (HF3.out.new (hk4.trans hk56))
     have HR6:=Lib.hid (HR2.out.new hkk)
     have hM6:=hM2.trans (Mods.ofNew hkk)
     clear hW6 hP11 hk hk4 hk5 hk6 hk56 hkk rP2 rP3 rX4 rF rQ rE HRd x0 x1 x2 HO2 HF3 HR2 hM2
     obtain ⟨x0,x1,x2⟩:=dd_facts rX6
     obtain ⟨⟨p0,p1⟩,-⟩:=pc_facts rP6
     obtain ⟨⟨g0,g1⟩,-⟩:=pc_facts rF6
     obtain ⟨d0,d1⟩:=prq_cells rQ6
     obtain ⟨e0,e1⟩:=prq_cells rR
     obtain ⟨f0,f1,f2⟩:=flt_facts rE6
     rcases HC.out with ⟨rfl,hFd,hf⟩ | ⟨rfl,hFd,hr,hsl,rfl,rfl⟩ | ⟨rfl,hDF,hr,hsl,rfl,rfl⟩
     ·obtain rfl:=hFd.symm
      rcases hf with ⟨rfl,rfl⟩ | ⟨rfl,rfl,hs⟩
      ·go_upto_region 18 with fail
       have HS:=same_r24 l l (.slice fa n3 fcap) (.slice pa n2 pc) d d w6 HF6.out HR6.out
       rw [decide_eq_true rfl,decide_eq_true rfl] at HS
       go_wp2_with fail
       refine HS.mono ?_
       rintro e w7 ⟨rfl,hk7⟩
       have rP7:=hk7.heap rP6 id
       have rF7:=hk7.heap rF6 id
       have HO7:=Lib.hid (HO6.out.new hk7)
       have HF7:=Lib.hid (HF6.out.new hk7)
       have hM7:=hM6.trans (Mods.ofNew hk7)
       clear hk7 x0 x1 x2 p0 p1 g0 g1 d0 d1 e0 e1 f0 f1 f2 HS HO6 HF6 hM6
       obtain ⟨⟨p0,p1⟩,p2,p3⟩:=pc_facts rP7
       obtain ⟨⟨g0,g1⟩,-⟩:=pc_facts rF7
       obtain ⟨rP8,hM8⟩:=pc_set rP7 (.int .i64 l) (.slice fa n3 fcap)
       go_wp2_with fail
       go_meet
       exact ⟨K,d,l,.slice fa n3 fcap,by have:=HKm.out;omega,HDue,Lib.hid (by rw [HKm.out];exact HO7.out.mods hM8 (fun g hg e=>by have:=(HO7.out.lt hg).1;omega)),rP8,Lib.hid (RowR.kept HF7.out hM8 (fun _ g hg e=>by have:=HFg.out g hg;omega)),hM7.trans hM8⟩
      ·by_cases hs1:xs < 1
       ·have hd1:decide (1 ≤ xs)=false:=decide_eq_false (by omega)
        clear hs hs1
        go_upto_region 18 with fail
        have HS:=same_r24 l l (.slice fa n3 fcap) (.slice pa n2 pc) d d w6 HF6.out HR6.out
        rw [decide_eq_true rfl,decide_eq_true rfl] at HS
        go_wp2_with fail
        refine HS.mono ?_
        rintro e w7 ⟨rfl,hk7⟩
        have rP7:=hk7.heap rP6 id
        have rF7:=hk7.heap rF6 id
        have HO7:=Lib.hid (HO6.out.new hk7)
        have HF7:=Lib.hid (HF6.out.new hk7)
        have hM7:=hM6.trans (Mods.ofNew hk7)
        clear hk7 x0 x1 x2 p0 p1 g0 g1 d0 d1 e0 e1 f0 f1 f2 HS HO6 HF6 hM6
        obtain ⟨⟨p0,p1⟩,p2,p3⟩:=pc_facts rP7
        obtain ⟨⟨g0,g1⟩,-⟩:=pc_facts rF7
        obtain ⟨rP8,hM8⟩:=pc_set rP7 (.int .i64 l) (.slice fa n3 fcap)
        go_wp2_with fail
        go_meet
        exact ⟨K,d,l,.slice fa n3 fcap,by have:=HKm.out;omega,HDue,Lib.hid (by rw [HKm.out];exact HO7.out.mods hM8 (fun g hg e=>by have:=(HO7.out.lt hg).1;omega)),rP8,Lib.hid (RowR.kept HF7.out hM8 (fun _ g hg e=>by have:=HFg.out g hg;omega)),hM7.trans hM8⟩
       ·have hd1:decide (1 ≤ xs)=true:=decide_eq_true (by omega)
        have hmd:xs.tmod 2=xs % 2:=Int.tmod_eq_emod_of_nonneg (by omega)
        have hs2:xs % 2=0:=by omega
        have e3:(xs.tmod 2 == 1)=false:=by rw [beq_eq_false_iff_ne,hmd,hs2];decide
        have e4:(xs % 2 == 1)=false:=by rw [beq_eq_false_iff_ne,hs2];decide
        clear hs hs1 hmd hs2
        go_upto_region 18 with fail
        have HS:=same_r24 l l (.slice fa n3 fcap) (.slice pa n2 pc) d d w6 HF6.out HR6.out
        rw [decide_eq_true rfl,decide_eq_true rfl] at HS
        go_wp2_with fail
        refine HS.mono ?_
        rintro e w7 ⟨rfl,hk7⟩
        have rP7:=hk7.heap rP6 id
        have rF7:=hk7.heap rF6 id
        have HO7:=Lib.hid (HO6.out.new hk7)
        have HF7:=Lib.hid (HF6.out.new hk7)
        have hM7:=hM6.trans (Mods.ofNew hk7)
        clear hk7 x0 x1 x2 p0 p1 g0 g1 d0 d1 e0 e1 f0 f1 f2 HS HO6 HF6 hM6
        obtain ⟨⟨p0,p1⟩,p2,p3⟩:=pc_facts rP7
        obtain ⟨⟨g0,g1⟩,-⟩:=pc_facts rF7
        obtain ⟨rP8,hM8⟩:=pc_set rP7 (.int .i64 l) (.slice fa n3 fcap)
        go_wp2_with fail
        go_meet
        exact ⟨K,d,l,.slice fa n3 fcap,by have:=HKm.out;omega,HDue,Lib.hid (by rw [HKm.out];exact HO7.out.mods hM8 (fun g hg e=>by have:=(HO7.out.lt hg).1;omega)),rP8,Lib.hid (RowR.kept HF7.out hM8 (fun _ g hg e=>by have:=HFg.out g hg;omega)),hM7.trans hM8⟩
     ·obtain rfl:=hFd.symm
      have h1:=HRR.out
      have h2:=HRY.out
      rw [hr] at h1 h2
      cases h1
      obtain rfl:true=ry:=h2
      have hd1:decide (l < xs)=false:=decide_eq_false (by omega)
      clear hr hsl HRR HRY
      go_upto_region 18 with fail
      have HS:=same_r24 l l (.slice fa n3 fcap) (.slice pa n2 pc) d d w6 HF6.out HR6.out
      rw [decide_eq_true rfl,decide_eq_true rfl] at HS
      go_wp2_with fail
      refine HS.mono ?_
      rintro e w7 ⟨rfl,hk7⟩
      have rP7:=hk7.heap rP6 id
      have rF7:=hk7.heap rF6 id
      have HO7:=Lib.hid (HO6.out.new hk7)
      have HF7:=Lib.hid (HF6.out.new hk7)
      have hM7:=hM6.trans (Mods.ofNew hk7)
      clear hk7 x0 x1 x2 p0 p1 g0 g1 d0 d1 e0 e1 f0 f1 f2 HS HO6 HF6 hM6
      obtain ⟨⟨p0,p1⟩,p2,p3⟩:=pc_facts rP7
      obtain ⟨⟨g0,g1⟩,-⟩:=pc_facts rF7
      obtain ⟨rP8,hM8⟩:=pc_set rP7 (.int .i64 l) (.slice fa n3 fcap)
      go_wp2_with fail
      go_meet
      exact ⟨K,d,l,.slice fa n3 fcap,by have:=HKm.out;omega,HDue,Lib.hid (by rw [HKm.out];exact HO7.out.mods hM8 (fun g hg e=>by have:=(HO7.out.lt hg).1;omega)),rP8,Lib.hid (RowR.kept HF7.out hM8 (fun _ g hg e=>by have:=HFg.out g hg;omega)),hM7.trans hM8⟩
     ·have h1:=HRR.out
      have h2:=HRY.out
      rw [hr] at h1 h2
      cases h1
      obtain rfl:true=ry:=h2
      have hd1:decide (xs ≤ l)=false:=decide_eq_false (by omega)
      clear hr hsl HRR HRY
      go_upto_region 17 with fail
      have hwb:W0.heap.size ≤ w6.heap.size:=hM6.size
      go_upto_region 20 with (at_builtin;refine wpList_append_W (w:=w6) (c:=wcs ⟨xs,qu,qi⟩) _ _ rfl rfl rfl rfl rfl rfl (wcs_one _) HO6.out (by omega) hwb ?_;intro v' W' ho' hm';obtain ⟨a',c',rfl⟩:=ho'.slice)
      have hM7:=hm' W0 _ hM6 (fun g hg=>.inl (HKV.out g hg).1)
      have hq7:=hm' w6 (fun b=>(Value.slice oa m oc).ownBlock=some b) (Mods.refl _ _) (fun g hg=>.inr hg)
      have rP7:=hq7.heap rP6 (fun hg=>by have:=(HKV.out _ hg).1;omega)
      have rF7:=hq7.heap rF6 (fun hg=>by have:=(HKV.out _ hg).2;omega)
      have HF7:=Lib.hid (RowR.kept HF6.out hq7 (fun _ g hg e=>by have:=HFg.out g hg;have:=(HKV.out g e).2;omega))
      have HO7:=Lib.hid ho'
      clear x0 x1 x2 p0 p1 g0 g1 d0 d1 e0 e1 f0 f1 f2 HO6 HF6 hM6 hm' hq7 ho'
      obtain ⟨⟨p0,p1⟩,p2,p3⟩:=pc_facts rP7
      obtain ⟨⟨g0,g1⟩,-⟩:=pc_facts rF7
      obtain ⟨rP8,hM8⟩:=pc_set rP7 (.int .i64 l) (.slice fa n3 fcap)
      go_wp2_with fail
      go_meet
      refine ⟨⟨xs,qu,qi⟩::K,F,l,.slice fa n3 fcap,by have:=HKm.out;simp only [List.length_cons];omega,Lib.hid hDF,Lib.hid ?_,rP8,Lib.hid (RowR.kept HF7.out hM8 (fun _ g hg e=>by have:=HFg.out g hg;omega)),hM7.trans hM8⟩
      have h7:=HO7.out.mods hM8 (fun g hg e=>by have:=(HO7.out.lt hg).1;omega)
      rw [← HKm.out] at h7 ⊢
      exact h7.congr (wf_len _) fun i hi=>wf_snoc_rev _ _ i hi
    | true =>
     obtain ⟨-,-,hd4,-,hd6⟩:=right_facts HDue.out.right
     have hu:∀ x ∈ d,x.u < 256:=fun x hx=>by have:=(hd6 x hx).2.2.2;omega
     have hd5:d.length ≤ 1000:=by omega
     have HUp:=Lib.hid (open_f l xs (.slice pa n2 pc) d xt true W2 HR2.out hu hd5 hxs2 (HTb.out.new hNw2))
     obtain ⟨⟨l',F,⟨qu,qi⟩,ok⟩,hE⟩:∃ r,openP l d xs true (readP xt)=r:=⟨_,rfl⟩
     have HC:=Lib.hid (open_last HDue.out (readP xt) hE)
     rw [hE] at HUp
     unfold openE at HUp
     simp only at HUp
     clear hd4 hd5 hd6 hu hE
     go_wp2_with fail
     refine HUp.out.mono ?_
     rintro e w3 ⟨v3,rfl,⟨hF,hFg⟩,hk⟩
     obtain ⟨fa,fcap,rfl⟩:=hF.slice
     obtain ⟨n3,hn3⟩:∃ n,F.length=n:=⟨_,rfl⟩
     rw [hn3] at hF hFg ⊢
     have HF3:=Lib.hid hF
     have HFg:=Lib.hid hFg
     have rP3:=hk.heap rP2 id
     have rX3:=hk.heap HRX.out id
     have HKV:=Lib.hid (fun g hg=>HO2.out.lt (g:=g) hg)
     have hPW:P < W2.heap.size:=by have:=hM2.size;omega
     clear hn3 hF hFg HUp p0 p1 x0 x1 x2
     go_upto_region 22 with fail
     have ha:=alloc2 w3 (.cells #[.int .i64 l',.slice fa n3 fcap] 26) (.cells #[.int .u8 qu,.bool qi] 31)
     obtain ⟨w4,hw⟩:∃ V,((w3.alloc (.cells #[.int .i64 l',.slice fa n3 fcap] 26)).alloc (.cells #[.int .u8 qu,.bool qi] 31))=V:=⟨_,rfl⟩
     obtain ⟨Y,hY⟩:∃ b,w3.heap.size=b:=⟨_,rfl⟩
     rw [hw,hY] at ha
     simp only [hw,hY]
     obtain ⟨hk4,rF,rQ⟩:=ha
     have hkk:=hk.trans hk4
     have rP4:=hkk.heap rP2 id
     have rX4:=hkk.heap HRX.out id
     have HO4:=Lib.hid (HO2.out.new hkk)
     have HF4:=Lib.hid (HF3.out.new hk4)
     have hM4:=hM2.trans (Mods.ofNew hkk)
     clear hw hY hk hk4 hkk rP2 rP3 rX3 HO2 HF3 HR2 hM2
     obtain ⟨x0,x1,x2⟩:=dd_facts rX4
     obtain ⟨⟨p0,p1⟩,p2,p3⟩:=pc_facts rP4
     obtain ⟨⟨g0,g1⟩,-⟩:=pc_facts rF
     obtain ⟨d0,d1⟩:=prq_cells rQ
     rcases HC.out with ⟨rfl,hl',hls,hDF,hdue⟩ | ⟨rfl,hl',hFd⟩
     ·subst hl'
      have hd1:decide (l < l')=true:=decide_eq_true hls
      have he1:(l' == l')=true:=by simp
      have hrd:RdW w4 (.slice oa m oc) K.reverse:=by
       have h:=HO4.out
       rw [← HKm.out,← List.length_reverse] at h ⊢
       exact h.reads (by rw [List.length_reverse,HKm.out];omega)
      have hdu:=due_l (qu,qi) (.slice oa m oc) K.reverse l' xt w4 hrd (by rw [List.length_reverse,HKm.out];omega) hxs2
      rw [List.reverse_reverse,hdue] at hdu
      have HDu:=Lib.hid hdu
      clear hrd hdu hdue
      go_upto_region 24 with (go_at_call 19;refine HDu.out.mono ?_;rintro e w5 ⟨rfl,hk5⟩;have g0':=hk5.cell g0 id;have x1':=hk5.cell x1 id;have p0':=hk5.cell p0 id)
      have rP5:=hk5.heap rP4 id
      have rF5:=hk5.heap rF id
      have HO5:=Lib.hid (HO4.out.new hk5)
      have HF5:=Lib.hid (HF4.out.new hk5)
      have hM5:=hM4.trans (Mods.ofNew hk5)
      clear x0 x1 x2 p0 p1 p2 p3 g0 g1 d0 d1 g0' x1' p0' hk5 rP4 rF HO4 HF4 hM4
      obtain ⟨⟨p0,p1⟩,p2,p3⟩:=pc_facts rP5
      obtain ⟨⟨g0,g1⟩,-⟩:=pc_facts rF5
      obtain ⟨rP8,hM8⟩:=pc_set rP5 (.int .i64 l') (.slice fa n3 fcap)
      go_wp2_with fail
      go_meet
      exact ⟨K,F,l',.slice fa n3 fcap,by have:=HKm.out;omega,Lib.hid hDF,Lib.hid (by rw [HKm.out];exact HO5.out.mods hM8 (fun g hg e=>by have:=(HO5.out.lt hg).1;omega)),rP8,Lib.hid (RowR.kept HF5.out hM8 (fun _ g hg e=>by have:=HFg.out g hg;omega)),hM5.trans hM8⟩
     ·subst hl'
      obtain rfl:=hFd.symm
      have hd1:l'=xs→decide (l' < xs)=false:=fun h=>decide_eq_false (by omega)
      by_cases he:l'=xs
      ·have he1:(l' == xs)=true:=by simp [he]
       have hd2:=hd1 he
       clear he hd1
       go_upto_region 24 with fail
       have rP5:=rP4
       have HO5:=HO4
       have HF5:=HF4
       have hM5:=hM4
       obtain ⟨rP8,hM8⟩:=pc_set rP5 (.int .i64 l') (.slice fa n3 fcap)
       go_wp2_with fail
       go_meet
       exact ⟨K,d,l',.slice fa n3 fcap,by have:=HKm.out;omega,HDue,Lib.hid (by rw [HKm.out];exact HO5.out.mods hM8 (fun g hg e=>by have:=(HO5.out.lt hg).1;omega)),rP8,Lib.hid (RowR.kept HF5.out hM8 (fun _ g hg e=>by have:=HFg.out g hg;omega)),hM5.trans hM8⟩
      ·have he1:(l' == xs)=false:=by simp [he]
       clear he hd1
       go_upto_region 24 with fail
       have rP5:=rP4
       have HO5:=HO4
       have HF5:=HF4
       have hM5:=hM4
       obtain ⟨rP8,hM8⟩:=pc_set rP5 (.int .i64 l') (.slice fa n3 fcap)
       go_wp2_with fail
       go_meet
       exact ⟨K,d,l',.slice fa n3 fcap,by have:=HKm.out;omega,HDue,Lib.hid (by rw [HKm.out];exact HO5.out.mods hM8 (fun g hg e=>by have:=(HO5.out.lt hg).1;omega)),rP8,Lib.hid (RowR.kept HF5.out hM8 (fun _ g hg e=>by have:=HFg.out g hg;omega)),hM5.trans hM8⟩
   case rest =>
    obtain ⟨K',d',l',pv',hKk',HDue',HO',rP',HRd',hM'⟩:=hcut
    have hNc:New w wc:=((Mods.ofNew hN).trans hM').new (fun g hg=>by omega)
    obtain ⟨⟨p0,p1⟩,-⟩:=pc_facts rP'
    obtain ⟨-,-,-,-,hd6⟩:=right_facts HDue'.out.right
    have hR:=right_r24 l' pv' d' wc HRd'.out (fun x hx=>by have:=(hd6 x hx).2.2.2;omega)
    rw [HDue'.out.right] at hR
    have HR':=Lib.hid hR
    clear hR hd6 HDue HO2 HR2 rP2 hM2
    go_wp2_with fail
    refine HR'.out.mono ?_
    rintro e w9 ⟨rfl,hk9⟩
    go_wp2_with fail
    go_roundw
    case rel=>exact ⟨k + 1,K',d',l',pv',by omega,by go_num,hKk',by omega,HDue',Lib.hid (HO'.out.new hk9),hk9.heap rP' id,Lib.hid (HRd'.out.new hk9),hM'.trans (Mods.ofNew hk9)⟩
    case measure=>simp [intOf];omega
  ·obtain rfl:k=n:=by omega
   have hkd:decide ((k:Int) < (k:Int))=false:=decide_eq_false (by omega)
   clear HOw HRd HDue
   go_wp2_with fail
   refine (HW.out _ hNw).mono ?_
   rintro e w3 ⟨rfl,hk⟩
   go_wp2_with fail
   go_ret
   exact ⟨rfl,hNw.trans hk⟩
end Go.Proofs.YtkiiameibdhdfaaGreatDoor
