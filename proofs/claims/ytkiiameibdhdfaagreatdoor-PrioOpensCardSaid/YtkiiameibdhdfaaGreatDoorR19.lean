/- Texts joined. -/
import Derived.Test.YtkiiameibdhdfaaGreatDoorR18
import Derived.Deep.CutBlock
import Derived.Deep.DeepCutAuto
import Derived.Test.YtkiiameibdhdfaaGreatDoorR10
import Derived.Test.YtkiiameibdhdfaaGreatDoorR14
import Derived.Test.YtkiiameibdhdfaaGreatDoorR12
import Derived.Test.YtkiiameibdhdfaaGreatDoorR13
set_option linter.unusedSimpArgs false
set_option linter.unusedVariables false
set_option maxHeartbeats 16000000
set_option maxRecDepth 100000
namespace Go.Proofs.YtkiiameibdhdfaaGreatDoor
open Go.RowKit Go.Shelf Go.Cs
attribute [local go_sem] Oper.semAt_some


theorem first_r14 (w:World):Calls Tryz.prog 23 #[] w fun e w'=>e = .returned (prV 3 false)∧New w w':=by
 unfold prV
 go_enter Tryz.func23,Tryz.ntmps23
 go_upto_region 1 with fail
 have hA:New w (w.alloc (.cells #[.int .u8 0,.bool false] 31)):=(Mods.refl _ _).alloc _
 have r0:=World.alloc_heap_new w (.cells #[.int .u8 0,.bool false] 31)
 obtain ⟨W,hW⟩:∃ W,w.alloc (.cells #[.int .u8 0,.bool false] 31)=W:=⟨_,rfl⟩
 obtain ⟨R,hR⟩:∃ R,w.heap.size=R:=⟨_,rfl⟩
 have hwR:w.heap.size ≤ R:=by omega
 rw [hW] at hA r0 ⊢
 rw [hR] at r0 ⊢
 clear hW hR
 go_wp2_with (refine op_skip rfl (run_store_row 31 (.tmp 0) (.tmp 1) rfl R rfl 31 [.int .u8 0,.bool false] [.int .u8 3,.bool false] rfl r0 sizePr rfl (by decide)) ?_)
 have hrow:=setRow_heap W R _ #[.int .u8 3,.bool false] _ _ r0
 refine bodyPost_ret (v:=.agg #[.int .u8 3,.bool false]) (results_cell_row rfl _ _ R 31 _ (0,0) _ rfl hrow Tryz.underlying31 rfl sizePr) rfl ?_
 exact ⟨rfl,hA.setRow hwR _⟩
def okU (b:Bare.It) (y:Bool):Bool:=y && decide (b.kind=1) && decide (0 ≤ b.int) && decide (b.int ≤ 7)
def okB (b:Bare.It) (y:Bool):Bool:=y && decide (b.kind=6)
theorem urg_ok (d:List Bare.Mem):Bare.urgOf d=if okU ((Bare.heard d [117]).getD noIt) (Bare.heard d [117]).isSome=true then ((Bare.heard d [117]).getD noIt).int else 3:=by
 unfold Bare.urgOf okU
 cases Bare.heard d [117] with
 | none=>rfl
 | some b=>simp [and_assoc]
theorem inc_ok (d:List Bare.Mem):Bare.incOf d=if okB ((Bare.heard d [105]).getD noIt) (Bare.heard d [105]).isSome=true then ((Bare.heard d [105]).getD noIt).yes else false:=by
 unfold Bare.incOf okB
 cases Bare.heard d [105] with
 | none=>rfl
 | some b =>
  by_cases h:b.kind=6 <;> simp [h]
theorem ba_row (w:World) (k n:Int) (t:ByteArray) (y:Bool):∃ V M,w.alloc (.cells #[.int .u8 k,.int .i64 n,.string t,.bool y] 66)=V∧w.heap.size=M∧V.heap[M]? = some (.cells #[.int .u8 k,.int .i64 n,.string t,.bool y] 66 (0,0))∧New w V:=⟨_,_,rfl,rfl,World.alloc_heap_new _ _,(Mods.refl _ _).alloc _⟩
theorem prq_cells {W:World} {B:Nat} {u:Int} {i:Bool} (hr:W.heap[B]? = some (.cells #[.int .u8 u,.bool i] 31 (0,0))):W.cell? ⟨B,0,none⟩=some (.int .u8 u)∧W.cell? ⟨B,1,none⟩=some (.bool i) :=
 ⟨cell_of_row _ _ 0 _ _ _ hr,cell_of_row _ _ 1 _ _ _ hr⟩
theorem prow (w:World) (u:Int) (i:Bool):∃ V P,w.alloc (.cells #[.int .u8 u,.bool i] 31)=V∧w.heap.size=P∧V.heap[P]? = some (.cells #[.int .u8 u,.bool i] 31 (0,0))∧New w V∧w.heap.size ≤ P:=⟨_,_,rfl,rfl,World.alloc_heap_new _ _,(Mods.refl _ _).alloc _,Nat.le_refl _⟩
theorem of_r14 {τ:Bool} (v:Value) (d:List Bare.Mem) (w:World) (h:RdD τ w v d) (hd:d.length ≤ 1000000) (hf:∀ i,i < d.length→FitO (d.getD i noM)) :
  Calls Tryz.prog 50 #[v] w fun e w'=>e = .returned (prV (Bare.urgOf d) (Bare.incOf d))∧New w w':=by
 have HU:=Lib.hid (fun W (hN:New w W)=>bare_r14 v ⟨#[117]⟩ d W (h.new hN) hd hf)
 have HI:=Lib.hid (fun W (hN:New w W)=>bare_r14 v ⟨#[105]⟩ d W (h.new hN) hd hf)
 rw [show bl ⟨#[117]⟩ = [117] from rfl] at HU
 rw [show bl ⟨#[105]⟩ = [105] from rfl] at HI
 have hu:=urg_ok d
 have hi:=inc_ok d
 unfold heardV at HU HI
 obtain ⟨b,hb⟩:∃ b,(Bare.heard d [117]).getD noIt=b:=⟨_,rfl⟩
 obtain ⟨y,hy⟩:∃ b,(Bare.heard d [117]).isSome=b:=⟨_,rfl⟩
 obtain ⟨c,hc⟩:∃ b,(Bare.heard d [105]).getD noIt=b:=⟨_,rfl⟩
 obtain ⟨z,hz⟩:∃ b,(Bare.heard d [105]).isSome=b:=⟨_,rfl⟩
 rw [hb,hy] at HU hu
 rw [hc,hz] at HI hi
 obtain ⟨uu,huu⟩:∃ b,Bare.urgOf d=b:=⟨_,rfl⟩
 obtain ⟨ii,hii⟩:∃ b,Bare.incOf d=b:=⟨_,rfl⟩
 rw [huu] at hu ⊢
 rw [hii] at hi ⊢
 have Hu:=Lib.hid hu
 have Hi:=Lib.hid hi
 obtain ⟨ao,cap,rfl⟩:∃ ao cap,v = .slice ao d.length cap:=by obtain ⟨_,_,h1,_⟩:=h;exact h1.slice
 obtain ⟨n,hn⟩:∃ n,d.length=n:=⟨_,rfl⟩
 rw [hn] at HU HI ⊢
 obtain ⟨bk,hbk⟩:∃ x,b.kind=x:=⟨_,rfl⟩
 obtain ⟨bn,hbn⟩:∃ x,b.int=x:=⟨_,rfl⟩
 obtain ⟨bt,hbt⟩:∃ x,tx b.text=x:=⟨_,rfl⟩
 obtain ⟨by',hby⟩:∃ x,b.yes=x:=⟨_,rfl⟩
 obtain ⟨ck,hck⟩:∃ x,c.kind=x:=⟨_,rfl⟩
 obtain ⟨cn,hcn⟩:∃ x,c.int=x:=⟨_,rfl⟩
 obtain ⟨ct,hct⟩:∃ x,tx c.text=x:=⟨_,rfl⟩
 obtain ⟨cy,hcy⟩:∃ x,c.yes=x:=⟨_,rfl⟩
 rw [hbk,hbn,hbt,hby] at HU
 rw [hck,hcn,hct,hcy] at HI
 unfold okU at Hu
 unfold okB at Hi
 rw [hbk,hbn] at Hu
 rw [hck,hcy] at Hi
 obtain ⟨c1,hc1⟩:∃ x,(y && decide (bk=1) && decide (0 ≤ bn) && decide (bn ≤ 7))=x:=⟨_,rfl⟩
 obtain ⟨c2,hc2⟩:∃ x,(z && decide (ck=6))=x:=⟨_,rfl⟩
 rw [hc1] at Hu
 rw [hc2] at Hi
 have HC1:=Lib.hid hc1
 have HC2:=Lib.hid hc2
 clear h hf hd hu hi hb hy hc hz huu hii hn hbk hbn hbt hby hck hcn hct hcy hc1 hc2
 unfold prV
 go_enter Tryz.func50,Tryz.ntmps50
 go_upto_region 1 with fail
 obtain ⟨w1,P,hW1,hP,rP,hN1,hwP⟩:=prow w 0 false
 rw [hW1,hP]
 clear hW1 hP
 go_upto_region 2 with (go_at_call 23;refine (first_r14 _).mono ?_;rintro e w2 ⟨rfl,hN2⟩;unfold prV)
 obtain ⟨w3,Q,hW3,hQ,rQ,hN3,hwQ⟩:=prow w2 3 false
 rw [hW3,hQ]
 have hPl:=(Array.getElem?_eq_some_iff.1 rP).1
 have hPQ:¬ P=Q:=by have:=hN2.size;omega
 have hwQ':w.heap.size ≤ Q:=by have:=hN2.size;have:=hN1.size;omega
 have hN:=(hN1.trans hN2).trans hN3
 replace rP:=(hN2.trans hN3).heap rP id
 clear hW3 hQ hN1 hN2 hN3 hPl hwQ
 go_upto_region 3 with (go_at_call 92;refine (HU.out _ hN).mono ?_;rintro e w4 ⟨rfl,hk⟩)
 obtain ⟨w5,U,hW5,hU,rU,hk5⟩:=ba_row w4 bk bn bt by'
 rw [hW5,hU]
 have hkk:=hk.trans hk5
 replace hN:=hN.trans hkk
 replace rP:=hkk.heap rP id
 replace rQ:=hkk.heap rQ id
 clear hW5 hU hk hk5 hkk HU
 obtain ⟨u0,u1⟩:w5.cell? ⟨U,0,none⟩=some (.int .u8 bk)∧w5.cell? ⟨U,1,none⟩=some (.int .i64 bn):=⟨cell_of_row _ _ 0 _ _ _ rU,cell_of_row _ _ 1 _ _ _ rU⟩
 go_cut [29] from 14 (fun s29 wx=>s29 = .bool c1∧New w5 wx)
 case first =>
  cases y with
  | false =>
   have hh:c1=false:=by rw [← HC1.out];rfl
   subst hh
   go_wp2_with fail
   go_meet
   exact ⟨rfl,Mods.refl _ _⟩
  | true =>
   by_cases h1:bk=1
   ·have e1:(bk == 1)=true:=by rw [beq_iff_eq];exact h1
    by_cases h2:0 ≤ bn
    ·have e2:decide (0 ≤ bn)=true:=decide_eq_true h2
     by_cases h3:bn ≤ 7
     ·have e3:decide (bn ≤ 7)=true:=decide_eq_true h3
      have hh:c1=true:=by rw [← HC1.out,decide_eq_true h1,e2,e3];rfl
      subst hh
      clear h1
      go_wp2_with fail
      go_meet
      exact ⟨rfl,Mods.refl _ _⟩
     ·have e3:decide (bn ≤ 7)=false:=decide_eq_false h3
      have hh:c1=false:=by rw [← HC1.out,e3];simp
      subst hh
      clear h1
      go_wp2_with fail
      go_meet
      exact ⟨rfl,Mods.refl _ _⟩
    ·have e2:decide (0 ≤ bn)=false:=decide_eq_false h2
     have hh:c1=false:=by rw [← HC1.out,e2];simp
     subst hh
     clear h1
     go_wp2_with fail
     go_meet
     exact ⟨rfl,Mods.refl _ _⟩
   ·have e1:(bk == 1)=false:=by rw [beq_eq_false_iff_ne];exact h1
    have hh:c1=false:=by rw [← HC1.out,decide_eq_false h1];simp
    subst hh
    go_wp2_with fail
    go_meet
    exact ⟨rfl,Mods.refl _ _⟩
 case rest =>
  obtain ⟨rfl,hk⟩:=hcut
  clear u0 u1
  replace hN:=hN.trans hk
  replace rP:=hk.heap rP id
  replace rQ:=hk.heap rQ id
  replace rU:=hk.heap rU id
  clear hk
  cases c1 with
  | true =>
   have hc:=HC1.out
   simp only [Bool.and_eq_true,decide_eq_true_eq] at hc
   have hn0:0 ≤ bn:=hc.1.2
   have hn7:bn ≤ 7:=hc.2
   have huv:uu=bn:=by rw [Hu.out];rfl
   have u1:=cell_of_row _ _ 1 _ _ _ rU
   simp only [gS] at u1
   have q0:=cell_of_row _ _ 0 _ _ _ rQ
   simp only [gS] at q0
   have f0:=frozen_row (i:=0) rQ
   have hwr:IntKind.u8.wrap bn=bn:=IntWalk.u8_in _ ⟨by omega,by omega⟩
   have hHuv:=Lib.hid huv
   clear hc huv
   go_upto_region 5 with fail
   have hm:=setMods wc Q 0 (.int .u8 bn)
   have rQ2:=setCell_heap (i:=0) rQ (.int .u8 bn)
   simp only [pS] at rQ2
   have rP2:=hm.heap rP hPQ
   obtain ⟨wz,hwz⟩:∃ V,wc.setCell ⟨Q,0,none⟩ (.int .u8 bn)=V:=⟨_,rfl⟩
   rw [hwz] at hm rQ2 rP2 ⊢
   replace hN:New w wz:=((Mods.ofNew hN).trans hm).new (fun g hg=>by omega)
   replace rQ:=rQ2
   replace rP:=rP2
   clear hwz q0 f0 u1 hm rQ2 rP2 rU hwr
   have huv:=Lib.hid hHuv.out
   go_upto_region 6 with (go_at_call 92;refine (HI.out _ hN).mono ?_;rintro e w8 ⟨rfl,hk⟩)
   obtain ⟨w9,X,hW9,hX,rX,hk9⟩:=ba_row w8 ck cn ct cy
   rw [hW9,hX]
   have hkk:=hk.trans hk9
   replace hN:=hN.trans hkk
   replace rP:=hkk.heap rP id
   replace rQ:=hkk.heap rQ id
   clear hW9 hX hk hk9 hkk HI
   obtain ⟨x0,x3⟩:w9.cell? ⟨X,0,none⟩=some (.int .u8 ck)∧w9.cell? ⟨X,3,none⟩=some (.bool cy):=⟨cell_of_row _ _ 0 _ _ _ rX,cell_of_row _ _ 3 _ _ _ rX⟩
   go_cut [44] from 39 (fun s44 wx=>s44 = .bool c2∧New w9 wx)
   case first =>
    cases z with
    | false =>
     have hh:c2=false:=by rw [← HC2.out];rfl
     subst hh
     go_wp2_with fail
     go_meet
     exact ⟨rfl,Mods.refl _ _⟩
    | true =>
     by_cases h1:ck=6
     ·have e1:(ck == 6)=true:=by rw [beq_iff_eq];exact h1
      have hh:c2=true:=by rw [← HC2.out,decide_eq_true h1];rfl
      subst hh
      clear h1
      go_wp2_with fail
      go_meet
      exact ⟨rfl,Mods.refl _ _⟩
     ·have e1:(ck == 6)=false:=by rw [beq_eq_false_iff_ne];exact h1
      have hh:c2=false:=by rw [← HC2.out,decide_eq_false h1];rfl
      subst hh
      clear h1
      go_wp2_with fail
      go_meet
      exact ⟨rfl,Mods.refl _ _⟩
   case rest =>
    obtain ⟨rfl,hk⟩:=hcut
    clear x0 x3
    replace hN:=hN.trans hk
    replace rP:=hk.heap rP id
    replace rQ:=hk.heap rQ id
    replace rX:=hk.heap rX id
    have x3:=cell_of_row _ _ 3 _ _ _ rX
    simp only [gS] at x3
    clear hk
    cases c2 with
    | true =>
     have q1:=cell_of_row _ _ 1 _ _ _ rQ
     simp only [gS] at q1
     have f1:=frozen_row (i:=1) rQ
     have hii:ii=cy:=by rw [Hi.out];rfl
     go_upto_region 8 with fail
     have hm:=setMods wc Q 1 (.bool cy)
     have rQ2:=setCell_heap (i:=1) rQ (.bool cy)
     simp only [pS] at rQ2
     have rP2:=hm.heap rP hPQ
     obtain ⟨wz,hwz⟩:∃ V,wc.setCell ⟨Q,1,none⟩ (.bool cy)=V:=⟨_,rfl⟩
     rw [hwz] at hm rQ2 rP2 ⊢
     have hN2:New w wz:=((Mods.ofNew hN).trans hm).new (fun g hg=>by omega)
     clear hwz q1 f1 x3 hm
     obtain ⟨q0,q1⟩:=prq_cells rQ2
     go_wp2_with (refine op_skip rfl (run_store_row 31 (.tmp 2) (.tmp 48) rfl P rfl 31 [.int .u8 0,.bool false] [.int .u8 bn,.bool cy] rfl rP2 sizePr rfl (by simp [Value.oneCell'])) ?_)
     have hrow:=setRow_heap wz P _ #[.int .u8 bn,.bool cy] _ _ rP2
     refine bodyPost_ret (v:=.agg #[.int .u8 bn,.bool cy]) (results_cell_row rfl _ _ P 31 _ (0,0) _ rfl hrow Tryz.underlying31 rfl sizePr) rfl ?_
     exact ⟨by first | rw [hii,huv.out] | rw [huv.out],hN2.setRow hwP _⟩
    | false =>
     have hii:ii=false:=by rw [Hi.out];rfl
     clear x3
     obtain ⟨q0,q1⟩:=prq_cells rQ
     go_wp2_with (refine op_skip rfl (run_store_row 31 (.tmp 2) (.tmp 48) rfl P rfl 31 [.int .u8 0,.bool false] [.int .u8 bn,.bool false] rfl rP sizePr rfl (by simp [Value.oneCell'])) ?_)
     have hrow:=setRow_heap wc P _ #[.int .u8 bn,.bool false] _ _ rP
     refine bodyPost_ret (v:=.agg #[.int .u8 bn,.bool false]) (results_cell_row rfl _ _ P 31 _ (0,0) _ rfl hrow Tryz.underlying31 rfl sizePr) rfl ?_
     exact ⟨by first | rw [hii,huv.out] | rw [huv.out],hN.setRow hwP _⟩
  | false =>
   have huv:Hid (uu=3):=Lib.hid (by rw [Hu.out];rfl)
   go_upto_region 6 with (go_at_call 92;refine (HI.out _ hN).mono ?_;rintro e w8 ⟨rfl,hk⟩)
   obtain ⟨w9,X,hW9,hX,rX,hk9⟩:=ba_row w8 ck cn ct cy
   rw [hW9,hX]
   have hkk:=hk.trans hk9
   replace hN:=hN.trans hkk
   replace rP:=hkk.heap rP id
   replace rQ:=hkk.heap rQ id
   clear hW9 hX hk hk9 hkk HI
   obtain ⟨x0,x3⟩:w9.cell? ⟨X,0,none⟩=some (.int .u8 ck)∧w9.cell? ⟨X,3,none⟩=some (.bool cy):=⟨cell_of_row _ _ 0 _ _ _ rX,cell_of_row _ _ 3 _ _ _ rX⟩
   go_cut [44] from 39 (fun s44 wx=>s44 = .bool c2∧New w9 wx)
   case first =>
    cases z with
    | false =>
     have hh:c2=false:=by rw [← HC2.out];rfl
     subst hh
     go_wp2_with fail
     go_meet
     exact ⟨rfl,Mods.refl _ _⟩
    | true =>
     by_cases h1:ck=6
     ·have e1:(ck == 6)=true:=by rw [beq_iff_eq];exact h1
      have hh:c2=true:=by rw [← HC2.out,decide_eq_true h1];rfl
      subst hh
      clear h1
      go_wp2_with fail
      go_meet
      exact ⟨rfl,Mods.refl _ _⟩
     ·have e1:(ck == 6)=false:=by rw [beq_eq_false_iff_ne];exact h1
      have hh:c2=false:=by rw [← HC2.out,decide_eq_false h1];rfl
      subst hh
      clear h1
      go_wp2_with fail
      go_meet
      exact ⟨rfl,Mods.refl _ _⟩
   case rest =>
    obtain ⟨rfl,hk⟩:=hcut
    clear x0 x3
    replace hN:=hN.trans hk
    replace rP:=hk.heap rP id
    replace rQ:=hk.heap rQ id
    replace rX:=hk.heap rX id
    have x3:=cell_of_row _ _ 3 _ _ _ rX
    simp only [gS] at x3
    clear hk
    cases c2 with
    | true =>
     have q1:=cell_of_row _ _ 1 _ _ _ rQ
     simp only [gS] at q1
     have f1:=frozen_row (i:=1) rQ
     have hii:ii=cy:=by rw [Hi.out];rfl
     go_upto_region 8 with fail
     have hm:=setMods wc Q 1 (.bool cy)
     have rQ2:=setCell_heap (i:=1) rQ (.bool cy)
     simp only [pS] at rQ2
     have rP2:=hm.heap rP hPQ
     obtain ⟨wz,hwz⟩:∃ V,wc.setCell ⟨Q,1,none⟩ (.bool cy)=V:=⟨_,rfl⟩
     rw [hwz] at hm rQ2 rP2 ⊢
     have hN2:New w wz:=((Mods.ofNew hN).trans hm).new (fun g hg=>by omega)
     clear hwz q1 f1 x3 hm
     obtain ⟨q0,q1⟩:=prq_cells rQ2
     go_wp2_with (refine op_skip rfl (run_store_row 31 (.tmp 2) (.tmp 48) rfl P rfl 31 [.int .u8 0,.bool false] [.int .u8 3,.bool cy] rfl rP2 sizePr rfl (by simp [Value.oneCell'])) ?_)
     have hrow:=setRow_heap wz P _ #[.int .u8 3,.bool cy] _ _ rP2
     refine bodyPost_ret (v:=.agg #[.int .u8 3,.bool cy]) (results_cell_row rfl _ _ P 31 _ (0,0) _ rfl hrow Tryz.underlying31 rfl sizePr) rfl ?_
     exact ⟨by first | rw [hii,huv.out] | rw [huv.out],hN2.setRow hwP _⟩
    | false =>
     have hii:ii=false:=by rw [Hi.out];rfl
     clear x3
     obtain ⟨q0,q1⟩:=prq_cells rQ
     go_wp2_with (refine op_skip rfl (run_store_row 31 (.tmp 2) (.tmp 48) rfl P rfl 31 [.int .u8 0,.bool false] [.int .u8 3,.bool false] rfl rP sizePr rfl (by simp [Value.oneCell'])) ?_)
     have hrow:=setRow_heap wc P _ #[.int .u8 3,.bool false] _ _ rP
     refine bodyPost_ret (v:=.agg #[.int .u8 3,.bool false]) (results_cell_row rfl _ _ P 31 _ (0,0) _ rfl hrow Tryz.underlying31 rfl sizePr) rfl ?_
     exact ⟨by first | rw [hii,huv.out] | rw [huv.out],hN.setRow hwP _⟩


theorem fitO_of_sz {d:List Bare.Mem} (h:SzD 1000000 d):∀ i,i < d.length→FitO (d.getD i noM):=fun i hi=>by
 obtain ⟨-,h2,h3,h4⟩:=h.2 (d.getD i noM) (getD_mem (d:=noM) hi)
 refine ⟨by omega,by have:=h3.1;omega,fun j hj=>?_⟩
 have:=(h4 _ (getD_mem (d:=Bare.noI) hj)).2.1
 omega
theorem read_r14 (s:ByteArray) (w:World) (hs:s.size ≤ 1000000) :
  Calls Tryz.prog 16 #[.string s] w fun e w'=>(e=match Bare.parseD (bl s) with
   | some d=>.returned (.tuple #[prV (Bare.urgOf d) (Bare.incOf d),.bool true])
   | none=>.returned (.tuple #[prV 3 false,.bool false]))∧New w w':=by
 have hN0:New w (w.alloc (.cells #[.int .u8 0,.bool false] 31)):=(Mods.refl _ _).alloc _
 have r0:=World.alloc_heap_new w (.cells #[.int .u8 0,.bool false] 31)
 have H1:=Lib.hid (fun W (hN:New w W)=>parse_r13 s W hs)
 have hsz:(bl s).length=s.size:=bl_len s
 obtain ⟨E,hE⟩:∃ E:Ending,(match Bare.parseD (bl s) with
   | some d=>.returned (.tuple #[prV (Bare.urgOf d) (Bare.incOf d),.bool true])
   | none=>.returned (.tuple #[prV 3 false,.bool false]))=E:=⟨_,rfl⟩
 rw [hE]
 have HE:=Lib.hid hE
 clear hE
 go_enter Tryz.func16,Tryz.ntmps16
 go_upto_region 1 with fail
 obtain ⟨w1,hw1⟩:∃ W,w.alloc (.cells #[.int .u8 0,.bool false] 31)=W:=⟨_,rfl⟩
 obtain ⟨R,hR⟩:∃ b,w.heap.size=b:=⟨_,rfl⟩
 have hwR:w.heap.size ≤ R:=by omega
 rw [hw1] at hN0 r0 ⊢
 rw [hR] at r0 ⊢
 clear hw1 hR
 cases hp:Bare.parseD (bl s) with
 | none =>
  have H1:=Lib.hid (fun W (hN:New w W)=>(H1.out W hN).mono (R':=fun e w'=>e = .returned (.tuple #[.slice none 0 0,.int .i64 130])∧New W w') (by
   rintro e w' ⟨v,z,rfl,hN',h⟩
   rw [hp] at h
   obtain ⟨rfl,rfl⟩:=h
   exact ⟨rfl,hN'⟩))
  have HE':Hid (E = .returned (.tuple #[prV 3 false,.bool false])):=Lib.hid (by have:=HE.out;rw [hp] at this;exact this.symm)
  clear hp
  go_wp2_with fail
  refine (H1.out _ hN0).mono ?_
  rintro e w2 ⟨rfl,hN2⟩
  replace hN0:=hN0.trans hN2
  replace r0:=hN2.heap r0 id
  go_wp2_with fail
  refine (first_r14 _).mono ?_
  rintro e w3 ⟨rfl,hN3⟩
  unfold prV
  replace hN0:=hN0.trans hN3
  replace r0:=hN3.heap r0 id
  go_wp2_with (refine op_skip rfl (run_store_row 31 (.tmp 2) (.tmp 13) rfl R rfl 31 [.int .u8 0,.bool false] [.int .u8 3,.bool false] rfl r0 sizePr rfl (by decide)) ?_)
  have hrow:=setRow_heap w3 R _ #[.int .u8 3,.bool false] _ _ r0
  refine bodyPost_ret (v:=.tuple #[.agg #[.int .u8 3,.bool false],.bool false]) (results_row2 rfl _ _ R 31 _ (0,0) _ rfl hrow Tryz.underlying31 rfl sizePr rfl) rfl ?_
  exact ⟨HE'.out.symm,hN0.setRow hwR _⟩
 | some d =>
  have hbl:(bl s).length ≤ 1000000:=by omega
  have hsd:=parse_sz (by decide) hbl hp
  have H1:=Lib.hid (fun W (hN:New w W)=>(H1.out W hN).mono (R':=fun e w'=>∃ v,e = .returned (.tuple #[v,.int .i64 0])∧RdD true w' v d∧New W w') (by
   rintro e w' ⟨v,z,rfl,hN',h⟩
   rw [hp] at h
   obtain ⟨rfl,h,-⟩:=h
   exact ⟨v,rfl,h,hN'⟩))
  have HO:=Lib.hid (fun v W (h:RdD true W v d)=>of_r14 v d W h (by have:=hsd.1;omega) (fitO_of_sz hsd))
  have HE':Hid (E = .returned (.tuple #[prV (Bare.urgOf d) (Bare.incOf d),.bool true])):=Lib.hid (by have:=HE.out;rw [hp] at this;exact this.symm)
  clear hp hsd
  obtain ⟨u,hu⟩:∃ u,Bare.urgOf d=u:=⟨_,rfl⟩
  obtain ⟨i,hi'⟩:∃ u,Bare.incOf d=u:=⟨_,rfl⟩
  rw [hu,hi'] at HO
  rw [hu,hi'] at HE'
  clear hu hi'
  go_wp2_with fail
  refine (H1.out _ hN0).mono ?_
  rintro e w2 ⟨v,rfl,hv,hN2⟩
  replace hN0:=hN0.trans hN2
  replace r0:=hN2.heap r0 id
  go_wp2_with fail
  refine (HO.out v _ hv).mono ?_
  rintro e w3 ⟨rfl,hN3⟩
  unfold prV
  replace hN0:=hN0.trans hN3
  replace r0:=hN3.heap r0 id
  go_wp2_with (refine op_skip rfl (run_store_row 31 (.tmp 2) (.tmp 15) rfl R rfl 31 [.int .u8 0,.bool false] [.int .u8 u,.bool i] rfl r0 sizePr rfl (by simp [Value.oneCell'])) ?_)
  have hrow:=setRow_heap w3 R _ #[.int .u8 u,.bool i] _ _ r0
  refine bodyPost_ret (v:=.tuple #[.agg #[.int .u8 u,.bool i],.bool true]) (results_row2 rfl _ _ R 31 _ (0,0) _ rfl hrow Tryz.underlying31 rfl sizePr rfl) rfl ?_
  exact ⟨HE'.out.symm,hN0.setRow hwR _⟩


theorem read_pr14 (T:ByteArray) (w:World) (hs:T.size ≤ 1000000) :
  Calls Tryz.prog 16 #[.string T] w fun e w'=>e = .returned (.tuple #[.agg #[.int .u8 ((readP T).getD (3,false)).1,.bool ((readP T).getD (3,false)).2],.bool (readP T).isSome])∧New w w' :=
 (read_r14 T w hs).mono fun e w' ⟨he,hN⟩=>by
  refine ⟨?_,hN⟩
  rw [he]
  unfold readP prV
  cases Bare.parseD (bl T) with
  | none=>rfl
  | some d =>
   have:=(urg_bounds d).1
   simp only [Option.map_some,Option.getD_some,Option.isSome_some]
   rw [Int.toNat_of_nonneg this]
theorem lit166 (t:Array Value) (h:t.size=166):∃ u:Nat→Value,t=(u 0::u 1::u 2::u 3::u 4::u 5::u 6::u 7::u 8::u 9::u 10::u 11::u 12::u 13::u 14::u 15::u 16::u 17::u 18::u 19::u 20::u 21::u 22::u 23::u 24::u 25::u 26::u 27::u 28::u 29::u 30::u 31::u 32::u 33::u 34::u 35::u 36::u 37::u 38::u 39::u 40::u 41::u 42::u 43::u 44::u 45::u 46::u 47::u 48::u 49::u 50::u 51::u 52::u 53::u 54::u 55::u 56::u 57::u 58::u 59::u 60::u 61::u 62::u 63::u 64::u 65::u 66::u 67::u 68::u 69::u 70::u 71::u 72::u 73::u 74::u 75::u 76::u 77::u 78::u 79::u 80::u 81::u 82::u 83::u 84::u 85::u 86::u 87::u 88::u 89::u 90::u 91::u 92::u 93::u 94::u 95::u 96::u 97::u 98::u 99::u 100::u 101::u 102::u 103::u 104::u 105::u 106::u 107::u 108::u 109::u 110::u 111::u 112::u 113::u 114::u 115::u 116::u 117::u 118::u 119::u 120::u 121::u 122::u 123::u 124::u 125::u 126::u 127::u 128::u 129::u 130::u 131::u 132::u 133::u 134::u 135::u 136::u 137::u 138::u 139::u 140::u 141::u 142::u 143::u 144::u 145::u 146::u 147::u 148::u 149::u 150::u 151::u 152::u 153::u 154::u 155::u 156::u 157::u 158::u 159::u 160::u 161::u 162::u 163::u 164::u 165::([]:List Value)).toArray:=⟨fun i=>t.getD i undef,range_lit t 166 h⟩
noncomputable def reg_causeylaw24_PrioOpens_7:Code:=((Tryz.f5.body.bind (regionOf 7)).getD .skip)
theorem opens7 (t:Array Value) (hs:t.size=166) (w:World) {P4 P9 P10 n oc dc:Nat} {l:Int} {oa da:Option Addr}
  (hq4:t.getD 4 undef = .pointer (some ⟨P4,0,none⟩))
  (hq9:t.getD 9 undef = .pointer (some ⟨P9,0,none⟩))
  (hq10:t.getD 10 undef = .pointer (some ⟨P10,0,none⟩))
  (a0:w.cell? ⟨P9,0,none⟩=some (.int .i64 l)) (a1:w.cell? ⟨P9,1,none⟩=some (.slice oa n oc)) (b0:w.cell? ⟨P4,0,none⟩=some (.int .i64 l)) (b1:w.cell? ⟨P4,1,none⟩=some (.slice da n dc)) (c0:w.cell? ⟨P10,0,none⟩=some (.int .u8 3)) (c1:w.cell? ⟨P10,1,none⟩=some (.bool false))
  (HS:Hid (∀ W,New w W→Calls Tryz.prog 17 #[.agg #[.int .i64 l,.slice oa n oc],.agg #[.int .i64 l,.slice da n dc]] W fun e w'=>e = .returned (.bool true)∧New W w')) (HF:Hid (∀ W,New w W→Calls Tryz.prog 23 #[] W fun e w'=>e = .returned (.agg #[.int .u8 3,.bool false])∧New W w')) (HW:Hid (∀ W,New w W→Calls Tryz.prog 13 #[] W fun e w'=>e = .returned (.bool true)∧New W w')) :
  reg_causeylaw24_PrioOpens_7.wp Tryz.prog (Only fun a' W'=>∃ z:Nat→Value,a'=⟨((pz t z [57,58,59,60,61,62,63,64,65,66,67]).setIfInBounds 8 (.bool true)),[]⟩∧New w W') ⟨t,[]⟩ w:=by
 conv=>arg 2;whnf
 obtain ⟨u,rfl⟩:=lit166 t hs
 have hq4:u 4 = _:=hq4
 have hq9:u 9 = _:=hq9
 have hq10:u 10 = _:=hq10
 rw [hq4,hq9,hq10]
 clear hq4 hq9 hq10 hs
 refine wp_region_held (S:=fun W=>New w W) (by kernel_rfl) ?_
 show wpAnyH _ _ _ _ _ 12 _ _ w.drew
 have hN:New w w.drew:=(Mods.refl _ _).drew
 have hS:New w w.drew:=(Mods.refl _ _).drew
 refine tkA 0 rfl (some 57) (.agg #[.int .i64 l,.slice oa n oc]) (.inl ⟨by rfl,fun W hW=>by have q0:=hW.cell a0 id;have q1:=hW.cell a1 id;go_simp⟩) hS ?_
 simp only [pS]
 refine tkA 1 rfl (some 58) (.agg #[.int .i64 l,.slice da n dc]) (.inl ⟨by rfl,fun W hW=>by have q0:=hW.cell b0 id;have q1:=hW.cell b1 id;go_simp⟩) hS ?_
 simp only [pS]
 refine tkO 2 ?_
 refine opH_call (some 59) rfl (by rfl) rfl 17 #[.agg #[.int .i64 l,.slice oa n oc],.agg #[.int .i64 l,.slice da n dc]] (by go_simp) ((HS.out _ hN).mono ?_)
 rintro e w2 ⟨rfl,hk'⟩
 have hk:=hk'
 have hS:=hS.trans hk
 have hN:=hN.trans hk
 clear hk
 refine ⟨_,rfl,hS,?_⟩
 simp only [pS]
 refine tkI 3 (some 60) (.bool true) hS ?_
 simp only [pS]
 refine tkA 4 rfl (some 61) (.agg #[.int .u8 3,.bool false]) (.inl ⟨by rfl,fun W hW=>by have q0:=hW.cell c0 id;have q1:=hW.cell c1 id;go_simp⟩) hS ?_
 simp only [pS]
 refine tkO 5 ?_
 refine opH_call (some 62) rfl (by rfl) rfl 23 #[] (by go_simp) ((HF.out _ hN).mono ?_)
 rintro e w5 ⟨rfl,hk'⟩
 have hk:=hk'
 have hS:=hS.trans hk
 have hN:=hN.trans hk
 clear hk
 refine ⟨_,rfl,hS,?_⟩
 simp only [pS]
 refine tkA 6 rfl (some 63) (.bool true) (.inl ⟨by rfl,fun W hW=>by have hz:(binOp .eql 31 (.agg #[.int .u8 3,.bool false]) (.agg #[.int .u8 3,.bool false])).run Tryz.prog W = .ok (.bool true) W:=(by rw [binop_pr];simp);go_simp⟩) hS ?_
 simp only [pS]
 refine tkI 7 (some 64) (.bool true) hS ?_
 simp only [pS]
 refine tkI 8 (some 65) (.bool true) hS ?_
 simp only [pS]
 refine tkO 9 ?_
 refine opH_call (some 66) rfl (by rfl) rfl 13 #[] (by go_simp) ((HW.out _ hN).mono ?_)
 rintro e w9 ⟨rfl,hk'⟩
 have hk:=hk'
 have hS:=hS.trans hk
 have hN:=hN.trans hk
 clear hk
 refine ⟨_,rfl,hS,?_⟩
 simp only [pS]
 refine tkI 10 (some 67) (.bool true) hS ?_
 simp only [pS]
 refine tkI 11 (some 8) (.bool true) hS ?_
 simp only [pS]
 refine wpAnyH_done (by kernel_rfl) ?_ _
 exact zc rfl hN
noncomputable def reg_causeylaw24_PrioOpens_10:Code:=((Tryz.f5.body.bind (regionOf 10)).getD .skip)
theorem opens10a (t:Array Value) (hs:t.size=166) (w:World) {P10 P12 P14 q:Nat} {y x3 x15:Bool}
  (hq3:t.getD 3 undef = .bool x3)
  (hq10:t.getD 10 undef = .pointer (some ⟨P10,0,none⟩))
  (hq12:t.getD 12 undef = .pointer (some ⟨P12,0,none⟩))
  (hq13:t.getD 13 undef = .bool true)
  (hq14:t.getD 14 undef = .pointer (some ⟨P14,0,none⟩))
  (hq15:t.getD 15 undef = .bool x15)
  (c0:w.cell? ⟨P10,0,none⟩=some (.int .u8 q)) (c1:w.cell? ⟨P10,1,none⟩=some (.bool y)) (e0:w.cell? ⟨P12,0,none⟩=some (.int .u8 q)) (e1:w.cell? ⟨P12,1,none⟩=some (.bool y)) (HF:Hid (∀ W,New w W→Calls Tryz.prog 23 #[] W fun e w'=>e = .returned (.agg #[.int .u8 3,.bool false])∧New W w')) :
  reg_causeylaw24_PrioOpens_10.wp Tryz.prog (Only fun a' W'=>∃ z:Nat→Value,a'=⟨((pz t z [79,80,81,82,83,84,85,86,87,88,89,90,91,92,93,94,95,96,97,98,99,100,101,102,103,104,105,106,107,108,109,110,111,112,113,114,115]).setIfInBounds 116 (.bool false)),[]⟩∧New w W') ⟨t,[]⟩ w:=by
 conv=>arg 2;whnf
 obtain ⟨u,rfl⟩:=lit166 t hs
 have hq3:u 3 = _:=hq3
 have hq10:u 10 = _:=hq10
 have hq12:u 12 = _:=hq12
 have hq13:u 13 = _:=hq13
 have hq14:u 14 = _:=hq14
 have hq15:u 15 = _:=hq15
 rw [hq3,hq10,hq12,hq13,hq14,hq15]
 clear hq3 hq10 hq12 hq13 hq14 hq15 hs
 refine wp_region_held (S:=fun W=>New w W) (by kernel_rfl) ?_
 show wpAnyH _ _ _ _ _ 38 _ _ w.drew
 have hN:New w w.drew:=(Mods.refl _ _).drew
 have hS:New w w.drew:=(Mods.refl _ _).drew
 refine tkI 0 (some 79) (.bool true) hS ?_
 simp only [pS]
 refine tkI 1 (some 80) (.bool true) hS ?_
 simp only [pS]
 refine tkA 2 rfl (some 81) (.agg #[.int .u8 q,.bool y]) (.inl ⟨by rfl,fun W hW=>by have q0:=hW.cell c0 id;have q1:=hW.cell c1 id;go_simp⟩) hS ?_
 simp only [pS]
 refine tkA 3 rfl (some 82) (.agg #[.int .u8 q,.bool y]) (.inl ⟨by rfl,fun W hW=>by have q0:=hW.cell e0 id;have q1:=hW.cell e1 id;go_simp⟩) hS ?_
 simp only [pS]
 refine tkA 4 rfl (some 83) (.bool false) (.inl ⟨by rfl,fun W hW=>by have hz:(binOp .neq 31 (.agg #[.int .u8 q,.bool y]) (.agg #[.int .u8 q,.bool y])).run Tryz.prog W = .ok (.bool false) W:=(by rw [nbinop_pr];simp);go_simp⟩) hS ?_
 simp only [pS]
 refine tkI 5 (some 84) (.bool false) hS ?_
 simp only [pS]
 refine tkI 6 (some 85) (.bool false) hS ?_
 simp only [pS]
 refine tkI 7 (some 86) (.bool true) hS ?_
 simp only [pS]
 refine tkI 8 (some 87) (.bool false) hS ?_
 simp only [pS]
 refine tkI 9 (some 88) (.bool false) hS ?_
 simp only [pS]
 refine tkU 10 (some 89) hS ?_
 simp only [pS]
 refine tkI 11 (some 90) (.bool false) hS ?_
 simp only [pS]
 refine tkI 12 (some 91) (.bool false) hS ?_
 simp only [pS]
 refine tkU 13 (some 92) hS ?_
 simp only [pS]
 refine tkI 14 (some 93) (.bool false) hS ?_
 simp only [pS]
 refine tkI 15 (some 94) (.bool false) hS ?_
 simp only [pS]
 refine tkU 16 (some 95) hS ?_
 simp only [pS]
 refine tkU 17 (some 96) hS ?_
 simp only [pS]
 refine tkU 18 (some 97) hS ?_
 simp only [pS]
 refine tkI 19 (some 98) (.bool false) hS ?_
 simp only [pS]
 refine tkI 20 (some 99) (.bool false) hS ?_
 simp only [pS]
 refine tkI 21 (some 100) (.bool false) hS ?_
 simp only [pS]
 refine tkI 22 (some 101) (.bool true) hS ?_
 simp only [pS]
 refine tkI 23 (some 102) (.bool false) hS ?_
 simp only [pS]
 refine tkI 24 (some 103) (.bool false) hS ?_
 simp only [pS]
 refine tkU 25 (some 104) hS ?_
 simp only [pS]
 refine tkU 26 (some 105) hS ?_
 simp only [pS]
 refine tkU 27 (some 106) hS ?_
 simp only [pS]
 refine tkU 28 (some 107) hS ?_
 simp only [pS]
 refine tkU 29 (some 108) hS ?_
 simp only [pS]
 refine tkU 30 (some 109) hS ?_
 simp only [pS]
 refine tkI 31 (some 110) (.bool false) hS ?_
 simp only [pS]
 refine tkI 32 (some 111) (.bool false) hS ?_
 simp only [pS]
 refine tkU 33 (some 112) hS ?_
 simp only [pS]
 refine tkU 34 (some 113) hS ?_
 simp only [pS]
 refine tkU 35 (some 114) hS ?_
 simp only [pS]
 refine tkI 36 (some 115) (.bool false) hS ?_
 simp only [pS]
 refine tkI 37 (some 116) (.bool false) hS ?_
 simp only [pS]
 refine wpAnyH_done (by kernel_rfl) ?_ _
 exact zc rfl hN
theorem opens10b (t:Array Value) (hs:t.size=166) (w:World) {P10 P12 P14 q:Nat} {y x3 x15:Bool}
  (hq3:t.getD 3 undef = .bool true)
  (hq10:t.getD 10 undef = .pointer (some ⟨P10,0,none⟩))
  (hq12:t.getD 12 undef = .pointer (some ⟨P12,0,none⟩))
  (hq13:t.getD 13 undef = .bool false)
  (hq14:t.getD 14 undef = .pointer (some ⟨P14,0,none⟩))
  (hq15:t.getD 15 undef = .bool true)
  (c0:w.cell? ⟨P10,0,none⟩=some (.int .u8 q)) (c1:w.cell? ⟨P10,1,none⟩=some (.bool y)) (e0:w.cell? ⟨P14,0,none⟩=some (.int .u8 q)) (e1:w.cell? ⟨P14,1,none⟩=some (.bool y)) (HF:Hid (∀ W,New w W→Calls Tryz.prog 23 #[] W fun e w'=>e = .returned (.agg #[.int .u8 3,.bool false])∧New W w')) :
  reg_causeylaw24_PrioOpens_10.wp Tryz.prog (Only fun a' W'=>∃ z:Nat→Value,a'=⟨((pz t z [79,80,81,82,83,84,85,86,87,88,89,90,91,92,93,94,95,96,97,98,99,100,101,102,103,104,105,106,107,108,109,110,111,112,113,114,115]).setIfInBounds 116 (.bool false)),[]⟩∧New w W') ⟨t,[]⟩ w:=by
 conv=>arg 2;whnf
 obtain ⟨u,rfl⟩:=lit166 t hs
 have hq3:u 3 = _:=hq3
 have hq10:u 10 = _:=hq10
 have hq12:u 12 = _:=hq12
 have hq13:u 13 = _:=hq13
 have hq14:u 14 = _:=hq14
 have hq15:u 15 = _:=hq15
 rw [hq3,hq10,hq12,hq13,hq14,hq15]
 clear hq3 hq10 hq12 hq13 hq14 hq15 hs
 refine wp_region_held (S:=fun W=>New w W) (by kernel_rfl) ?_
 show wpAnyH _ _ _ _ _ 38 _ _ w.drew
 have hN:New w w.drew:=(Mods.refl _ _).drew
 have hS:New w w.drew:=(Mods.refl _ _).drew
 refine tkI 0 (some 79) (.bool false) hS ?_
 simp only [pS]
 refine tkI 1 (some 80) (.bool false) hS ?_
 simp only [pS]
 refine tkU 2 (some 81) hS ?_
 simp only [pS]
 refine tkU 3 (some 82) hS ?_
 simp only [pS]
 refine tkU 4 (some 83) hS ?_
 simp only [pS]
 refine tkI 5 (some 84) (.bool false) hS ?_
 simp only [pS]
 refine tkI 6 (some 85) (.bool false) hS ?_
 simp only [pS]
 refine tkI 7 (some 86) (.bool false) hS ?_
 simp only [pS]
 refine tkI 8 (some 87) (.bool true) hS ?_
 simp only [pS]
 refine tkI 9 (some 88) (.bool true) hS ?_
 simp only [pS]
 refine tkI 10 (some 89) (.bool true) hS ?_
 simp only [pS]
 refine tkI 11 (some 90) (.bool true) hS ?_
 simp only [pS]
 refine tkI 12 (some 91) (.bool true) hS ?_
 simp only [pS]
 refine tkI 13 (some 92) (.bool true) hS ?_
 simp only [pS]
 refine tkI 14 (some 93) (.bool true) hS ?_
 simp only [pS]
 refine tkI 15 (some 94) (.bool true) hS ?_
 simp only [pS]
 refine tkA 16 rfl (some 95) (.agg #[.int .u8 q,.bool y]) (.inl ⟨by rfl,fun W hW=>by have q0:=hW.cell c0 id;have q1:=hW.cell c1 id;go_simp⟩) hS ?_
 simp only [pS]
 refine tkA 17 rfl (some 96) (.agg #[.int .u8 q,.bool y]) (.inl ⟨by rfl,fun W hW=>by have q0:=hW.cell e0 id;have q1:=hW.cell e1 id;go_simp⟩) hS ?_
 simp only [pS]
 refine tkA 18 rfl (some 97) (.bool false) (.inl ⟨by rfl,fun W hW=>by have hz:(binOp .neq 31 (.agg #[.int .u8 q,.bool y]) (.agg #[.int .u8 q,.bool y])).run Tryz.prog W = .ok (.bool false) W:=(by rw [nbinop_pr];simp);go_simp⟩) hS ?_
 simp only [pS]
 refine tkI 19 (some 98) (.bool false) hS ?_
 simp only [pS]
 refine tkI 20 (some 99) (.bool false) hS ?_
 simp only [pS]
 refine tkI 21 (some 100) (.bool false) hS ?_
 simp only [pS]
 refine tkI 22 (some 101) (.bool false) hS ?_
 simp only [pS]
 refine tkI 23 (some 102) (.bool true) hS ?_
 simp only [pS]
 refine tkI 24 (some 103) (.bool true) hS ?_
 simp only [pS]
 refine tkI 25 (some 104) (.bool true) hS ?_
 simp only [pS]
 refine tkI 26 (some 105) (.bool false) hS ?_
 simp only [pS]
 refine tkI 27 (some 106) (.bool false) hS ?_
 simp only [pS]
 refine tkI 28 (some 107) (.bool true) hS ?_
 simp only [pS]
 refine tkI 29 (some 108) (.bool false) hS ?_
 simp only [pS]
 refine tkI 30 (some 109) (.bool false) hS ?_
 simp only [pS]
 refine tkI 31 (some 110) (.bool false) hS ?_
 simp only [pS]
 refine tkI 32 (some 111) (.bool false) hS ?_
 simp only [pS]
 refine tkU 33 (some 112) hS ?_
 simp only [pS]
 refine tkU 34 (some 113) hS ?_
 simp only [pS]
 refine tkU 35 (some 114) hS ?_
 simp only [pS]
 refine tkI 36 (some 115) (.bool false) hS ?_
 simp only [pS]
 refine tkI 37 (some 116) (.bool false) hS ?_
 simp only [pS]
 refine wpAnyH_done (by kernel_rfl) ?_ _
 exact zc rfl hN
theorem opens10c (t:Array Value) (hs:t.size=166) (w:World) {P10 P12 P14 q:Nat} {y x3 x15:Bool}
  (hq3:t.getD 3 undef = .bool true)
  (hq10:t.getD 10 undef = .pointer (some ⟨P10,0,none⟩))
  (hq12:t.getD 12 undef = .pointer (some ⟨P12,0,none⟩))
  (hq13:t.getD 13 undef = .bool false)
  (hq14:t.getD 14 undef = .pointer (some ⟨P14,0,none⟩))
  (hq15:t.getD 15 undef = .bool false)
  (c0:w.cell? ⟨P10,0,none⟩=some (.int .u8 3)) (c1:w.cell? ⟨P10,1,none⟩=some (.bool false)) (HF:Hid (∀ W,New w W→Calls Tryz.prog 23 #[] W fun e w'=>e = .returned (.agg #[.int .u8 3,.bool false])∧New W w')) :
  reg_causeylaw24_PrioOpens_10.wp Tryz.prog (Only fun a' W'=>∃ z:Nat→Value,a'=⟨((pz t z [79,80,81,82,83,84,85,86,87,88,89,90,91,92,93,94,95,96,97,98,99,100,101,102,103,104,105,106,107,108,109,110,111,112,113,114,115]).setIfInBounds 116 (.bool false)),[]⟩∧New w W') ⟨t,[]⟩ w:=by
 conv=>arg 2;whnf
 obtain ⟨u,rfl⟩:=lit166 t hs
 have hq3:u 3 = _:=hq3
 have hq10:u 10 = _:=hq10
 have hq12:u 12 = _:=hq12
 have hq13:u 13 = _:=hq13
 have hq14:u 14 = _:=hq14
 have hq15:u 15 = _:=hq15
 rw [hq3,hq10,hq12,hq13,hq14,hq15]
 clear hq3 hq10 hq12 hq13 hq14 hq15 hs
 refine wp_region_held (S:=fun W=>New w W) (by kernel_rfl) ?_
 show wpAnyH _ _ _ _ _ 38 _ _ w.drew
 have hN:New w w.drew:=(Mods.refl _ _).drew
 have hS:New w w.drew:=(Mods.refl _ _).drew
 refine tkI 0 (some 79) (.bool false) hS ?_
 simp only [pS]
 refine tkI 1 (some 80) (.bool false) hS ?_
 simp only [pS]
 refine tkU 2 (some 81) hS ?_
 simp only [pS]
 refine tkU 3 (some 82) hS ?_
 simp only [pS]
 refine tkU 4 (some 83) hS ?_
 simp only [pS]
 refine tkI 5 (some 84) (.bool false) hS ?_
 simp only [pS]
 refine tkI 6 (some 85) (.bool false) hS ?_
 simp only [pS]
 refine tkI 7 (some 86) (.bool false) hS ?_
 simp only [pS]
 refine tkI 8 (some 87) (.bool true) hS ?_
 simp only [pS]
 refine tkI 9 (some 88) (.bool true) hS ?_
 simp only [pS]
 refine tkI 10 (some 89) (.bool true) hS ?_
 simp only [pS]
 refine tkI 11 (some 90) (.bool true) hS ?_
 simp only [pS]
 refine tkI 12 (some 91) (.bool true) hS ?_
 simp only [pS]
 refine tkI 13 (some 92) (.bool false) hS ?_
 simp only [pS]
 refine tkI 14 (some 93) (.bool false) hS ?_
 simp only [pS]
 refine tkI 15 (some 94) (.bool false) hS ?_
 simp only [pS]
 refine tkU 16 (some 95) hS ?_
 simp only [pS]
 refine tkU 17 (some 96) hS ?_
 simp only [pS]
 refine tkU 18 (some 97) hS ?_
 simp only [pS]
 refine tkI 19 (some 98) (.bool false) hS ?_
 simp only [pS]
 refine tkI 20 (some 99) (.bool false) hS ?_
 simp only [pS]
 refine tkI 21 (some 100) (.bool false) hS ?_
 simp only [pS]
 refine tkI 22 (some 101) (.bool false) hS ?_
 simp only [pS]
 refine tkI 23 (some 102) (.bool true) hS ?_
 simp only [pS]
 refine tkI 24 (some 103) (.bool true) hS ?_
 simp only [pS]
 refine tkI 25 (some 104) (.bool true) hS ?_
 simp only [pS]
 refine tkI 26 (some 105) (.bool false) hS ?_
 simp only [pS]
 refine tkI 27 (some 106) (.bool false) hS ?_
 simp only [pS]
 refine tkI 28 (some 107) (.bool false) hS ?_
 simp only [pS]
 refine tkI 29 (some 108) (.bool true) hS ?_
 simp only [pS]
 refine tkI 30 (some 109) (.bool true) hS ?_
 simp only [pS]
 refine tkI 31 (some 110) (.bool true) hS ?_
 simp only [pS]
 refine tkI 32 (some 111) (.bool true) hS ?_
 simp only [pS]
 refine tkA 33 rfl (some 112) (.agg #[.int .u8 3,.bool false]) (.inl ⟨by rfl,fun W hW=>by have q0:=hW.cell c0 id;have q1:=hW.cell c1 id;go_simp⟩) hS ?_
 simp only [pS]
 refine tkO 34 ?_
 refine opH_call (some 113) rfl (by rfl) rfl 23 #[] (by go_simp) ((HF.out _ hN).mono ?_)
 rintro e w34 ⟨rfl,hk'⟩
 have hk:=hk'
 have hS:=hS.trans hk
 have hN:=hN.trans hk
 clear hk
 refine ⟨_,rfl,hS,?_⟩
 simp only [pS]
 refine tkA 35 rfl (some 114) (.bool false) (.inl ⟨by rfl,fun W hW=>by have hz:(binOp .neq 31 (.agg #[.int .u8 3,.bool false]) (.agg #[.int .u8 3,.bool false])).run Tryz.prog W = .ok (.bool false) W:=(by rw [nbinop_pr];simp);go_simp⟩) hS ?_
 simp only [pS]
 refine tkI 36 (some 115) (.bool false) hS ?_
 simp only [pS]
 refine tkI 37 (some 116) (.bool false) hS ?_
 simp only [pS]
 refine wpAnyH_done (by kernel_rfl) ?_ _
 exact zc rfl hN
theorem opens10d (t:Array Value) (hs:t.size=166) (w:World) {P10 P12 P14 q:Nat} {y x3 x15:Bool}
  (hq3:t.getD 3 undef = .bool false)
  (hq10:t.getD 10 undef = .pointer (some ⟨P10,0,none⟩))
  (hq12:t.getD 12 undef = .pointer (some ⟨P12,0,none⟩))
  (hq13:t.getD 13 undef = .bool false)
  (hq14:t.getD 14 undef = .pointer (some ⟨P14,0,none⟩))
  (hq15:t.getD 15 undef = .bool x15)
  (c0:w.cell? ⟨P10,0,none⟩=some (.int .u8 3)) (c1:w.cell? ⟨P10,1,none⟩=some (.bool false)) (HF:Hid (∀ W,New w W→Calls Tryz.prog 23 #[] W fun e w'=>e = .returned (.agg #[.int .u8 3,.bool false])∧New W w')) :
  reg_causeylaw24_PrioOpens_10.wp Tryz.prog (Only fun a' W'=>∃ z:Nat→Value,a'=⟨((pz t z [79,80,81,82,83,84,85,86,87,88,89,90,91,92,93,94,95,96,97,98,99,100,101,102,103,104,105,106,107,108,109,110,111,112,113,114,115]).setIfInBounds 116 (.bool false)),[]⟩∧New w W') ⟨t,[]⟩ w:=by
 conv=>arg 2;whnf
 obtain ⟨u,rfl⟩:=lit166 t hs
 have hq3:u 3 = _:=hq3
 have hq10:u 10 = _:=hq10
 have hq12:u 12 = _:=hq12
 have hq13:u 13 = _:=hq13
 have hq14:u 14 = _:=hq14
 have hq15:u 15 = _:=hq15
 rw [hq3,hq10,hq12,hq13,hq14,hq15]
 clear hq3 hq10 hq12 hq13 hq14 hq15 hs
 refine wp_region_held (S:=fun W=>New w W) (by kernel_rfl) ?_
 show wpAnyH _ _ _ _ _ 38 _ _ w.drew
 have hN:New w w.drew:=(Mods.refl _ _).drew
 have hS:New w w.drew:=(Mods.refl _ _).drew
 refine tkI 0 (some 79) (.bool false) hS ?_
 simp only [pS]
 refine tkI 1 (some 80) (.bool false) hS ?_
 simp only [pS]
 refine tkU 2 (some 81) hS ?_
 simp only [pS]
 refine tkU 3 (some 82) hS ?_
 simp only [pS]
 refine tkU 4 (some 83) hS ?_
 simp only [pS]
 refine tkI 5 (some 84) (.bool false) hS ?_
 simp only [pS]
 refine tkI 6 (some 85) (.bool false) hS ?_
 simp only [pS]
 refine tkI 7 (some 86) (.bool false) hS ?_
 simp only [pS]
 refine tkI 8 (some 87) (.bool true) hS ?_
 simp only [pS]
 refine tkI 9 (some 88) (.bool true) hS ?_
 simp only [pS]
 refine tkI 10 (some 89) (.bool false) hS ?_
 simp only [pS]
 refine tkI 11 (some 90) (.bool false) hS ?_
 simp only [pS]
 refine tkI 12 (some 91) (.bool false) hS ?_
 simp only [pS]
 refine tkU 13 (some 92) hS ?_
 simp only [pS]
 refine tkI 14 (some 93) (.bool false) hS ?_
 simp only [pS]
 refine tkI 15 (some 94) (.bool false) hS ?_
 simp only [pS]
 refine tkU 16 (some 95) hS ?_
 simp only [pS]
 refine tkU 17 (some 96) hS ?_
 simp only [pS]
 refine tkU 18 (some 97) hS ?_
 simp only [pS]
 refine tkI 19 (some 98) (.bool false) hS ?_
 simp only [pS]
 refine tkI 20 (some 99) (.bool false) hS ?_
 simp only [pS]
 refine tkI 21 (some 100) (.bool false) hS ?_
 simp only [pS]
 refine tkI 22 (some 101) (.bool false) hS ?_
 simp only [pS]
 refine tkI 23 (some 102) (.bool true) hS ?_
 simp only [pS]
 refine tkI 24 (some 103) (.bool true) hS ?_
 simp only [pS]
 refine tkI 25 (some 104) (.bool false) hS ?_
 simp only [pS]
 refine tkI 26 (some 105) (.bool true) hS ?_
 simp only [pS]
 refine tkI 27 (some 106) (.bool true) hS ?_
 simp only [pS]
 refine tkU 28 (some 107) hS ?_
 simp only [pS]
 refine tkU 29 (some 108) hS ?_
 simp only [pS]
 refine tkI 30 (some 109) (.bool true) hS ?_
 simp only [pS]
 refine tkI 31 (some 110) (.bool true) hS ?_
 simp only [pS]
 refine tkI 32 (some 111) (.bool true) hS ?_
 simp only [pS]
 refine tkA 33 rfl (some 112) (.agg #[.int .u8 3,.bool false]) (.inl ⟨by rfl,fun W hW=>by have q0:=hW.cell c0 id;have q1:=hW.cell c1 id;go_simp⟩) hS ?_
 simp only [pS]
 refine tkO 34 ?_
 refine opH_call (some 113) rfl (by rfl) rfl 23 #[] (by go_simp) ((HF.out _ hN).mono ?_)
 rintro e w34 ⟨rfl,hk'⟩
 have hk:=hk'
 have hS:=hS.trans hk
 have hN:=hN.trans hk
 clear hk
 refine ⟨_,rfl,hS,?_⟩
 simp only [pS]
 refine tkA 35 rfl (some 114) (.bool false) (.inl ⟨by rfl,fun W hW=>by have hz:(binOp .neq 31 (.agg #[.int .u8 3,.bool false]) (.agg #[.int .u8 3,.bool false])).run Tryz.prog W = .ok (.bool false) W:=(by rw [nbinop_pr];simp);go_simp⟩) hS ?_
 simp only [pS]
 refine tkI 36 (some 115) (.bool false) hS ?_
 simp only [pS]
 refine tkI 37 (some 116) (.bool false) hS ?_
 simp only [pS]
 refine wpAnyH_done (by kernel_rfl) ?_ _
 exact zc rfl hN
noncomputable def reg_causeylaw24_PrioOpens_17:Code:=((Tryz.f5.body.bind (regionOf 17)).getD .skip)
theorem opens17 (t:Array Value) (hs:t.size=166) (w:World) {P4 P9 b1 o1 b2 o2 m mc n nc k i q:Nat} {s:Int} {y:Bool}
  (hq4:t.getD 4 undef = .pointer (some ⟨P4,0,none⟩))
  (hq9:t.getD 9 undef = .pointer (some ⟨P9,0,none⟩))
  (hq16:t.getD 16 undef = .int .i64 k)
  (hq17:t.getD 17 undef = .int .i64 i)
  (a1:w.cell? ⟨P9,1,none⟩=some (.slice (some ⟨b1,o1,none⟩) m mc)) (b1':w.cell? ⟨P4,1,none⟩=some (.slice (some ⟨b2,o2,none⟩) n nc)) (d0:w.cell? ⟨b1,o1 + k * 3,none⟩=some (.int .i64 s)) (d1:w.cell? ⟨b1,o1 + k * 3 + 1,none⟩=some (.int .u8 q)) (d2:w.cell? ⟨b1,o1 + k * 3 + 2,none⟩=some (.bool y)) (e0:w.cell? ⟨b2,o2 + i * 3,none⟩=some (.int .i64 s)) (e1:w.cell? ⟨b2,o2 + i * 3 + 1,none⟩=some (.int .u8 q)) (e2:w.cell? ⟨b2,o2 + i * 3 + 2,none⟩=some (.bool y)) (hk:k < m) (hi:i < n) :
  reg_causeylaw24_PrioOpens_17.wp Tryz.prog (Only fun a' W'=>∃ z:Nat→Value,a'=⟨((pz t z [132,133,134,135,136,137,138,139,140,141,142,143,144,145,146,147,148]).setIfInBounds 149 (.bool false)),[]⟩∧New w W') ⟨t,[]⟩ w:=by
 conv=>arg 2;whnf
 obtain ⟨u,rfl⟩:=lit166 t hs
 have hq4:u 4 = _:=hq4
 have hq9:u 9 = _:=hq9
 have hq16:u 16 = _:=hq16
 have hq17:u 17 = _:=hq17
 rw [hq4,hq9,hq16,hq17]
 clear hq4 hq9 hq16 hq17 hs
 have hid1:decide ((k:Int) < (m:Int))=true:=decide_eq_true (by omega)
 have hid2:decide ((i:Int) < (n:Int))=true:=decide_eq_true (by omega)
 have hge:¬ (m ≤ k):=by omega
 refine wp_region_held (S:=fun W=>New w W) (by kernel_rfl) ?_
 show wpAnyH _ _ _ _ _ 18 _ _ w.drew
 have hN:New w w.drew:=(Mods.refl _ _).drew
 have hS:New w w.drew:=(Mods.refl _ _).drew
 refine tkI 0 (some 132) (.int .i64 k) hS ?_
 simp only [pS]
 refine tkI 1 (some 133) (.pointer (some ⟨P9,1,none⟩)) hS ?_
 simp only [pS]
 refine tkA 2 rfl (some 134) (.slice (some ⟨b1,o1,none⟩) m mc) (.inl ⟨by rfl,fun W hW=>by have q:=hW.cell a1 id;go_simp⟩) hS ?_
 simp only [pS]
 refine tkI 3 (some 135) (.int .i64 m) hS ?_
 simp only [pS]
 refine tkA 4 rfl (some 136) (.bool false) (.inl ⟨by rfl,fun W hW=>by go_simp;first | done | exact hge⟩) hS ?_
 simp only [pS]
 refine tkI 5 (some 137) (.bool false) hS ?_
 simp only [pS]
 refine tkI 6 (some 138) (.pointer (some ⟨P9,1,none⟩)) hS ?_
 simp only [pS]
 refine tkA 7 rfl (some 139) (.slice (some ⟨b1,o1,none⟩) m mc) (.inl ⟨by rfl,fun W hW=>by have q:=hW.cell a1 id;go_simp⟩) hS ?_
 simp only [pS]
 refine tkI 8 (some 140) (.int .i64 k) hS ?_
 simp only [pS]
 refine tkI 9 (some 141) (.pointer (some ⟨b1,o1 + k * 3,none⟩)) hS ?_
 simp only [pS]
 refine tkA 10 rfl (some 142) (.agg #[.int .i64 s,.int .u8 q,.bool y]) (.inl ⟨by rfl,fun W hW=>by have q0:=hW.cell d0 id;have q1:=hW.cell d1 id;have q2:=hW.cell d2 id;go_simp⟩) hS ?_
 simp only [pS]
 refine tkI 11 (some 143) (.pointer (some ⟨P4,1,none⟩)) hS ?_
 simp only [pS]
 refine tkA 12 rfl (some 144) (.slice (some ⟨b2,o2,none⟩) n nc) (.inl ⟨by rfl,fun W hW=>by have q:=hW.cell b1' id;go_simp⟩) hS ?_
 simp only [pS]
 refine tkI 13 (some 145) (.int .i64 i) hS ?_
 simp only [pS]
 refine tkI 14 (some 146) (.pointer (some ⟨b2,o2 + i * 3,none⟩)) hS ?_
 simp only [pS]
 refine tkA 15 rfl (some 147) (.agg #[.int .i64 s,.int .u8 q,.bool y]) (.inl ⟨by rfl,fun W hW=>by have q0:=hW.cell e0 id;have q1:=hW.cell e1 id;have q2:=hW.cell e2 id;go_simp⟩) hS ?_
 simp only [pS]
 refine tkA 16 rfl (some 148) (.bool false) (.inl ⟨by rfl,fun W hW=>by have hz:=nbinop_wait ⟨s,q,y⟩ ⟨s,q,y⟩;simp only [decide_true,Bool.not_true] at hz;have hz':(binOp .neq 40 (.agg #[.int .i64 s,.int .u8 q,.bool y]) (.agg #[.int .i64 s,.int .u8 q,.bool y])).run Tryz.prog W = .ok (.bool false) W:=hz W;clear hz;go_simp⟩) hS ?_
 simp only [pS]
 refine tkI 17 (some 149) (.bool false) hS ?_
 simp only [pS]
 refine wpAnyH_done (by kernel_rfl) ?_ _
 exact zc rfl hN


theorem filt_step {p:WP→Bool} (d:List WP) (i:Nat) (hi:i < d.length):((d.take (i + 1)).filter p).length=((d.take i).filter p).length + if p (d.getD i noW)=true then 1 else 0:=by
 rw [take_snoc d i noW hi,List.filter_append,List.length_append]
 obtain ⟨x,hx⟩:∃ x,d.getD i noW=x:=⟨_,rfl⟩
 rw [hx]
 cases h:p x <;> simp [List.filter_cons,h]
theorem filt_at {p:WP→Bool} (d:List WP) (i:Nat) (hi:i < d.length) (hp:p (d.getD i noW)=true):((d.take i).filter p).length < (d.filter p).length∧(d.filter p).getD ((d.take i).filter p).length noW=d.getD i noW:=by
 have e:d=d.take i ++ (d.getD i noW::d.drop (i + 1)):=by
  conv=>lhs;rw [← List.take_append_drop i d]
  congr 1
  rw [List.drop_eq_getElem_cons hi]
  simp [List.getD,hi]
 have e2:d.filter p=(d.take i).filter p ++ (d.getD i noW::(d.drop (i + 1)).filter p):=by
  conv=>lhs;rw [e]
  rw [List.filter_append,List.filter_cons,if_pos hp]
 constructor
 ·rw [e2,List.length_append,List.length_cons];omega
 ·rw [e2,List.getD_eq_getElem?_getD,List.getElem?_append_right (Nat.le_refl _),Nat.sub_self];rfl
theorem pio_row (w:World) (l:Int) (v:Value):∃ V M,w.alloc (.cells #[.int .i64 l,v] 26)=V∧w.heap.size=M∧V.heap[M]? = some (.cells #[.int .i64 l,v] 26 (0,0))∧New w V:=⟨_,_,rfl,rfl,World.alloc_heap_new _ _,(Mods.refl _ _).alloc _⟩
theorem odd_iff {l s:Int} (h0:0 ≤ l):(oddP s && decide (l < s))=(decide (l < s) && decide (s ≤ 2147483647) && decide (s % 2=1)):=by
 unfold oddP
 rw [Bool.eq_iff_iff]
 simp only [Bool.and_eq_true,decide_eq_true_eq]
 omega
theorem opens_law (l s:Int) (v:Value) (d:List WP) (T:ByteArray) (has:Bool) (w:World) (h:RdW w v d) (hu:∀ x ∈ d,x.u < 256) (hT:Tab w) (hTs:T.size ≤ 9223372036854775807) :
  Calls Tryz.prog 5 #[.agg #[.int .i64 l,v],.int .i64 s,.string T,.bool has] w fun e w'=>e = .returned (.bool true)∧New w w':=by
 have HG:=Lib.hid (fun W (hN:New w W)=>great24 l v d W (h.new hN))
 have HR:=Lib.hid (fun W (hN:New w W)=>right_r24 l v d W (h.new hN) hu)
 have HW:=Lib.hid (fun W (hN:New w W)=>wakes_p W (hT.new hN))
 have HFi:Hid (∀ W:World,Calls Tryz.prog 23 #[] W fun e w'=>e = .returned (.agg #[.int .u8 3,.bool false])∧New W w'):=Lib.hid (fun W=>first_r14 W)
 have HWt:=Lib.hid (fun W (hN:New w W)=>waiting_p l v d s W (h.new hN) hu)
 have HU:=Lib.hid (fun W (hN:New w W) (h1:d.length ≤ 1000) (h2:T.size ≤ 1000000)=>open_p l s v d T has W (h.new hN) hu h1 h2 (hT.new hN))
 have HRd:=Lib.hid (fun W (h2:T.size ≤ 1000000)=>read_pr14 T W h2)
 have HD:=Lib.hid h
 obtain ⟨ao,cap,rfl⟩:=h.slice
 have hn1:d.length ≤ 281474976710656:=h.1
 obtain ⟨n,hn⟩:∃ n,d.length=n:=⟨_,rfl⟩
 have HN:=Lib.hid hn
 rw [hn] at HG HR HWt HU HD hn1 ⊢
 clear h hn hu hT
 go_enter Tryz.func5,Tryz.ntmps5
 go_upto_region 1 with fail
 obtain ⟨W0,B,hW0,hB,r0,hN⟩:=pio_row w l (.slice ao n cap)
 rw [hW0,hB]
 clear hW0 hB
 obtain ⟨⟨p0,p1⟩,-⟩:=pc_facts r0
 go_wp2_with fail
 refine (HG.out _ hN).mono ?_
 rintro e w1 ⟨rfl,hk⟩
 replace hN:=hN.trans hk
 replace r0:=hk.heap r0 id
 clear hk p0 p1 HG
 by_cases hgr:(20:Int) < (n:Int)
 ·have hgd:decide ((20:Int) < (n:Int))=true:=decide_eq_true hgr
  rw [hgd]
  clear hgr hgd
  obtain ⟨⟨p0,p1⟩,-⟩:=pc_facts r0
  go_wp2_with fail
  refine (HW.out _ hN).mono ?_
  rintro e w2 ⟨rfl,hk⟩
  go_wp2_with fail
  go_ret
  exact ⟨rfl,hN.trans hk⟩
 have hgd:decide ((20:Int) < (n:Int))=false:=decide_eq_false hgr
 rw [hgd]
 clear hgd
 obtain ⟨⟨p0,p1⟩,-⟩:=pc_facts r0
 go_wp2_with fail
 refine (HR.out _ hN).mono ?_
 rintro e w2 ⟨rfl,hk⟩
 replace hN:=hN.trans hk
 replace r0:=hk.heap r0 id
 clear hk p0 p1 HR
 cases hr:rightP l d with
 | false =>
  clear hr
  go_wp2_with fail
  refine (HW.out _ hN).mono ?_
  rintro e w3 ⟨rfl,hk⟩
  go_wp2_with fail
  go_ret
  exact ⟨rfl,hN.trans hk⟩
 | true =>
 by_cases h500:(500:Int) < (T.size:Int)
 ·have hgd:decide ((500:Int) < (T.size:Int))=true:=decide_eq_true h500
  clear hr h500
  go_wp2_with fail
  refine (HW.out _ hN).mono ?_
  rintro e w3 ⟨rfl,hk⟩
  go_wp2_with fail
  go_ret
  exact ⟨rfl,hN.trans hk⟩
 have hgd:decide ((500:Int) < (T.size:Int))=false:=decide_eq_false h500
 have hTs2:T.size ≤ 1000000:=by omega
 obtain ⟨h0l,-⟩:=right_facts hr
 have hodd:=odd_iff (s:=s) h0l
 have hOP:openP l d s has (readP T)=if (decide (l < s) && decide (s ≤ 2147483647) && decide (s % 2=1))=true then (s,d.filter (fun x=>decide (s < x.s)),(match waitP l d s with | some x=>(x.u,x.i) | none=>if has then (readP T).getD (3,false) else (3,false)),true) else (l,d,(3,false),false):=by
  unfold openP
  rw [hr,hodd,Bool.true_and]
  rfl
 have HU2:=HU.out
 rw [hOP] at HU2
 have HU2:=Lib.hid (fun W hN=>HU2 W hN (by omega) hTs2)
 clear HU hOP hodd
 obtain ⟨⟨p0,p1⟩,-⟩:=pc_facts r0
 go_upto_region 3 with fail
 clear hgd h500
 cases hc0:(decide (l < s) && decide (s ≤ 2147483647) && decide (s % 2=1)) with
 | false =>
  rw [hc0,if_neg (by decide)] at HU2
  unfold openE at HU2
  simp only at HU2
  go_wp2_with fail
  refine (HU2.out _ hN).mono ?_
  rintro e w3 ⟨v3,rfl,hF,hk⟩
  obtain ⟨fa,fcap,rfl⟩:=hF.slice
  rw [HN.out] at hF ⊢
  have HFr:=Lib.hid hF
  replace hN:=hN.trans hk
  replace r0:=hk.heap r0 id
  clear hk p0 p1 HU2 hF
  go_upto_region 4 with fail
  have ha:=alloc2 w3 (.cells #[.int .i64 l,.slice fa n fcap] 26) (.cells #[.int .u8 3,.bool false] 31)
  obtain ⟨w4,hw⟩:∃ V,((w3.alloc (.cells #[.int .i64 l,.slice fa n fcap] 26)).alloc (.cells #[.int .u8 3,.bool false] 31))=V:=⟨_,rfl⟩
  obtain ⟨X,hX⟩:∃ b,w3.heap.size=b:=⟨_,rfl⟩
  rw [hw,hX] at ha
  simp only [hw,hX]
  obtain ⟨hk,rF,rQ⟩:=ha
  replace hN:=hN.trans hk
  replace r0:=hk.heap r0 id
  obtain ⟨⟨p0,p1⟩,-⟩:=pc_facts r0
  go_cut [54] from 40 (fun s54 wx=>s54 = .bool false∧New w4 wx)
  case first =>
   by_cases h1:l < s
   ·have e1:decide (l < s)=true:=decide_eq_true h1
    by_cases h2:s ≤ 2147483647
    ·have e2:decide (s ≤ 2147483647)=true:=decide_eq_true h2
     have h3:¬ s % 2=1:=fun h3=>by rw [e1,e2,decide_eq_true h3] at hc0;cases hc0
     have hs0:0 < s:=by omega
     have hmd:s.tmod 2=s % 2:=Int.tmod_eq_emod_of_nonneg (by omega)
     have e3:(s.tmod 2 == 1)=false:=by rw [beq_eq_false_iff_ne,hmd];exact h3
     have e4:(s % 2 == 1)=false:=by rw [beq_eq_false_iff_ne];exact h3
     clear hc0 h3 hmd
     go_wp2_with fail
     go_meet
     exact ⟨rfl,Mods.refl _ _⟩
    ·have e2:decide (s ≤ 2147483647)=false:=decide_eq_false h2
     clear hc0
     go_wp2_with fail
     go_meet
     exact ⟨rfl,Mods.refl _ _⟩
   ·have e1:decide (l < s)=false:=decide_eq_false h1
    clear hc0
    go_wp2_with fail
    go_meet
    exact ⟨rfl,Mods.refl _ _⟩
  case rest =>
   obtain ⟨rfl,hk2⟩:=hcut
   replace hN:=hN.trans hk2
   replace r0:=hk2.heap r0 id
   replace rF:=hk2.heap rF id
   replace rQ:=hk2.heap rQ id
   clear p0 p1
   obtain ⟨⟨p0,p1⟩,-⟩:=pc_facts r0
   obtain ⟨⟨f0,f1⟩,-⟩:=pc_facts rF
   obtain ⟨c0,c1⟩:=prq_cells rQ
   have HS:Hid (∀ W,New wc W→Calls Tryz.prog 17 #[.agg #[.int .i64 l,.slice fa n fcap],.agg #[.int .i64 l,.slice ao n cap]] W fun e w'=>e = .returned (.bool true)∧New W w'):=Lib.hid fun W hNW=>by
    have hm:=same_r24 l l (.slice fa n fcap) (.slice ao n cap) d d W (HFr.out.new ((hk.trans hk2).trans hNW)) (HD.out.new (hN.trans hNW))
    rw [decide_eq_true rfl,decide_eq_true rfl] at hm
    exact hm
   have HW2:Hid (∀ W,New wc W→Calls Tryz.prog 13 #[] W fun e w'=>e = .returned (.bool true)∧New W w'):=Lib.hid fun W hNW=>HW.out W (hN.trans hNW)
   have HF2:Hid (∀ W,New wc W→Calls Tryz.prog 23 #[] W fun e w'=>e = .returned (.agg #[.int .u8 3,.bool false])∧New W w'):=Lib.hid fun W _=>HFi.out W
   clear hc0 HW HFi HWt HRd HD HFr hr hk hk2 HN
   go_upto_region 7 with fail
   refine piece (fun _=>_) (opens7 _ rfl wc rfl rfl rfl f0 f1 p0 p1 c0 c1 HS HF2 HW2) ?_
   rintro a' w9 ⟨z,rfl,hN9⟩
   simp only [pS]
   go_wp2_with fail
   go_ret
   exact ⟨rfl,hN.trans hN9⟩
 | true =>
  rw [hc0,if_pos rfl] at HU2
  obtain ⟨⟨qu,qi⟩,hq⟩:∃ q:Nat × Bool,(match waitP l d s with | some x=>(x.u,x.i) | none=>if has then (readP T).getD (3,false) else (3,false))=q:=⟨_,rfl⟩
  rw [hq] at HU2
  obtain ⟨F,hFd⟩:∃ F,d.filter (fun x=>decide (s < x.s))=F:=⟨_,rfl⟩
  rw [hFd] at HU2
  have HFd:=Lib.hid hFd
  unfold openE at HU2
  simp only at HU2
  obtain ⟨wu,wi,y,hwv,hw1,hw2⟩:∃ (wu:Nat) (wi y:Bool),waitV (waitP l d s) = .tuple #[.agg #[.int .u8 wu,.bool wi],.bool y]∧(y=true→wu=qu∧wi=qi)∧(y=false→(if has then (readP T).getD (3,false) else (3,false))=(qu,qi)):=by
   cases hwp:waitP l d s with
   | none =>
    rw [hwp] at hq
    exact ⟨3,false,false,rfl,fun h=>(by cases h),fun _=>hq⟩
   | some x =>
    rw [hwp] at hq
    cases hq
    exact ⟨x.u,x.i,true,rfl,fun _=>⟨rfl,rfl⟩,fun h=>(by cases h)⟩
  rw [hwv] at HWt
  obtain ⟨⟨ru,ri⟩,hrr⟩:∃ r,(readP T).getD (3,false)=r:=⟨_,rfl⟩
  obtain ⟨ry,hry⟩:∃ r,(readP T).isSome=r:=⟨_,rfl⟩
  have hw3:ry=false→(ru,ri)=(3,false):=fun h=>by
   rw [← hrr]
   cases hrp:readP T with
   | none=>rfl
   | some x=>rw [hrp] at hry;rw [← hry] at h;cases h
  rw [hrr] at hw2
  rw [hrr,hry] at HRd
  simp only at HRd
  have HW1:=Lib.hid hw1
  have HW2:=Lib.hid hw2
  have HW3:=Lib.hid hw3
  simp only [Bool.and_eq_true,decide_eq_true_eq] at hc0
  obtain ⟨⟨hls,hs31⟩,hs2⟩:=hc0
  have hs0:0 < s:=by omega
  have hmd:s.tmod 2=s % 2:=Int.tmod_eq_emod_of_nonneg (by omega)
  have e1:decide (l < s)=true:=decide_eq_true hls
  have e2:decide (s ≤ 2147483647)=true:=decide_eq_true hs31
  have e3:(s.tmod 2 == 1)=true:=by rw [beq_iff_eq,hmd];exact hs2
  have e4:(s % 2 == 1)=true:=by rw [beq_iff_eq];exact hs2
  clear hq hFd hwv hw1 hw2 hw3 hrr hry hmd hs2 hr
  go_wp2_with fail
  refine (HU2.out _ hN).mono ?_
  rintro e w3 ⟨v3,rfl,hF,hk⟩
  obtain ⟨fa,fcap,rfl⟩:=hF.slice
  obtain ⟨m,hm⟩:∃ m,F.length=m:=⟨_,rfl⟩
  have HM:=Lib.hid hm
  rw [hm] at hF ⊢
  have HFr:=Lib.hid hF
  replace hN:=hN.trans hk
  replace r0:=hk.heap r0 id
  clear hk p0 p1 HU2 hF hm
  go_upto_region 4 with fail
  have ha:=alloc2 w3 (.cells #[.int .i64 s,.slice fa m fcap] 26) (.cells #[.int .u8 qu,.bool qi] 31)
  obtain ⟨w4,hw⟩:∃ V,((w3.alloc (.cells #[.int .i64 s,.slice fa m fcap] 26)).alloc (.cells #[.int .u8 qu,.bool qi] 31))=V:=⟨_,rfl⟩
  obtain ⟨X,hX⟩:∃ b,w3.heap.size=b:=⟨_,rfl⟩
  rw [hw,hX] at ha
  simp only [hw,hX]
  obtain ⟨hk,rF,rQ⟩:=ha
  replace hN:=hN.trans hk
  replace r0:=hk.heap r0 id
  obtain ⟨⟨p0,p1⟩,-⟩:=pc_facts r0
  have HFr:=Lib.hid (HFr.out.new hk)
  clear hw hX hk
  go_upto_region 8 with fail
  clear e1 e2 e3 e4
  go_upto_region 9 with (go_at_call 22;refine (HWt.out _ hN).mono ?_;rintro e w5 ⟨rfl,hk⟩)
  obtain ⟨w6,P12,hW6,hP12,rW,hk6,-⟩:=prow w5 wu wi
  rw [hW6,hP12]
  have hkk:=hk.trans hk6
  replace hN:=hN.trans hkk
  replace r0:=hkk.heap r0 id
  replace rF:=hkk.heap rF id
  replace rQ:=hkk.heap rQ id
  have HFr:=Lib.hid (HFr.out.new hkk)
  clear hW6 hP12 hk hk6 hkk p0 p1 HWt
  go_upto_region 10 with (go_at_call 16;refine (HRd.out _ hTs2).mono ?_;rintro e w7 ⟨rfl,hk⟩)
  obtain ⟨w8,P14,hW8,hP14,rR,hk8,-⟩:=prow w7 ru ri
  rw [hW8,hP14]
  have hkk:=hk.trans hk8
  replace hN:=hN.trans hkk
  replace r0:=hkk.heap r0 id
  replace rF:=hkk.heap rF id
  replace rQ:=hkk.heap rQ id
  replace rW:=hkk.heap rW id
  have HFr:=Lib.hid (HFr.out.new hkk)
  clear hW8 hP14 hk hk8 hkk HRd
  obtain ⟨c0,c1⟩:=prq_cells rQ
  obtain ⟨d0,d1⟩:=prq_cells rW
  obtain ⟨g0,g1⟩:=prq_cells rR
  have HF2:Hid (∀ W,New w8 W→Calls Tryz.prog 23 #[] W fun e w'=>e = .returned (.agg #[.int .u8 3,.bool false])∧New W w'):=Lib.hid fun W _=>HFi.out W
  clear HFi
  go_cut [116] from 79 (fun s116 wx=>s116 = .bool false∧New w8 wx)
  case first =>
   rename_i J K' hJ hK
   cases y with
   | true =>
    obtain ⟨rfl,rfl⟩:=HW1.out rfl
    refine piece (fun _=>_) (opens10a _ rfl w8 rfl rfl rfl rfl rfl rfl c0 c1 d0 d1 HF2) ?_
    rintro a' w9 ⟨z,rfl,hN9⟩
    simp only [pS]
    refine hK _ _ (hJ _ _ ?_)
    repeat apply Exists.intro
    exact ⟨⟨rfl,hN9⟩,rfl⟩
   | false =>
    have hh:=HW2.out rfl
    cases has with
    | true =>
     rw [if_pos rfl] at hh
     cases hh
     cases ry with
     | true =>
      refine piece (fun _=>_) (opens10b (x3:=true) (x15:=true) _ rfl w8 rfl rfl rfl rfl rfl rfl c0 c1 g0 g1 HF2) ?_
      rintro a' w9 ⟨z,rfl,hN9⟩
      simp only [pS]
      refine hK _ _ (hJ _ _ ?_)
      repeat apply Exists.intro
      exact ⟨⟨rfl,hN9⟩,rfl⟩
     | false =>
      cases HW3.out rfl
      refine piece (fun _=>_) (opens10c (q:=0) (y:=false) (x3:=true) (x15:=true) _ rfl w8 rfl rfl rfl rfl rfl rfl c0 c1 HF2) ?_
      rintro a' w9 ⟨z,rfl,hN9⟩
      simp only [pS]
      refine hK _ _ (hJ _ _ ?_)
      repeat apply Exists.intro
      exact ⟨⟨rfl,hN9⟩,rfl⟩
    | false =>
     rw [if_neg (by decide)] at hh
     cases hh
     refine piece (fun _=>_) (opens10d (q:=0) (y:=false) (x3:=true) _ rfl w8 rfl rfl rfl rfl rfl rfl c0 c1 HF2) ?_
     rintro a' w9 ⟨z,rfl,hN9⟩
     simp only [pS]
     refine hK _ _ (hJ _ _ ?_)
     repeat apply Exists.intro
     exact ⟨⟨rfl,hN9⟩,rfl⟩
  case rest =>
   obtain ⟨rfl,hk⟩:=hcut
   replace hN:=hN.trans hk
   replace r0:=hk.heap r0 id
   replace rF:=hk.heap rF id
   have HFr:=Lib.hid (HFr.out.new hk)
   clear hk c0 c1 d0 d1 g0 g1 rQ rW rR HF2 HW1 HW2 HW3
   have HR0:=Lib.hid r0
   have HRF:=Lib.hid rF
   have hmn:m ≤ n:=by rw [← HM.out,← HFd.out,← HN.out];exact List.length_filter_le _ _
   clear r0 rF
   go_upto_region 14 with fail
   go_loopw [16,17] (fun a b wr=>∃ k i:Nat,i ≤ n∧a = .int .i64 k∧b = .int .i64 i∧Hid (((d.take i).filter (fun x=>decide (s < x.s))).length=k)∧New wc wr) (fun _ b _=>n - (intOf b).toNat)
   case atStart=>exact ⟨0,0,Nat.zero_le _,rfl,rfl,Lib.hid rfl,Mods.refl _ _⟩
   case round =>
    obtain ⟨k,i,hi,rfl,rfl,HK,hNr⟩:=hrel
    have r0:=hNr.heap HR0.out id
    have rF:=hNr.heap HRF.out id
    have hNw:=hN.trans hNr
    obtain ⟨⟨p0,p1⟩,-⟩:=pc_facts r0
    obtain ⟨⟨f0,f1⟩,-⟩:=pc_facts rF
    by_cases hlt:i < n
    ·have hkd:decide ((i:Int) < (n:Int))=true:=decide_eq_true (by omega)
     have hid:i < d.length:=by rw [HN.out];exact hlt
     obtain ⟨x,hx⟩:∃ x,d.getD i noW=x:=⟨_,rfl⟩
     have hst:=filt_step (p:=fun x=>decide (s < x.s)) d i hid
     have hfa:=filt_at (p:=fun x=>decide (s < x.s)) d i hid
     rw [hx,HK.out] at hst hfa
     obtain ⟨b2,o2,rfl,hrow⟩:=(HD.out.new hNw).at.2.2 i hlt
     have hrow:wr.rangeAt b2 (o2 + i * 3) (wcs x):=by rw [← hx];exact hrow
     obtain ⟨t0,t1,t2⟩:=cells3w hrow
     have HFr':=HFr.out.new hNr
     clear hrow hid hx
     by_cases hle:x.s ≤ s
     ·have hled:decide (x.s ≤ s)=true:=decide_eq_true hle
      have hpf:decide (s < x.s)=false:=decide_eq_false (by omega)
      rw [hpf,if_neg (by decide)] at hst
      have HK2:=Lib.hid hst
      clear hst hfa hpf HFr' f0 f1 hle
      go_wp2_with fail
      go_roundw
      case rel=>exact ⟨k,i + 1,by omega,rfl,by go_num,HK2,hNr⟩
      case measure=>simp [intOf];omega
     ·have hled:decide (x.s ≤ s)=false:=decide_eq_false hle
      have hpt:decide (s < x.s)=true:=decide_eq_true (by omega)
      rw [hpt,if_pos rfl] at hst
      obtain ⟨hkm,hkx⟩:=hfa hpt
      rw [HFd.out] at hkm hkx
      rw [HM.out] at hkm
      have HK2:=Lib.hid hst
      obtain ⟨b1,o1,rfl,hrow⟩:=HFr'.at.2.2 k hkm
      have hrow:wr.rangeAt b1 (o1 + k * 3) (wcs x):=by rw [← hkx];exact hrow
      obtain ⟨v0,v1,v2⟩:=cells3w hrow
      clear hst hfa hpt HFr' hle hrow hkx
      go_upto_region 17 with fail
      refine piece (fun _=>_) (opens17 _ rfl wr rfl rfl rfl rfl f1 p1 v0 v1 v2 t0 t1 t2 hkm hlt) ?_
      rintro a' w9 ⟨z,rfl,hN9⟩
      simp only [pS]
      go_wp2_with fail
      go_roundw
      case rel=>exact ⟨k + 1,i + 1,by omega,by go_num,by go_num,HK2,hNr.trans hN9⟩
      case measure=>simp [intOf];omega
    ·obtain rfl:i=n:=by omega
     have hkd:decide ((i:Int) < (i:Int))=false:=decide_eq_false (by omega)
     have htk:d.take i=d:=List.take_of_length_le (by rw [HN.out];exact Nat.le_refl _)
     have hkm:=HK.out
     rw [htk,HFd.out,HM.out] at hkm
     subst hkm
     have HWN:=Lib.hid (HW.out _ hNw)
     clear htk HK
     go_wp2_with (go_at_call 13;refine HWN.out.mono ?_;rintro e w9 ⟨rfl,hk⟩)
     go_ret
     exact ⟨rfl,hNw.trans hk⟩
end Go.Proofs.YtkiiameibdhdfaaGreatDoor
