/- Texts joined. -/
import Derived.Test.YtnknmmbnhoanfaaGreatDoorH10
import Derived.Test.YtnknmmbnhoanfaaGreatDoorH08
import Derived.OrdersHeld
import Derived.Test.YtnknmmbnhoanfaaGreatDoorH05
import Derived.Test.YtnknmmbnhoanfaaGreatDoorH07
import Derived.Test.YtnknmmbnhoanfaaGreatDoorH00
import Derived.ChangeKeysEq
set_option linter.unusedSimpArgs false
set_option linter.unusedVariables false
set_option maxHeartbeats 16000000
set_option maxRecDepth 100000
namespace Go.Proofs.YtnknmmbnhoanfaaGreatDoor
open Go.RowKit Go.Shelf Go.Cs
attribute [local go_sem] Oper.semAt_some


noncomputable def reg_dict_own_1:Code:=((Tryz.f84.body.bind (regionOf 1)).getD .skip)
theorem own1 (t:Array Value) (hs:t.size=32) (w:World) {B n m ic pc:Nat} {ia pa:Option Addr} {x2:Value} {q:ByteArray} {y:Bool} {f g:Nat→List Value}
  (hq1:t.getD 1 undef = .pointer (some ⟨B,0,none⟩))
  (hq2:t.getD 2 undef=x2)
  (hB:w.heap[B]? = some (.cells #[.string q,.bool y,.slice ia n ic,.slice pa m pc] 44 (0,0)))
  (HX:Hid (∀ W,New w W→Calls Tryz.prog 144 #[.slice ia n ic] W fun e w'=>∃ v',e = .returned v'∧OwX w.heap.size w' v' n f∧New W w'))
  (HP:Hid (∀ W,New w W→Calls Tryz.prog 145 #[.slice pa m pc] W fun e w'=>∃ v',e = .returned v'∧OwP w.heap.size w' v' m g∧New W w')) :
  reg_dict_own_1.wp Tryz.prog (Only fun a' W'=>∃ iv' pv',(a'.tmps.size=32∧a'.defers = []∧a'.tmps.getD 1 undef = .pointer (some ⟨B,0,none⟩)∧a'.tmps.getD 2 undef=x2)∧W'.heap[B]? = some (.cells #[.string q,.bool y,iv',pv'] 44 (0,0))∧OwX w.heap.size W' iv' n f∧OwP w.heap.size W' pv' m g∧Mods (fun b=>b=B) w W') ⟨t,[]⟩ w:=by
 conv=>arg 2;whnf
 obtain ⟨u,rfl⟩:=lit32 t hs
 have hq1:u 1 = _:=hq1
 have hq2:u 2 = _:=hq2
 rw [hq1,hq2]
 clear hq1 hq2 hs
 have hN:New w w.drew:=(Mods.refl _ _).drew
 have hS:Mods (fun b=>b=B) w w.drew:=(Mods.refl _ _).drew
 have hBl:B < w.heap.size:=(Array.getElem?_eq_some_iff.1 hB).1
 have hBd:w.drew.heap[B]? = _:=hB
 have c2x:=cell_of_row _ _ 2 _ _ _ hBd
 have c3x:=cell_of_row _ _ 3 _ _ _ hBd
 simp only [gS] at c2x c3x
 refine wp_region_held (S:=fun W=>Mods (fun b=>b=B) w W) (by kernel_rfl) ?_
 show wpAnyH _ _ _ _ _ 10 _ _ w.drew
 refine tkI 0 (some 4) (.pointer (some ⟨B,2,none⟩)) hS ?_
 simp only [pS]
 refine tkI 3 (some 7) (.pointer (some ⟨B,3,none⟩)) hS ?_
 simp only [pS]
 refine wpAnyH_all (rs:=[1,4]) (by kernel_rfl) (by simp) ?_
 intro i hi
 simp only [List.mem_cons,List.not_mem_nil,or_false] at hi
 rcases hi with rfl | rfl
 ·refine opH_value (some 5) (w':=w.drew) (v:=.slice ia n ic) rfl (by rfl) rfl (by go_simp) ?_
  refine ⟨hS,?_⟩
  simp only [pS]
  refine wpAnyH_all (rs:=[2,4]) (by kernel_rfl) (by simp) ?_
  intro i hi
  simp only [List.mem_cons,List.not_mem_nil,or_false] at hi
  rcases hi with rfl | rfl
  ·refine opH_call (some 6) rfl (by rfl) rfl 144 #[.slice ia n ic] (by go_simp) ((HX.out _ hN).mono ?_)
   rintro e w2 ⟨iv',rfl,hox,hk⟩
   have hN:=hN.trans hk
   have hS:Mods (fun b=>b=B) w w2:=Mods.ofNew hN
   obtain ⟨ja,jc,rfl⟩:=hox.slice
   have rB:=hN.heap hB id
   have c2x:=cell_of_row _ _ 2 _ _ _ rB
   have c3x:=cell_of_row _ _ 3 _ _ _ rB
   simp only [gS] at c2x c3x
   clear hk
   refine ⟨_,rfl,hS,?_⟩
   simp only [pS]
   refine tkO 4 ?_
   refine opH_value (some 8) (w':=w2) (v:=.slice pa m pc) rfl (by rfl) rfl (by go_simp) ?_
   refine ⟨hS,?_⟩
   simp only [pS]
   refine tkI 6 (some 10) (.pointer (some ⟨B,2,none⟩)) hS ?_
   simp only [pS]
   refine tkO 5 ?_
   refine opH_call (some 9) rfl (by rfl) rfl 145 #[.slice pa m pc] (by go_simp) ((HP.out _ hN).mono ?_)
   rintro e w5 ⟨pv',rfl,hop,hk⟩
   have hox:=hox.new hk
   have hN:=hN.trans hk
   have hS:Mods (fun b=>b=B) w w5:=Mods.ofNew hN
   obtain ⟨qa,qc,rfl⟩:=hop.slice
   have rB:=hN.heap hB id
   have c2x:=cell_of_row _ _ 2 _ _ _ rB
   have c3x:=cell_of_row _ _ 3 _ _ _ rB
   simp only [gS] at c2x c3x
   have f2:=frozen_row (i:=2) rB
   clear hk
   refine ⟨_,rfl,hS,?_⟩
   simp only [pS]
   refine tkO 7 ?_
   refine opH_skip none (w':=w5.setCell ⟨B,2,none⟩ (.slice ja n jc)) rfl (by rfl) rfl (by go_simp) ?_
   have hm1:=setMods w5 B 2 (.slice ja n jc)
   have rB1:=setCell_heap (i:=2) rB (.slice ja n jc)
   obtain ⟨w6,hw6⟩:∃ w6,w5.setCell ⟨B,2,none⟩ (.slice ja n jc)=w6:=⟨_,rfl⟩
   rw [hw6] at hm1 rB1 ⊢
   have rB1:w6.heap[B]? = some (.cells #[.string q,.bool y,.slice ja n jc,.slice pa m pc] 44 (0,0)):=rB1
   have hS:=hS.trans hm1
   have c3y:=cell_of_row _ _ 3 _ _ _ rB1
   simp only [gS] at c3y
   have f3:=frozen_row (i:=3) rB1
   refine ⟨hS,?_⟩
   simp only [pS]
   refine tkI 8 (some 11) (.pointer (some ⟨B,3,none⟩)) hS ?_
   simp only [pS]
   refine tkO 9 ?_
   refine opH_skip none (w':=w6.setCell ⟨B,3,none⟩ (.slice qa m qc)) rfl (by rfl) rfl (by go_simp) ?_
   have hm2:=setMods w6 B 3 (.slice qa m qc)
   have rB2:=setCell_heap (i:=3) rB1 (.slice qa m qc)
   refine ⟨hS.trans hm2,?_⟩
   refine wpAnyH_done (by kernel_rfl) ?_ _
   have hmm:=hm1.trans hm2
   exact ⟨.slice ja n jc,.slice qa m qc,⟨rfl,rfl,rfl,rfl⟩,rB2,hox.mods hmm (fun g hg e=>by have:=(hox.lt hg).1;omega),hop.mods hmm (fun g hg e=>by have:=(hop.lt hg).1;omega),hS.trans hm2⟩
  ·refine opH_value (some 8) (w':=w.drew) (v:=.slice pa m pc) rfl (by rfl) rfl (by go_simp) ?_
   refine ⟨hS,?_⟩
   simp only [pS]
   refine tkO 2 ?_
   refine opH_call (some 6) rfl (by rfl) rfl 144 #[.slice ia n ic] (by go_simp) ((HX.out _ hN).mono ?_)
   rintro e w2 ⟨iv',rfl,hox,hk⟩
   have hN:=hN.trans hk
   have hS:Mods (fun b=>b=B) w w2:=Mods.ofNew hN
   obtain ⟨ja,jc,rfl⟩:=hox.slice
   have rB:=hN.heap hB id
   have c2x:=cell_of_row _ _ 2 _ _ _ rB
   have c3x:=cell_of_row _ _ 3 _ _ _ rB
   simp only [gS] at c2x c3x
   clear hk
   refine ⟨_,rfl,hS,?_⟩
   simp only [pS]
   refine tkI 6 (some 10) (.pointer (some ⟨B,2,none⟩)) hS ?_
   simp only [pS]
   refine tkO 5 ?_
   refine opH_call (some 9) rfl (by rfl) rfl 145 #[.slice pa m pc] (by go_simp) ((HP.out _ hN).mono ?_)
   rintro e w5 ⟨pv',rfl,hop,hk⟩
   have hox:=hox.new hk
   have hN:=hN.trans hk
   have hS:Mods (fun b=>b=B) w w5:=Mods.ofNew hN
   obtain ⟨qa,qc,rfl⟩:=hop.slice
   have rB:=hN.heap hB id
   have c2x:=cell_of_row _ _ 2 _ _ _ rB
   have c3x:=cell_of_row _ _ 3 _ _ _ rB
   simp only [gS] at c2x c3x
   have f2:=frozen_row (i:=2) rB
   clear hk
   refine ⟨_,rfl,hS,?_⟩
   simp only [pS]
   refine tkO 7 ?_
   refine opH_skip none (w':=w5.setCell ⟨B,2,none⟩ (.slice ja n jc)) rfl (by rfl) rfl (by go_simp) ?_
   have hm1:=setMods w5 B 2 (.slice ja n jc)
   have rB1:=setCell_heap (i:=2) rB (.slice ja n jc)
   obtain ⟨w6,hw6⟩:∃ w6,w5.setCell ⟨B,2,none⟩ (.slice ja n jc)=w6:=⟨_,rfl⟩
   rw [hw6] at hm1 rB1 ⊢
   have rB1:w6.heap[B]? = some (.cells #[.string q,.bool y,.slice ja n jc,.slice pa m pc] 44 (0,0)):=rB1
   have hS:=hS.trans hm1
   have c3y:=cell_of_row _ _ 3 _ _ _ rB1
   simp only [gS] at c3y
   have f3:=frozen_row (i:=3) rB1
   refine ⟨hS,?_⟩
   simp only [pS]
   refine tkI 8 (some 11) (.pointer (some ⟨B,3,none⟩)) hS ?_
   simp only [pS]
   refine tkO 9 ?_
   refine opH_skip none (w':=w6.setCell ⟨B,3,none⟩ (.slice qa m qc)) rfl (by rfl) rfl (by go_simp) ?_
   have hm2:=setMods w6 B 3 (.slice qa m qc)
   have rB2:=setCell_heap (i:=3) rB1 (.slice qa m qc)
   refine ⟨hS.trans hm2,?_⟩
   refine wpAnyH_done (by kernel_rfl) ?_ _
   have hmm:=hm1.trans hm2
   exact ⟨.slice ja n jc,.slice qa m qc,⟨rfl,rfl,rfl,rfl⟩,rB2,hox.mods hmm (fun g hg e=>by have:=(hox.lt hg).1;omega),hop.mods hmm (fun g hg e=>by have:=(hop.lt hg).1;omega),hS.trans hm2⟩
 ·refine opH_value (some 8) (w':=w.drew) (v:=.slice pa m pc) rfl (by rfl) rfl (by go_simp) ?_
  refine ⟨hS,?_⟩
  simp only [pS]
  refine tkO 1 ?_
  refine opH_value (some 5) (w':=w.drew) (v:=.slice ia n ic) rfl (by rfl) rfl (by go_simp) ?_
  refine ⟨hS,?_⟩
  simp only [pS]
  refine tkO 2 ?_
  refine opH_call (some 6) rfl (by rfl) rfl 144 #[.slice ia n ic] (by go_simp) ((HX.out _ hN).mono ?_)
  rintro e w2 ⟨iv',rfl,hox,hk⟩
  have hN:=hN.trans hk
  have hS:Mods (fun b=>b=B) w w2:=Mods.ofNew hN
  obtain ⟨ja,jc,rfl⟩:=hox.slice
  have rB:=hN.heap hB id
  have c2x:=cell_of_row _ _ 2 _ _ _ rB
  have c3x:=cell_of_row _ _ 3 _ _ _ rB
  simp only [gS] at c2x c3x
  clear hk
  refine ⟨_,rfl,hS,?_⟩
  simp only [pS]
  refine tkI 6 (some 10) (.pointer (some ⟨B,2,none⟩)) hS ?_
  simp only [pS]
  refine tkO 5 ?_
  refine opH_call (some 9) rfl (by rfl) rfl 145 #[.slice pa m pc] (by go_simp) ((HP.out _ hN).mono ?_)
  rintro e w5 ⟨pv',rfl,hop,hk⟩
  have hox:=hox.new hk
  have hN:=hN.trans hk
  have hS:Mods (fun b=>b=B) w w5:=Mods.ofNew hN
  obtain ⟨qa,qc,rfl⟩:=hop.slice
  have rB:=hN.heap hB id
  have c2x:=cell_of_row _ _ 2 _ _ _ rB
  have c3x:=cell_of_row _ _ 3 _ _ _ rB
  simp only [gS] at c2x c3x
  have f2:=frozen_row (i:=2) rB
  clear hk
  refine ⟨_,rfl,hS,?_⟩
  simp only [pS]
  refine tkO 7 ?_
  refine opH_skip none (w':=w5.setCell ⟨B,2,none⟩ (.slice ja n jc)) rfl (by rfl) rfl (by go_simp) ?_
  have hm1:=setMods w5 B 2 (.slice ja n jc)
  have rB1:=setCell_heap (i:=2) rB (.slice ja n jc)
  obtain ⟨w6,hw6⟩:∃ w6,w5.setCell ⟨B,2,none⟩ (.slice ja n jc)=w6:=⟨_,rfl⟩
  rw [hw6] at hm1 rB1 ⊢
  have rB1:w6.heap[B]? = some (.cells #[.string q,.bool y,.slice ja n jc,.slice pa m pc] 44 (0,0)):=rB1
  have hS:=hS.trans hm1
  have c3y:=cell_of_row _ _ 3 _ _ _ rB1
  simp only [gS] at c3y
  have f3:=frozen_row (i:=3) rB1
  refine ⟨hS,?_⟩
  simp only [pS]
  refine tkI 8 (some 11) (.pointer (some ⟨B,3,none⟩)) hS ?_
  simp only [pS]
  refine tkO 9 ?_
  refine opH_skip none (w':=w6.setCell ⟨B,3,none⟩ (.slice qa m qc)) rfl (by rfl) rfl (by go_simp) ?_
  have hm2:=setMods w6 B 3 (.slice qa m qc)
  have rB2:=setCell_heap (i:=3) rB1 (.slice qa m qc)
  refine ⟨hS.trans hm2,?_⟩
  refine wpAnyH_done (by kernel_rfl) ?_ _
  have hmm:=hm1.trans hm2
  exact ⟨.slice ja n jc,.slice qa m qc,⟨rfl,rfl,rfl,rfl⟩,rB2,hox.mods hmm (fun g hg e=>by have:=(hox.lt hg).1;omega),hop.mods hmm (fun g hg e=>by have:=(hop.lt hg).1;omega),hS.trans hm2⟩
noncomputable def reg_dict_own_5:Code:=((Tryz.f84.body.bind (regionOf 5)).getD .skip)
theorem own5 (t:Array Value) (hs:t.size=32) (w:World) {base B g i n m ic pc:Nat} {pa:Option Addr} {x0 x2 x4 x5 x6 x7 x8 x9 x10 x11 x12 x13 x31:Value} {f:Nat→List Value}
  (hq1:t.getD 1 undef = .pointer (some ⟨B,0,none⟩))
  (hq3:t.getD 3 undef = .int .i64 i)
  (hq14:t.getD 14 undef = .int .i64 n)
  (hq15:t.getD 15 undef = .int .i64 i)
  (hq0:t.getD 0 undef=x0)
  (hq2:t.getD 2 undef=x2)
  (hq4:t.getD 4 undef=x4)
  (hq5:t.getD 5 undef=x5)
  (hq6:t.getD 6 undef=x6)
  (hq7:t.getD 7 undef=x7)
  (hq8:t.getD 8 undef=x8)
  (hq9:t.getD 9 undef=x9)
  (hq10:t.getD 10 undef=x10)
  (hq11:t.getD 11 undef=x11)
  (hq12:t.getD 12 undef=x12)
  (hq13:t.getD 13 undef=x13)
  (hq31:t.getD 31 undef=x31)
  (c2:w.cell? ⟨B,2,none⟩=some (.slice (some ⟨g,0,none⟩) n ic)) (hi:i < n) (hgB:¬ B=g) (hc:w.cell? ⟨g,i * 5 + 4,none⟩=some (.slice pa m pc)) (hfz:Hid (∀ W,New w W→W.frozen? ⟨g,i * 5 + 4,none⟩=false))
  (HP:Hid (∀ W,New w W→Calls Tryz.prog 145 #[.slice pa m pc] W fun e w'=>∃ v',e = .returned v'∧OwP base w' v' m f∧New W w')) :
  reg_dict_own_5.wp Tryz.prog (Only fun a' W'=>∃ pv' w2,(a'.tmps.size=32∧a'.defers = []∧a'.tmps.getD 1 undef = .pointer (some ⟨B,0,none⟩)∧a'.tmps.getD 3 undef = .int .i64 i∧a'.tmps.getD 14 undef = .int .i64 n∧a'.tmps.getD 15 undef = .int .i64 i∧a'.tmps.getD 0 undef=x0∧a'.tmps.getD 2 undef=x2∧a'.tmps.getD 4 undef=x4∧a'.tmps.getD 5 undef=x5∧a'.tmps.getD 6 undef=x6∧a'.tmps.getD 7 undef=x7∧a'.tmps.getD 8 undef=x8∧a'.tmps.getD 9 undef=x9∧a'.tmps.getD 10 undef=x10∧a'.tmps.getD 11 undef=x11∧a'.tmps.getD 12 undef=x12∧a'.tmps.getD 13 undef=x13∧a'.tmps.getD 31 undef=x31)∧W'=w2.setCell ⟨g,i * 5 + 4,none⟩ pv'∧New w w2∧OwP base w2 pv' m f) ⟨t,[]⟩ w:=by
 conv=>arg 2;whnf
 obtain ⟨u,rfl⟩:=lit32 t hs
 have hq1:u 1 = _:=hq1
 have hq3:u 3 = _:=hq3
 have hq14:u 14 = _:=hq14
 have hq15:u 15 = _:=hq15
 have hq0:u 0 = _:=hq0
 have hq2:u 2 = _:=hq2
 have hq4:u 4 = _:=hq4
 have hq5:u 5 = _:=hq5
 have hq6:u 6 = _:=hq6
 have hq7:u 7 = _:=hq7
 have hq8:u 8 = _:=hq8
 have hq9:u 9 = _:=hq9
 have hq10:u 10 = _:=hq10
 have hq11:u 11 = _:=hq11
 have hq12:u 12 = _:=hq12
 have hq13:u 13 = _:=hq13
 have hq31:u 31 = _:=hq31
 rw [hq1,hq3,hq14,hq15,hq0,hq2,hq4,hq5,hq6,hq7,hq8,hq9,hq10,hq11,hq12,hq13,hq31]
 clear hq1 hq3 hq14 hq15 hq0 hq2 hq4 hq5 hq6 hq7 hq8 hq9 hq10 hq11 hq12 hq13 hq31 hs
 have hN:New w w.drew:=(Mods.refl _ _).drew
 have hS:Mods (fun b=>b=g) w w.drew:=(Mods.refl _ _).drew
 have hid:decide ((i:Int) < (n:Int))=true:=decide_eq_true (by omega)
 have hc4:=hN.cell hc id
 have hCd:w.drew.cell? ⟨g,i * 5 + 4,none⟩ = _:=hc4
 refine wp_region_held (S:=fun W=>Mods (fun b=>b=g) w W) (by kernel_rfl) ?_
 show wpAnyH _ _ _ _ _ 13 _ _ w.drew
 refine tkI 0 (some 18) (.pointer (some ⟨B,2,none⟩)) hS ?_
 simp only [pS]
 refine tkA 1 rfl (some 19) (.slice (some ⟨g,0,none⟩) n ic) (.inl ⟨by rfl,fun W hW=>by have q:=hW.cell c2 hgB;go_simp⟩) hS ?_
 simp only [pS]
 refine tkI 2 (some 20) (.int .i64 i) hS ?_
 simp only [pS]
 refine tkI 3 (some 21) (.pointer (some ⟨B,2,none⟩)) hS ?_
 simp only [pS]
 refine tkA 4 rfl (some 22) (.slice (some ⟨g,0,none⟩) n ic) (.inl ⟨by rfl,fun W hW=>by have q:=hW.cell c2 hgB;go_simp⟩) hS ?_
 simp only [pS]
 refine tkI 5 (some 23) (.int .i64 i) hS ?_
 simp only [pS]
 refine tkI 6 (some 24) (.pointer (some ⟨g,i * 5,none⟩)) hS ?_
 simp only [pS]
 refine tkI 7 (some 25) (.pointer (some ⟨g,i * 5 + 4,none⟩)) hS ?_
 simp only [pS]
 refine tkO 8 ?_
 refine opH_value (some 26) (w':=w.drew) (v:=.slice pa m pc) rfl (by rfl) rfl (by go_simp) ?_
 refine ⟨hS,?_⟩
 simp only [pS]
 refine tkO 9 ?_
 refine opH_call (some 27) rfl (by rfl) rfl 145 #[.slice pa m pc] (by go_simp) ((HP.out _ hN).mono ?_)
 rintro e w2 ⟨pv',rfl,hop,hk⟩
 have hcw:=hk.cell hCd id
 have hN:=hN.trans hk
 have hS:Mods (fun b=>b=g) w w2:=Mods.ofNew hN
 obtain ⟨qa,qc,rfl⟩:=hop.slice
 have hfw:=hfz.out w2 hN
 clear hk
 refine ⟨_,rfl,hS,?_⟩
 simp only [pS]
 refine tkI 10 (some 28) (.pointer (some ⟨g,i * 5,none⟩)) hS ?_
 simp only [pS]
 refine tkI 11 (some 29) (.pointer (some ⟨g,i * 5 + 4,none⟩)) hS ?_
 simp only [pS]
 refine tkO 12 ?_
 refine opH_skip none (w':=w2.setCell ⟨g,i * 5 + 4,none⟩ (.slice qa m qc)) rfl (by rfl) rfl (by go_simp) ?_
 refine ⟨hS.trans (setMods w2 g _ _),?_⟩
 refine wpAnyH_done (by kernel_rfl) ?_ _
 exact ⟨.slice qa m qc,w2,⟨rfl,rfl,rfl,rfl,rfl,rfl,rfl,rfl,rfl,rfl,rfl,rfl,rfl,rfl,rfl,rfl,rfl,rfl,rfl⟩,rfl,hN,hop⟩


def OwnM (base:Nat) (W:World) (v:Value) (m:Bare.Mem):Prop:=∃ (ja pa:Option Addr) (jc pc:Nat) (ip:Nat→Value),v = .agg (mcs m (.slice ja m.items.length jc) (.slice pa m.params.length pc)).toArray∧OwX base W (.slice ja m.items.length jc) m.items.length (fun i=>ics (m.items.getD i Bare.noI) (ip i))∧(∀ i,i < m.items.length→OwP base W (ip i) (m.items.getD i Bare.noI).params.length (pf (m.items.getD i Bare.noI).params))∧OwP base W (.slice pa m.params.length pc) m.params.length (pf m.params)
theorem own_any {τ:Bool} (v:Value) (m:Bare.Mem) (w:World) (h:RdM τ w v m) (hil:m.items.length ≤ 2199023255552) (hpl:m.params.length ≤ 2513169434880) (hipl:∀ i,i < m.items.length→(m.items.getD i Bare.noI).params.length ≤ 2513169434880) :
  Calls Tryz.prog 84 #[v] w fun e w'=>∃ v',e = .returned v'∧OwnM w.heap.size w' v' m∧New w w':=by
 obtain ⟨iv,pv,rfl,⟨ip,h1,-,h3⟩,hP⟩:=h
 obtain ⟨ia,ic,rfl⟩:=h1.slice
 obtain ⟨pa,pc,rfl⟩:=hP.slice
 obtain ⟨f,hf⟩:∃ f:Nat→List Value,(fun i=>ics (m.items.getD i Bare.noI) (ip i))=f:=⟨_,rfl⟩
 have HF:=Lib.hid hf
 have hfl:∀ i,(f i).length=5:=fun i=>by rw [← hf];rfl
 have hone:∀ i,i < m.items.length→∀ u ∈ f i,u.oneCell'=true:=fun i hi=>by
  obtain ⟨a,c,e⟩:=(h3 i hi).slice
  rw [← hf]
  dsimp only
  rw [e]
  exact ics_one _ _ _ _
 rw [hf] at h1
 have HX:=Lib.hid (fun (w0:World) (hw:New w w0) (W:World) (hN:New w0 W)=>(clone_X (.slice ia m.items.length ic) m.items.length f W hfl hone (h1.new (hw.trans hN)) hil).mono (R':=fun e w'=>∃ v',e = .returned v'∧OwX w0.heap.size w' v' m.items.length f∧New W w') (by
  rintro e w' ⟨v',rfl,ho,hk⟩;exact ⟨v',rfl,ho.mono hN.size,hk⟩))
 have HP:=Lib.hid (fun (w0:World) (hw:New w w0) (W:World) (hN:New w0 W)=>(clone_P (.slice pa m.params.length pc) m.params.length (pf m.params) W (pf_len _) (fun i _=>pcs_one _) (hP.1.new (hw.trans hN)) hpl).mono (R':=fun e w'=>∃ v',e = .returned v'∧OwP w0.heap.size w' v' m.params.length (pf m.params)∧New W w') (by
  rintro e w' ⟨v',rfl,ho,hk⟩;exact ⟨v',rfl,ho.mono hN.size,hk⟩))
 have HPi:=Lib.hid (fun (w0:World) (hw:New w w0) (j:Nat) (hj:j < m.items.length) (wr:World) (hr:New w wr) (hb:w0.heap.size ≤ wr.heap.size) (W:World) (hN:New wr W)=>(clone_P (ip j) (m.items.getD j Bare.noI).params.length (pf (m.items.getD j Bare.noI).params) W (pf_len _) (fun i _=>pcs_one _) ((h3 j hj).1.new (hr.trans hN)) (hipl j hj)).mono (R':=fun e w'=>∃ v',e = .returned v'∧OwP w0.heap.size w' v' (m.items.getD j Bare.noI).params.length (pf (m.items.getD j Bare.noI).params)∧New W w') (by
  rintro e w' ⟨v',rfl,ho,hk⟩;exact ⟨v',rfl,ho.mono (Nat.le_trans hb hN.size),hk⟩))
 have HS:=Lib.hid (fun j hj=>(h3 j hj).slice)
 obtain ⟨n,hn⟩:∃ n,m.items.length=n:=⟨_,rfl⟩
 obtain ⟨k,hk⟩:∃ k,m.params.length=k:=⟨_,rfl⟩
 obtain ⟨K,hK⟩:∃ K,tx m.key=K:=⟨_,rfl⟩
 obtain ⟨y,hy⟩:∃ y,m.inner=y:=⟨_,rfl⟩
 have Hn:=Lib.hid hn
 have Hk:=Lib.hid hk
 have HK:=Lib.hid hK
 have HY:=Lib.hid hy
 unfold OwnM mcs
 rw [hn,hk,hK,hy]
 rw [hn] at HX HPi HS hil hone
 rw [hk] at HP hpl
 clear h1 hP h3 hn hk hK hy hipl hf
 go_enter Tryz.func84,Tryz.ntmps84
 go_upto_region 1 with fail
 obtain ⟨W1,hW1⟩:∃ W1,((w.alloc (.cells #[.string K,.bool y,.slice ia n ic,.slice pa k pc] 44)).alloc (.cells #[.string ⟨#[]⟩,.bool false,.slice none 0 0,.slice none 0 0] 44))=W1:=⟨_,rfl⟩
 have hN1:New w W1:=by rw [← hW1];exact ((Mods.refl _ _).alloc _).alloc _
 have rB:W1.heap[w.heap.size]? = some (.cells #[.string K,.bool y,.slice ia n ic,.slice pa k pc] 44 (0,0)):=by rw [← hW1];exact ((Mods.refl (fun _=>False) _).alloc _).heap (World.alloc_heap_new _ _) id
 have rR:W1.heap[w.heap.size + 1]? = some (.cells #[.string ⟨#[]⟩,.bool false,.slice none 0 0,.slice none 0 0] 44 (0,0)):=by
  have:=World.alloc_heap_new (w.alloc (.cells #[.string K,.bool y,.slice ia n ic,.slice pa k pc] 44)) (.cells #[.string ⟨#[]⟩,.bool false,.slice none 0 0,.slice none 0 0] 44)
  rw [hW1] at this
  simpa using this
 have hs1:W1.heap.size=w.heap.size + 2:=by rw [← hW1];simp
 rw [hW1]
 obtain ⟨b1,hb1⟩:∃ b1,W1.heap.size=b1:=⟨_,rfl⟩
 obtain ⟨B,hB⟩:∃ B,w.heap.size=B:=⟨_,rfl⟩
 rw [hB] at rB rR hs1 ⊢
 obtain ⟨R,hR⟩:∃ R,B + 1=R:=⟨_,rfl⟩
 rw [hR] at rR ⊢
 have hRB:¬ R=B:=by omega
 have HPi1:=Lib.hid (fun j hj (wr:World) hr (hb:b1 ≤ wr.heap.size)=>by have:=HPi.out W1 hN1 j hj wr hr (by rw [hb1];exact hb);rw [hb1] at this;exact this)
 refine piece (fun _=>_) (own1 _ rfl W1 rfl rfl rB (Lib.hid (HX.out W1 hN1)) (Lib.hid (HP.out W1 hN1))) ?_
 rintro ⟨z,dfs⟩ W2 ⟨iv2,pv2,⟨hs,hd,hq1,hq2⟩,rB2,hox,hop,hm2⟩
 simp only at hs hd hq1 hq2
 subst hd
 obtain ⟨uu,rfl⟩:=lit32 z hs
 have hp1:uu 1 = .pointer (some ⟨B,0,none⟩):=hq1
 have hp2:uu 2 = .pointer (some ⟨R,0,none⟩):=hq2
 rw [hp1,hp2]
 clear hp1 hq1 hp2 hq2 hs
 obtain ⟨ja,jc,rfl⟩:=hox.slice
 obtain ⟨qa,qc,rfl⟩:=hop.slice
 have rR2:=hm2.heap rR hRB
 have hbs:b1 ≤ W2.heap.size:=by have:=hm2.size;omega
 rw [hb1] at hox hop
 have hN2:New w W2:=((Mods.ofNew hN1).trans hm2).new (by omega)
 have c2:=cell_of_row _ _ 2 _ _ _ rB2
 simp only [gS] at c2
 have hox0:OwX b1 W2 (.slice ja n jc) n (fun j=>ics (m.items.getD j Bare.noI) (ip j)):=by rw [HF.out];exact hox
 clear hW1 rB rR hm2 HX HP HPi hox hN1
 go_wp2_with fail
 go_loopw [15] (fun t wr=>∃ (i:Nat) (jv:Nat→Value),i ≤ n∧t = .int .i64 i∧wr.heap[B]? = some (.cells #[.string K,.bool y,.slice ja n jc,.slice qa k qc] 44 (0,0))∧wr.heap[R]? = some (.cells #[.string ⟨#[]⟩,.bool false,.slice none 0 0,.slice none 0 0] 44 (0,0))∧OwX b1 wr (.slice ja n jc) n (fun j=>ics (m.items.getD j Bare.noI) (jv j))∧Hid (∀ j,j < i→OwP b1 wr (jv j) (m.items.getD j Bare.noI).params.length (pf (m.items.getD j Bare.noI).params))∧Hid (∀ j,i ≤ j→j < n→jv j=ip j)∧OwP b1 wr (.slice qa k qc) k (pf m.params)∧New w wr∧b1 ≤ wr.heap.size) (fun t _=>n - (intOf t).toNat)
 case atStart=>exact ⟨0,ip,Nat.zero_le _,rfl,rB2,rR2,hox0,Lib.hid (fun j hj=>by omega),Lib.hid (fun j _ _=>rfl),hop,hN2,hbs⟩
 case round =>
  clear rB2 rR2 hox0 hop hN2 hbs c2
  obtain ⟨i,jv,hin,rfl,rB,rR,hox,hnew,hold,hop,hN,hbs⟩:=hrel
  by_cases hlt:i < n
  ·have hkd:decide ((i:Int) < (n:Int))=true:=decide_eq_true (by omega)
   obtain ⟨g,rfl⟩:∃ g,ja=some ⟨g,0,none⟩:=by
    rcases hox.2.2.2 with ⟨h,h'⟩ | ⟨b',cap',cur,h,_⟩
    ·simp only [Value.slice.injEq] at h;omega
    ·simp only [Value.slice.injEq] at h;exact ⟨b',h.1⟩
   obtain ⟨a4,l4,e4⟩:=HS.out i hlt
   have hji:jv i = .slice a4 (m.items.getD i Bare.noI).params.length l4:=by rw [hold.out i (Nat.le_refl _) hlt];exact e4
   have hc:wr.cell? ⟨g,i * 5 + 4,none⟩=some (.slice a4 (m.items.getD i Bare.noI).params.length l4):=by
    obtain ⟨b',o',e',hrw⟩:=(hox.row (by omega)).at.2.2 i hlt
    obtain ⟨rfl,rfl⟩:b'=g∧o'=0:=by cases e';exact ⟨rfl,rfl⟩
    rw [Nat.zero_add] at hrw
    have:=hrw 4 (jv i) rfl
    rw [hji] at this
    exact this
   have hgl:b1 ≤ g∧g < wr.heap.size:=hox.lt rfl
   have hgB:¬ B=g:=by omega
   have c2:=cell_of_row _ _ 2 _ _ _ rB
   simp only [gS] at c2
   have HOX:=Lib.hid hox
   have hfz:Hid (∀ W,New wr W→W.frozen? ⟨g,i * 5 + 4,none⟩=false):=Lib.hid fun W hW=>(HOX.out.new hW).frozen rfl _
   obtain ⟨pl,hpl'⟩:∃ pl,(m.items.getD i Bare.noI).params.length=pl:=⟨_,rfl⟩
   have HPL:=Lib.hid hpl'
   have HPP:=Lib.hid (HPi1.out i hlt wr hN hbs)
   rw [e4] at HPP
   rw [hpl'] at hc e4 HPP
   have HC:=Lib.hid hc
   have HE4:=Lib.hid e4
   clear hpl' e4 hji hox hc
   go_upto_region 5 with fail
   refine piece (fun _=>_) (own5 _ rfl wr rfl rfl rfl rfl rfl rfl rfl rfl rfl rfl rfl rfl rfl rfl rfl rfl rfl c2 hlt hgB HC.out hfz HPP) ?_
   rintro ⟨z,dfs⟩ W3 ⟨pv3,w3,⟨hs,hd,hq1,hq3,hq14,hq15,hq0,hq2,hq4,hq5,hq6,hq7,hq8,hq9,hq10,hq11,hq12,hq13,hq31⟩,hw,hk2,hop2⟩
   simp only at hs hd hq1 hq3 hq14 hq15 hq0 hq2 hq4 hq5 hq6 hq7 hq8 hq9 hq10 hq11 hq12 hq13 hq31
   subst hd
   obtain ⟨u,rfl⟩:=lit32 z hs
   have hp1:u 1 = .pointer (some ⟨B,0,none⟩):=hq1
   have hp3:u 3 = .int .i64 i:=hq3
   have hp14:u 14 = .int .i64 n:=hq14
   have hp15:u 15 = .int .i64 i:=hq15
   have hp0:u 0=uu 0:=hq0
   have hp2:u 2 = .pointer (some ⟨R,0,none⟩):=hq2
   have hp4:u 4=uu 4:=hq4
   have hp5:u 5=uu 5:=hq5
   have hp6:u 6=uu 6:=hq6
   have hp7:u 7=uu 7:=hq7
   have hp8:u 8=uu 8:=hq8
   have hp9:u 9=uu 9:=hq9
   have hp10:u 10=uu 10:=hq10
   have hp11:u 11=uu 11:=hq11
   have hp12:u 12 = .pointer (some ⟨B,2,none⟩):=hq12
   have hp13:u 13 = .slice (some ⟨g,0,none⟩) n jc:=hq13
   have hp31:u 31=uu 31:=hq31
   rw [hp1,hp3,hp14,hp15,hp0,hp2,hp4,hp5,hp6,hp7,hp8,hp9,hp10,hp11,hp12,hp13,hp31]
   clear hp1 hq1 hp3 hq3 hp14 hq14 hp15 hq15 hp0 hq0 hp2 hq2 hp4 hq4 hp5 hq5 hp6 hq6 hp7 hq7 hp8 hq8 hp9 hq9 hp10 hq10 hp11 hq11 hp12 hq12 hp13 hq13 hp31 hq31 hs
   subst hw
   obtain ⟨qa3,qc3,rfl⟩:=hop2.slice
   go_wp2_with fail
   go_roundw
   case rel =>
    have hsm:=setMods w3 g (i * 5 + 4) (.slice qa3 pl qc3)
    have hox3:=HOX.out.new hk2
    have hne:∀ (v:Value),TagAt w3 v 83→∀ b,v.ownBlock=some b→¬ b=g:=fun v ht b hb e=>by
     obtain ⟨cs,fr,h⟩:=ht b hb
     obtain ⟨cs',fr',h'⟩:=hox3.tag g rfl
     subst e
     rw [h] at h'
     cases h'
    have hgR:¬ R=g:=by omega
    refine ⟨i + 1,fun j=>if j=i then .slice qa3 pl qc3 else jv j,by omega,by go_num,hsm.heap (hk2.heap rB id) hgB,hsm.heap (hk2.heap rR id) hgR,?_,?_,?_,?_,(hN.trans hk2).setCell (p:=⟨g,i * 5 + 4,none⟩) (.inl (by show _ ≤ g;omega)) _,by have:=hsm.size;have:=hk2.size;omega⟩
    ·refine OwX.congr (f:=fun k=>if k=i then (ics (m.items.getD i Bare.noI) (jv i)).set 4 (.slice qa3 pl qc3) else ics (m.items.getD k Bare.noI) (jv k)) ⟨set_len hox3.1,fun j hj=>?_,own_set hox3.1 hox3.2.2 hlt (by decide) _⟩ (fun _=>rfl) fun j hj=>?_
     ·dsimp only
      by_cases e:j=i
      ·rw [if_pos e];exact ics_one _ _ _ _
      ·rw [if_neg e];exact hox3.2.1 j hj
     ·dsimp only
      by_cases e:j=i
      ·subst e;rw [if_pos rfl,if_pos rfl];rfl
      ·rw [if_neg e,if_neg e]
    ·refine Lib.hid fun j hj=>?_
     dsimp only
     by_cases e:j=i
     ·subst e
      rw [if_pos rfl,HPL.out]
      exact hop2.mods hsm fun b hb=>hne _ hop2.tag b hb
     ·rw [if_neg e]
      have h3:=(hnew.out j (by omega)).new hk2
      exact h3.mods hsm fun b hb=>hne _ h3.tag b hb
    ·refine Lib.hid fun j h1 h2=>?_
     dsimp only
     rw [if_neg (by omega)]
     exact hold.out j (by omega) h2
    ·have h3:=hop.new hk2
     exact h3.mods hsm fun b hb=>hne _ h3.tag b hb
   case measure=>simp [intOf];omega
  ·have hkd:decide ((i:Int) < (n:Int))=false:=decide_eq_false (by omega)
   obtain rfl:i=n:=by omega
   clear hold
   have hone4:=mcs_one K y ja qa i jc k qc
   have c0:=cell_of_row _ _ 0 _ _ _ rR
   go_wp2_with (first | (refine op_value rfl (run_load_row 44 (.tmp 1) rfl B rfl 44 _ (0,0) _ rB Tryz.underlying44 rfl sizeM) ?_) | (refine op_skip rfl (run_store_row 44 (.tmp 2) (.tmp 31) rfl R rfl 44 [.string ⟨#[]⟩,.bool false,.slice none 0 0,.slice none 0 0] [.string K,.bool y,.slice ja i jc,.slice qa k qc] rfl rR sizeM rfl hone4) ?_))
   have hmR:=mods_setRow rR #[.string K,.bool y,.slice ja i jc,.slice qa k qc]
   have hrow:(wr.setRow R #[.string K,.bool y,.slice ja i jc,.slice qa k qc]).heap[R]? = some (.cells #[.string K,.bool y,.slice ja i jc,.slice qa k qc] 44 (0,0)):=setRow_heap wr R _ _ _ _ rR
   refine bodyPost_ret (v:=.agg #[.string K,.bool y,.slice ja i jc,.slice qa k qc]) (results_cell_row rfl _ _ R 44 _ (0,0) _ rfl hrow Tryz.underlying44 rfl sizeM) rfl ?_
   refine ⟨_,rfl,⟨ja,qa,jc,qc,jv,rfl,?_,fun j hj=>?_,?_⟩,(hN.setRow (by omega) _)⟩
   ·exact (hox.mods hmR fun b hb e=>by have:=(hox.lt hb).1;omega).mono (by omega)
   ·exact ((hnew.out j hj).mods hmR fun b hb e=>by have:=((hnew.out j hj).lt hb).1;omega).mono (by omega)
   ·exact (hop.mods hmR fun b hb e=>by have:=(hop.lt hb).1;omega).mono (by omega)


def findM (d:List Bare.Mem) (k:Bare.Bs):Option Bare.Mem:=d.find? fun m=>decide (m.key=k)
theorem findM_none {d:List Bare.Mem} {k:Bare.Bs} (h:∀ j,j < d.length→(d.getD j noM).key ≠ k):findM d k=none:=by
 unfold findM
 rw [List.find?_eq_none]
 intro m hm
 obtain ⟨j,hj,rfl⟩:=List.mem_iff_getElem.1 hm
 have:=h j hj
 rw [List.getD_eq_getElem?_getD,List.getElem?_eq_getElem hj] at this
 simpa using this
theorem findM_some {d:List Bare.Mem} {k:Bare.Bs} {i:Nat} (hi:i < d.length) (h:∀ j,j < i→(d.getD j noM).key ≠ k) (hk:(d.getD i noM).key=k):findM d k=some (d.getD i noM):=by
 unfold findM
 rw [List.find?_eq_some_iff_getElem]
 have e:d.getD i noM=d[i]:=by rw [List.getD_eq_getElem?_getD,List.getElem?_eq_getElem hi];rfl
 refine ⟨by simpa using hk,i,hi,e.symm,fun j hj=>?_⟩
 have:=h j hj
 rw [List.getD_eq_getElem?_getD,List.getElem?_eq_getElem (by omega)] at this
 simpa using this
theorem OwnM.zero (base:Nat) (W:World):OwnM base W (.agg #[.string ⟨#[]⟩,.bool false,.slice none 0 0,.slice none 0 0]) noM:=⟨none,none,0,0,fun _=>undef,rfl,OwX.nil _ _ _ (fun _=>rfl),(fun i hi=>by simp [noM] at hi),OwP.nil _ _ _ (pf_len _)⟩
theorem OwnM.mods {base:Nat} {W W':World} {v:Value} {m:Bare.Mem} (h:OwnM base W v m) {S:Nat→Prop} (hN:Mods S W W') (hS:∀ g,S g→g < base):OwnM base W' v m:=by
 obtain ⟨ja,pa,jc,pc,ip,rfl,h1,h2,h3⟩:=h
 exact ⟨ja,pa,jc,pc,ip,rfl,h1.mods hN (fun g hg hs=>by have:=(h1.lt hg).1;have:=hS g hs;omega),fun i hi=>(h2 i hi).mods hN (fun g hg hs=>by have:=((h2 i hi).lt hg).1;have:=hS g hs;omega),h3.mods hN (fun g hg hs=>by have:=(h3.lt hg).1;have:=hS g hs;omega)⟩
theorem OwnM.mono {base base':Nat} {W:World} {v:Value} {m:Bare.Mem} (h:OwnM base W v m) (hb:base' ≤ base):OwnM base' W v m:=by
 obtain ⟨ja,pa,jc,pc,ip,rfl,h1,h2,h3⟩:=h
 exact ⟨ja,pa,jc,pc,ip,rfl,h1.mono hb,fun i hi=>(h2 i hi).mono hb,h3.mono hb⟩
def Fits (m:Bare.Mem):Prop:=m.items.length ≤ 2199023255552∧m.params.length ≤ 2513169434880∧∀ i,i < m.items.length→(m.items.getD i Bare.noI).params.length ≤ 2513169434880
theorem find_any {τ:Bool} (v:Value) (key:ByteArray) (d:List Bare.Mem) (w:World) (h:RdD τ w v d) (hf:∀ m ∈ d,Fits m) :
  Calls Tryz.prog 25 #[v,.string key] w fun e w'=>∃ v',e = .returned (.tuple #[v',.bool (findM d (bl key)).isSome])∧OwnM w.heap.size w' v' ((findM d (bl key)).getD noM)∧New w w':=by
 obtain ⟨ao,cap,rfl⟩:=h.slice
 have HD:=Lib.hid h
 have hlen:d.length ≤ 281474976710656:=by obtain ⟨_,_,h1,_⟩:=h;exact h1.1
 clear h
 obtain ⟨Post,hPost⟩:∃ Post:Ending→World→Prop,(fun e w'=>∃ v',e = .returned (.tuple #[v',.bool (findM d (bl key)).isSome])∧OwnM w.heap.size w' v' ((findM d (bl key)).getD noM)∧New w w')=Post:=⟨_,rfl⟩
 have HPost:=Lib.hid hPost
 rw [hPost]
 clear hPost
 have hT:=World.alloc_heap_new w (.cells #[.string ⟨#[]⟩,.bool false,.slice none 0 0,.slice none 0 0] 44)
 have hN0:New w (w.alloc (.cells #[.string ⟨#[]⟩,.bool false,.slice none 0 0,.slice none 0 0] 44)):=(Mods.refl _ _).alloc _
 obtain ⟨n,hn⟩:∃ n,d.length=n:=⟨_,rfl⟩
 have Hn:=Lib.hid hn
 rw [hn] at hlen ⊢
 go_enter Tryz.func25,Tryz.ntmps25
 go_upto_region 1 with fail
 obtain ⟨W1,hW1⟩:∃ W1,w.alloc (.cells #[.string ⟨#[]⟩,.bool false,.slice none 0 0,.slice none 0 0] 44)=W1:=⟨_,rfl⟩
 rw [hW1] at hT hN0 ⊢
 have hb1:W1.heap.size=w.heap.size + 1:=by rw [← hW1];simp
 obtain ⟨R,hR⟩:∃ R,w.heap.size=R:=⟨_,rfl⟩
 rw [hR] at hT hb1 ⊢
 clear hW1 hn
 go_wp2_with fail
 go_loopw [10] (fun t wr=>∃ i:Nat,i ≤ n∧t = .int .i64 i∧wr.heap[R]? = some (.cells #[.string ⟨#[]⟩,.bool false,.slice none 0 0,.slice none 0 0] 44 (0,0))∧Hid (∀ j,j < i→(d.getD j noM).key ≠ bl key)∧New w wr∧R + 1 ≤ wr.heap.size) (fun t _=>n - (intOf t).toNat)
 case atStart=>exact ⟨0,Nat.zero_le _,rfl,hT,Lib.hid fun j hj=>by omega,hN0,by omega⟩
 case round =>
  clear hT hN0 hb1
  obtain ⟨i,hin,rfl,rR,hbef,hN,hbs⟩:=hrel
  by_cases hlt:i < n
  ·have hkd:decide ((i:Int) < (n:Int))=true:=decide_eq_true (by omega)
   have hld:i < d.length:=by rw [Hn.out];exact hlt
   have hd:=HD.out.new hN
   obtain ⟨iv,pv,h1,-,h3⟩:=hd
   obtain ⟨b,o,rfl,hrow⟩:=h1.at.2.2 i hld
   obtain ⟨c0,c1,c2,c3⟩:=cells4 hrow
   obtain ⟨hi,hp⟩:=h3 i hld
   have HF:=Lib.hid (hf _ (getD_mem (d:=noM) hld))
   obtain ⟨ia,ic,hie⟩:=hi.slice
   obtain ⟨pa,pc,hpe⟩:=hp.slice
   have he:=eq_tx (tx (d.getD i noM).key) key
   rw [bl_tx] at he
   have HO:=Lib.hid (fun W (hW:New wr W)=>own_any (τ:=τ) (.agg (mcs (d.getD i noM) (iv i) (pv i)).toArray) (d.getD i noM) W ⟨_,_,rfl,hi.new hW,hp.new hW⟩ HF.out.1 HF.out.2.1 HF.out.2.2)
   rw [hie,hpe] at HO
   rw [hie] at c2
   rw [hpe] at c3
   obtain ⟨m,hm⟩:∃ m,d.getD i noM=m:=⟨_,rfl⟩
   have HM:=Lib.hid hm
   rw [hm] at c0 c1 c2 c3 HO he
   obtain ⟨K,hK⟩:∃ K,tx m.key=K:=⟨_,rfl⟩
   unfold mcs at HO
   rw [hK] at c0 HO he
   obtain ⟨y,hy⟩:∃ y,m.inner=y:=⟨_,rfl⟩
   rw [hy] at c1 HO
   obtain ⟨il,hil⟩:∃ l,m.items.length=l:=⟨_,rfl⟩
   obtain ⟨pl,hpl⟩:∃ l,m.params.length=l:=⟨_,rfl⟩
   rw [hil] at c2 HO
   rw [hpl] at c3 HO
   clear hrow h1 h3 hi hp hie hpe hm hK hy hil hpl iv pv
   have hA:New wr (wr.alloc (.cells #[.string K,.bool y,.slice ia il ic,.slice pa pl pc] 44)):=(Mods.refl _ _).alloc _
   have r7:=World.alloc_heap_new wr (.cells #[.string K,.bool y,.slice ia il ic,.slice pa pl pc] 44)
   have rR7:=hA.heap rR id
   by_cases heq:m.key=bl key
   ·rw [show decide (m.key=bl key)=true from decide_eq_true heq] at he
    go_upto_region 4 with fail
    obtain ⟨W4,hW4⟩:∃ W4,wr.alloc (.cells #[.string K,.bool y,.slice ia il ic,.slice pa pl pc] 44)=W4:=⟨_,rfl⟩
    rw [hW4] at hA r7 rR7 ⊢
    have hbs4:=hA.size
    obtain ⟨B4,hB4⟩:∃ B4,wr.heap.size=B4:=⟨_,rfl⟩
    rw [hB4] at r7 ⊢
    have k0:=cell_of_row _ _ 0 _ _ _ r7
    simp only [gS] at k0
    clear hW4 c0 c1 c2 c3
    go_wp2_with (first | (refine op_value rfl (run_load_row 44 (.tmp 7) rfl B4 rfl 44 _ (0,0) _ r7 Tryz.underlying44 rfl sizeM) ?_) | (go_at_call 84;refine (HO.out _ hA).mono ?_;rintro e W5 ⟨v',rfl,hov,hk5⟩;obtain ⟨ja,qa,jc,qc,ip',rfl,q1,q2,q3⟩:=hov;have rR5:=hk5.heap rR7 id) | (refine op_skip rfl (run_store_row 44 (.tmp 4) (.tmp 19) rfl R rfl 44 [.string ⟨#[]⟩,.bool false,.slice none 0 0,.slice none 0 0] (mcs m (.slice ja m.items.length jc) (.slice qa m.params.length qc)) rfl rR5 sizeM rfl (mcs_one _ _ _ _ _ _ _ _)) ?_))
    have hmR:=mods_setRow rR5 (mcs m (.slice ja m.items.length jc) (.slice qa m.params.length qc)).toArray
    have hrow:=setRow_heap W5 R _ (mcs m (.slice ja m.items.length jc) (.slice qa m.params.length qc)).toArray _ _ rR5
    refine bodyPost_ret (v:=.tuple #[.agg (mcs m (.slice ja m.items.length jc) (.slice qa m.params.length qc)).toArray,.bool true]) (results_row2 rfl _ _ R 44 _ (0,0) _ rfl hrow Tryz.underlying44 rfl sizeM rfl) rfl ?_
    have hfn:=findM_some (k:=bl key) hld hbef.out (by rw [HM.out];exact heq)
    rw [HM.out] at hfn
    have hov:OwnM W4.heap.size W5 (.agg (mcs m (.slice ja m.items.length jc) (.slice qa m.params.length qc)).toArray) m:=⟨ja,qa,jc,qc,ip',rfl,q1,q2,q3⟩
    rw [← HPost.out]
    rw [hfn]
    exact ⟨_,rfl,(hov.mods hmR fun b hb=>by rw [hb];omega).mono (by omega),((hN.trans hA).trans hk5).setRow (by omega) _⟩
   ·rw [show decide (m.key=bl key)=false from decide_eq_false heq] at he
    go_upto_region 4 with fail
    obtain ⟨W4,hW4⟩:∃ W4,wr.alloc (.cells #[.string K,.bool y,.slice ia il ic,.slice pa pl pc] 44)=W4:=⟨_,rfl⟩
    rw [hW4] at hA r7 rR7 ⊢
    have hbs4:=hA.size
    obtain ⟨B4,hB4⟩:∃ B4,wr.heap.size=B4:=⟨_,rfl⟩
    rw [hB4] at r7 ⊢
    have k0:=cell_of_row _ _ 0 _ _ _ r7
    simp only [gS] at k0
    clear hW4 c0 c1 c2 c3
    go_wp2_with fail
    go_roundw
    case rel=>exact ⟨i + 1,by omega,by go_num,rR7,Lib.hid (fun j hj=>by
     by_cases e:j=i
     ·subst e;rw [HM.out];exact heq
     ·exact hbef.out j (by omega)),hN.trans hA,by omega⟩
    case measure=>simp [intOf];omega
  ·have hkd:decide ((i:Int) < (n:Int))=false:=decide_eq_false (by omega)
   go_wp2_with (refine op_skip rfl (run_store_row 44 (.tmp 4) (.tmp 21) rfl R rfl 44 [.string ⟨#[]⟩,.bool false,.slice none 0 0,.slice none 0 0] [.string ⟨#[]⟩,.bool false,.slice none 0 0,.slice none 0 0] rfl rR sizeM rfl (mcs_one _ _ _ _ _ _ _ _)) ?_)
   rw [setRow_same (cs:=[.string ⟨#[]⟩,.bool false,.slice none 0 0,.slice none 0 0]) rR]
   refine bodyPost_ret (v:=.tuple #[.agg #[.string ⟨#[]⟩,.bool false,.slice none 0 0,.slice none 0 0],.bool false]) (results_row2 rfl _ _ R 44 _ (0,0) _ rfl rR Tryz.underlying44 rfl sizeM rfl) rfl ?_
   have hfn:=findM_none (d:=d) (k:=bl key) (fun j hj=>hbef.out j (by have:=Hn.out;omega))
   rw [← HPost.out]
   rw [hfn]
   exact ⟨_,rfl,OwnM.zero _ _,hN⟩


theorem lit82 (t:Array Value) (h:t.size=82):∃ u:Nat→Value,t=(u 0::u 1::u 2::u 3::u 4::u 5::u 6::u 7::u 8::u 9::u 10::u 11::u 12::u 13::u 14::u 15::u 16::u 17::u 18::u 19::u 20::u 21::u 22::u 23::u 24::u 25::u 26::u 27::u 28::u 29::u 30::u 31::u 32::u 33::u 34::u 35::u 36::u 37::u 38::u 39::u 40::u 41::u 42::u 43::u 44::u 45::u 46::u 47::u 48::u 49::u 50::u 51::u 52::u 53::u 54::u 55::u 56::u 57::u 58::u 59::u 60::u 61::u 62::u 63::u 64::u 65::u 66::u 67::u 68::u 69::u 70::u 71::u 72::u 73::u 74::u 75::u 76::u 77::u 78::u 79::u 80::u 81::([]:List Value)).toArray:=⟨fun i=>t.getD i undef,range_lit t 82 h⟩
noncomputable def reg_dict_Print_8:Code:=((Tryz.f23.body.bind (regionOf 8)).getD .skip)
theorem print8 (t:Array Value) (hs:t.size=82) (w:World) {base B ib io ic xl xc:Nat} {xa:Option Addr} {v x0 x1 x2 x3 x5 x8 x12 x13 x14 x15 x16 x17 x80 x81:Value} {q s vl td:ByteArray} {yy:Bool} {k n:Int} {L:List Bare.Bs} {l:Bare.Bs}
  (hq4:t.getD 4 undef=v)
  (hq6:t.getD 6 undef = .pointer (some ⟨B,0,none⟩))
  (hq0:t.getD 0 undef=x0)
  (hq1:t.getD 1 undef=x1)
  (hq2:t.getD 2 undef=x2)
  (hq3:t.getD 3 undef=x3)
  (hq5:t.getD 5 undef=x5)
  (hq8:t.getD 8 undef=x8)
  (hq12:t.getD 12 undef=x12)
  (hq13:t.getD 13 undef=x13)
  (hq14:t.getD 14 undef=x14)
  (hq15:t.getD 15 undef=x15)
  (hq16:t.getD 16 undef=x16)
  (hq17:t.getD 17 undef=x17)
  (hq80:t.getD 80 undef=x80)
  (hq81:t.getD 81 undef=x81)
  (k0:w.cell? ⟨B,0,none⟩=some (.string q)) (k2:w.cell? ⟨B,2,none⟩=some (.slice (some ⟨ib,io,none⟩) 1 ic))
  (i0:w.cell? ⟨ib,io,none⟩=some (.int .u8 k)) (i1:w.cell? ⟨ib,io + 1,none⟩=some (.int .i64 n)) (i2:w.cell? ⟨ib,io + 2,none⟩=some (.string s)) (i3:w.cell? ⟨ib,io + 3,none⟩=some (.bool yy)) (i4:w.cell? ⟨ib,io + 4,none⟩=some (.slice xa xl xc))
  (hBv:v.ownBlock ≠ some B) (hIv:v.ownBlock ≠ some ib)
  (HVal:Hid (∀ W,New w W→Calls Tryz.prog 80 #[.agg #[.int .u8 k,.int .i64 n,.string s,.bool yy]] W fun e w'=>e = .returned (.string vl)∧New W w'))
  (HTold:Hid (∀ W,New w W→Calls Tryz.prog 81 #[.slice xa xl xc] W fun e w'=>e = .returned (.string td)∧New W w'))
  (Hx:Hid (q ++ vl ++ td=tx l)) (hown:OwS base w v L) (hln:L.length ≤ 2000000) (hbase:base ≤ w.heap.size)
  (hqs:q.size ≤ 100000) (hvs:vl.size ≤ 50000) (hts:td.size ≤ 400000000000) :
  reg_dict_Print_8.wp Tryz.prog (Only fun a' W'=>∃ v',(a'.tmps.size=82∧a'.defers = []∧a'.tmps.getD 4 undef=v'∧a'.tmps.getD 6 undef = .pointer (some ⟨B,0,none⟩)∧a'.tmps.getD 0 undef=x0∧a'.tmps.getD 1 undef=x1∧a'.tmps.getD 2 undef=x2∧a'.tmps.getD 3 undef=x3∧a'.tmps.getD 5 undef=x5∧a'.tmps.getD 8 undef=x8∧a'.tmps.getD 12 undef=x12∧a'.tmps.getD 13 undef=x13∧a'.tmps.getD 14 undef=x14∧a'.tmps.getD 15 undef=x15∧a'.tmps.getD 16 undef=x16∧a'.tmps.getD 17 undef=x17∧a'.tmps.getD 80 undef=x80∧a'.tmps.getD 81 undef=x81)∧OwS base W' v' (L ++ [l])∧∀ w0:World,New w0 w→w0.heap.size ≤ base→New w0 W') ⟨t,[]⟩ w:=by
 conv=>arg 2;whnf
 obtain ⟨u,rfl⟩:=lit82 t hs
 have hq4:u 4 = _:=hq4
 have hq6:u 6 = _:=hq6
 have hq0:u 0 = _:=hq0
 have hq1:u 1 = _:=hq1
 have hq2:u 2 = _:=hq2
 have hq3:u 3 = _:=hq3
 have hq5:u 5 = _:=hq5
 have hq8:u 8 = _:=hq8
 have hq12:u 12 = _:=hq12
 have hq13:u 13 = _:=hq13
 have hq14:u 14 = _:=hq14
 have hq15:u 15 = _:=hq15
 have hq16:u 16 = _:=hq16
 have hq17:u 17 = _:=hq17
 have hq80:u 80 = _:=hq80
 have hq81:u 81 = _:=hq81
 rw [hq4,hq6,hq0,hq1,hq2,hq3,hq5,hq8,hq12,hq13,hq14,hq15,hq16,hq17,hq80,hq81]
 clear hq4 hq6 hq0 hq1 hq2 hq3 hq5 hq8 hq12 hq13 hq14 hq15 hq16 hq17 hq80 hq81 hs
 have z1:¬ 9223372036854775807 < q.size + vl.size:=by omega
 have z2:¬ 9223372036854775807 < q.size + vl.size + td.size:=by omega
 refine wp_region_held (S:=fun W=>Mods (fun b=>v.ownBlock=some b) w W) (by kernel_rfl) ?_
 show wpAnyH _ _ _ _ _ 20 _ _ w.drew
 have hN:New w w.drew:=(Mods.refl _ _).drew
 have hS:Mods (fun b=>v.ownBlock=some b) w w.drew:=(Mods.refl _ _).drew
 refine tkI 0 (some 24) (v) hS ?_
 simp only [pS]
 refine tkI 1 (some 25) (.pointer (some ⟨B,0,none⟩)) hS ?_
 simp only [pS]
 refine tkA 2 rfl (some 26) (.string q) (.inl ⟨by rfl,fun W hW=>by have q:=hW.cell k0 hBv;go_simp⟩) hS ?_
 simp only [pS]
 refine tkI 3 (some 27) (.pointer (some ⟨B,2,none⟩)) hS ?_
 simp only [pS]
 refine tkA 4 rfl (some 28) (.slice (some ⟨ib,io,none⟩) 1 ic) (.inl ⟨by rfl,fun W hW=>by have q:=hW.cell k2 hBv;go_simp⟩) hS ?_
 simp only [pS]
 refine tkI 5 (some 29) (.pointer (some ⟨ib,io,none⟩)) hS ?_
 simp only [pS]
 refine tkI 6 (some 30) (.pointer (some ⟨ib,io,none⟩)) hS ?_
 simp only [pS]
 refine tkA 7 rfl (some 31) (.agg #[.int .u8 k,.int .i64 n,.string s,.bool yy]) (.inl ⟨by rfl,fun W hW=>by have q0:=hW.cell i0 hIv;have q1:=hW.cell i1 hIv;have q2:=hW.cell i2 hIv;have q3:=hW.cell i3 hIv;go_simp⟩) hS ?_
 simp only [pS]
 refine tkI 10 (some 34) (.pointer (some ⟨B,2,none⟩)) hS ?_
 simp only [pS]
 refine tkA 11 rfl (some 35) (.slice (some ⟨ib,io,none⟩) 1 ic) (.inl ⟨by rfl,fun W hW=>by have q:=hW.cell k2 hBv;go_simp⟩) hS ?_
 simp only [pS]
 refine tkI 12 (some 36) (.pointer (some ⟨ib,io,none⟩)) hS ?_
 simp only [pS]
 refine tkI 13 (some 37) (.pointer (some ⟨ib,io + 4,none⟩)) hS ?_
 simp only [pS]
 refine tkA 14 rfl (some 38) (.slice xa xl xc) (.inl ⟨by rfl,fun W hW=>by have q:=hW.cell i4 hIv;go_simp⟩) hS ?_
 simp only [pS]
 refine tkO 8 ?_
 refine opH_call (some 32) rfl (by rfl) rfl 80 #[.agg #[.int .u8 k,.int .i64 n,.string s,.bool yy]] (by go_simp) ((HVal.out _ hN).mono ?_)
 rintro e w1 ⟨rfl,hk⟩
 have hS:=hS.trans (Mods.ofNew hk)
 have hN:=hN.trans hk
 clear hk
 refine ⟨_,rfl,hS,?_⟩
 simp only [pS]
 refine tkI 9 (some 33) (.string (q ++ vl)) hS ?_
 simp only [pS]
 refine tkO 15 ?_
 refine opH_call (some 39) rfl (by rfl) rfl 81 #[.slice xa xl xc] (by go_simp) ((HTold.out _ hN).mono ?_)
 rintro e w2 ⟨rfl,hk⟩
 have hS:=hS.trans (Mods.ofNew hk)
 have hN:=hN.trans hk
 clear hk
 refine ⟨_,rfl,hS,?_⟩
 simp only [pS]
 refine tkI 16 (some 40) (.string ((q ++ vl) ++ td)) hS ?_
 simp only [pS]
 refine tkO 17 ?_
 refine opH_value (some 41) (v:=.slice (some ⟨w2.heap.size,0,none⟩) 1 1) (w':=w2.alloc (.cells #[.string (q ++ vl ++ td)] 9)) rfl rfl rfl (by go_simp) ?_
 refine ⟨hS.alloc _,?_⟩
 simp only [pS]
 refine tkO 18 ?_
 refine wpOp_append_S (l:=l) (some 42) rfl rfl rfl (.tmp 24) (.tmp 41) rfl rfl rfl (by rw [← Hx.out]) (hown.new hN) hln (Nat.le_trans hbase hN.size) ?_
 intro v' W' hown' hnew
 have hS:=hnew _ _ hS (fun g hg=>.inr hg)
 refine ⟨hS,?_⟩
 simp only [pS]
 refine tkI 19 (some 4) (v') hS ?_
 simp only [pS]
 refine wpAnyH_done (by kernel_rfl) ?_ _
 exact ⟨v',⟨rfl,rfl,rfl,rfl,rfl,rfl,rfl,rfl,rfl,rfl,rfl,rfl,rfl,rfl,rfl,rfl,rfl,rfl⟩,hown',fun w0 h1 h2=>hnew w0 _ (h1.trans hN) (fun g hg=>.inl (Nat.le_trans h2 (hown.lt g hg).1))⟩
theorem joinW_join (sep:Bare.Bs):∀ L:List Bare.Bs,Bare.joinW sep L=Lib.join L sep
 | []=>rfl
 | [a]=>(Lib.join_one a sep).symm
 | a::b::r=>by
  have ih:=joinW_join sep (b::r)
  rw [Lib.join_cons] at ih ⊢
  simp only [Bare.joinW]
  rw [ih]
  simp [Lib.joinTail]
theorem joinW_len (sep:Bare.Bs) (c:Nat):∀ L:List Bare.Bs,(∀ l ∈ L,l.length + sep.length ≤ c)→(Bare.joinW sep L).length ≤ L.length * c
 | [],_=>by simp [Bare.joinW]
 | [a],h=>by have:=h a (by simp);simp [Bare.joinW];omega
 | a::b::r,h=>by
  have ih:=joinW_len sep c (b::r) (fun l hl=>h l (List.mem_cons_of_mem _ hl))
  have:=h a (by simp)
  simp only [Bare.joinW,List.length_append,List.length_cons] at ih ⊢
  rw [Nat.add_mul,Nat.one_mul]
  omega
theorem join_any {base : Nat} (v : Value) (L : List Bare.Bs) (sep : Bare.Bs) (w : World) (h : OwS base w v L) (hn : L.length ≤ 2000000) (hl : (Bare.joinW sep L).length ≤ 140737488355328) :
    Calls Tryz.prog 82 #[v, .string (tx sep)] w fun e w' => e = .returned (.string (tx (Bare.joinW sep L))) ∧ New w w' := by
  rcases h.2 with ⟨rfl, h0⟩ | ⟨g, cap, cur, rfl, hb, hg, h1, h2, h3, h4⟩
  · obtain rfl : L = [] := List.length_eq_zero_iff.1 h0
    refine (Tryz.strings_Join_none none 0 (tx sep) w).mono ?_
    rintro e w' ⟨rfl, rfl⟩
    exact ⟨rfl, Mods.refl _ _⟩
  · have hx : (L.map tx).map (·.data.toList) = L := by rw [List.map_map]; conv => rhs; rw [← List.map_id L]
                                                       exact List.map_congr_left fun l _ => rfl
    have := Tryz.strings_Join g 0 cap (L.map tx) (tx sep) w (fun j x hj => by
      rw [Nat.zero_add, cell_of_row _ _ _ _ _ _ hg]
      have e : (strs L)[j]? = some (.string x) := by
        unfold strs
        rw [List.getElem?_map] at hj ⊢
        obtain ⟨l, hl, rfl⟩ := Option.map_eq_some_iff.1 hj
        rw [hl]; rfl
      rw [← h4, List.getElem?_take] at e
      split at e
      · rw [← Array.getElem?_toList]; exact e
      · cases e) (Array.getElem?_eq_some_iff.1 hg).1 (by rw [List.length_map]; omega) (by rw [List.length_map]; omega) (by rw [hx]; show (Lib.join L sep).length ≤ _; rw [← joinW_join]; exact hl)
    rw [hx, List.length_map] at this
    rw [joinW_join]
    exact this.mono fun e w' ⟨he, hB⟩ => ⟨he, Mods.below hB (Nat.le_refl _)⟩
noncomputable def reg_dict_Print_16:Code:=((Tryz.f23.body.bind (regionOf 16)).getD .skip)
theorem print16 (t:Array Value) (hs:t.size=82) (w:World) {base B pl pc:Nat} {pa:Option Addr} {v uv x0 x1 x2 x3 x5 x8 x12 x13 x14 x15 x16 x17 x80 x81:Value} {q jn td:ByteArray} {L:List Bare.Bs} {l:Bare.Bs}
  (hq4:t.getD 4 undef=v)
  (hq6:t.getD 6 undef = .pointer (some ⟨B,0,none⟩))
  (hq0:t.getD 0 undef=x0)
  (hq1:t.getD 1 undef=x1)
  (hq2:t.getD 2 undef=x2)
  (hq3:t.getD 3 undef=x3)
  (hq5:t.getD 5 undef=x5)
  (hq8:t.getD 8 undef=x8)
  (hq12:t.getD 12 undef=x12)
  (hq13:t.getD 13 undef=x13)
  (hq14:t.getD 14 undef=x14)
  (hq15:t.getD 15 undef=x15)
  (hq16:t.getD 16 undef=x16)
  (hq17:t.getD 17 undef=x17)
  (hq80:t.getD 80 undef=x80)
  (hq81:t.getD 81 undef=x81)
  (hq7:t.getD 7 undef=uv)
  (k0:w.cell? ⟨B,0,none⟩=some (.string q)) (k3:w.cell? ⟨B,3,none⟩=some (.slice pa pl pc))
  (hBv:v.ownBlock ≠ some B)
  (HJoin:Hid (∀ W,New w W→Calls Tryz.prog 82 #[uv,.string ⟨#[32]⟩] W fun e w'=>e = .returned (.string jn)∧New W w'))
  (HTold:Hid (∀ W,New w W→Calls Tryz.prog 81 #[.slice pa pl pc] W fun e w'=>e = .returned (.string td)∧New W w'))
  (Hx:Hid (q ++ ⟨#[61,40]⟩ ++ jn ++ ⟨#[41]⟩ ++ td=tx l)) (hown:OwS base w v L) (hln:L.length ≤ 2000000) (hbase:base ≤ w.heap.size)
  (hqs:q.size ≤ 100000) (hjs:jn.size ≤ 140737488355328) (hts:td.size ≤ 400000000000) :
  reg_dict_Print_16.wp Tryz.prog (Only fun a' W'=>∃ v',(a'.tmps.size=82∧a'.defers = []∧a'.tmps.getD 4 undef=v'∧a'.tmps.getD 6 undef = .pointer (some ⟨B,0,none⟩)∧a'.tmps.getD 0 undef=x0∧a'.tmps.getD 1 undef=x1∧a'.tmps.getD 2 undef=x2∧a'.tmps.getD 3 undef=x3∧a'.tmps.getD 5 undef=x5∧a'.tmps.getD 8 undef=x8∧a'.tmps.getD 12 undef=x12∧a'.tmps.getD 13 undef=x13∧a'.tmps.getD 14 undef=x14∧a'.tmps.getD 15 undef=x15∧a'.tmps.getD 16 undef=x16∧a'.tmps.getD 17 undef=x17∧a'.tmps.getD 80 undef=x80∧a'.tmps.getD 81 undef=x81)∧OwS base W' v' (L ++ [l])∧∀ w0:World,New w0 w→w0.heap.size ≤ base→New w0 W') ⟨t,[]⟩ w:=by
 conv=>arg 2;whnf
 obtain ⟨u,rfl⟩:=lit82 t hs
 have hq4:u 4 = _:=hq4
 have hq6:u 6 = _:=hq6
 have hq0:u 0 = _:=hq0
 have hq1:u 1 = _:=hq1
 have hq2:u 2 = _:=hq2
 have hq3:u 3 = _:=hq3
 have hq5:u 5 = _:=hq5
 have hq8:u 8 = _:=hq8
 have hq12:u 12 = _:=hq12
 have hq13:u 13 = _:=hq13
 have hq14:u 14 = _:=hq14
 have hq15:u 15 = _:=hq15
 have hq16:u 16 = _:=hq16
 have hq17:u 17 = _:=hq17
 have hq80:u 80 = _:=hq80
 have hq81:u 81 = _:=hq81
 have hq7:u 7 = _:=hq7
 rw [hq4,hq6,hq0,hq1,hq2,hq3,hq5,hq8,hq12,hq13,hq14,hq15,hq16,hq17,hq80,hq81,hq7]
 clear hq4 hq6 hq0 hq1 hq2 hq3 hq5 hq8 hq12 hq13 hq14 hq15 hq16 hq17 hq80 hq81 hq7 hs
 have z1:¬ 9223372036854775807 < q.size + 2:=by omega
 have z2:¬ 9223372036854775807 < q.size + 2 + jn.size:=by omega
 have z3:¬ 9223372036854775807 < q.size + 2 + jn.size + 1:=by omega
 have z4:¬ 9223372036854775807 < q.size + 2 + jn.size + 1 + td.size:=by omega
 refine wp_region_held (S:=fun W=>Mods (fun b=>v.ownBlock=some b) w W) (by kernel_rfl) ?_
 show wpAnyH _ _ _ _ _ 15 _ _ w.drew
 have hN:New w w.drew:=(Mods.refl _ _).drew
 have hS:Mods (fun b=>v.ownBlock=some b) w w.drew:=(Mods.refl _ _).drew
 refine tkI 0 (some 65) (v) hS ?_
 simp only [pS]
 refine tkI 1 (some 66) (.pointer (some ⟨B,0,none⟩)) hS ?_
 simp only [pS]
 refine tkA 2 rfl (some 67) (.string q) (.inl ⟨by rfl,fun W hW=>by have q:=hW.cell k0 hBv;go_simp⟩) hS ?_
 simp only [pS]
 refine tkI 3 (some 68) (.string (q ++ ⟨#[61,40]⟩)) hS ?_
 simp only [pS]
 refine tkI 4 (some 69) (uv) hS ?_
 simp only [pS]
 refine tkI 8 (some 73) (.pointer (some ⟨B,3,none⟩)) hS ?_
 simp only [pS]
 refine tkA 9 rfl (some 74) (.slice pa pl pc) (.inl ⟨by rfl,fun W hW=>by have q:=hW.cell k3 hBv;go_simp⟩) hS ?_
 simp only [pS]
 refine tkO 5 ?_
 refine opH_call (some 70) rfl (by rfl) rfl 82 #[uv,.string ⟨#[32]⟩] (by go_simp) ((HJoin.out _ hN).mono ?_)
 rintro e w1 ⟨rfl,hk⟩
 have hS:=hS.trans (Mods.ofNew hk)
 have hN:=hN.trans hk
 clear hk
 refine ⟨_,rfl,hS,?_⟩
 simp only [pS]
 refine tkI 6 (some 71) (.string ((q ++ ⟨#[61,40]⟩) ++ jn)) hS ?_
 simp only [pS]
 refine tkI 7 (some 72) (.string (((q ++ ⟨#[61,40]⟩) ++ jn) ++ ⟨#[41]⟩)) hS ?_
 simp only [pS]
 refine tkO 10 ?_
 refine opH_call (some 75) rfl (by rfl) rfl 81 #[.slice pa pl pc] (by go_simp) ((HTold.out _ hN).mono ?_)
 rintro e w2 ⟨rfl,hk⟩
 have hS:=hS.trans (Mods.ofNew hk)
 have hN:=hN.trans hk
 clear hk
 refine ⟨_,rfl,hS,?_⟩
 simp only [pS]
 refine tkI 11 (some 76) (.string ((((q ++ ⟨#[61,40]⟩) ++ jn) ++ ⟨#[41]⟩) ++ td)) hS ?_
 simp only [pS]
 refine tkO 12 ?_
 refine opH_value (some 77) (v:=.slice (some ⟨w2.heap.size,0,none⟩) 1 1) (w':=w2.alloc (.cells #[.string (q ++ ⟨#[61,40]⟩ ++ jn ++ ⟨#[41]⟩ ++ td)] 9)) rfl rfl rfl (by go_simp) ?_
 refine ⟨hS.alloc _,?_⟩
 simp only [pS]
 refine tkO 13 ?_
 refine wpOp_append_S (l:=l) (some 78) rfl rfl rfl (.tmp 65) (.tmp 77) rfl rfl rfl (by rw [← Hx.out]) (hown.new hN) hln (Nat.le_trans hbase hN.size) ?_
 intro v' W' hown' hnew
 have hS:=hnew _ _ hS (fun g hg=>.inr hg)
 refine ⟨hS,?_⟩
 simp only [pS]
 refine tkI 14 (some 4) (v') hS ?_
 simp only [pS]
 refine wpAnyH_done (by kernel_rfl) ?_ _
 exact ⟨v',⟨rfl,rfl,rfl,rfl,rfl,rfl,rfl,rfl,rfl,rfl,rfl,rfl,rfl,rfl,rfl,rfl,rfl,rfl⟩,hown',fun w0 h1 h2=>hnew w0 _ (h1.trans hN) (fun g hg=>.inl (Nat.le_trans h2 (hown.lt g hg).1))⟩


def PrX (x:Bare.Itm):Prop:=SmX x∧x.params.length ≤ 500
def PrM (m:Bare.Mem):Prop:=SmM m∧m.items.length ≤ 500∧m.params.length ≤ 500∧∀ x ∈ m.items,PrX x
def PrD (d:List Bare.Mem):Prop:=d.length ≤ 500∧∀ m ∈ d,PrM m
theorem toldP_len {L:List Bare.Par} (h:L.length ≤ 500) (hs:∀ p ∈ L,SmP p):(Bare.told L).length ≤ 100000000:=by
 have:=told_len L hs
 have:=Nat.mul_le_mul_right 200000 h
 omega
theorem toldI_len {x:Bare.Itm} (h:PrX x):(Bare.toldI x).length ≤ 100050000:=by
 have h1:=toldP_len h.2 h.1.2.2.2
 have h2:=text_len x.bare
 have h3:=h.1.2.1
 unfold Bare.toldI
 rw [List.length_append]
 omega
theorem joinI_len {L:List Bare.Itm} (h:L.length ≤ 500) (hs:∀ x ∈ L,PrX x):(Bare.joinW [32] (L.map Bare.toldI)).length ≤ 50030000000:=by
 have:=joinW_len [32] 100050001 (L.map Bare.toldI) (fun l hl=>by
  obtain ⟨x,hx,rfl⟩:=List.mem_map.1 hl
  have:=toldI_len (hs x hx)
  simp;omega)
 rw [List.length_map] at this
 have:=Nat.mul_le_mul_right 100050001 h
 omega
theorem toldM_len {m:Bare.Mem} (h:PrM m) (hm:m.inner=true ∨ m.items.length=1):(Bare.toldM m).length ≤ 50200000000:=by
 obtain ⟨h1,h2,h3,h4⟩:=h
 have hk:=h1.1
 unfold Bare.toldM
 split
 ·have:=joinI_len h2 h4
  have:=toldP_len h3 h1.2.2.2.2
  simp;omega
 ·rename_i hi
  have hl:m.items.length=1:=hm.resolve_left hi
  obtain ⟨x,hx⟩:∃ x,m.items = [x]:=List.length_eq_one_iff.1 hl
  have hx':=h4 x (by rw [hx];simp)
  have e:m.items.headD Bare.noI=x:=by rw [hx];rfl
  rw [e]
  have:=toldP_len hx'.2 hx'.1.2.2.2
  have:=valued_len x.bare
  have:=hx'.1.2.1
  simp;omega
theorem joinD_len {d:List Bare.Mem} (h:d.length ≤ 500) (hs:∀ m ∈ d,(Bare.toldM m).length ≤ 50200000000):(Bare.joinW [44,32] (d.map Bare.toldM)).length ≤ 140737488355328:=by
 have:=joinW_len [44,32] 50200000002 (d.map Bare.toldM) (fun l hl=>by
  obtain ⟨x,hx,rfl⟩:=List.mem_map.1 hl
  have:=hs x hx
  simp;omega)
 rw [List.length_map] at this
 have:=Nat.mul_le_mul_right 50200000002 h
 omega
theorem take_map_snoc {α:Type} (d:List α) (z:α) (f:α→Bare.Bs) (k:Nat) (hk:k < d.length):(d.map f).take (k + 1)=(d.map f).take k ++ [f (d.getD k z)]:=by
 have e:d.getD k z=d[k]:=by simp [List.getD,hk]
 rw [List.take_add_one,List.getElem?_map,List.getElem?_eq_getElem hk,e]
 rfl
theorem print_d {τ:Bool} (v:Value) (d:List Bare.Mem) (w:World) (h:RdD τ w v d) (hs:PrD d) (hT:Tab w) :
  Calls Tryz.prog 23 #[v] w fun e w'=>e = .returned (printV (Bare.printD d))∧New w w':=by
 have HR:=Lib.hid (right_d v d w h (fun m hm=>(hs.2 m hm).1))
 have HV:=Lib.hid h
 have HS:=Lib.hid hs.2
 have HT:=Lib.hid hT
 have hl:=hs.1
 obtain ⟨ao,cap,rfl⟩:=h.slice
 obtain ⟨n,hn⟩:∃ n,d.length=n:=⟨_,rfl⟩
 have Hn:=Lib.hid hn
 rw [hn] at hl HV HR ⊢
 have hN0:New w w:=Mods.refl _ _
 cases hr:Bare.rightD d with
 | false =>
  rw [hr] at HR
  have e:Bare.printD d=none:=by unfold Bare.printD;rw [hr];rfl
  rw [e]
  unfold printV
  clear h hs hT hn hr e
  go_enter Tryz.func23,Tryz.ntmps23
  go_wp2_with fail
  refine HR.out.mono ?_
  rintro e w1 ⟨rfl,hN1⟩
  go_wp2_with fail
  go_ret2
  exact ⟨rfl,hN1⟩
 | true =>
  rw [hr] at HR
  have e:Bare.printD d=some (Bare.joinW [44,32] (d.map Bare.toldM)):=by unfold Bare.printD;rw [hr];rfl
  have HM:Hid (∀ i,i < n→Bare.memB (d.getD i noM)=true):=Lib.hid (by
   have:d.all Bare.memB=true:=by unfold Bare.rightD at hr;rw [Bool.and_eq_true] at hr;exact hr.2
   rw [← hn];exact (all_upto d noM _).1 this)
  have hlen:∀ m ∈ d,(Bare.toldM m).length ≤ 50200000000:=fun m hm=>toldM_len (hs.2 m hm) (by
   have:d.all Bare.memB=true:=by unfold Bare.rightD at hr;rw [Bool.and_eq_true] at hr;exact hr.2
   have:=List.all_eq_true.1 this m hm
   rcases (Bare.mem_parts this).1 with h | h
   ·exact .inl h
   ·exact .inr h.1)
  have HJ:Hid ((Bare.joinW [44,32] (d.map Bare.toldM)).length ≤ 140737488355328):=Lib.hid (joinD_len hs.1 hlen)
  rw [e]
  unfold printV
  simp only
  clear h hs hT hn hr e hlen
  go_enter Tryz.func23,Tryz.ntmps23
  go_wp2_with fail
  refine HR.out.mono ?_
  rintro e w1 ⟨rfl,hN1⟩
  clear HR
  go_wp2_with fail
  go_loopw [4,17] (fun a t wr=>∃ k:Nat,k ≤ n∧t = .int .i64 k∧OwS w.heap.size wr a ((d.map Bare.toldM).take k)∧New w wr) (fun _ t _=>n - (intOf t).toNat)
  case atStart=>exact ⟨0,Nat.zero_le _,rfl,.nil _ _,hN1⟩
  case round =>
   clear hN1 hN0
   obtain ⟨k,hk,rfl,hown,hN⟩:=hrel
   by_cases hlt:k < n
   ·have hkd:decide ((k:Int) < (n:Int))=true:=decide_eq_true (by omega)
    have hlt':k < d.length:=by rw [Hn.out];exact hlt
    obtain ⟨iv,pv,h1,-,h3⟩:=HV.out
    obtain ⟨b,o,rfl,hrow⟩:=(h1.new hN).at.2.2 k hlt
    obtain ⟨hi,hp⟩:=h3 k hlt'
    have hsm:=HS.out _ (getD_mem (d:=noM) hlt')
    have hmB:=HM.out k hlt
    have Hnx:=Lib.hid (take_map_snoc d noM Bare.toldM k hlt')
    have hln:((d.map Bare.toldM).take k).length ≤ 2000000:=by rw [List.length_take];omega
    obtain ⟨⟨key,y,its,ps⟩,hme⟩:∃ m,d.getD k noM=m:=⟨_,rfl⟩
    rw [hme] at hrow hi hp hsm hmB Hnx
    obtain ⟨c0,c1,c2,c3⟩:=cells4 hrow
    have HTd:=Lib.hid (fun W (hW:New wr W)=>told_any (pv k) ps W (hp.new (hN.trans hW)) hsm.1.2.2.2.2 (by have:=hsm.2.2.1;simp only at this;omega) (HT.out.new (hN.trans hW)))
    have htl:(Bare.told ps).length ≤ 100000000:=toldP_len hsm.2.2.1 hsm.1.2.2.2.2
    obtain ⟨ia,ic,hie⟩:=hi.slice
    obtain ⟨pa,pc,hpe⟩:=hp.slice
    simp only at c0 c1 c2 c3 hie hpe hsm
    rw [hie] at c2
    rw [hpe] at c3 HTd
    have HI:=Lib.hid hi
    rw [hie] at HI
    obtain ⟨pl,hpl⟩:∃ x,ps.length=x:=⟨_,rfl⟩
    obtain ⟨td,htd⟩:∃ x,tx (Bare.told ps)=x:=⟨_,rfl⟩
    have Htd:=Lib.hid htd
    have hts:td.size ≤ 400000000000:=by rw [← htd,tx_size];omega
    obtain ⟨q,hq⟩:∃ x,tx key=x:=⟨_,rfl⟩
    have Hq:=Lib.hid hq
    have hqs:q.size ≤ 100000:=by rw [← hq,tx_size];exact hsm.1.1
    rw [hpl] at HTd c3
    rw [htd] at HTd
    rw [hq] at c0
    have HSM:=Lib.hid hsm
    have HMB:=Lib.hid hmB
    clear hrow hi hp h1 h3 hie hpe iv pv hme hpl htd hq htl hsm hmB HM HS HV HJ
    obtain ⟨il,hil⟩:∃ x,its.length=x:=⟨_,rfl⟩
    have Hil:=Lib.hid hil
    rw [hil] at c2 HI
    clear hil
    go_upto_region 7 with fail
    obtain ⟨W1,hW1⟩:∃ W1,wr.alloc (.cells #[.string q,.bool y,.slice ia il ic,.slice pa pl pc] 44)=W1:=⟨_,rfl⟩
    have hr1:W1.heap[wr.heap.size]? = some (.cells #[.string q,.bool y,.slice ia il ic,.slice pa pl pc] 44 (0,0)):=by rw [← hW1];exact World.alloc_heap_new _ _
    have hA:New wr W1:=by rw [← hW1];exact (Mods.refl _ _).alloc _
    have hsz:W1.heap.size=wr.heap.size + 1:=by rw [← hW1];simp
    rw [hW1]
    obtain ⟨avl,hav⟩:∃ z,(u4:Value)=z:=⟨_,rfl⟩
    rw [hav] at hown ⊢
    have hBv:avl.ownBlock ≠ some wr.heap.size:=fun e=>by have:=(World.ownsRow.lt hown _ e).2;omega
    have hbase:w.heap.size ≤ wr.heap.size:=hN.size
    have hown1:=OwS.new hown hA
    obtain ⟨B,hB⟩:∃ B,wr.heap.size=B:=⟨_,rfl⟩
    rw [hB] at hr1 hBv hsz hbase ⊢
    have k0:=cell_of_row _ _ 0 _ _ _ hr1
    have k1:=cell_of_row _ _ 1 _ _ _ hr1
    have k2:=cell_of_row _ _ 2 _ _ _ hr1
    have k3:=cell_of_row _ _ 3 _ _ _ hr1
    simp only [gS] at k0 k1 k2 k3
    clear hW1 c0 c1 c2 c3 hav hown
    cases y with
    | false =>
     have hl1:its.length=1:=by
      rcases (Bare.mem_parts HMB.out).1 with h | h
      ·cases h
      ·exact h.1
     obtain ⟨x,rfl⟩:∃ x,its = [x]:=List.length_eq_one_iff.1 hl1
     obtain rfl:il=1:=by rw [← Hil.out];rfl
     obtain ⟨xv,r1,-,r3⟩:=HI.out
     obtain ⟨ib,io,rfl,hxr0⟩:=r1.at.2.2 0 (by decide)
     have hibl:ib < w.heap.size:=by
      obtain ⟨ob,ho,_⟩:=cells_of_cell (hxr0 0 _ rfl)
      exact (Array.getElem?_eq_some_iff.1 ho).1
     have hxr:W1.rangeAt ib (io + 0 * 5) (ics ([x].getD 0 Bare.noI) (xv 0)):=fun j u hj=>(hN.trans hA).cell (hxr0 j u hj) id
     have hxp:=(r3 0 (Nat.zero_lt_one)).new (hN.trans hA)
     have hxs:=HSM.out.2.2.2 x (by simp)
     simp only [List.getD_cons_zero,Nat.zero_mul,Nat.add_zero] at hxr hxp
     have HVal:=Lib.hid (fun W (hW:New W1 W)=>valued_any x.bare ⟨hxs.1.1,hxs.1.2.1⟩ W (HT.out.new ((hN.trans hA).trans hW)))
     have HTx:=Lib.hid (fun W (hW:New W1 W)=>told_any (xv 0) x.params W (hxp.new hW) hxs.1.2.2.2 (by have:=hxs.2;omega) (HT.out.new ((hN.trans hA).trans hW)))
     have htl:(Bare.told x.params).length ≤ 100000000:=toldP_len hxs.2 hxs.1.2.2.2
     have hvl:=valued_len x.bare
     have hxt:=hxs.1.2.1
     obtain ⟨xa,xc,hxe⟩:=hxp.slice
     rw [hxe] at hxr HTx
     have hmt:Bare.toldM ⟨key,false,[x],ps⟩=key ++ (Bare.valued x.bare ++ Bare.told x.params):=rfl
     rw [hmt] at Hnx
     obtain ⟨⟨kk,nn,tt,yy⟩,xps⟩:=x
     obtain ⟨i0,i1,i2,i3,i4⟩:=cells5 hxr
     unfold bv bcs at HVal
     simp only at i0 i1 i2 i3 i4 HVal HTx htl hvl hxt Hnx
     obtain ⟨s,hse⟩:∃ x,tx tt=x:=⟨_,rfl⟩
     obtain ⟨vl,hve⟩:∃ x,tx (Bare.valued ⟨kk,nn,tt,yy⟩)=x:=⟨_,rfl⟩
     obtain ⟨tx',hte⟩:∃ x,tx (Bare.told xps)=x:=⟨_,rfl⟩
     have hvs:vl.size ≤ 50000:=by rw [← hve,tx_size];omega
     have hxs':tx'.size ≤ 400000000000:=by rw [← hte,tx_size];omega
     have Hx:Hid (q ++ vl ++ tx'=tx (key ++ (Bare.valued ⟨kk,nn,tt,yy⟩ ++ Bare.told xps))):=Lib.hid (by rw [← Hq.out,← hve,← hte,cat_bl,cat_bl,bl_tx,bl_tx,bl_tx,bl_tx,List.append_assoc])
     rw [hse] at i2 HVal
     rw [hve] at HVal
     rw [hte] at HTx
     have hIv:avl.ownBlock ≠ some ib:=fun e=>by
      have h1:=(World.ownsRow.lt hown1 _ e).1
      omega
     clear hse hve hte htl hvl hxt hxr hxr0 hxp hxs r1 r3 hxe hmt hl1
     go_upto_region 8 with fail
     refine piece (fun _=>_) (print8 _ rfl W1 rfl rfl rfl rfl rfl rfl rfl rfl rfl rfl rfl rfl rfl rfl rfl rfl k0 k2 i0 i1 i2 i3 i4 hBv hIv HVal HTx Hx hown1 hln (by rw [hsz];omega) hqs hvs hxs') ?_
     rintro ⟨z,dfs⟩ W2 ⟨v2,⟨hs,hd,hq4,hq6,hq0,hq1,hq2,hq3,hq5,hq8,hq12,hq13,hq14,hq15,hq16,hq17,hq80,hq81⟩,hown2,hnew⟩
     simp only at hs hd hq4 hq6 hq0 hq1 hq2 hq3 hq5 hq8 hq12 hq13 hq14 hq15 hq16 hq17 hq80 hq81
     subst hd
     obtain ⟨u,rfl⟩:=lit82 z hs
     have hp4:u 4=v2:=hq4
     have hp6:u 6 = .pointer (some ⟨B,0,none⟩):=hq6
     have hp0:u 0 = .slice (some ⟨b,o,none⟩) n cap:=hq0
     have hp1:u 1=undef:=hq1
     have hp2:u 2 = .string ⟨#[]⟩:=hq2
     have hp3:u 3 = .int .i64 0:=hq3
     have hp5:u 5=undef:=hq5
     have hp8:u 8=undef:=hq8
     have hp12:u 12 = .slice (some ⟨b,o,none⟩) n cap:=hq12
     have hp13:u 13 = .bool true:=hq13
     have hp14:u 14 = .bool false:=hq14
     have hp15:u 15 = .slice (some ⟨b,o,none⟩) n cap:=hq15
     have hp16:u 16 = .int .i64 n:=hq16
     have hp17:u 17 = .int .i64 k:=hq17
     have hp80:u 80=undef:=hq80
     have hp81:u 81=undef:=hq81
     rw [hp4,hp6,hp0,hp1,hp2,hp3,hp5,hp8,hp12,hp13,hp14,hp15,hp16,hp17,hp80,hp81]
     clear hp4 hq4 hp6 hq6 hp0 hq0 hp1 hq1 hp2 hq2 hp3 hq3 hp5 hq5 hp8 hq8 hp12 hq12 hp13 hq13 hp14 hq14 hp15 hq15 hp16 hq16 hp17 hq17 hp80 hq80 hp81 hq81 hs
     have hown3:OwS w.heap.size W2 v2 ((d.map Bare.toldM).take (k + 1)):=by rw [Hnx.out];exact hown2
     have hN3:=hnew w (hN.trans hA) (Nat.le_refl _)
     go_wp2_with fail
     go_roundw
     case rel=>exact ⟨k + 1,by omega,by go_num,hown3,hN3⟩
     case measure=>simp [intOf];omega
    | true =>
     have hNA:New w W1:=hN.trans hA
     have HTd':Hid (∀ W,New W1 W→Calls Tryz.prog 81 #[.slice pa pl pc] W fun e w'=>e = .returned (.string td)∧New W w'):=Lib.hid fun W hW=>HTd.out W (hA.trans hW)
     have HIx:Hid (∀ x ∈ its,PrX x):=Lib.hid HSM.out.2.2.2
     have hil:il ≤ 500:=by have:=HSM.out.2.1;simp only at this;rw [← Hil.out];exact this
     have HTW:=Lib.hid (HT.out.new hNA)
     have hmt:Bare.toldM ⟨key,true,its,ps⟩=key ++ (61::40::(Bare.joinW [32] (its.map Bare.toldI) ++ (41::Bare.told ps))):=rfl
     rw [hmt] at Hnx
     have hbW:w.heap.size ≤ W1.heap.size:=hNA.size
     clear HTd HSM HMB hmt hN hA hbase HT hB hsz
     go_wp2_with fail
     go_loopw [7,46] (fun a t wi=>∃ j:Nat,j ≤ il∧t = .int .i64 j∧OwS W1.heap.size wi a ((its.map Bare.toldI).take j)∧New W1 wi) (fun _ t _=>il - (intOf t).toNat)
     case atStart=>exact ⟨0,Nat.zero_le _,rfl,.nil _ _,Mods.refl _ _⟩
     case round =>
      obtain ⟨j,hj,rfl,hui,hNi⟩:=hrel
      by_cases hjl:j < il
      ·have hjd:decide ((j:Int) < (il:Int))=true:=decide_eq_true (by omega)
       have hjl':j < its.length:=by rw [Hil.out];exact hjl
       obtain ⟨xv,r1,-,r3⟩:=HI.out
       obtain ⟨ib,io,rfl,hxr0⟩:=r1.at.2.2 j hjl
       have hxr:wr.rangeAt ib (io + j * 5) (ics (its.getD j Bare.noI) (xv j)):=fun i u hj=>(hNA.trans hNi).cell (hxr0 i u hj) id
       have hxp:=(r3 j hjl').new (hNA.trans hNi)
       have hxs:=HIx.out _ (getD_mem (d:=Bare.noI) hjl')
       have Hnj:=Lib.hid (take_map_snoc its Bare.noI Bare.toldI j hjl')
       have hlj:((its.map Bare.toldI).take j).length ≤ 2000000:=by rw [List.length_take];omega
       obtain ⟨x,hxx⟩:∃ x,its.getD j Bare.noI=x:=⟨_,rfl⟩
       rw [hxx] at hxr hxp hxs Hnj
       have HPr:=Lib.hid (fun W (hW:New wr W)=>print_any x.bare hxs.1.1 hxs.1.2.1 W (HTW.out.new (hNi.trans hW)))
       have HTx:=Lib.hid (fun W (hW:New wr W)=>told_any (xv j) x.params W (hxp.new hW) hxs.1.2.2.2 (by have:=hxs.2;omega) (HTW.out.new (hNi.trans hW)))
       obtain ⟨zc,hpv⟩:=printV_text x.bare
       rw [hpv] at HPr
       have htl:(Bare.told x.params).length ≤ 100000000:=toldP_len hxs.2 hxs.1.2.2.2
       have hvl:=text_len x.bare
       have hxt:=hxs.1.2.1
       obtain ⟨xa,xc,hxe⟩:=hxp.slice
       rw [hxe] at hxr HTx
       obtain ⟨⟨kk,nn,tt,yy⟩,xps⟩:=x
       obtain ⟨i0,i1,i2,i3,i4⟩:=cells5 hxr
       unfold bv bcs at HPr
       simp only at i0 i1 i2 i3 i4 HPr HTx htl hvl hxt Hnj
       obtain ⟨s,hse⟩:∃ x,tx tt=x:=⟨_,rfl⟩
       obtain ⟨vl,hve⟩:∃ x,tx (Bare.textI ⟨kk,nn,tt,yy⟩)=x:=⟨_,rfl⟩
       obtain ⟨tx',hte⟩:∃ x,tx (Bare.told xps)=x:=⟨_,rfl⟩
       have hvs:vl.size ≤ 50000:=by rw [← hve,tx_size];omega
       have hxs':tx'.size ≤ 400000000000:=by rw [← hte,tx_size];omega
       have Hx:Hid (vl ++ tx'=tx (Bare.toldI ⟨⟨kk,nn,tt,yy⟩,xps⟩)):=Lib.hid (by rw [← hve,← hte,cat_bl,bl_tx,bl_tx];rfl)
       obtain ⟨xpl,hxpl⟩:∃ x,xps.length=x:=⟨_,rfl⟩
       rw [hse] at i2 HPr
       rw [hve] at HPr
       rw [hte] at HTx
       rw [hxpl] at i4 HTx
       clear hse hve hte htl hvl hxt hxr hxr0 hxp hxs r1 r3 hxe hpv hxpl hxx
       go_upto_region 13 with fail
       obtain ⟨W3,hW3⟩:∃ W3,wr.alloc (.cells #[.int .u8 kk,.int .i64 nn,.string s,.bool yy,.slice xa xpl xc] 85)=W3:=⟨_,rfl⟩
       have hr3:W3.heap[wr.heap.size]? = some (.cells #[.int .u8 kk,.int .i64 nn,.string s,.bool yy,.slice xa xpl xc] 85 (0,0)):=by rw [← hW3];exact World.alloc_heap_new _ _
       have hA3:New wr W3:=by rw [← hW3];exact (Mods.refl _ _).alloc _
       rw [hW3]
       obtain ⟨B3,hB3⟩:∃ B3,wr.heap.size=B3:=⟨_,rfl⟩
       rw [hB3] at hr3 ⊢
       have m0:=cell_of_row _ _ 0 _ _ _ hr3
       have m1:=cell_of_row _ _ 1 _ _ _ hr3
       have m2:=cell_of_row _ _ 2 _ _ _ hr3
       have m3:=cell_of_row _ _ 3 _ _ _ hr3
       have m4:=cell_of_row _ _ 4 _ _ _ hr3
       simp only [gS] at m0 m1 m2 m3 m4
       clear hW3 hr3 hB3 i0 i1 i2 i3 i4
       go_wp2_with fail
       refine (HPr.out _ hA3).mono ?_
       rintro e W4 ⟨rfl,hN4⟩
       have m5:=hN4.cell m4 id
       clear m0 m1 m2 m3 m4
       go_wp2_with fail
       refine (HTx.out _ (hA3.trans hN4)).mono ?_
       rintro e W5 ⟨rfl,hN5⟩
       have hN5':=(hA3.trans hN4).trans hN5
       have hu5:=hui.new hN5'
       have hb5:W1.heap.size ≤ W5.heap.size:=(hNi.trans hN5').size
       have z1:¬ 9223372036854775807 < vl.size + tx'.size:=by omega
       go_wp2_with (at_builtin;refine wpList_append_S (w:=W5) (l:=Bare.toldI ⟨⟨kk,nn,tt,yy⟩,xps⟩) _ _ rfl rfl rfl rfl (by rw [← Hx.out]) hu5 hlj hb5 ?_)
       intro v' W6 hu6 hnew
       have hN6:=hnew W1 _ (hNi.trans hN5') (fun g hg=>.inl (World.ownsRow.lt hu5 g hg).1)
       have hu7:OwS W1.heap.size W6 v' ((its.map Bare.toldI).take (j + 1)):=by rw [Hnj.out];exact hu6
       clear hu5 hu6 hui hnew m5
       go_wp2_with fail
       go_roundw
       case rel=>exact ⟨j + 1,by omega,by go_num,hu7,hN6⟩
       case measure=>simp [intOf];omega
      ·obtain rfl:j=il:=by omega
       have hjd:decide ((j:Int) < (j:Int))=false:=decide_eq_false (by omega)
       have hall:(its.map Bare.toldI).take j=its.map Bare.toldI:=by rw [List.take_of_length_le (by rw [List.length_map,Hil.out];exact Nat.le_refl _)]
       rw [hall] at hui
       have hji:=joinI_len (L:=its) (by rw [Hil.out];exact hil) HIx.out
       have HJn:=Lib.hid (fun W (hW:New wr W)=>join_any _ _ [32] W (hui.new hW) (by rw [List.length_map,Hil.out];omega) (by omega))
       obtain ⟨jn,hjn⟩:∃ x,tx (Bare.joinW [32] (its.map Bare.toldI))=x:=⟨_,rfl⟩
       have hjs:jn.size ≤ 140737488355328:=by rw [← hjn,tx_size];omega
       have Hx:Hid (q ++ ⟨#[61,40]⟩ ++ jn ++ ⟨#[41]⟩ ++ td=tx (key ++ (61::40::(Bare.joinW [32] (its.map Bare.toldI) ++ (41::Bare.told ps))))):=Lib.hid (by
        rw [← Hq.out,← hjn,← Htd.out,cat_bl,cat_bl,cat_bl,cat_bl]
        show tx (((key ++ [61,40]) ++ Bare.joinW [32] (its.map Bare.toldI) ++ [41]) ++ Bare.told ps) = _
        simp)
       rw [hjn] at HJn
       have HTd2:Hid (∀ W,New wr W→Calls Tryz.prog 81 #[.slice pa pl pc] W fun e w'=>e = .returned (.string td)∧New W w'):=Lib.hid fun W hW=>HTd'.out W (hNi.trans hW)
       have q0:=hNi.cell k0 id
       have q3:=hNi.cell k3 id
       have hown2:=hown1.new hNi
       clear hall hui hji hjn k0 k1 k2 k3
       go_upto_region 16 with fail
       refine piece (fun _=>_) (print16 _ rfl wr rfl rfl rfl rfl rfl rfl rfl rfl rfl rfl rfl rfl rfl rfl rfl rfl rfl q0 q3 hBv HJn HTd2 Hx hown2 hln (Nat.le_trans hbW hNi.size) hqs hjs hts) ?_
       rintro ⟨z,dfs⟩ W2 ⟨v2,⟨hs,hd,hq4,hq6,hq0,hq1,hq2,hq3,hq5,hq8,hq12,hq13,hq14,hq15,hq16,hq17,hq80,hq81⟩,hown3,hnew⟩
       simp only at hs hd hq4 hq6 hq0 hq1 hq2 hq3 hq5 hq8 hq12 hq13 hq14 hq15 hq16 hq17 hq80 hq81
       subst hd
       obtain ⟨u,rfl⟩:=lit82 z hs
       have hp4:u 4=v2:=hq4
       have hp6:u 6 = .pointer (some ⟨B,0,none⟩):=hq6
       have hp0:u 0 = .slice (some ⟨b,o,none⟩) n cap:=hq0
       have hp1:u 1=undef:=hq1
       have hp2:u 2 = .string ⟨#[]⟩:=hq2
       have hp3:u 3 = .int .i64 0:=hq3
       have hp5:u 5=undef:=hq5
       have hp8:u 8=undef:=hq8
       have hp12:u 12 = .slice (some ⟨b,o,none⟩) n cap:=hq12
       have hp13:u 13 = .bool true:=hq13
       have hp14:u 14 = .bool false:=hq14
       have hp15:u 15 = .slice (some ⟨b,o,none⟩) n cap:=hq15
       have hp16:u 16 = .int .i64 n:=hq16
       have hp17:u 17 = .int .i64 k:=hq17
       have hp80:u 80=undef:=hq80
       have hp81:u 81=undef:=hq81
       rw [hp4,hp6,hp0,hp1,hp2,hp3,hp5,hp8,hp12,hp13,hp14,hp15,hp16,hp17,hp80,hp81]
       clear hp4 hq4 hp6 hq6 hp0 hq0 hp1 hq1 hp2 hq2 hp3 hq3 hp5 hq5 hp8 hq8 hp12 hq12 hp13 hq13 hp14 hq14 hp15 hq15 hp16 hq16 hp17 hq17 hp80 hq80 hp81 hq81 hs
       have hown4:OwS w.heap.size W2 v2 ((d.map Bare.toldM).take (k + 1)):=by rw [Hnx.out];exact hown3
       have hN3:=hnew w (hNA.trans hNi) (Nat.le_refl _)
       go_wp2_with fail
       go_roundw
       case rel=>exact ⟨k + 1,by omega,by go_num,hown4,hN3⟩
       case measure=>simp [intOf];omega
   ·obtain rfl:k=n:=by omega
    have hkd:decide ((k:Int) < (k:Int))=false:=decide_eq_false (by omega)
    have hall:(d.map Bare.toldM).take k=d.map Bare.toldM:=by rw [List.take_of_length_le (by rw [List.length_map,Hn.out];exact Nat.le_refl _)]
    rw [hall] at hown
    have HJn:=Lib.hid (join_any _ _ [44,32] wr hown (by rw [List.length_map,Hn.out];omega) HJ.out)
    clear HM HS HV HT Hn hown hall
    go_wp2_with fail
    refine HJn.out.mono ?_
    rintro e w2 ⟨rfl,hN2⟩
    go_wp2_with fail
    go_ret2
    exact ⟨rfl,hN.trans hN2⟩


theorem fits_of_sz {n:Nat} {d:List Bare.Mem} (hn:n ≤ 1000000) (h:SzD n d):∀ m ∈ d,Fits m:=fun m hm=>by
 obtain ⟨-,h2,h3,h4⟩:=h.2 m hm
 refine ⟨by omega,by have:=h3.1;omega,fun i hi=>?_⟩
 have:=(h4 _ (getD_mem (d:=Bare.noI) hi)).2.1
 omega
theorem prioD_print {u:Nat} {i:Bool} (hu:u ≤ 7):PrD (Bare.prioD u i):=by
 have hx:∀ (k:Bare.Bs) (b:Bare.It),k.length=1→0 ≤ b.kind→b.text = []→PrM ⟨k,false,[⟨b,[]⟩],[]⟩:=fun k b hk hb ht=>by
  refine ⟨⟨by show k.length ≤ _;omega,by simp,by simp,fun x hx=>?_,fun p hp=>by cases hp⟩,by simp,by simp,fun x hx=>?_⟩
  ·rw [List.mem_singleton] at hx
   subst hx
   exact ⟨hb,by simp [ht],by simp,fun p hp=>by cases hp⟩
  ·rw [List.mem_singleton] at hx
   subst hx
   exact ⟨⟨hb,by simp [ht],by simp,fun p hp=>by cases hp⟩,by simp⟩
 unfold Bare.prioD
 refine ⟨by split <;> split <;> simp,fun m hm=>?_⟩
 rw [List.mem_append] at hm
 rcases hm with hm | hm
 ·split at hm
  ·cases hm
  ·rw [List.mem_singleton] at hm
   subst hm
   exact hx _ _ rfl (by show (0:Int) ≤ 1;decide) rfl
 ·split at hm
  ·rw [List.mem_singleton] at hm
   subst hm
   exact hx _ _ rfl (by show (0:Int) ≤ 6;decide) rfl
  ·cases hm
end Go.Proofs.YtnknmmbnhoanfaaGreatDoor
namespace Go.Proofs.YtnknmmbnhoanfaaGreatDoor
open Go.RowKit Go.Cs
def k1 (k:IntKind) (n:Int):Value:=.agg #[.int k n]
theorem k1_inj (k:IntKind) (m n:Int) (h:k1 k m=k1 k n):m=n:=by simpa [k1] using h
theorem key_one {t e:TypeId} {k:IntKind} {i:TypeInfo} (hu:Tryz.prog.underlying t=some (.array 1 e)) (he:Tryz.prog.underlying e=some (.int k)) (hi:Tryz.prog.info? e=some i) (hc:Tryz.prog.cellsOf e=1):KeyLike Tryz.prog t (k1 k) :=
 .asked hu (fun a es i=>by cases es <;> rfl) (k1_inj k)
  (fun w em a=>by
   have h0:=fun w=>partAt e _ he rfl #[.int k a] 0 (.int k a) w rfl
   have hc':=fun w=>MapKept.run_checkKey (P:=Tryz.prog) (w:=w) (k:=.int k a) he rfl em 9998
   unfold Instr.checkKey k1
   simp [Sem.run_bind,run_underlying hu,run_sizeOf _ hi,hc,h0,hc',Std.Legacy.Range.forIn_eq_forIn_range',Std.Legacy.Range.size])
  (fun w a b=>by
   have h0:=fun (a:Int) w=>partAt e _ he rfl #[.int k a] 0 (.int k a) w rfl
   have ei:=fun w (a b:Int)=>run_equalIn_int w 9998 e k k a b he
   show (Op.equalIn (9999 + 1) t (k1 k a) (k1 k b)).run Tryz.prog w = _
   unfold k1
   rw [run_equalIn_array w 9999 _ _ hu hi,hc]
   simp only [List.range_succ,List.range_zero,List.nil_append,Op.eqItems,Nat.zero_mul,Sem.run_bind,h0,ei,Result.andThen_ok]
   by_cases h:a=b <;> simp [h,Sem.run_bind])
  (fun a=>by simp [k1,Instr.sameBits])
end Go.Proofs.YtnknmmbnhoanfaaGreatDoor
