/- Texts joined. -/
import Derived.Test.YtkiiameibdhdfaaGreatDoorS08
import Derived.Test.YtkiiameibdhdfaaGreatDoorS02
import Derived.Lib.AppendIntMem
import Derived.Test.YtkiiameibdhdfaaGreatDoorS05
import Derived.Test.YtkiiameibdhdfaaGreatDoorS04
import Derived.Test.YtkiiameibdhdfaaGreatDoorS00
import Derived.ChangeKeysEq
set_option linter.unusedSimpArgs false
set_option linter.unusedVariables false
set_option maxHeartbeats 16000000
set_option maxRecDepth 100000
namespace Go.Proofs.YtkiiameibdhdfaaGreatDoor
open Go.RowKit Go.Shelf Go.Cs
attribute [local go_sem] Oper.semAt_some


noncomputable def reg_dict_own_1:Code:=((Tryz.f80.body.bind (regionOf 1)).getD .skip)
theorem own1 (t:Array Value) (hs:t.size=32) (w:World) {B n m ic pc:Nat} {ia pa:Option Addr} {x2:Value} {q:ByteArray} {y:Bool} {f g:Nat→List Value}
  (hq1:t.getD 1 undef = .pointer (some ⟨B,0,none⟩))
  (hq2:t.getD 2 undef=x2)
  (hB:w.heap[B]? = some (.cells #[.string q,.bool y,.slice ia n ic,.slice pa m pc] 64 (0,0)))
  (HX:Hid (∀ W,New w W→Calls Tryz.prog 129 #[.slice ia n ic] W fun e w'=>∃ v',e = .returned v'∧OwX w.heap.size w' v' n f∧New W w'))
  (HP:Hid (∀ W,New w W→Calls Tryz.prog 130 #[.slice pa m pc] W fun e w'=>∃ v',e = .returned v'∧OwP w.heap.size w' v' m g∧New W w')) :
  reg_dict_own_1.wp Tryz.prog (Only fun a' W'=>∃ iv' pv',(a'.tmps.size=32∧a'.defers = []∧a'.tmps.getD 1 undef = .pointer (some ⟨B,0,none⟩)∧a'.tmps.getD 2 undef=x2)∧W'.heap[B]? = some (.cells #[.string q,.bool y,iv',pv'] 64 (0,0))∧OwX w.heap.size W' iv' n f∧OwP w.heap.size W' pv' m g∧Mods (fun b=>b=B) w W') ⟨t,[]⟩ w:=by
 conv=>arg 2;whnf
 obtain ⟨u,rfl⟩:=lit32 t hs
 have hq1:u 1 = _:=hq1
 have hq2:u 2 = _:=hq2
 rw [hq1,hq2]
 clear hq1 hq2 hs
 have hN:New w w.drew:=(Mods.refl _ _).drew
 have hS:Mods (fun b=>b=B) w w.drew:=(Mods.refl _ _).drew
 have hBl:B < w.heap.size:=(Array.getElem?_eq_some_iff.1 hB).1
 have hBd:w.drew.heap[B]? = _:=hB
 have c2x:=cell_of_row _ _ 2 _ _ _ hBd
 have c3x:=cell_of_row _ _ 3 _ _ _ hBd
 simp only [gS] at c2x c3x
 refine wp_region_held (S:=fun W=>Mods (fun b=>b=B) w W) (by kernel_rfl) ?_
 show wpAnyH _ _ _ _ _ 10 _ _ w.drew
 refine tkI 0 (some 4) (.pointer (some ⟨B,2,none⟩)) hS ?_
 simp only [pS]
 refine tkI 3 (some 7) (.pointer (some ⟨B,3,none⟩)) hS ?_
 simp only [pS]
 refine wpAnyH_all (rs:=[1,4]) (by kernel_rfl) (by simp) ?_
 intro i hi
 simp only [List.mem_cons,List.not_mem_nil,or_false] at hi
 rcases hi with rfl | rfl
 ·refine opH_value (some 5) (w':=w.drew) (v:=.slice ia n ic) rfl (by rfl) rfl (by go_simp) ?_
  refine ⟨hS,?_⟩
  simp only [pS]
  refine wpAnyH_all (rs:=[2,4]) (by kernel_rfl) (by simp) ?_
  intro i hi
  simp only [List.mem_cons,List.not_mem_nil,or_false] at hi
  rcases hi with rfl | rfl
  ·refine opH_call (some 6) rfl (by rfl) rfl 129 #[.slice ia n ic] (by go_simp) ((HX.out _ hN).mono ?_)
   rintro e w2 ⟨iv',rfl,hox,hk⟩
   have hN:=hN.trans hk
   have hS:Mods (fun b=>b=B) w w2:=Mods.ofNew hN
   obtain ⟨ja,jc,rfl⟩:=hox.slice
   have rB:=hN.heap hB id
   have c2x:=cell_of_row _ _ 2 _ _ _ rB
   have c3x:=cell_of_row _ _ 3 _ _ _ rB
   simp only [gS] at c2x c3x
   clear hk
   refine ⟨_,rfl,hS,?_⟩
   simp only [pS]
   refine tkO 4 ?_
   refine opH_value (some 8) (w':=w2) (v:=.slice pa m pc) rfl (by rfl) rfl (by go_simp) ?_
   refine ⟨hS,?_⟩
   simp only [pS]
   refine tkI 6 (some 10) (.pointer (some ⟨B,2,none⟩)) hS ?_
   simp only [pS]
   refine tkO 5 ?_
   refine opH_call (some 9) rfl (by rfl) rfl 130 #[.slice pa m pc] (by go_simp) ((HP.out _ hN).mono ?_)
   rintro e w5 ⟨pv',rfl,hop,hk⟩
   have hox:=hox.new hk
   have hN:=hN.trans hk
   have hS:Mods (fun b=>b=B) w w5:=Mods.ofNew hN
   obtain ⟨qa,qc,rfl⟩:=hop.slice
   have rB:=hN.heap hB id
   have c2x:=cell_of_row _ _ 2 _ _ _ rB
   have c3x:=cell_of_row _ _ 3 _ _ _ rB
   simp only [gS] at c2x c3x
   have f2:=frozen_row (i:=2) rB
   clear hk
   refine ⟨_,rfl,hS,?_⟩
   simp only [pS]
   refine tkO 7 ?_
   refine opH_skip none (w':=w5.setCell ⟨B,2,none⟩ (.slice ja n jc)) rfl (by rfl) rfl (by go_simp) ?_
   have hm1:=setMods w5 B 2 (.slice ja n jc)
   have rB1:=setCell_heap (i:=2) rB (.slice ja n jc)
   obtain ⟨w6,hw6⟩:∃ w6,w5.setCell ⟨B,2,none⟩ (.slice ja n jc)=w6:=⟨_,rfl⟩
   rw [hw6] at hm1 rB1 ⊢
   have rB1:w6.heap[B]? = some (.cells #[.string q,.bool y,.slice ja n jc,.slice pa m pc] 64 (0,0)):=rB1
   have hS:=hS.trans hm1
   have c3y:=cell_of_row _ _ 3 _ _ _ rB1
   simp only [gS] at c3y
   have f3:=frozen_row (i:=3) rB1
   refine ⟨hS,?_⟩
   simp only [pS]
   refine tkI 8 (some 11) (.pointer (some ⟨B,3,none⟩)) hS ?_
   simp only [pS]
   refine tkO 9 ?_
   refine opH_skip none (w':=w6.setCell ⟨B,3,none⟩ (.slice qa m qc)) rfl (by rfl) rfl (by go_simp) ?_
   have hm2:=setMods w6 B 3 (.slice qa m qc)
   have rB2:=setCell_heap (i:=3) rB1 (.slice qa m qc)
   refine ⟨hS.trans hm2,?_⟩
   refine wpAnyH_done (by kernel_rfl) ?_ _
   have hmm:=hm1.trans hm2
   exact ⟨.slice ja n jc,.slice qa m qc,⟨rfl,rfl,rfl,rfl⟩,rB2,hox.mods hmm (fun g hg e=>by have:=(hox.lt hg).1;omega),hop.mods hmm (fun g hg e=>by have:=(hop.lt hg).1;omega),hS.trans hm2⟩
  ·refine opH_value (some 8) (w':=w.drew) (v:=.slice pa m pc) rfl (by rfl) rfl (by go_simp) ?_
   refine ⟨hS,?_⟩
   simp only [pS]
   refine tkO 2 ?_
   refine opH_call (some 6) rfl (by rfl) rfl 129 #[.slice ia n ic] (by go_simp) ((HX.out _ hN).mono ?_)
   rintro e w2 ⟨iv',rfl,hox,hk⟩
   have hN:=hN.trans hk
   have hS:Mods (fun b=>b=B) w w2:=Mods.ofNew hN
   obtain ⟨ja,jc,rfl⟩:=hox.slice
   have rB:=hN.heap hB id
   have c2x:=cell_of_row _ _ 2 _ _ _ rB
   have c3x:=cell_of_row _ _ 3 _ _ _ rB
   simp only [gS] at c2x c3x
   clear hk
   refine ⟨_,rfl,hS,?_⟩
   simp only [pS]
   refine tkI 6 (some 10) (.pointer (some ⟨B,2,none⟩)) hS ?_
   simp only [pS]
   refine tkO 5 ?_
   refine opH_call (some 9) rfl (by rfl) rfl 130 #[.slice pa m pc] (by go_simp) ((HP.out _ hN).mono ?_)
   rintro e w5 ⟨pv',rfl,hop,hk⟩
   have hox:=hox.new hk
   have hN:=hN.trans hk
   have hS:Mods (fun b=>b=B) w w5:=Mods.ofNew hN
   obtain ⟨qa,qc,rfl⟩:=hop.slice
   have rB:=hN.heap hB id
   have c2x:=cell_of_row _ _ 2 _ _ _ rB
   have c3x:=cell_of_row _ _ 3 _ _ _ rB
   simp only [gS] at c2x c3x
   have f2:=frozen_row (i:=2) rB
   clear hk
   refine ⟨_,rfl,hS,?_⟩
   simp only [pS]
   refine tkO 7 ?_
   refine opH_skip none (w':=w5.setCell ⟨B,2,none⟩ (.slice ja n jc)) rfl (by rfl) rfl (by go_simp) ?_
   have hm1:=setMods w5 B 2 (.slice ja n jc)
   have rB1:=setCell_heap (i:=2) rB (.slice ja n jc)
   obtain ⟨w6,hw6⟩:∃ w6,w5.setCell ⟨B,2,none⟩ (.slice ja n jc)=w6:=⟨_,rfl⟩
   rw [hw6] at hm1 rB1 ⊢
   have rB1:w6.heap[B]? = some (.cells #[.string q,.bool y,.slice ja n jc,.slice pa m pc] 64 (0,0)):=rB1
   have hS:=hS.trans hm1
   have c3y:=cell_of_row _ _ 3 _ _ _ rB1
   simp only [gS] at c3y
   have f3:=frozen_row (i:=3) rB1
   refine ⟨hS,?_⟩
   simp only [pS]
   refine tkI 8 (some 11) (.pointer (some ⟨B,3,none⟩)) hS ?_
   simp only [pS]
   refine tkO 9 ?_
   refine opH_skip none (w':=w6.setCell ⟨B,3,none⟩ (.slice qa m qc)) rfl (by rfl) rfl (by go_simp) ?_
   have hm2:=setMods w6 B 3 (.slice qa m qc)
   have rB2:=setCell_heap (i:=3) rB1 (.slice qa m qc)
   refine ⟨hS.trans hm2,?_⟩
   refine wpAnyH_done (by kernel_rfl) ?_ _
   have hmm:=hm1.trans hm2
   exact ⟨.slice ja n jc,.slice qa m qc,⟨rfl,rfl,rfl,rfl⟩,rB2,hox.mods hmm (fun g hg e=>by have:=(hox.lt hg).1;omega),hop.mods hmm (fun g hg e=>by have:=(hop.lt hg).1;omega),hS.trans hm2⟩
 ·refine opH_value (some 8) (w':=w.drew) (v:=.slice pa m pc) rfl (by rfl) rfl (by go_simp) ?_
  refine ⟨hS,?_⟩
  simp only [pS]
  refine tkO 1 ?_
  refine opH_value (some 5) (w':=w.drew) (v:=.slice ia n ic) rfl (by rfl) rfl (by go_simp) ?_
  refine ⟨hS,?_⟩
  simp only [pS]
  refine tkO 2 ?_
  refine opH_call (some 6) rfl (by rfl) rfl 129 #[.slice ia n ic] (by go_simp) ((HX.out _ hN).mono ?_)
  rintro e w2 ⟨iv',rfl,hox,hk⟩
  have hN:=hN.trans hk
  have hS:Mods (fun b=>b=B) w w2:=Mods.ofNew hN
  obtain ⟨ja,jc,rfl⟩:=hox.slice
  have rB:=hN.heap hB id
  have c2x:=cell_of_row _ _ 2 _ _ _ rB
  have c3x:=cell_of_row _ _ 3 _ _ _ rB
  simp only [gS] at c2x c3x
  clear hk
  refine ⟨_,rfl,hS,?_⟩
  simp only [pS]
  refine tkI 6 (some 10) (.pointer (some ⟨B,2,none⟩)) hS ?_
  simp only [pS]
  refine tkO 5 ?_
  refine opH_call (some 9) rfl (by rfl) rfl 130 #[.slice pa m pc] (by go_simp) ((HP.out _ hN).mono ?_)
  rintro e w5 ⟨pv',rfl,hop,hk⟩
  have hox:=hox.new hk
  have hN:=hN.trans hk
  have hS:Mods (fun b=>b=B) w w5:=Mods.ofNew hN
  obtain ⟨qa,qc,rfl⟩:=hop.slice
  have rB:=hN.heap hB id
  have c2x:=cell_of_row _ _ 2 _ _ _ rB
  have c3x:=cell_of_row _ _ 3 _ _ _ rB
  simp only [gS] at c2x c3x
  have f2:=frozen_row (i:=2) rB
  clear hk
  refine ⟨_,rfl,hS,?_⟩
  simp only [pS]
  refine tkO 7 ?_
  refine opH_skip none (w':=w5.setCell ⟨B,2,none⟩ (.slice ja n jc)) rfl (by rfl) rfl (by go_simp) ?_
  have hm1:=setMods w5 B 2 (.slice ja n jc)
  have rB1:=setCell_heap (i:=2) rB (.slice ja n jc)
  obtain ⟨w6,hw6⟩:∃ w6,w5.setCell ⟨B,2,none⟩ (.slice ja n jc)=w6:=⟨_,rfl⟩
  rw [hw6] at hm1 rB1 ⊢
  have rB1:w6.heap[B]? = some (.cells #[.string q,.bool y,.slice ja n jc,.slice pa m pc] 64 (0,0)):=rB1
  have hS:=hS.trans hm1
  have c3y:=cell_of_row _ _ 3 _ _ _ rB1
  simp only [gS] at c3y
  have f3:=frozen_row (i:=3) rB1
  refine ⟨hS,?_⟩
  simp only [pS]
  refine tkI 8 (some 11) (.pointer (some ⟨B,3,none⟩)) hS ?_
  simp only [pS]
  refine tkO 9 ?_
  refine opH_skip none (w':=w6.setCell ⟨B,3,none⟩ (.slice qa m qc)) rfl (by rfl) rfl (by go_simp) ?_
  have hm2:=setMods w6 B 3 (.slice qa m qc)
  have rB2:=setCell_heap (i:=3) rB1 (.slice qa m qc)
  refine ⟨hS.trans hm2,?_⟩
  refine wpAnyH_done (by kernel_rfl) ?_ _
  have hmm:=hm1.trans hm2
  exact ⟨.slice ja n jc,.slice qa m qc,⟨rfl,rfl,rfl,rfl⟩,rB2,hox.mods hmm (fun g hg e=>by have:=(hox.lt hg).1;omega),hop.mods hmm (fun g hg e=>by have:=(hop.lt hg).1;omega),hS.trans hm2⟩
noncomputable def reg_dict_own_5:Code:=((Tryz.f80.body.bind (regionOf 5)).getD .skip)
theorem own5 (t:Array Value) (hs:t.size=32) (w:World) {base B g i n m ic pc:Nat} {pa:Option Addr} {x0 x2 x4 x5 x6 x7 x8 x9 x10 x11 x12 x13 x31:Value} {f:Nat→List Value}
  (hq1:t.getD 1 undef = .pointer (some ⟨B,0,none⟩))
  (hq3:t.getD 3 undef = .int .i64 i)
  (hq14:t.getD 14 undef = .int .i64 n)
  (hq15:t.getD 15 undef = .int .i64 i)
  (hq0:t.getD 0 undef=x0)
  (hq2:t.getD 2 undef=x2)
  (hq4:t.getD 4 undef=x4)
  (hq5:t.getD 5 undef=x5)
  (hq6:t.getD 6 undef=x6)
  (hq7:t.getD 7 undef=x7)
  (hq8:t.getD 8 undef=x8)
  (hq9:t.getD 9 undef=x9)
  (hq10:t.getD 10 undef=x10)
  (hq11:t.getD 11 undef=x11)
  (hq12:t.getD 12 undef=x12)
  (hq13:t.getD 13 undef=x13)
  (hq31:t.getD 31 undef=x31)
  (c2:w.cell? ⟨B,2,none⟩=some (.slice (some ⟨g,0,none⟩) n ic)) (hi:i < n) (hgB:¬ B=g) (hc:w.cell? ⟨g,i * 5 + 4,none⟩=some (.slice pa m pc)) (hfz:Hid (∀ W,New w W→W.frozen? ⟨g,i * 5 + 4,none⟩=false))
  (HP:Hid (∀ W,New w W→Calls Tryz.prog 130 #[.slice pa m pc] W fun e w'=>∃ v',e = .returned v'∧OwP base w' v' m f∧New W w')) :
  reg_dict_own_5.wp Tryz.prog (Only fun a' W'=>∃ pv' w2,(a'.tmps.size=32∧a'.defers = []∧a'.tmps.getD 1 undef = .pointer (some ⟨B,0,none⟩)∧a'.tmps.getD 3 undef = .int .i64 i∧a'.tmps.getD 14 undef = .int .i64 n∧a'.tmps.getD 15 undef = .int .i64 i∧a'.tmps.getD 0 undef=x0∧a'.tmps.getD 2 undef=x2∧a'.tmps.getD 4 undef=x4∧a'.tmps.getD 5 undef=x5∧a'.tmps.getD 6 undef=x6∧a'.tmps.getD 7 undef=x7∧a'.tmps.getD 8 undef=x8∧a'.tmps.getD 9 undef=x9∧a'.tmps.getD 10 undef=x10∧a'.tmps.getD 11 undef=x11∧a'.tmps.getD 12 undef=x12∧a'.tmps.getD 13 undef=x13∧a'.tmps.getD 31 undef=x31)∧W'=w2.setCell ⟨g,i * 5 + 4,none⟩ pv'∧New w w2∧OwP base w2 pv' m f) ⟨t,[]⟩ w:=by
 conv=>arg 2;whnf
 obtain ⟨u,rfl⟩:=lit32 t hs
 have hq1:u 1 = _:=hq1
 have hq3:u 3 = _:=hq3
 have hq14:u 14 = _:=hq14
 have hq15:u 15 = _:=hq15
 have hq0:u 0 = _:=hq0
 have hq2:u 2 = _:=hq2
 have hq4:u 4 = _:=hq4
 have hq5:u 5 = _:=hq5
 have hq6:u 6 = _:=hq6
 have hq7:u 7 = _:=hq7
 have hq8:u 8 = _:=hq8
 have hq9:u 9 = _:=hq9
 have hq10:u 10 = _:=hq10
 have hq11:u 11 = _:=hq11
 have hq12:u 12 = _:=hq12
 have hq13:u 13 = _:=hq13
 have hq31:u 31 = _:=hq31
 rw [hq1,hq3,hq14,hq15,hq0,hq2,hq4,hq5,hq6,hq7,hq8,hq9,hq10,hq11,hq12,hq13,hq31]
 clear hq1 hq3 hq14 hq15 hq0 hq2 hq4 hq5 hq6 hq7 hq8 hq9 hq10 hq11 hq12 hq13 hq31 hs
 have hN:New w w.drew:=(Mods.refl _ _).drew
 have hS:Mods (fun b=>b=g) w w.drew:=(Mods.refl _ _).drew
 have hid:decide ((i:Int) < (n:Int))=true:=decide_eq_true (by omega)
 have hc4:=hN.cell hc id
 have hCd:w.drew.cell? ⟨g,i * 5 + 4,none⟩ = _:=hc4
 refine wp_region_held (S:=fun W=>Mods (fun b=>b=g) w W) (by kernel_rfl) ?_
 show wpAnyH _ _ _ _ _ 13 _ _ w.drew
 refine tkI 0 (some 18) (.pointer (some ⟨B,2,none⟩)) hS ?_
 simp only [pS]
 refine tkA 1 rfl (some 19) (.slice (some ⟨g,0,none⟩) n ic) (.inl ⟨by rfl,fun W hW=>by have q:=hW.cell c2 hgB;go_simp⟩) hS ?_
 simp only [pS]
 refine tkI 2 (some 20) (.int .i64 i) hS ?_
 simp only [pS]
 refine tkI 3 (some 21) (.pointer (some ⟨B,2,none⟩)) hS ?_
 simp only [pS]
 refine tkA 4 rfl (some 22) (.slice (some ⟨g,0,none⟩) n ic) (.inl ⟨by rfl,fun W hW=>by have q:=hW.cell c2 hgB;go_simp⟩) hS ?_
 simp only [pS]
 refine tkI 5 (some 23) (.int .i64 i) hS ?_
 simp only [pS]
 refine tkI 6 (some 24) (.pointer (some ⟨g,i * 5,none⟩)) hS ?_
 simp only [pS]
 refine tkI 7 (some 25) (.pointer (some ⟨g,i * 5 + 4,none⟩)) hS ?_
 simp only [pS]
 refine tkO 8 ?_
 refine opH_value (some 26) (w':=w.drew) (v:=.slice pa m pc) rfl (by rfl) rfl (by go_simp) ?_
 refine ⟨hS,?_⟩
 simp only [pS]
 refine tkO 9 ?_
 refine opH_call (some 27) rfl (by rfl) rfl 130 #[.slice pa m pc] (by go_simp) ((HP.out _ hN).mono ?_)
 rintro e w2 ⟨pv',rfl,hop,hk⟩
 have hcw:=hk.cell hCd id
 have hN:=hN.trans hk
 have hS:Mods (fun b=>b=g) w w2:=Mods.ofNew hN
 obtain ⟨qa,qc,rfl⟩:=hop.slice
 have hfw:=hfz.out w2 hN
 clear hk
 refine ⟨_,rfl,hS,?_⟩
 simp only [pS]
 refine tkI 10 (some 28) (.pointer (some ⟨g,i * 5,none⟩)) hS ?_
 simp only [pS]
 refine tkI 11 (some 29) (.pointer (some ⟨g,i * 5 + 4,none⟩)) hS ?_
 simp only [pS]
 refine tkO 12 ?_
 refine opH_skip none (w':=w2.setCell ⟨g,i * 5 + 4,none⟩ (.slice qa m qc)) rfl (by rfl) rfl (by go_simp) ?_
 refine ⟨hS.trans (setMods w2 g _ _),?_⟩
 refine wpAnyH_done (by kernel_rfl) ?_ _
 exact ⟨.slice qa m qc,w2,⟨rfl,rfl,rfl,rfl,rfl,rfl,rfl,rfl,rfl,rfl,rfl,rfl,rfl,rfl,rfl,rfl,rfl,rfl,rfl⟩,rfl,hN,hop⟩


def OwnM (base:Nat) (W:World) (v:Value) (m:Bare.Mem):Prop:=∃ (ja pa:Option Addr) (jc pc:Nat) (ip:Nat→Value),v = .agg (mcs m (.slice ja m.items.length jc) (.slice pa m.params.length pc)).toArray∧OwX base W (.slice ja m.items.length jc) m.items.length (fun i=>ics (m.items.getD i Bare.noI) (ip i))∧(∀ i,i < m.items.length→OwP base W (ip i) (m.items.getD i Bare.noI).params.length (pf (m.items.getD i Bare.noI).params))∧OwP base W (.slice pa m.params.length pc) m.params.length (pf m.params)
theorem own_any {τ:Bool} (v:Value) (m:Bare.Mem) (w:World) (h:RdM τ w v m) (hil:m.items.length ≤ 2199023255552) (hpl:m.params.length ≤ 2513169434880) (hipl:∀ i,i < m.items.length→(m.items.getD i Bare.noI).params.length ≤ 2513169434880) :
  Calls Tryz.prog 80 #[v] w fun e w'=>∃ v',e = .returned v'∧OwnM w.heap.size w' v' m∧New w w':=by
 obtain ⟨iv,pv,rfl,⟨ip,h1,-,h3⟩,hP⟩:=h
 obtain ⟨ia,ic,rfl⟩:=h1.slice
 obtain ⟨pa,pc,rfl⟩:=hP.slice
 obtain ⟨f,hf⟩:∃ f:Nat→List Value,(fun i=>ics (m.items.getD i Bare.noI) (ip i))=f:=⟨_,rfl⟩
 have HF:=Lib.hid hf
 have hfl:∀ i,(f i).length=5:=fun i=>by rw [← hf];rfl
 have hone:∀ i,i < m.items.length→∀ u ∈ f i,u.oneCell'=true:=fun i hi=>by
  obtain ⟨a,c,e⟩:=(h3 i hi).slice
  rw [← hf]
  dsimp only
  rw [e]
  exact ics_one _ _ _ _
 rw [hf] at h1
 have HX:=Lib.hid (fun (w0:World) (hw:New w w0) (W:World) (hN:New w0 W)=>(clone_X (.slice ia m.items.length ic) m.items.length f W hfl hone (h1.new (hw.trans hN)) hil).mono (R':=fun e w'=>∃ v',e = .returned v'∧OwX w0.heap.size w' v' m.items.length f∧New W w') (by
  rintro e w' ⟨v',rfl,ho,hk⟩;exact ⟨v',rfl,ho.mono hN.size,hk⟩))
 have HP:=Lib.hid (fun (w0:World) (hw:New w w0) (W:World) (hN:New w0 W)=>(clone_P (.slice pa m.params.length pc) m.params.length (pf m.params) W (pf_len _) (fun i _=>pcs_one _) (hP.1.new (hw.trans hN)) hpl).mono (R':=fun e w'=>∃ v',e = .returned v'∧OwP w0.heap.size w' v' m.params.length (pf m.params)∧New W w') (by
  rintro e w' ⟨v',rfl,ho,hk⟩;exact ⟨v',rfl,ho.mono hN.size,hk⟩))
 have HPi:=Lib.hid (fun (w0:World) (hw:New w w0) (j:Nat) (hj:j < m.items.length) (wr:World) (hr:New w wr) (hb:w0.heap.size ≤ wr.heap.size) (W:World) (hN:New wr W)=>(clone_P (ip j) (m.items.getD j Bare.noI).params.length (pf (m.items.getD j Bare.noI).params) W (pf_len _) (fun i _=>pcs_one _) ((h3 j hj).1.new (hr.trans hN)) (hipl j hj)).mono (R':=fun e w'=>∃ v',e = .returned v'∧OwP w0.heap.size w' v' (m.items.getD j Bare.noI).params.length (pf (m.items.getD j Bare.noI).params)∧New W w') (by
  rintro e w' ⟨v',rfl,ho,hk⟩;exact ⟨v',rfl,ho.mono (Nat.le_trans hb hN.size),hk⟩))
 have HS:=Lib.hid (fun j hj=>(h3 j hj).slice)
 obtain ⟨n,hn⟩:∃ n,m.items.length=n:=⟨_,rfl⟩
 obtain ⟨k,hk⟩:∃ k,m.params.length=k:=⟨_,rfl⟩
 obtain ⟨K,hK⟩:∃ K,tx m.key=K:=⟨_,rfl⟩
 obtain ⟨y,hy⟩:∃ y,m.inner=y:=⟨_,rfl⟩
 have Hn:=Lib.hid hn
 have Hk:=Lib.hid hk
 have HK:=Lib.hid hK
 have HY:=Lib.hid hy
 unfold OwnM mcs
 rw [hn,hk,hK,hy]
 rw [hn] at HX HPi HS hil hone
 rw [hk] at HP hpl
 clear h1 hP h3 hn hk hK hy hipl hf
 go_enter Tryz.func80,Tryz.ntmps80
 go_upto_region 1 with fail
 obtain ⟨W1,hW1⟩:∃ W1,((w.alloc (.cells #[.string K,.bool y,.slice ia n ic,.slice pa k pc] 64)).alloc (.cells #[.string ⟨#[]⟩,.bool false,.slice none 0 0,.slice none 0 0] 64))=W1:=⟨_,rfl⟩
 have hN1:New w W1:=by rw [← hW1];exact ((Mods.refl _ _).alloc _).alloc _
 have rB:W1.heap[w.heap.size]? = some (.cells #[.string K,.bool y,.slice ia n ic,.slice pa k pc] 64 (0,0)):=by rw [← hW1];exact ((Mods.refl (fun _=>False) _).alloc _).heap (World.alloc_heap_new _ _) id
 have rR:W1.heap[w.heap.size + 1]? = some (.cells #[.string ⟨#[]⟩,.bool false,.slice none 0 0,.slice none 0 0] 64 (0,0)):=by
  have:=World.alloc_heap_new (w.alloc (.cells #[.string K,.bool y,.slice ia n ic,.slice pa k pc] 64)) (.cells #[.string ⟨#[]⟩,.bool false,.slice none 0 0,.slice none 0 0] 64)
  rw [hW1] at this
  simpa using this
 have hs1:W1.heap.size=w.heap.size + 2:=by rw [← hW1];simp
 rw [hW1]
 obtain ⟨b1,hb1⟩:∃ b1,W1.heap.size=b1:=⟨_,rfl⟩
 obtain ⟨B,hB⟩:∃ B,w.heap.size=B:=⟨_,rfl⟩
 rw [hB] at rB rR hs1 ⊢
 obtain ⟨R,hR⟩:∃ R,B + 1=R:=⟨_,rfl⟩
 rw [hR] at rR ⊢
 have hRB:¬ R=B:=by omega
 have HPi1:=Lib.hid (fun j hj (wr:World) hr (hb:b1 ≤ wr.heap.size)=>by have:=HPi.out W1 hN1 j hj wr hr (by rw [hb1];exact hb);rw [hb1] at this;exact this)
 refine piece (fun _=>_) (own1 _ rfl W1 rfl rfl rB (Lib.hid (HX.out W1 hN1)) (Lib.hid (HP.out W1 hN1))) ?_
 rintro ⟨z,dfs⟩ W2 ⟨iv2,pv2,⟨hs,hd,hq1,hq2⟩,rB2,hox,hop,hm2⟩
 simp only at hs hd hq1 hq2
 subst hd
 obtain ⟨uu,rfl⟩:=lit32 z hs
 have hp1:uu 1 = .pointer (some ⟨B,0,none⟩):=hq1
 have hp2:uu 2 = .pointer (some ⟨R,0,none⟩):=hq2
 rw [hp1,hp2]
 clear hp1 hq1 hp2 hq2 hs
 obtain ⟨ja,jc,rfl⟩:=hox.slice
 obtain ⟨qa,qc,rfl⟩:=hop.slice
 have rR2:=hm2.heap rR hRB
 have hbs:b1 ≤ W2.heap.size:=by have:=hm2.size;omega
 rw [hb1] at hox hop
 have hN2:New w W2:=((Mods.ofNew hN1).trans hm2).new (by omega)
 have c2:=cell_of_row _ _ 2 _ _ _ rB2
 simp only [gS] at c2
 have hox0:OwX b1 W2 (.slice ja n jc) n (fun j=>ics (m.items.getD j Bare.noI) (ip j)):=by rw [HF.out];exact hox
 clear hW1 rB rR hm2 HX HP HPi hox hN1
 go_wp2_with fail
 go_loopw [15] (fun t wr=>∃ (i:Nat) (jv:Nat→Value),i ≤ n∧t = .int .i64 i∧wr.heap[B]? = some (.cells #[.string K,.bool y,.slice ja n jc,.slice qa k qc] 64 (0,0))∧wr.heap[R]? = some (.cells #[.string ⟨#[]⟩,.bool false,.slice none 0 0,.slice none 0 0] 64 (0,0))∧OwX b1 wr (.slice ja n jc) n (fun j=>ics (m.items.getD j Bare.noI) (jv j))∧Hid (∀ j,j < i→OwP b1 wr (jv j) (m.items.getD j Bare.noI).params.length (pf (m.items.getD j Bare.noI).params))∧Hid (∀ j,i ≤ j→j < n→jv j=ip j)∧OwP b1 wr (.slice qa k qc) k (pf m.params)∧New w wr∧b1 ≤ wr.heap.size) (fun t _=>n - (intOf t).toNat)
 case atStart=>exact ⟨0,ip,Nat.zero_le _,rfl,rB2,rR2,hox0,Lib.hid (fun j hj=>by omega),Lib.hid (fun j _ _=>rfl),hop,hN2,hbs⟩
 case round =>
  clear rB2 rR2 hox0 hop hN2 hbs c2
  obtain ⟨i,jv,hin,rfl,rB,rR,hox,hnew,hold,hop,hN,hbs⟩:=hrel
  by_cases hlt:i < n
  ·have hkd:decide ((i:Int) < (n:Int))=true:=decide_eq_true (by omega)
   obtain ⟨g,rfl⟩:∃ g,ja=some ⟨g,0,none⟩:=by
    rcases hox.2.2.2 with ⟨h,h'⟩ | ⟨b',cap',cur,h,_⟩
    ·simp only [Value.slice.injEq] at h;omega
    ·simp only [Value.slice.injEq] at h;exact ⟨b',h.1⟩
   obtain ⟨a4,l4,e4⟩:=HS.out i hlt
   have hji:jv i = .slice a4 (m.items.getD i Bare.noI).params.length l4:=by rw [hold.out i (Nat.le_refl _) hlt];exact e4
   have hc:wr.cell? ⟨g,i * 5 + 4,none⟩=some (.slice a4 (m.items.getD i Bare.noI).params.length l4):=by
    obtain ⟨b',o',e',hrw⟩:=(hox.row (by omega)).at.2.2 i hlt
    obtain ⟨rfl,rfl⟩:b'=g∧o'=0:=by cases e';exact ⟨rfl,rfl⟩
    rw [Nat.zero_add] at hrw
    have:=hrw 4 (jv i) rfl
    rw [hji] at this
    exact this
   have hgl:b1 ≤ g∧g < wr.heap.size:=hox.lt rfl
   have hgB:¬ B=g:=by omega
   have c2:=cell_of_row _ _ 2 _ _ _ rB
   simp only [gS] at c2
   have HOX:=Lib.hid hox
   have hfz:Hid (∀ W,New wr W→W.frozen? ⟨g,i * 5 + 4,none⟩=false):=Lib.hid fun W hW=>(HOX.out.new hW).frozen rfl _
   obtain ⟨pl,hpl'⟩:∃ pl,(m.items.getD i Bare.noI).params.length=pl:=⟨_,rfl⟩
   have HPL:=Lib.hid hpl'
   have HPP:=Lib.hid (HPi1.out i hlt wr hN hbs)
   rw [e4] at HPP
   rw [hpl'] at hc e4 HPP
   have HC:=Lib.hid hc
   have HE4:=Lib.hid e4
   clear hpl' e4 hji hox hc
   go_upto_region 5 with fail
   refine piece (fun _=>_) (own5 _ rfl wr rfl rfl rfl rfl rfl rfl rfl rfl rfl rfl rfl rfl rfl rfl rfl rfl rfl c2 hlt hgB HC.out hfz HPP) ?_
   rintro ⟨z,dfs⟩ W3 ⟨pv3,w3,⟨hs,hd,hq1,hq3,hq14,hq15,hq0,hq2,hq4,hq5,hq6,hq7,hq8,hq9,hq10,hq11,hq12,hq13,hq31⟩,hw,hk2,hop2⟩
   simp only at hs hd hq1 hq3 hq14 hq15 hq0 hq2 hq4 hq5 hq6 hq7 hq8 hq9 hq10 hq11 hq12 hq13 hq31
   subst hd
   obtain ⟨u,rfl⟩:=lit32 z hs
   have hp1:u 1 = .pointer (some ⟨B,0,none⟩):=hq1
   have hp3:u 3 = .int .i64 i:=hq3
   have hp14:u 14 = .int .i64 n:=hq14
   have hp15:u 15 = .int .i64 i:=hq15
   have hp0:u 0=uu 0:=hq0
   have hp2:u 2 = .pointer (some ⟨R,0,none⟩):=hq2
   have hp4:u 4=uu 4:=hq4
   have hp5:u 5=uu 5:=hq5
   have hp6:u 6=uu 6:=hq6
   have hp7:u 7=uu 7:=hq7
   have hp8:u 8=uu 8:=hq8
   have hp9:u 9=uu 9:=hq9
   have hp10:u 10=uu 10:=hq10
   have hp11:u 11=uu 11:=hq11
   have hp12:u 12 = .pointer (some ⟨B,2,none⟩):=hq12
   have hp13:u 13 = .slice (some ⟨g,0,none⟩) n jc:=hq13
   have hp31:u 31=uu 31:=hq31
   rw [hp1,hp3,hp14,hp15,hp0,hp2,hp4,hp5,hp6,hp7,hp8,hp9,hp10,hp11,hp12,hp13,hp31]
   clear hp1 hq1 hp3 hq3 hp14 hq14 hp15 hq15 hp0 hq0 hp2 hq2 hp4 hq4 hp5 hq5 hp6 hq6 hp7 hq7 hp8 hq8 hp9 hq9 hp10 hq10 hp11 hq11 hp12 hq12 hp13 hq13 hp31 hq31 hs
   subst hw
   obtain ⟨qa3,qc3,rfl⟩:=hop2.slice
   go_wp2_with fail
   go_roundw
   case rel =>
    have hsm:=setMods w3 g (i * 5 + 4) (.slice qa3 pl qc3)
    have hox3:=HOX.out.new hk2
    have hne:∀ (v:Value),TagAt w3 v 73→∀ b,v.ownBlock=some b→¬ b=g:=fun v ht b hb e=>by
     obtain ⟨cs,fr,h⟩:=ht b hb
     obtain ⟨cs',fr',h'⟩:=hox3.tag g rfl
     subst e
     rw [h] at h'
     cases h'
    have hgR:¬ R=g:=by omega
    refine ⟨i + 1,fun j=>if j=i then .slice qa3 pl qc3 else jv j,by omega,by go_num,hsm.heap (hk2.heap rB id) hgB,hsm.heap (hk2.heap rR id) hgR,?_,?_,?_,?_,(hN.trans hk2).setCell (p:=⟨g,i * 5 + 4,none⟩) (.inl (by show _ ≤ g;omega)) _,by have:=hsm.size;have:=hk2.size;omega⟩
    ·refine OwX.congr (f:=fun k=>if k=i then (ics (m.items.getD i Bare.noI) (jv i)).set 4 (.slice qa3 pl qc3) else ics (m.items.getD k Bare.noI) (jv k)) ⟨set_len hox3.1,fun j hj=>?_,own_set hox3.1 hox3.2.2 hlt (by decide) _⟩ (fun _=>rfl) fun j hj=>?_
     ·dsimp only
      by_cases e:j=i
      ·rw [if_pos e];exact ics_one _ _ _ _
      ·rw [if_neg e];exact hox3.2.1 j hj
     ·dsimp only
      by_cases e:j=i
      ·subst e;rw [if_pos rfl,if_pos rfl];rfl
      ·rw [if_neg e,if_neg e]
    ·refine Lib.hid fun j hj=>?_
     dsimp only
     by_cases e:j=i
     ·subst e
      rw [if_pos rfl,HPL.out]
      exact hop2.mods hsm fun b hb=>hne _ hop2.tag b hb
     ·rw [if_neg e]
      have h3:=(hnew.out j (by omega)).new hk2
      exact h3.mods hsm fun b hb=>hne _ h3.tag b hb
    ·refine Lib.hid fun j h1 h2=>?_
     dsimp only
     rw [if_neg (by omega)]
     exact hold.out j (by omega) h2
    ·have h3:=hop.new hk2
     exact h3.mods hsm fun b hb=>hne _ h3.tag b hb
   case measure=>simp [intOf];omega
  ·have hkd:decide ((i:Int) < (n:Int))=false:=decide_eq_false (by omega)
   obtain rfl:i=n:=by omega
   clear hold
   have hone4:=mcs_one K y ja qa i jc k qc
   have c0:=cell_of_row _ _ 0 _ _ _ rR
   go_wp2_with (first | (refine op_value rfl (run_load_row 64 (.tmp 1) rfl B rfl 64 _ (0,0) _ rB Tryz.underlying64 rfl sizeM) ?_) | (refine op_skip rfl (run_store_row 64 (.tmp 2) (.tmp 31) rfl R rfl 64 [.string ⟨#[]⟩,.bool false,.slice none 0 0,.slice none 0 0] [.string K,.bool y,.slice ja i jc,.slice qa k qc] rfl rR sizeM rfl hone4) ?_))
   have hmR:=mods_setRow rR #[.string K,.bool y,.slice ja i jc,.slice qa k qc]
   have hrow:(wr.setRow R #[.string K,.bool y,.slice ja i jc,.slice qa k qc]).heap[R]? = some (.cells #[.string K,.bool y,.slice ja i jc,.slice qa k qc] 64 (0,0)):=setRow_heap wr R _ _ _ _ rR
   refine bodyPost_ret (v:=.agg #[.string K,.bool y,.slice ja i jc,.slice qa k qc]) (results_cell_row rfl _ _ R 64 _ (0,0) _ rfl hrow Tryz.underlying64 rfl sizeM) rfl ?_
   refine ⟨_,rfl,⟨ja,qa,jc,qc,jv,rfl,?_,fun j hj=>?_,?_⟩,(hN.setRow (by omega) _)⟩
   ·exact (hox.mods hmR fun b hb e=>by have:=(hox.lt hb).1;omega).mono (by omega)
   ·exact ((hnew.out j hj).mods hmR fun b hb e=>by have:=((hnew.out j hj).lt hb).1;omega).mono (by omega)
   ·exact (hop.mods hmR fun b hb e=>by have:=(hop.lt hb).1;omega).mono (by omega)


def findM (d:List Bare.Mem) (k:Bare.Bs):Option Bare.Mem:=d.find? fun m=>decide (m.key=k)
theorem findM_none {d:List Bare.Mem} {k:Bare.Bs} (h:∀ j,j < d.length→(d.getD j noM).key ≠ k):findM d k=none:=by
 unfold findM
 rw [List.find?_eq_none]
 intro m hm
 obtain ⟨j,hj,rfl⟩:=List.mem_iff_getElem.1 hm
 have:=h j hj
 rw [List.getD_eq_getElem?_getD,List.getElem?_eq_getElem hj] at this
 simpa using this
theorem findM_some {d:List Bare.Mem} {k:Bare.Bs} {i:Nat} (hi:i < d.length) (h:∀ j,j < i→(d.getD j noM).key ≠ k) (hk:(d.getD i noM).key=k):findM d k=some (d.getD i noM):=by
 unfold findM
 rw [List.find?_eq_some_iff_getElem]
 have e:d.getD i noM=d[i]:=by rw [List.getD_eq_getElem?_getD,List.getElem?_eq_getElem hi];rfl
 refine ⟨by simpa using hk,i,hi,e.symm,fun j hj=>?_⟩
 have:=h j hj
 rw [List.getD_eq_getElem?_getD,List.getElem?_eq_getElem (by omega)] at this
 simpa using this
theorem OwnM.zero (base:Nat) (W:World):OwnM base W (.agg #[.string ⟨#[]⟩,.bool false,.slice none 0 0,.slice none 0 0]) noM:=⟨none,none,0,0,fun _=>undef,rfl,OwX.nil _ _ _ (fun _=>rfl),(fun i hi=>by simp [noM] at hi),OwP.nil _ _ _ (pf_len _)⟩
theorem OwnM.mods {base:Nat} {W W':World} {v:Value} {m:Bare.Mem} (h:OwnM base W v m) {S:Nat→Prop} (hN:Mods S W W') (hS:∀ g,S g→g < base):OwnM base W' v m:=by
 obtain ⟨ja,pa,jc,pc,ip,rfl,h1,h2,h3⟩:=h
 exact ⟨ja,pa,jc,pc,ip,rfl,h1.mods hN (fun g hg hs=>by have:=(h1.lt hg).1;have:=hS g hs;omega),fun i hi=>(h2 i hi).mods hN (fun g hg hs=>by have:=((h2 i hi).lt hg).1;have:=hS g hs;omega),h3.mods hN (fun g hg hs=>by have:=(h3.lt hg).1;have:=hS g hs;omega)⟩
theorem OwnM.mono {base base':Nat} {W:World} {v:Value} {m:Bare.Mem} (h:OwnM base W v m) (hb:base' ≤ base):OwnM base' W v m:=by
 obtain ⟨ja,pa,jc,pc,ip,rfl,h1,h2,h3⟩:=h
 exact ⟨ja,pa,jc,pc,ip,rfl,h1.mono hb,fun i hi=>(h2 i hi).mono hb,h3.mono hb⟩
def Fits (m:Bare.Mem):Prop:=m.items.length ≤ 2199023255552∧m.params.length ≤ 2513169434880∧∀ i,i < m.items.length→(m.items.getD i Bare.noI).params.length ≤ 2513169434880
theorem find_any {τ:Bool} (v:Value) (key:ByteArray) (d:List Bare.Mem) (w:World) (h:RdD τ w v d) (hf:∀ m ∈ d,Fits m) :
  Calls Tryz.prog 35 #[v,.string key] w fun e w'=>∃ v',e = .returned (.tuple #[v',.bool (findM d (bl key)).isSome])∧OwnM w.heap.size w' v' ((findM d (bl key)).getD noM)∧New w w':=by
 obtain ⟨ao,cap,rfl⟩:=h.slice
 have HD:=Lib.hid h
 have hlen:d.length ≤ 281474976710656:=by obtain ⟨_,_,h1,_⟩:=h;exact h1.1
 clear h
 obtain ⟨Post,hPost⟩:∃ Post:Ending→World→Prop,(fun e w'=>∃ v',e = .returned (.tuple #[v',.bool (findM d (bl key)).isSome])∧OwnM w.heap.size w' v' ((findM d (bl key)).getD noM)∧New w w')=Post:=⟨_,rfl⟩
 have HPost:=Lib.hid hPost
 rw [hPost]
 clear hPost
 have hT:=World.alloc_heap_new w (.cells #[.string ⟨#[]⟩,.bool false,.slice none 0 0,.slice none 0 0] 64)
 have hN0:New w (w.alloc (.cells #[.string ⟨#[]⟩,.bool false,.slice none 0 0,.slice none 0 0] 64)):=(Mods.refl _ _).alloc _
 obtain ⟨n,hn⟩:∃ n,d.length=n:=⟨_,rfl⟩
 have Hn:=Lib.hid hn
 rw [hn] at hlen ⊢
 go_enter Tryz.func35,Tryz.ntmps35
 go_upto_region 1 with fail
 obtain ⟨W1,hW1⟩:∃ W1,w.alloc (.cells #[.string ⟨#[]⟩,.bool false,.slice none 0 0,.slice none 0 0] 64)=W1:=⟨_,rfl⟩
 rw [hW1] at hT hN0 ⊢
 have hb1:W1.heap.size=w.heap.size + 1:=by rw [← hW1];simp
 obtain ⟨R,hR⟩:∃ R,w.heap.size=R:=⟨_,rfl⟩
 rw [hR] at hT hb1 ⊢
 clear hW1 hn
 go_wp2_with fail
 go_loopw [10] (fun t wr=>∃ i:Nat,i ≤ n∧t = .int .i64 i∧wr.heap[R]? = some (.cells #[.string ⟨#[]⟩,.bool false,.slice none 0 0,.slice none 0 0] 64 (0,0))∧Hid (∀ j,j < i→(d.getD j noM).key ≠ bl key)∧New w wr∧R + 1 ≤ wr.heap.size) (fun t _=>n - (intOf t).toNat)
 case atStart=>exact ⟨0,Nat.zero_le _,rfl,hT,Lib.hid fun j hj=>by omega,hN0,by omega⟩
 case round =>
  clear hT hN0 hb1
  obtain ⟨i,hin,rfl,rR,hbef,hN,hbs⟩:=hrel
  by_cases hlt:i < n
  ·have hkd:decide ((i:Int) < (n:Int))=true:=decide_eq_true (by omega)
   have hld:i < d.length:=by rw [Hn.out];exact hlt
   have hd:=HD.out.new hN
   obtain ⟨iv,pv,h1,-,h3⟩:=hd
   obtain ⟨b,o,rfl,hrow⟩:=h1.at.2.2 i hld
   obtain ⟨c0,c1,c2,c3⟩:=cells4 hrow
   obtain ⟨hi,hp⟩:=h3 i hld
   have HF:=Lib.hid (hf _ (getD_mem (d:=noM) hld))
   obtain ⟨ia,ic,hie⟩:=hi.slice
   obtain ⟨pa,pc,hpe⟩:=hp.slice
   have he:=eq_tx (tx (d.getD i noM).key) key
   rw [bl_tx] at he
   have HO:=Lib.hid (fun W (hW:New wr W)=>own_any (τ:=τ) (.agg (mcs (d.getD i noM) (iv i) (pv i)).toArray) (d.getD i noM) W ⟨_,_,rfl,hi.new hW,hp.new hW⟩ HF.out.1 HF.out.2.1 HF.out.2.2)
   rw [hie,hpe] at HO
   rw [hie] at c2
   rw [hpe] at c3
   obtain ⟨m,hm⟩:∃ m,d.getD i noM=m:=⟨_,rfl⟩
   have HM:=Lib.hid hm
   rw [hm] at c0 c1 c2 c3 HO he
   obtain ⟨K,hK⟩:∃ K,tx m.key=K:=⟨_,rfl⟩
   unfold mcs at HO
   rw [hK] at c0 HO he
   obtain ⟨y,hy⟩:∃ y,m.inner=y:=⟨_,rfl⟩
   rw [hy] at c1 HO
   obtain ⟨il,hil⟩:∃ l,m.items.length=l:=⟨_,rfl⟩
   obtain ⟨pl,hpl⟩:∃ l,m.params.length=l:=⟨_,rfl⟩
   rw [hil] at c2 HO
   rw [hpl] at c3 HO
   clear hrow h1 h3 hi hp hie hpe hm hK hy hil hpl iv pv
   have hA:New wr (wr.alloc (.cells #[.string K,.bool y,.slice ia il ic,.slice pa pl pc] 64)):=(Mods.refl _ _).alloc _
   have r7:=World.alloc_heap_new wr (.cells #[.string K,.bool y,.slice ia il ic,.slice pa pl pc] 64)
   have rR7:=hA.heap rR id
   by_cases heq:m.key=bl key
   ·rw [show decide (m.key=bl key)=true from decide_eq_true heq] at he
    go_upto_region 4 with fail
    obtain ⟨W4,hW4⟩:∃ W4,wr.alloc (.cells #[.string K,.bool y,.slice ia il ic,.slice pa pl pc] 64)=W4:=⟨_,rfl⟩
    rw [hW4] at hA r7 rR7 ⊢
    have hbs4:=hA.size
    obtain ⟨B4,hB4⟩:∃ B4,wr.heap.size=B4:=⟨_,rfl⟩
    rw [hB4] at r7 ⊢
    have k0:=cell_of_row _ _ 0 _ _ _ r7
    simp only [gS] at k0
    clear hW4 c0 c1 c2 c3
    go_wp2_with (first | (refine op_value rfl (run_load_row 64 (.tmp 7) rfl B4 rfl 64 _ (0,0) _ r7 Tryz.underlying64 rfl sizeM) ?_) | (go_at_call 80;refine (HO.out _ hA).mono ?_;rintro e W5 ⟨v',rfl,hov,hk5⟩;obtain ⟨ja,qa,jc,qc,ip',rfl,q1,q2,q3⟩:=hov;have rR5:=hk5.heap rR7 id) | (refine op_skip rfl (run_store_row 64 (.tmp 4) (.tmp 19) rfl R rfl 64 [.string ⟨#[]⟩,.bool false,.slice none 0 0,.slice none 0 0] (mcs m (.slice ja m.items.length jc) (.slice qa m.params.length qc)) rfl rR5 sizeM rfl (mcs_one _ _ _ _ _ _ _ _)) ?_))
    have hmR:=mods_setRow rR5 (mcs m (.slice ja m.items.length jc) (.slice qa m.params.length qc)).toArray
    have hrow:=setRow_heap W5 R _ (mcs m (.slice ja m.items.length jc) (.slice qa m.params.length qc)).toArray _ _ rR5
    refine bodyPost_ret (v:=.tuple #[.agg (mcs m (.slice ja m.items.length jc) (.slice qa m.params.length qc)).toArray,.bool true]) (results_row2 rfl _ _ R 64 _ (0,0) _ rfl hrow Tryz.underlying64 rfl sizeM rfl) rfl ?_
    have hfn:=findM_some (k:=bl key) hld hbef.out (by rw [HM.out];exact heq)
    rw [HM.out] at hfn
    have hov:OwnM W4.heap.size W5 (.agg (mcs m (.slice ja m.items.length jc) (.slice qa m.params.length qc)).toArray) m:=⟨ja,qa,jc,qc,ip',rfl,q1,q2,q3⟩
    rw [← HPost.out]
    rw [hfn]
    exact ⟨_,rfl,(hov.mods hmR fun b hb=>by rw [hb];omega).mono (by omega),((hN.trans hA).trans hk5).setRow (by omega) _⟩
   ·rw [show decide (m.key=bl key)=false from decide_eq_false heq] at he
    go_upto_region 4 with fail
    obtain ⟨W4,hW4⟩:∃ W4,wr.alloc (.cells #[.string K,.bool y,.slice ia il ic,.slice pa pl pc] 64)=W4:=⟨_,rfl⟩
    rw [hW4] at hA r7 rR7 ⊢
    have hbs4:=hA.size
    obtain ⟨B4,hB4⟩:∃ B4,wr.heap.size=B4:=⟨_,rfl⟩
    rw [hB4] at r7 ⊢
    have k0:=cell_of_row _ _ 0 _ _ _ r7
    simp only [gS] at k0
    clear hW4 c0 c1 c2 c3
    go_wp2_with fail
    go_roundw
    case rel=>exact ⟨i + 1,by omega,by go_num,rR7,Lib.hid (fun j hj=>by
     by_cases e:j=i
     ·subst e;rw [HM.out];exact heq
     ·exact hbef.out j (by omega)),hN.trans hA,by omega⟩
    case measure=>simp [intOf];omega
  ·have hkd:decide ((i:Int) < (n:Int))=false:=decide_eq_false (by omega)
   go_wp2_with (refine op_skip rfl (run_store_row 64 (.tmp 4) (.tmp 21) rfl R rfl 64 [.string ⟨#[]⟩,.bool false,.slice none 0 0,.slice none 0 0] [.string ⟨#[]⟩,.bool false,.slice none 0 0,.slice none 0 0] rfl rR sizeM rfl (mcs_one _ _ _ _ _ _ _ _)) ?_)
   rw [setRow_same (cs:=[.string ⟨#[]⟩,.bool false,.slice none 0 0,.slice none 0 0]) rR]
   refine bodyPost_ret (v:=.tuple #[.agg #[.string ⟨#[]⟩,.bool false,.slice none 0 0,.slice none 0 0],.bool false]) (results_row2 rfl _ _ R 64 _ (0,0) _ rfl rR Tryz.underlying64 rfl sizeM rfl) rfl ?_
   have hfn:=findM_none (d:=d) (k:=bl key) (fun j hj=>hbef.out j (by have:=Hn.out;omega))
   rw [← HPost.out]
   rw [hfn]
   exact ⟨_,rfl,OwnM.zero _ _,hN⟩


theorem list_same {α:Type} (z:α) {l r:List α} (hl:l.length=r.length) (h:∀ i,i < l.length→l.getD i z=r.getD i z):l=r:=by
 refine List.ext_getElem hl fun i h1 h2=>?_
 have:=h i h1
 rw [List.getD_eq_getElem?_getD,List.getD_eq_getElem?_getD,List.getElem?_eq_getElem h1,List.getElem?_eq_getElem h2] at this
 exact this


def wf (l:List WP):Nat→List Value:=fun i=>wcs (l.getD i noW)
theorem wf_len (l:List WP):∀ i,(wf l i).length=3:=fun i=>rfl
theorem wcs_one (x:WP):∀ u ∈ wcs x,u.oneCell'=true:=by
 intro u hu
 simp only [wcs,List.mem_cons,List.not_mem_nil,or_false] at hu
 rcases hu with rfl | rfl | rfl <;> rfl
def RdW (W:World) (v:Value) (l:List WP):Prop:=RowR W v l.length 3 (fun i=>wcs (l.getD i noW))
theorem RdW.new {W W':World} {v:Value} {l:List WP} (h:RdW W v l) (hN:New W W'):RdW W' v l:=RowR.new h hN
theorem RdW.slice {W:World} {v:Value} {l:List WP} (h:RdW W v l):∃ ao cap,v = .slice ao l.length cap:=RowR.slice h
theorem cells3w {W:World} {b o:Nat} {c0 c1 c2:Value} (h:W.rangeAt b o [c0,c1,c2]):W.cell? ⟨b,o,none⟩=some c0∧W.cell? ⟨b,o + 1,none⟩=some c1∧W.cell? ⟨b,o + 2,none⟩=some c2 :=
 ⟨h 0 _ rfl,h 1 _ rfl,h 2 _ rfl⟩
theorem infoWt:(Tryz.prog.info? 40).map (fun i=>(i.zero,i.size,i.bytes))=some (some (.agg #[.int .i64 0,.int .u8 0,.bool false]),3,16):=by kernel_rfl
def OwW (base:Nat) (W:World) (v:Value) (n:Nat) (f:Nat→List Value):Prop:=(∀ i,(f i).length=3)∧(∀ i,i < n→∀ u ∈ f i,u.oneCell'=true)∧W.ownsRow base 40 3 v n (flatF n f)
theorem OwW.nil (base:Nat) (W:World) (f:Nat→List Value) (hf:∀ i,(f i).length=3):OwW base W (.slice none 0 0) 0 f:=⟨hf,(fun i hi=>by omega),World.ownsRow_nil _ _ _ _⟩
theorem OwW.mods {base:Nat} {W W':World} {v:Value} {n:Nat} {f:Nat→List Value} (h:OwW base W v n f) {S:Nat→Prop} (hN:Mods S W W') (hS:∀ g,v.ownBlock=some g→¬ S g):OwW base W' v n f:=⟨h.1,h.2.1,Mods.ownsRow hN h.2.2 hS⟩
theorem OwW.new {base:Nat} {W W':World} {v:Value} {n:Nat} {f:Nat→List Value} (h:OwW base W v n f) (hN:New W W'):OwW base W' v n f:=h.mods hN fun _ _ h=>h
theorem OwW.congr {base:Nat} {W:World} {v:Value} {n:Nat} {f g:Nat→List Value} (h:OwW base W v n f) (hg:∀ i,(g i).length=3) (he:∀ i,i < n→f i=g i):OwW base W v n g :=
 ⟨hg,(fun i hi=>by rw [← he i hi];exact h.2.1 i hi),by rw [← flatF_congr he];exact h.2.2⟩
theorem OwW.slice {base:Nat} {W:World} {v:Value} {n:Nat} {f:Nat→List Value} (h:OwW base W v n f):∃ ao cap,v = .slice ao n cap:=owns_slice h.2.2
theorem OwW.lt {base:Nat} {W:World} {v:Value} {n:Nat} {f:Nat→List Value} (h:OwW base W v n f) {g:Nat} (hg:v.ownBlock=some g):base ≤ g∧g < W.heap.size:=World.ownsRow.lt h.2.2 g hg
theorem OwW.row {base:Nat} {W:World} {v:Value} {n:Nat} {f:Nat→List Value} (h:OwW base W v n f) (hn:n ≤ 281474976710656):RowR W v n 3 f :=
 ⟨hn,rows_ofOwns (by decide) h.1 h.2.2⟩
theorem OwW.tag {base:Nat} {W:World} {v:Value} {n:Nat} {f:Nat→List Value} (h:OwW base W v n f):TagAt W v 40:=fun g hg=>by
 rcases h.2.2.2 with ⟨rfl,_⟩ | ⟨b,cap,cur,rfl,_,hb,_⟩
 ·cases hg
 ·cases hg;exact ⟨_,_,hb⟩
theorem OwW.mono {base base':Nat} {W:World} {v:Value} {n:Nat} {f:Nat→List Value} (h:OwW base W v n f) (hb:base' ≤ base):OwW base' W v n f:=⟨h.1,h.2.1,owns_mono h.2.2 hb⟩
theorem OwW.frozen {base:Nat} {W:World} {v:Value} {n:Nat} {f:Nat→List Value} (h:OwW base W v n f) {g:Nat} (hg:v.ownBlock=some g) (o:Nat):W.frozen? ⟨g,o,none⟩=false:=by
 rcases h.2.2.2 with ⟨rfl,_⟩ | ⟨b,cap,cur,rfl,_,hb,_⟩
 ·cases hg
 ·cases hg;exact frozen_row hb
theorem run_append_W {o:Oper} {a:Act} {w W:World} {s x:Operand} {base:Nat} {v:Value} {n:Nat} {f:Nat→List Value} {c:List Value} (hop:o.op = .call { callee:=.builtin .append,args:=#[s,x],argTypes:=#[24,24] })
  (hs:a.eval s=v) (hx:a.eval x = .slice (some ⟨w.heap.size,0,none⟩) 1 1) (hW:w.alloc (.cells c.toArray 40)=W) (hc:c.length=3) (hone:∀ u ∈ c,u.oneCell'=true) (hown:OwW base w v n f) (hn:n ≤ 2000000) (hbase:base ≤ w.heap.size) :
  ∃ v' W',(execOp a.eval o).run Tryz.prog W = .ok (.value v') W'∧OwW base W' v' (n + 1) (fun i=>if i=n then c else f i)∧∀ (w0:World) (S:Nat→Prop),Mods S w0 w→(∀ g,v.ownBlock=some g→w0.heap.size ≤ g ∨ S g)→Mods S w0 W':=by
 obtain ⟨i0,hi,hz0,hz1,hz2⟩:=info_parts infoWt
 have hown':W.ownsRow base 40 3 v n (flatF n f):=by rw [← hW];exact hown.2.2.alloc _
 obtain ⟨v',w',hr,ho,hg,-⟩:=run_append_own (P:=Tryz.prog) W base 24 o.type 40 i0 _ 3 16 Tryz.underlying24 hi hz0 hz1 hz2 rfl (by decide) v n (flatF n f) hown' ⟨w.heap.size,0,none⟩ 1 1 c (by rw [hc]) (fun j u hj=>by
  rw [← hW,add_at,cell_of_row _ _ _ _ _ _ (World.alloc_heap_new w (.cells c.toArray 40))];simpa using hj) hone (by unfold maxLen;omega) (by omega) (by rw [← hW];simp;omega)
 refine ⟨v',w',?_,⟨fun i=>?_,fun i hi=>?_,?_⟩,fun w0 S hN hb=>?_⟩
 ·simp [execOp,hop,resolve,invoke,builtin,hs,hx,hr,Result.andThen]
 ·dsimp only;split
  ·exact hc
  ·exact hown.1 i
 ·dsimp only;split
  ·exact hone
  ·exact hown.2.1 i (by omega)
 ·rw [flatF_succ,if_pos rfl,flatF_congr (g:=f) (fun i hi=>if_neg (by omega))]
  exact ho
 ·rw [← hW] at hg
  exact (hN.alloc _).grown hg (fun g hg=>(hb g hg).imp id fun h=>⟨h,own_cells (hown.2.2.alloc _) hg⟩)
theorem wpList_append_W {ops:Array Oper} {Q:Exit→Act→World→Prop} {rest:List Oper} {o:Oper} {a:Act} {w W:World} (s x:Operand) {base:Nat} {v:Value} {n:Nat} {f:Nat→List Value} {c:List Value} (hgd:o.guard=none) (hop:o.op = .call { callee:=.builtin .append,args:=#[s,x],argTypes:=#[24,24] })
  (hs:a.eval s=v) (hx:a.eval x = .slice (some ⟨w.heap.size,0,none⟩) 1 1) (hW:w.alloc (.cells c.toArray 40)=W) (hc:c.length=3) (hone:∀ u ∈ c,u.oneCell'=true) (hown:OwW base w v n f) (hn:n ≤ 2000000) (hbase:base ≤ w.heap.size)
  (h:∀ v' W',OwW base W' v' (n + 1) (fun i=>if i=n then c else f i)→(∀ (w0:World) (S:Nat→Prop),Mods S w0 w→(∀ g,v.ownBlock=some g→w0.heap.size ≤ g ∨ S g)→Mods S w0 W')→wpList Tryz.prog ops Q rest (a.put o.dst v') W'):wpList Tryz.prog ops Q (o::rest) a W:=by
 refine wpList_plain hgd fun K hK=>?_
 obtain ⟨v',w',hr,ho,hg⟩:=run_append_W hop hs hx hW hc hone hown hn hbase
 unfold Oper.wp
 rw [hr]
 exact hK _ _ (h v' w' ho hg)
theorem OwW.reads {base:Nat} {W:World} {v:Value} {l:List WP} (h:OwW base W v l.length (wf l)) (hl:l.length ≤ 2000000):RdW W v l:=h.row (by omega)
theorem litw26 (t:Array Value) (h:t.size=26):∃ u:Nat→Value,t=(u 0::u 1::u 2::u 3::u 4::u 5::u 6::u 7::u 8::u 9::u 10::u 11::u 12::u 13::u 14::u 15::u 16::u 17::u 18::u 19::u 20::u 21::u 22::u 23::u 24::u 25::([]:List Value)).toArray:=⟨fun i=>t.getD i undef,range_lit t 26 h⟩
noncomputable def reg_slices_Equal_Wait_6:Code:=((Tryz.f89.body.bind (regionOf 6)).getD .skip)
theorem equal6w (t:Array Value) (hs:t.size=26) (w:World) {b1 o1 b2 o2 k n m1 m2:Nat} {y:Bool} {a0 a1 a2 d0 d1 d2:Value} {x2 x3 x4 x6 x7 x8 x9 x10 x11 x12:Value}
  (hq0:t.getD 0 undef = .slice (some ⟨b1,o1,none⟩) n m1)
  (hq1:t.getD 1 undef = .slice (some ⟨b2,o2,none⟩) n m2)
  (hq5:t.getD 5 undef = .int .i64 k)
  (hq13:t.getD 13 undef = .int .i64 k)
  (hq2:t.getD 2 undef=x2)
  (hq3:t.getD 3 undef=x3)
  (hq4:t.getD 4 undef=x4)
  (hq6:t.getD 6 undef=x6)
  (hq7:t.getD 7 undef=x7)
  (hq8:t.getD 8 undef=x8)
  (hq9:t.getD 9 undef=x9)
  (hq10:t.getD 10 undef=x10)
  (hq11:t.getD 11 undef=x11)
  (hq12:t.getD 12 undef=x12)
  (c0:w.cell? ⟨b1,o1 + k * 3,none⟩=some a0) (e0:w.cell? ⟨b2,o2 + k * 3,none⟩=some d0) (c1:w.cell? ⟨b1,o1 + k * 3 + 1,none⟩=some a1) (e1:w.cell? ⟨b2,o2 + k * 3 + 1,none⟩=some d1) (c2:w.cell? ⟨b1,o1 + k * 3 + 2,none⟩=some a2) (e2:w.cell? ⟨b2,o2 + k * 3 + 2,none⟩=some d2)
  (hk:k < n) (hq:∀ w,(binOp .neq 40 (.agg #[a0,a1,a2]) (.agg #[d0,d1,d2])).run Tryz.prog w = .ok (.bool y) w) :
  reg_slices_Equal_Wait_6.wp Tryz.prog (Only fun a' W'=>(a'.tmps.size=26∧a'.defers = []∧a'.tmps.getD 0 undef = .slice (some ⟨b1,o1,none⟩) n m1∧a'.tmps.getD 1 undef = .slice (some ⟨b2,o2,none⟩) n m2∧a'.tmps.getD 5 undef = .int .i64 k∧a'.tmps.getD 13 undef = .int .i64 k∧a'.tmps.getD 2 undef=x2∧a'.tmps.getD 3 undef=x3∧a'.tmps.getD 4 undef=x4∧a'.tmps.getD 6 undef=x6∧a'.tmps.getD 7 undef=x7∧a'.tmps.getD 8 undef=x8∧a'.tmps.getD 9 undef=x9∧a'.tmps.getD 10 undef=x10∧a'.tmps.getD 11 undef=x11∧a'.tmps.getD 12 undef=x12∧a'.tmps.getD 24 undef = .bool y)∧New w W') ⟨t,[]⟩ w:=by
 conv=>arg 2;whnf
 obtain ⟨u,rfl⟩:=litw26 t hs
 have hq0:u 0 = _:=hq0
 have hq1:u 1 = _:=hq1
 have hq5:u 5 = _:=hq5
 have hq13:u 13 = _:=hq13
 have hq2:u 2 = _:=hq2
 have hq3:u 3 = _:=hq3
 have hq4:u 4 = _:=hq4
 have hq6:u 6 = _:=hq6
 have hq7:u 7 = _:=hq7
 have hq8:u 8 = _:=hq8
 have hq9:u 9 = _:=hq9
 have hq10:u 10 = _:=hq10
 have hq11:u 11 = _:=hq11
 have hq12:u 12 = _:=hq12
 rw [hq0,hq1,hq5,hq13,hq2,hq3,hq4,hq6,hq7,hq8,hq9,hq10,hq11,hq12]
 clear hq0 hq1 hq5 hq13 hq2 hq3 hq4 hq6 hq7 hq8 hq9 hq10 hq11 hq12 hs
 have hS:New w w.drew:=(Mods.refl _ _).drew
 have hid:decide ((k:Int) < (n:Int))=true:=decide_eq_true (by omega)
 refine wp_region_held (S:=fun W=>New w W) (by kernel_rfl) ?_
 show wpAnyH _ _ _ _ _ 9 _ _ w.drew
 refine tkI 0 (some 16) (.slice (some ⟨b1,o1,none⟩) n m1) hS ?_
 simp only [pS]
 refine tkI 1 (some 17) (.int .i64 k) hS ?_
 simp only [pS]
 refine tkI 2 (some 18) (.pointer (some ⟨b1,o1 + k * 3,none⟩)) hS ?_
 simp only [pS]
 refine tkA 3 rfl (some 19) (.agg #[a0,a1,a2]) (.inl ⟨by rfl,fun W hW=>by have q0:=hW.cell c0 id;have q1:=hW.cell c1 id;have q2:=hW.cell c2 id;go_simp⟩) hS ?_
 simp only [pS]
 refine tkI 4 (some 20) (.slice (some ⟨b2,o2,none⟩) n m2) hS ?_
 simp only [pS]
 refine tkI 5 (some 21) (.int .i64 k) hS ?_
 simp only [pS]
 refine tkI 6 (some 22) (.pointer (some ⟨b2,o2 + k * 3,none⟩)) hS ?_
 simp only [pS]
 refine tkA 7 rfl (some 23) (.agg #[d0,d1,d2]) (.inl ⟨by rfl,fun W hW=>by have q0:=hW.cell e0 id;have q1:=hW.cell e1 id;have q2:=hW.cell e2 id;go_simp⟩) hS ?_
 simp only [pS]
 refine tkA 8 rfl (some 24) (.bool y) (.inl ⟨by rfl,fun W hW=>by have hz:=hq W;go_simp⟩) hS ?_
 simp only [pS]
 refine wpAnyH_done (by kernel_rfl) ?_ _
 exact ⟨⟨rfl,rfl,rfl,rfl,rfl,rfl,rfl,rfl,rfl,rfl,rfl,rfl,rfl,rfl,rfl,rfl,rfl⟩,hS⟩
theorem equal_W (v1 v2:Value) (l r:List WP) (w:World) (h1:RdW w v1 l) (h2:RdW w v2 r) :
  Calls Tryz.prog 89 #[v1,v2] w fun e w'=>e = .returned (.bool (decide (l=r)))∧New w w':=by
 have H1:=Lib.hid h1
 have H2:=Lib.hid h2
 obtain ⟨a1,m1,rfl⟩:=h1.slice
 obtain ⟨a2,m2,rfl⟩:=h2.slice
 have hn1:l.length ≤ 281474976710656:=h1.1
 clear h1 h2
 have hN0:New w w:=Mods.refl _ _
 obtain ⟨n,hn⟩:∃ n,l.length=n:=⟨_,rfl⟩
 obtain ⟨n2,hn2⟩:∃ n,r.length=n:=⟨_,rfl⟩
 by_cases hnn:n=n2
 ·subst hnn
  have hdd:decide ((n:Int)=(n:Int))=true:=decide_eq_true rfl
  have HE:=Lib.hid (list_same (l:=l) (r:=r) noW (by omega))
  obtain ⟨y,hy⟩:∃ y,decide (l=r)=y:=⟨_,rfl⟩
  have HY:=Lib.hid hy
  have Hn:=Lib.hid hn
  rw [hy,hn,hn2]
  rw [hn] at H1 hn1
  rw [hn2] at H2
  clear hy hn hn2
  go_enter Tryz.func89,Tryz.ntmps89
  go_wp2_with fail
  go_loopw [13] (fun t wr=>∃ k:Nat,k ≤ n∧t = .int .i64 k∧Hid (∀ j,j < k→l.getD j noW=r.getD j noW)∧New w wr) (fun t _=>n - (intOf t).toNat)
  case atStart=>exact ⟨0,Nat.zero_le _,rfl,Lib.hid fun i hi=>by omega,hN0⟩
  case round =>
   clear hN0
   obtain ⟨k,hk,rfl,hbef,hN⟩:=hrel
   by_cases hlt:k < n
   ·have hkd:decide ((k:Int) < (n:Int))=true:=decide_eq_true (by omega)
    obtain ⟨b1,o1,rfl,hrow⟩:=(H1.out.new hN).at.2.2 k hlt
    obtain ⟨b2,o2,rfl,hrow2⟩:=(H2.out.new hN).at.2.2 k hlt
    obtain ⟨k0,k1,k2⟩:=cells3w hrow
    obtain ⟨q0,q1,q2⟩:=cells3w hrow2
    have hq:=fun w=>nbinop_wait (l.getD k noW) (r.getD k noW) w
    unfold wcs at hq
    cases hp:decide (l.getD k noW=r.getD k noW) with
    | true =>
     have hh:Hid (∀ j,j < k + 1→l.getD j noW=r.getD j noW):=Lib.hid fun i hi=>by
      by_cases hik:i < k
      ·exact hbef.out i hik
      ·obtain rfl:i=k:=by omega
       exact of_decide_eq_true hp
     rw [hp] at hq
     clear hp hbef hrow hrow2
     go_upto_region 6 with fail
     refine piece (fun _=>_) (equal6w _ rfl wr rfl rfl rfl rfl rfl rfl rfl rfl rfl rfl rfl rfl rfl rfl k0 q0 k1 q1 k2 q2 hlt hq) ?_
     rintro ⟨z,dfs⟩ wr2 ⟨⟨hs,hd,hq0,hq1,hq5,hq13,hq2,hq3,hq4,hq6,hq7,hq8,hq9,hq10,hq11,hq12,hq24⟩,hN2⟩
     simp only at hs hd hq0 hq1 hq5 hq13 hq2 hq3 hq4 hq6 hq7 hq8 hq9 hq10 hq11 hq12 hq24
     subst hd
     obtain ⟨u,rfl⟩:=litw26 z hs
     have hp0:u 0 = .slice (some ⟨b1,o1,none⟩) n m1:=hq0
     have hp1:u 1 = .slice (some ⟨b2,o2,none⟩) n m2:=hq1
     have hp5:u 5 = .int .i64 k:=hq5
     have hp13:u 13 = .int .i64 k:=hq13
     have hp2:u 2=undef:=hq2
     have hp3:u 3=undef:=hq3
     have hp4:u 4=u4:=hq4
     have hp6:u 6 = .slice (some ⟨b1,o1,none⟩) n m1:=hq6
     have hp7:u 7 = .int .i64 n:=hq7
     have hp8:u 8 = .slice (some ⟨b2,o2,none⟩) n m2:=hq8
     have hp9:u 9 = .int .i64 n:=hq9
     have hp10:u 10 = .bool false:=hq10
     have hp11:u 11 = .slice (some ⟨b1,o1,none⟩) n m1:=hq11
     have hp12:u 12 = .int .i64 n:=hq12
     have hp24:u 24 = .bool (!true):=hq24
     rw [hp0,hp1,hp5,hp13,hp2,hp3,hp4,hp6,hp7,hp8,hp9,hp10,hp11,hp12,hp24]
     clear hp0 hq0 hp1 hq1 hp5 hq5 hp13 hq13 hp2 hq2 hp3 hq3 hp4 hq4 hp6 hq6 hp7 hq7 hp8 hq8 hp9 hq9 hp10 hq10 hp11 hq11 hp12 hq12 hp24 hq24 hs
     have hN:=hN.trans hN2
     clear k0 k1 k2 q0 q1 q2 hN2
     go_wp2_with fail
     go_roundw
     case rel=>exact ⟨k + 1,by omega,by go_num,hh,hN⟩
     case measure=>simp [intOf];omega
    | false =>
     obtain rfl:y=false:=by
      rw [← HY.out]
      refine decide_eq_false fun e=>?_
      rw [e] at hp
      simp at hp
     rw [hp] at hq
     clear hp hbef hrow hrow2 HE
     go_upto_region 6 with fail
     refine piece (fun _=>_) (equal6w _ rfl wr rfl rfl rfl rfl rfl rfl rfl rfl rfl rfl rfl rfl rfl rfl k0 q0 k1 q1 k2 q2 hlt hq) ?_
     rintro ⟨z,dfs⟩ wr2 ⟨⟨hs,hd,hq0,hq1,hq5,hq13,hq2,hq3,hq4,hq6,hq7,hq8,hq9,hq10,hq11,hq12,hq24⟩,hN2⟩
     simp only at hs hd hq0 hq1 hq5 hq13 hq2 hq3 hq4 hq6 hq7 hq8 hq9 hq10 hq11 hq12 hq24
     subst hd
     obtain ⟨u,rfl⟩:=litw26 z hs
     have hp0:u 0 = .slice (some ⟨b1,o1,none⟩) n m1:=hq0
     have hp1:u 1 = .slice (some ⟨b2,o2,none⟩) n m2:=hq1
     have hp5:u 5 = .int .i64 k:=hq5
     have hp13:u 13 = .int .i64 k:=hq13
     have hp2:u 2=undef:=hq2
     have hp3:u 3=undef:=hq3
     have hp4:u 4=u4:=hq4
     have hp6:u 6 = .slice (some ⟨b1,o1,none⟩) n m1:=hq6
     have hp7:u 7 = .int .i64 n:=hq7
     have hp8:u 8 = .slice (some ⟨b2,o2,none⟩) n m2:=hq8
     have hp9:u 9 = .int .i64 n:=hq9
     have hp10:u 10 = .bool false:=hq10
     have hp11:u 11 = .slice (some ⟨b1,o1,none⟩) n m1:=hq11
     have hp12:u 12 = .int .i64 n:=hq12
     have hp24:u 24 = .bool (!false):=hq24
     rw [hp0,hp1,hp5,hp13,hp2,hp3,hp4,hp6,hp7,hp8,hp9,hp10,hp11,hp12,hp24]
     clear hp0 hq0 hp1 hq1 hp5 hq5 hp13 hq13 hp2 hq2 hp3 hq3 hp4 hq4 hp6 hq6 hp7 hq7 hp8 hq8 hp9 hq9 hp10 hq10 hp11 hq11 hp12 hq12 hp24 hq24 hs
     have hN:=hN.trans hN2
     clear k0 k1 k2 q0 q1 q2 hN2
     go_wp2_with fail
     go_ret
     exact ⟨rfl,hN⟩
   ·have hkd:decide ((k:Int) < (n:Int))=false:=decide_eq_false (by omega)
    obtain rfl:y=true:=by
     rw [← HY.out]
     exact decide_eq_true (HE.out fun i hi=>hbef.out i (by have:=Hn.out;omega))
    clear HE hbef
    go_wp2_with fail
    go_ret
    exact ⟨rfl,hN⟩
 ·have hdd:decide ((n:Int)=(n2:Int))=false:=decide_eq_false (by omega)
  rw [show decide (l=r)=false from decide_eq_false fun e=>hnn (by rw [← hn,← hn2,e])]
  rw [hn,hn2]
  go_enter Tryz.func89,Tryz.ntmps89
  go_wp2_with fail
  go_ret
  exact ⟨rfl,hN0⟩
theorem clone_W (v:Value) (n:Nat) (f:Nat→List Value) (w:World) (hf:∀ i,(f i).length=3) (h1:∀ i,i < n→∀ u ∈ f i,u.oneCell'=true) (hv:RowR w v n 3 f) (hn:n ≤ 1000000000):Calls Tryz.prog 90 #[v] w fun e w'=>∃ v',e = .returned v'∧OwW w.heap.size w' v' n f∧New w w':=by
 obtain ⟨i0,hi,hz0,hz1,hz2⟩:=info_parts infoWt
 obtain ⟨ao,cap,rfl⟩:=hv.slice
 obtain ⟨g1,g2⟩:=hv.cells (by decide) hf
 clear hv
 cases ao with
 | none =>
  obtain rfl:n=0:=g1 rfl
  clear g1 g2
  have q:∀ (w:World) (a:Option Addr) (n c n' c':Nat),(binOp .eql 24 (.slice a n c) (.slice none n' c')).run Tryz.prog w = .ok (.bool a.isNone) w:=fun w a n c n' c'=>Lib.run_eql_slice_nil w _ _ a n c n' c' Tryz.underlying24
  go_enter Tryz.func90,Tryz.ntmps90
  go_wp2_with fail
  go_ret
  exact ⟨_,rfl,OwW.nil _ _ _ hf,Mods.refl _ _⟩
 | some a =>
  have hg2:=Lib.hid (g2 a rfl)
  have hfl:=flatF_len hf n
  have hone:=Lib.hid (flatF_one h1)
  have h1':=Lib.hid h1
  have hf':=Lib.hid hf
  obtain ⟨L,hL⟩:∃ L,flatF n f=L:=⟨_,rfl⟩
  have HL:=Lib.hid hL
  rw [hL] at hg2 hfl hone
  clear g1 g2 hf h1 hL
  have q:∀ (w:World) (a:Option Addr) (n c n' c':Nat),(binOp .eql 24 (.slice a n c) (.slice none n' c')).run Tryz.prog w = .ok (.bool a.isNone) w:=fun w a n c n' c'=>Lib.run_eql_slice_nil w _ _ a n c n' c' Tryz.underlying24
  go_enter Tryz.func90,Tryz.ntmps90
  go_wp2_with (at_builtin;refine wpList_append_own _ rfl _ _ 24 rfl w.heap.size 40 i0 _ 3 16 Tryz.underlying24 hi hz0 hz1 hz2 rfl (by decide) _ _ _ rfl (World.ownsRow_made w #[] 0 (Nat.le_refl _) (Nat.zero_le _) rfl) a n cap L rfl ?qc1 ?qc2 ?qc3 ?qc4 ?qc5 ?qc6 ?_)
  case qc1=>omega
  case qc2 =>
   intro j u hj
   exact Lib.cell?_alloc_some _ (hg2.out j u hj)
  case qc3=>exact hone.out
  case qc4=>unfold maxLen;omega
  case qc5=>omega
  case qc6=>simp
  intro v' w1 hown hgrow hnil
  go_wp2_with fail
  go_ret
  refine ⟨v',rfl,⟨hf'.out,h1'.out,?_⟩,((Mods.refl _ w).alloc _).grown hgrow (by intro k hk;simp [Value.ownBlock] at hk;exact .inl (by omega))⟩
  rw [HL.out]
  simpa using hown


def withinP (last s:Int):Bool:=oddP s && (decide (last < s) && decide (s - last ≤ 16))
theorem within_p (last s:Int) (v:Value) (w:World) (h0:0 ≤ last) (h1:last < 2147483648):Calls Tryz.prog 47 #[.agg #[.int .i64 last,v],.int .i64 s] w fun e w'=>e = .returned (.bool (withinP last s))∧New w w':=by
 have hA:New w (w.alloc (.cells #[.int .i64 last,v] 26)):=(Mods.refl _ _).alloc _
 have r0:=World.alloc_heap_new w (.cells #[.int .i64 last,v] 26)
 obtain ⟨B,hB⟩:∃ B,w.heap.size=B:=⟨_,rfl⟩
 have HO:=Lib.hid (odd_p s (w.alloc (.cells #[.int .i64 last,v] 26)))
 have hsz:B < (w.alloc (.cells #[.int .i64 last,v] 26)).heap.size:=by simp [← hB]
 cases ho:oddP s with
 | false =>
  have hw:withinP last s=false:=by unfold withinP;rw [ho];rfl
  rw [hw]
  rw [ho] at HO
  go_enter Tryz.func47,Tryz.ntmps47
  go_wp2_with fail
  refine HO.out.mono ?_
  rintro e w1 ⟨rfl,rfl⟩
  go_wp2
  go_ret
  exact ⟨rfl,hA⟩
 | true =>
  have hs:0 < s∧s < 2147483648∧s % 2=1:=by unfold oddP at ho;exact of_decide_eq_true ho
  rw [ho] at HO
  by_cases hl:last < s
  ·have hw:withinP last s=decide (s - last ≤ 16):=by unfold withinP;rw [ho,decide_eq_true hl];rfl
   rw [hw]
   go_enter Tryz.func47,Tryz.ntmps47
   go_wp2_with fail
   refine HO.out.mono ?_
   rintro e w1 ⟨rfl,rfl⟩
   go_wp2
   go_ret
   exact ⟨rfl,hA⟩
  ·have hw:withinP last s=false:=by unfold withinP;rw [ho,decide_eq_false hl];rfl
   rw [hw]
   go_enter Tryz.func47,Tryz.ntmps47
   go_wp2_with fail
   refine HO.out.mono ?_
   rintro e w1 ⟨rfl,rfl⟩
   go_wp2
   go_ret
   exact ⟨rfl,hA⟩
theorem same_p (l1 l2:Int) (v1 v2:Value) (a b:List WP) (w:World) (h1:RdW w v1 a) (h2:RdW w v2 b) :
  Calls Tryz.prog 44 #[.agg #[.int .i64 l1,v1],.agg #[.int .i64 l2,v2]] w fun e w'=>e = .returned (.bool (decide (l1=l2) && decide (a=b)))∧New w w':=by
 have hA:New w ((w.alloc (.cells #[.int .i64 l1,v1] 26)).alloc (.cells #[.int .i64 l2,v2] 26)):=((Mods.refl _ _).alloc _).alloc _
 have HE:=Lib.hid (fun W (hN:New w W)=>equal_W v1 v2 a b W (h1.new hN) (h2.new hN))
 obtain ⟨z,hz⟩:∃ z,decide (a=b)=z:=⟨_,rfl⟩
 rw [hz] at HE ⊢
 obtain ⟨a1,m1,rfl⟩:=h1.slice
 obtain ⟨a2,m2,rfl⟩:=h2.slice
 clear h1 h2 hz
 by_cases hl:l1=l2
 ·rw [decide_eq_true hl]
  subst hl
  go_enter Tryz.func44,Tryz.ntmps44
  go_wp2_with fail
  refine (HE.out _ hA).mono ?_
  rintro e w1 ⟨rfl,hk⟩
  go_wp2
  go_ret
  exact ⟨rfl,hA.trans hk⟩
 ·rw [decide_eq_false hl]
  go_enter Tryz.func44,Tryz.ntmps44
  go_wp2
  go_ret
  exact ⟨rfl,hA⟩


theorem sizeRp:(Tryz.prog.info? 26).map (·.size)=some 2:=by kernel_rfl
theorem pc_facts {W:World} {B:Nat} {l:Int} {v:Value} (h:W.heap[B]? = some (.cells #[.int .i64 l,v] 26 (0,0))):(W.cell? ⟨B,0,none⟩=some (.int .i64 l)∧W.cell? ⟨B,1,none⟩=some v)∧W.frozen? ⟨B,0,none⟩=false∧W.frozen? ⟨B,1,none⟩=false :=
 ⟨⟨cell_of_row _ _ 0 _ _ _ h,cell_of_row _ _ 1 _ _ _ h⟩,frozen_row (i:=0) h,frozen_row (i:=1) h⟩
theorem own_p (l:Int) (v:Value) (d:List WP) (w:World) (h:RdW w v d) (hd:d.length ≤ 1000000) :
  Calls Tryz.prog 45 #[.agg #[.int .i64 l,v]] w fun e w'=>∃ v',e = .returned (.agg #[.int .i64 l,v'])∧OwW w.heap.size w' v' d.length (wf d)∧New w w':=by
 have r0:=World.alloc_heap_new w (.cells #[.int .i64 l,v] 26)
 have hW0:w.alloc (.cells #[.int .i64 l,v] 26)=w.alloc (.cells #[.int .i64 l,v] 26):=rfl
 have hs0:(w.alloc (.cells #[.int .i64 l,v] 26)).heap.size=w.heap.size + 1:=by simp
 have hN0:New w (w.alloc (.cells #[.int .i64 l,v] 26)):=(Mods.refl _ _).alloc _
 obtain ⟨W0,hW0⟩:∃ W,w.alloc (.cells #[.int .i64 l,v] 26)=W:=⟨_,rfl⟩
 rw [hW0] at r0 hN0 hs0
 have r1:=World.alloc_heap_new W0 (.cells #[.int .i64 0,.slice none 0 0] 26)
 have hA1:New W0 (W0.alloc (.cells #[.int .i64 0,.slice none 0 0] 26)):=(Mods.refl _ _).alloc _
 obtain ⟨W1,hW1⟩:∃ W,W0.alloc (.cells #[.int .i64 0,.slice none 0 0] 26)=W:=⟨_,rfl⟩
 rw [hW1] at r1 hA1
 replace r0:=hA1.heap r0 id
 have hN1:=hN0.trans hA1
 have HC:=Lib.hid (clone_W v d.length (wf d) W1 (wf_len d) (fun i hi=>wcs_one _) (h.new hN1) (by omega))
 have hl1:W1.heap.size=w.heap.size + 2:=by rw [← hW1];simp;omega
 obtain ⟨ao,cap,rfl⟩:=h.slice
 clear h
 obtain ⟨B,hB⟩:∃ B,w.heap.size=B:=⟨_,rfl⟩
 have HB:=Lib.hid hB
 obtain ⟨C,hC⟩:∃ C,W0.heap.size=C:=⟨_,rfl⟩
 have hBC:C=B + 1:=by omega
 go_enter Tryz.func45,Tryz.ntmps45
 go_upto_region 1 with fail
 rw [hB] at r0
 rw [hC] at r1
 subst hBC
 clear hW0 hW1 hA1 hN0 hs0 hC hB
 obtain ⟨⟨k0,k1⟩,k2,k3⟩:=pc_facts r0
 go_wp2_with fail
 refine HC.out.mono ?_
 rintro e w1 ⟨v',rfl,hO,hk⟩
 replace r0:=hk.heap r0 id
 replace r1:=hk.heap r1 id
 obtain ⟨a',c',rfl⟩:=hO.slice
 obtain ⟨⟨k0,k1⟩,k2,k3⟩:=pc_facts r0
 go_upto_region 2 with fail
 have hM:=setMods w1 B 1 (.slice a' d.length c')
 have r0':=setCell_heap (i:=1) r0 (.slice a' d.length c')
 replace r1:=hM.heap r1 (by omega)
 have hB:=HB.out
 replace hO:=hO.mods hM (by intro g hg e;have:=hO.lt hg;omega)
 obtain ⟨W2,hW2⟩:∃ W,w1.setCell ⟨B,1,none⟩ (.slice a' d.length c')=W:=⟨_,rfl⟩
 rw [hW2] at hM r0' r1 hO ⊢
 simp only [pS] at r0'
 obtain ⟨⟨k0,k1⟩,k2,k3⟩:=pc_facts r0'
 obtain ⟨⟨q0,q1⟩,q2,q3⟩:=pc_facts r1
 have hN2:New w W2:=(hN1.trans hk).trans' hM (by omega)
 clear hW2 hM hk
 go_wp2_with fail
 have s1:=setCell_heap (i:=0) r1 (.int .i64 l)
 have s2:=setCell_heap (i:=1) s1 (.slice a' d.length c')
 simp only [pS] at s2
 have hM:=((Mods.refl (fun b=>b=B + 1) W2).setCell (p:=⟨B + 1,0,none⟩) (.inr rfl) (.int .i64 l)).setCell (p:=⟨B + 1,1,none⟩) (.inr rfl) (.slice a' d.length c')
 refine bodyPost_ret (v:=.agg #[.int .i64 l,.slice a' d.length c']) (results_cell_row rfl _ _ (B + 1) 26 _ (0,0) _ rfl s2 Tryz.underlying26 rfl sizeRp) rfl ?_
 exact ⟨_,rfl,(hO.mods hM (by intro g hg e;have:=hO.lt hg;omega)).mono (by omega),hN2.trans' hM (by omega)⟩
end Go.Proofs.YtkiiameibdhdfaaGreatDoor
namespace Go.Cs
open Go.RowKit
variable {P:Program} {k:TypeId} {α:Type} {enc:α→Value}
def MapD (enc:α→Value) (W:World) (B n:Nat) (f:α→Option Value):Prop :=
 ∃ es c,W.heap[B]? = some (.map es c)∧es.size=n∧(∀ (i j:Nat) (e e':MapEntry),es[i]? = some e→es[j]? = some e'→e.key=e'.key→i=j)∧(∀ (i:Nat) e,es[i]? = some e→∃ a,e.key=enc a∧f a=some e.val)∧∀ a v,f a=some v→∃ (i:Nat) (e:MapEntry),es[i]? = some e∧e.key=enc a
theorem MapD.fn {W:World} {B n:Nat} {f:α→Option Value} (h:MapD enc W B n f):MapFn enc W B n f:=by
 obtain ⟨es,c,h1,hn,-,h2,h3⟩:=h
 refine ⟨es,c,h1,by omega,fun e he=>?_,fun a v ha=>?_⟩
 ·obtain ⟨i,hi⟩:=List.getElem?_of_mem he
  exact h2 i e (by simpa using hi)
 ·obtain ⟨i,e,hi,hk⟩:=h3 a v ha
  exact ⟨e,List.mem_of_getElem? (by simpa using hi),hk⟩
theorem MapD.made {W:World} {B c:Nat} (h:W.heap[B]? = some (.map #[] c)):MapD enc W B 0 (fun _=>none) :=
 ⟨#[],c,h,rfl,fun i j e e' he=>by simp at he,fun i e he=>by simp at he,fun a v h=>by cases h⟩
theorem MapD.keep {W W':World} {B n:Nat} {f:α→Option Value} (h:MapD enc W B n f) (hk:∀ o,W.heap[B]? = some o→W'.heap[B]? = some o):MapD enc W' B n f:=by
 obtain ⟨es,c,h1,r⟩:=h
 exact ⟨es,c,hk _ h1,r⟩
theorem MapD.new {W W':World} {B n:Nat} {f:α→Option Value} (h:MapD enc W B n f) (hN:New W W'):MapD enc W' B n f:=h.keep fun _ ho=>hN.heap ho id
theorem MapD.congr {W:World} {B n:Nat} {f g:α→Option Value} (h:MapD enc W B n f) (hf:∀ a,f a=g a):MapD enc W B n g:=by
 have e:f=g:=funext hf
 rwa [← e]
theorem MapD.put [DecidableEq α] (K:KeyLike P k enc) {t e:TypeId} (ht:P.underlying t=some (.map k e)) {W:World} {B n:Nat} {f:α→Option Value} (h:MapD enc W B n f) (a:α) (v:Value) :
  ∃ o,(Instr.mapUpdate t (.map (some B)) (enc a) v).run P W = .ok () (W.putObj B o)∧o.isCells=false∧MapD enc (W.putObj B o) B (if (f a).isSome then n else n + 1) (fun b=>if b=a then some v else f b):=by
 obtain ⟨es,c,h1,hn,hu,h2,h3⟩:=h
 have hg:=MapKept.run_getObj_map (P:=P) h1
 have hs:=fun o=>MapKept.run_setObj_map (P:=P) o h1
 have hlt:=(Array.getElem?_eq_some_iff.1 h1).1
 rcases K.find W a es.toList (fun e he=>by
  obtain ⟨i,hi⟩:=List.getElem?_of_mem he
  obtain ⟨b,hb,_⟩:=h2 i e (by simpa using hi)
  exact ⟨b,hb⟩) with ⟨hf,hne⟩ | ⟨j,e',hf,hj,hk⟩
 ·have hfa:f a=none:=by
   cases hv:f a with
   | none=>rfl
   | some u =>
    obtain ⟨i,e,hi,hk⟩:=h3 a u hv
    exact absurd hk (hne e (List.mem_of_getElem? (by simpa using hi)))
  rw [hfa]
  have hp:∀ (i:Nat) (x:MapEntry),(es.push { key:=enc a,val:=v,born:=c })[i]? = some x→(i < es.size∧es[i]? = some x) ∨ (i=es.size∧x = { key:=enc a,val:=v,born:=c }):=fun i x hx=>by
   rw [Array.getElem?_push] at hx
   split at hx
   ·exact .inr ⟨by assumption,(Option.some.inj hx).symm⟩
   ·exact .inl ⟨(Array.getElem?_eq_some_iff.1 hx).1,hx⟩
  have hnk:∀ (i:Nat) (x:MapEntry),es[i]? = some x→x.key ≠ enc a:=fun i x hx=>hne x (List.mem_of_getElem? (by simpa using hx))
  refine ⟨.map (es.push { key:=enc a,val:=v,born:=c }) (c + 1),?_,rfl,es.push { key:=enc a,val:=v,born:=c },c + 1,World.putObj_heap_same hlt,by simp;omega,?_,?_,?_⟩
  ·simp only [Instr.mapUpdate,Sem.run_bind,run_underlying ht W,Result.andThen_ok,hg,K.check,hf,hs]
   rfl
  ·intro i j x y hx hy hxy
   rcases hp i x hx with ⟨l1,g1⟩ | ⟨l1,rfl⟩ <;> rcases hp j y hy with ⟨l2,g2⟩ | ⟨l2,rfl⟩
   ·exact hu i j x y g1 g2 hxy
   ·exact absurd hxy (hnk i x g1)
   ·exact absurd hxy.symm (hnk j y g2)
   ·omega
  ·intro i x hx
   rcases hp i x hx with ⟨l1,g1⟩ | ⟨l1,rfl⟩
   ·obtain ⟨b,hb,hv⟩:=h2 i x g1
    exact ⟨b,hb,(if_neg (fun e=>hnk i x g1 (by rw [hb,e]))).trans hv⟩
   ·exact ⟨a,rfl,by simp⟩
  ·intro b u hb
   by_cases e:b=a
   ·exact ⟨es.size,{ key:=enc a,val:=v,born:=c },by simp,by rw [e]⟩
   ·have hb:(if b=a then some v else f b)=some u:=hb
    rw [if_neg e] at hb
    obtain ⟨i,x,hx,hk⟩:=h3 b u hb
    have hi:=(Array.getElem?_eq_some_iff.1 hx).1
    exact ⟨i,x,by rw [Array.getElem?_push,if_neg (by omega)];exact hx,hk⟩
 ·have hj':es[j]? = some e':=by simpa using hj
  obtain ⟨b,hb,hv⟩:=h2 j e' hj'
  have hba:b=a:=K.inj _ _ (hb.symm.trans hk)
  rw [hba] at hv
  rw [hv]
  let g:MapEntry→MapEntry:=fun x=>{ x with key:=enc a,val:=v }
  have hp:∀ (i:Nat) (x:MapEntry),(es.modify j g)[i]? = some x→(i ≠ j∧es[i]? = some x) ∨ (i=j∧x=g e'):=fun i x hx=>by
   rw [Array.getElem?_modify] at hx
   split at hx
   ·rename_i hij
    subst hij
    rw [hj'] at hx
    exact .inr ⟨rfl,(Option.some.inj hx).symm⟩
   ·exact .inl ⟨fun h=>by omega,hx⟩
  have hkey:∀ (i:Nat) (x:MapEntry),(es.modify j g)[i]? = some x→∃ y,es[i]? = some y∧x.key=y.key:=fun i x hx=>by
   rcases hp i x hx with ⟨-,g1⟩ | ⟨rfl,rfl⟩
   ·exact ⟨x,g1,rfl⟩
   ·exact ⟨e',hj',hk.symm⟩
  refine ⟨.map (es.modify j g) c,?_,rfl,es.modify j g,c,World.putObj_heap_same hlt,by simp;omega,?_,?_,?_⟩
  ·simp only [Instr.mapUpdate,Sem.run_bind,run_underlying ht W,Result.andThen_ok,hg,K.check,hf,hj',Option.map_some,Option.getD_some,hk,K.stays,hs]
   rfl
  ·intro i i' x y hx hy hxy
   obtain ⟨x',hx',ex⟩:=hkey i x hx
   obtain ⟨y',hy',ey⟩:=hkey i' y hy
   exact hu i i' x' y' hx' hy' (by rw [← ex,← ey,hxy])
  ·intro i x hx
   rcases hp i x hx with ⟨hij,g1⟩ | ⟨rfl,rfl⟩
   ·obtain ⟨b',hb',hv'⟩:=h2 i x g1
    refine ⟨b',hb',(if_neg fun e=>hij (hu i j x e' g1 hj' (by rw [hb',e,hk]))).trans hv'⟩
   ·exact ⟨a,rfl,by simp [g]⟩
  ·intro b' u hb'
   have hmod:∀ (i:Nat) (y:MapEntry),es[i]? = some y→∃ x,(es.modify j g)[i]? = some x∧x.key=y.key:=fun i y hy=>by
    by_cases hij:j=i
    ·subst hij
     rw [hj'] at hy
     cases hy
     exact ⟨g e',by rw [Array.getElem?_modify,if_pos rfl,hj'];rfl,hk.symm⟩
    ·exact ⟨y,by rw [Array.getElem?_modify,if_neg hij];exact hy,rfl⟩
   by_cases e:b'=a
   ·obtain ⟨x,hx,ek⟩:=hmod j e' hj'
    exact ⟨j,x,hx,by rw [ek,hk,e]⟩
   ·have hb':(if b'=a then some v else f b')=some u:=hb'
    rw [if_neg e] at hb'
    obtain ⟨i,y,hy,hk'⟩:=h3 b' u hb'
    obtain ⟨x,hx,ek⟩:=hmod i y hy
    exact ⟨i,x,hx,by rw [ek,hk']⟩
end Go.Cs
namespace Go.Proofs.YtkiiameibdhdfaaGreatDoor
open Go.RowKit Go.Cs
def k1 (k:IntKind) (n:Int):Value:=.agg #[.int k n]
theorem k1_inj (k:IntKind) (m n:Int) (h:k1 k m=k1 k n):m=n:=by simpa [k1] using h
theorem key_one {t e:TypeId} {k:IntKind} {i:TypeInfo} (hu:Tryz.prog.underlying t=some (.array 1 e)) (he:Tryz.prog.underlying e=some (.int k)) (hi:Tryz.prog.info? e=some i) (hc:Tryz.prog.cellsOf e=1):KeyLike Tryz.prog t (k1 k) :=
 .asked hu (fun a es i=>by cases es <;> rfl) (k1_inj k)
  (fun w em a=>by
   have h0:=fun w=>partAt e _ he rfl #[.int k a] 0 (.int k a) w rfl
   have hc':=fun w=>MapKept.run_checkKey (P:=Tryz.prog) (w:=w) (k:=.int k a) he rfl em 9998
   unfold Instr.checkKey k1
   simp [Sem.run_bind,run_underlying hu,run_sizeOf _ hi,hc,h0,hc',Std.Legacy.Range.forIn_eq_forIn_range',Std.Legacy.Range.size])
  (fun w a b=>by
   have h0:=fun (a:Int) w=>partAt e _ he rfl #[.int k a] 0 (.int k a) w rfl
   have ei:=fun w (a b:Int)=>run_equalIn_int w 9998 e k k a b he
   show (Op.equalIn (9999 + 1) t (k1 k a) (k1 k b)).run Tryz.prog w = _
   unfold k1
   rw [run_equalIn_array w 9999 _ _ hu hi,hc]
   simp only [List.range_succ,List.range_zero,List.nil_append,Op.eqItems,Nat.zero_mul,Sem.run_bind,h0,ei,Result.andThen_ok]
   by_cases h:a=b <;> simp [h,Sem.run_bind])
  (fun a=>by simp [k1,Instr.sameBits])
end Go.Proofs.YtkiiameibdhdfaaGreatDoor
namespace Go.Proofs.YtkiiameibdhdfaaGreatDoor
open Go.RowKit Go.Shelf Go.Cs
attribute [local go_sem] Oper.semAt_some


theorem info3:∃ i,Tryz.prog.info? 3=some i:=info_of_underlying Tryz.underlying3
theorem keyW:KeyLike Tryz.prog 90 (k1 .i64):=by
 obtain ⟨i,hi⟩:=info3
 exact key_one Tryz.underlying90 Tryz.underlying3 hi (by kernel_rfl)
def pv (x:WP):Value:=.agg #[.int .u8 x.u,.bool x.i]
def kF (d:List WP) (q:Int):Option Value:=(d.reverse.find? fun x=>decide (x.s=q)).map pv
def kN (d:List WP):Nat→Nat
 | 0=>0
 | k + 1=>if (kF (d.take k) (d.getD k noW).s).isSome then kN d k else kN d k + 1
theorem kF_step {d:List WP} {k:Nat} (hk:k < d.length) (q:Int):kF (d.take (k + 1)) q=if q=(d.getD k noW).s then some (pv (d.getD k noW)) else kF (d.take k) q:=by
 have e:d.take (k + 1)=d.take k ++ [d.getD k noW]:=by
  rw [List.take_add_one,List.getElem?_eq_getElem hk,List.getD_eq_getElem?_getD,List.getElem?_eq_getElem hk]
  rfl
 unfold kF
 rw [e,List.reverse_append,List.reverse_singleton,List.singleton_append,List.find?_cons]
 by_cases h:q=(d.getD k noW).s
 ·rw [if_pos h,decide_eq_true h.symm]
  rfl
 ·rw [if_neg h,decide_eq_false fun e=>h e.symm]
theorem kF_some {d:List WP} {q:Int}:(kF d q).isSome=true ↔ q ∈ d.map (·.s):=by
 unfold kF
 rw [Option.isSome_map,List.find?_isSome]
 simp only [List.mem_reverse,decide_eq_true_eq,List.mem_map]
theorem kN_le (d:List WP):∀ k,kN d k ≤ k
 | 0=>Nat.le_refl _
 | k + 1=>by
  have:=kN_le d k
  unfold kN
  split <;> omega
theorem kN_all (d:List WP):∀ k,k ≤ d.length→(kN d k=k ↔ ((d.take k).map (·.s)).Nodup)
 | 0,_=>by simp [kN]
 | k + 1,hk=>by
  have ih:=kN_all d k (by omega)
  have hle:=kN_le d k
  have e:d.take (k + 1)=d.take k ++ [d.getD k noW]:=by
   rw [List.take_add_one,List.getElem?_eq_getElem (by omega),List.getD_eq_getElem?_getD,List.getElem?_eq_getElem (by omega)]
   rfl
  have hm:=@kF_some (d.take k) (d.getD k noW).s
  rw [e,List.map_append,List.nodup_append]
  unfold kN
  split
  ·rename_i h
   refine ⟨fun h=>by omega,fun h2=>?_⟩
   exact absurd rfl (h2.2.2 _ (hm.1 h) _ (by simp))
  ·rename_i h
   constructor
   ·intro h2
    refine ⟨ih.1 (by omega),by simp,fun a ha b hb=>?_⟩
    simp only [List.map_cons,List.map_nil,List.mem_singleton] at hb
    rintro rfl
    subst hb
    exact h (hm.2 ha)
   ·rintro ⟨h2,-,-⟩
    have:=ih.2 h2
    omega
theorem run_mapUpd {P:Program} {o:Oper} {a:Act} {w w':World} (t:TypeId) (m x v:Operand) (ho:o.op = .insert t m x v) (h:(Instr.mapUpdate t (a.eval m) (a.eval x) (a.eval v)).run P w = .ok () w'):(execOp a.eval o).run P w = .ok .skip w':=by
 unfold execOp
 simp only [ho,Sem.run_bind,h]
 rfl
theorem known_p (l:Int) (v:Value) (d:List WP) (w:World) (h:RdW w v d) :
  Calls Tryz.prog 55 #[.agg #[.int .i64 l,v]] w fun e w'=>∃ M,e = .returned (.map (some M))∧MapD (k1 .i64) w' M (kN d d.length) (kF d)∧New w w':=by
 have H:=Lib.hid h
 obtain ⟨ao,cap,rfl⟩:=h.slice
 have hn1:d.length ≤ 281474976710656:=h.1
 obtain ⟨n,hn⟩:∃ n,d.length=n:=⟨_,rfl⟩
 rw [hn] at H hn1 ⊢
 have Hn:=Lib.hid hn
 clear h hn
 have hmm:=@run_makeMap Tryz.prog
 go_enter Tryz.func55,Tryz.ntmps55
 go_wp2_with fail
 clear hmm
 have hA:New w (w.alloc (.cells #[.int .i64 l,.slice ao n cap] 26)):=(Mods.refl _ _).alloc _
 have hs:(w.alloc (.cells #[.int .i64 l,.slice ao n cap] 26)).heap.size=w.heap.size + 1:=by simp
 obtain ⟨W0,hW0⟩:∃ W,w.alloc (.cells #[.int .i64 l,.slice ao n cap] 26)=W:=⟨_,rfl⟩
 rw [hW0] at hA hs ⊢
 have hm:=World.alloc_heap_new W0 (.map #[] 0)
 obtain ⟨W1,hW1⟩:∃ W,W0.alloc (.map #[] 0)=W:=⟨_,rfl⟩
 have hA1:New W0 W1:=by rw [← hW1];exact (Mods.refl _ _).alloc _
 obtain ⟨M,hM⟩:∃ M,w.heap.size + 1=M:=⟨_,rfl⟩
 rw [hW1,hs,hM] at hm
 rw [hW1,hM]
 have hN0:=hA.trans hA1
 have hwM:w.heap.size ≤ M:=by omega
 clear hW0 hW1 hA hA1 hs
 go_loopw [10] (fun t wr=>∃ k:Nat,k ≤ n∧t = .int .i64 k∧MapD (k1 .i64) wr M (kN d k) (kF (d.take k))∧New w wr) (fun t _=>n - (intOf t).toNat)
 case atStart=>exact ⟨0,Nat.zero_le _,rfl,(MapD.made hm).congr (fun q=>by simp [kF]),hN0⟩
 case round =>
  clear hN0 hm
  obtain ⟨k,hk,rfl,hD,hN⟩:=hrel
  by_cases hlt:k < n
  ·have hkd:decide ((k:Int) < (n:Int))=true:=decide_eq_true (by omega)
   obtain ⟨b1,o1,rfl,hrow⟩:=(H.out.new hN).at.2.2 k hlt
   obtain ⟨x,hx⟩:∃ x,d.getD k noW=x:=⟨_,rfl⟩
   have hrow:wr.rangeAt b1 (o1 + k * 3) (wcs x):=by rw [← hx];exact hrow
   obtain ⟨q0,q1,q2⟩:=cells3w hrow
   have hst:=fun q=>kF_step (d:=d) (k:=k) (by have:=Hn.out;omega) q
   have hkN:kN d (k + 1)=if (kF (d.take k) x.s).isSome then kN d k else kN d k + 1:=by rw [← hx];rfl
   rw [hx] at hst
   clear hx hrow
   have hA:New wr (wr.alloc (.cells #[.int .i64 x.s,.int .u8 x.u,.bool x.i] 40)):=(Mods.refl _ _).alloc _
   have r0:=World.alloc_heap_new wr (.cells #[.int .i64 x.s,.int .u8 x.u,.bool x.i] 40)
   obtain ⟨W2,hW2⟩:∃ W,wr.alloc (.cells #[.int .i64 x.s,.int .u8 x.u,.bool x.i] 40)=W:=⟨_,rfl⟩
   obtain ⟨X,hX⟩:∃ X,wr.heap.size=X:=⟨_,rfl⟩
   go_upto_region 5 with fail
   rw [hW2] at hA r0
   rw [hX] at r0
   replace hD:=hD.new hA
   replace hN:=hN.trans hA
   clear hA hW2 hX q0 q1 q2
   have q0:=cell_of_row _ _ 0 _ _ _ r0
   have q1:=cell_of_row _ _ 1 _ _ _ r0
   have q2:=cell_of_row _ _ 2 _ _ _ r0
   simp only [List.getElem?_toArray,List.getElem?_cons_zero,List.getElem?_cons_succ] at q0 q1 q2
   obtain ⟨ob,hrun,hob,hD'⟩:=hD.put keyW Tryz.underlying88 x.s (pv x)
   rw [← hkN] at hD'
   replace hD':=hD'.congr (g:=kF (d.take (k + 1))) (fun q=>(hst q).symm)
   unfold k1 pv at hrun
   clear hD hst hkN r0
   go_wp2_with (refine op_skip rfl (run_mapUpd 88 (.tmp 14) (.tmp 17) (.tmp 19) rfl hrun) ?_)
   go_roundw
   case rel=>exact ⟨k + 1,by omega,by go_num,hD',hN.putObj hwM ob⟩
   case measure=>simp [intOf];omega
  ·have hkd:decide ((k:Int) < (n:Int))=false:=decide_eq_false (by omega)
   obtain rfl:k=n:=by omega
   rw [List.take_of_length_le (by have:=Hn.out;omega)] at hD
   go_wp2_with fail
   go_ret
   exact ⟨M,rfl,hD,hN⟩
end Go.Proofs.YtkiiameibdhdfaaGreatDoor
