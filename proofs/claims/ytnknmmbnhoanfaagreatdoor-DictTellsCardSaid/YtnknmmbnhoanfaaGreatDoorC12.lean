/- Texts joined. -/
import Derived.Test.YtnknmmbnhoanfaaGreatDoorC11
import Derived.Test.YtnknmmbnhoanfaaGreatDoorC07
set_option linter.unusedSimpArgs false
set_option linter.unusedVariables false
set_option maxHeartbeats 16000000
set_option maxRecDepth 100000
namespace Go.Proofs.YtnknmmbnhoanfaaGreatDoor
open Go.RowKit Go.Shelf Go.Cs
attribute [local go_sem] Oper.semAt_some


noncomputable def reg_dict_own_1:Code:=((Tryz.f84.body.bind (regionOf 1)).getD .skip)
theorem own1 (t:Array Value) (hs:t.size=32) (w:World) {B n m ic pc:Nat} {ia pa:Option Addr} {x2:Value} {q:ByteArray} {y:Bool} {f g:Nat→List Value}
  (hq1:t.getD 1 undef = .pointer (some ⟨B,0,none⟩))
  (hq2:t.getD 2 undef=x2)
  (hB:w.heap[B]? = some (.cells #[.string q,.bool y,.slice ia n ic,.slice pa m pc] 44 (0,0)))
  (HX:Hid (∀ W,New w W→Calls Tryz.prog 144 #[.slice ia n ic] W fun e w'=>∃ v',e = .returned v'∧OwX w.heap.size w' v' n f∧New W w'))
  (HP:Hid (∀ W,New w W→Calls Tryz.prog 145 #[.slice pa m pc] W fun e w'=>∃ v',e = .returned v'∧OwP w.heap.size w' v' m g∧New W w')) :
  reg_dict_own_1.wp Tryz.prog (Only fun a' W'=>∃ iv' pv',(a'.tmps.size=32∧a'.defers = []∧a'.tmps.getD 1 undef = .pointer (some ⟨B,0,none⟩)∧a'.tmps.getD 2 undef=x2)∧W'.heap[B]? = some (.cells #[.string q,.bool y,iv',pv'] 44 (0,0))∧OwX w.heap.size W' iv' n f∧OwP w.heap.size W' pv' m g∧Mods (fun b=>b=B) w W') ⟨t,[]⟩ w:=by
 conv=>arg 2;whnf
 obtain ⟨u,rfl⟩:=lit32 t hs
 have hq1:u 1 = _:=hq1
 have hq2:u 2 = _:=hq2
 rw [hq1,hq2]
 clear hq1 hq2 hs
 have hN:New w w.drew:=(Mods.refl _ _).drew
 have hS:Mods (fun b=>b=B) w w.drew:=(Mods.refl _ _).drew
 have hBl:B < w.heap.size:=(Array.getElem?_eq_some_iff.1 hB).1
 have hBd:w.drew.heap[B]? = _:=hB
 have c2x:=cell_of_row _ _ 2 _ _ _ hBd
 have c3x:=cell_of_row _ _ 3 _ _ _ hBd
 simp only [gS] at c2x c3x
 refine wp_region_held (S:=fun W=>Mods (fun b=>b=B) w W) (by kernel_rfl) ?_
 show wpAnyH _ _ _ _ _ 10 _ _ w.drew
 refine tkI 0 (some 4) (.pointer (some ⟨B,2,none⟩)) hS ?_
 simp only [pS]
 refine tkI 3 (some 7) (.pointer (some ⟨B,3,none⟩)) hS ?_
 simp only [pS]
 refine wpAnyH_all (rs:=[1,4]) (by kernel_rfl) (by simp) ?_
 intro i hi
 simp only [List.mem_cons,List.not_mem_nil,or_false] at hi
 rcases hi with rfl | rfl
 ·refine opH_value (some 5) (w':=w.drew) (v:=.slice ia n ic) rfl (by rfl) rfl (by go_simp) ?_
  refine ⟨hS,?_⟩
  simp only [pS]
  refine wpAnyH_all (rs:=[2,4]) (by kernel_rfl) (by simp) ?_
  intro i hi
  simp only [List.mem_cons,List.not_mem_nil,or_false] at hi
  rcases hi with rfl | rfl
  ·refine opH_call (some 6) rfl (by rfl) rfl 144 #[.slice ia n ic] (by go_simp) ((HX.out _ hN).mono ?_)
   rintro e w2 ⟨iv',rfl,hox,hk⟩
   have hN:=hN.trans hk
   have hS:Mods (fun b=>b=B) w w2:=Mods.ofNew hN
   obtain ⟨ja,jc,rfl⟩:=hox.slice
   have rB:=hN.heap hB id
   have c2x:=cell_of_row _ _ 2 _ _ _ rB
   have c3x:=cell_of_row _ _ 3 _ _ _ rB
   simp only [gS] at c2x c3x
   clear hk
   refine ⟨_,rfl,hS,?_⟩
   simp only [pS]
   refine tkO 4 ?_
   refine opH_value (some 8) (w':=w2) (v:=.slice pa m pc) rfl (by rfl) rfl (by go_simp) ?_
   refine ⟨hS,?_⟩
   simp only [pS]
   refine tkI 6 (some 10) (.pointer (some ⟨B,2,none⟩)) hS ?_
   simp only [pS]
   refine tkO 5 ?_
   refine opH_call (some 9) rfl (by rfl) rfl 145 #[.slice pa m pc] (by go_simp) ((HP.out _ hN).mono ?_)
   rintro e w5 ⟨pv',rfl,hop,hk⟩
   have hox:=hox.new hk
   have hN:=hN.trans hk
   have hS:Mods (fun b=>b=B) w w5:=Mods.ofNew hN
   obtain ⟨qa,qc,rfl⟩:=hop.slice
   have rB:=hN.heap hB id
   have c2x:=cell_of_row _ _ 2 _ _ _ rB
   have c3x:=cell_of_row _ _ 3 _ _ _ rB
   simp only [gS] at c2x c3x
   have f2:=frozen_row (i:=2) rB
   clear hk
   refine ⟨_,rfl,hS,?_⟩
   simp only [pS]
   refine tkO 7 ?_
   refine opH_skip none (w':=w5.setCell ⟨B,2,none⟩ (.slice ja n jc)) rfl (by rfl) rfl (by go_simp) ?_
   have hm1:=setMods w5 B 2 (.slice ja n jc)
   have rB1:=setCell_heap (i:=2) rB (.slice ja n jc)
   obtain ⟨w6,hw6⟩:∃ w6,w5.setCell ⟨B,2,none⟩ (.slice ja n jc)=w6:=⟨_,rfl⟩
   rw [hw6] at hm1 rB1 ⊢
   have rB1:w6.heap[B]? = some (.cells #[.string q,.bool y,.slice ja n jc,.slice pa m pc] 44 (0,0)):=rB1
   have hS:=hS.trans hm1
   have c3y:=cell_of_row _ _ 3 _ _ _ rB1
   simp only [gS] at c3y
   have f3:=frozen_row (i:=3) rB1
   refine ⟨hS,?_⟩
   simp only [pS]
   refine tkI 8 (some 11) (.pointer (some ⟨B,3,none⟩)) hS ?_
   simp only [pS]
   refine tkO 9 ?_
   refine opH_skip none (w':=w6.setCell ⟨B,3,none⟩ (.slice qa m qc)) rfl (by rfl) rfl (by go_simp) ?_
   have hm2:=setMods w6 B 3 (.slice qa m qc)
   have rB2:=setCell_heap (i:=3) rB1 (.slice qa m qc)
   refine ⟨hS.trans hm2,?_⟩
   refine wpAnyH_done (by kernel_rfl) ?_ _
   have hmm:=hm1.trans hm2
   exact ⟨.slice ja n jc,.slice qa m qc,⟨rfl,rfl,rfl,rfl⟩,rB2,hox.mods hmm (fun g hg e=>by have:=(hox.lt hg).1;omega),hop.mods hmm (fun g hg e=>by have:=(hop.lt hg).1;omega),hS.trans hm2⟩
  ·refine opH_value (some 8) (w':=w.drew) (v:=.slice pa m pc) rfl (by rfl) rfl (by go_simp) ?_
   refine ⟨hS,?_⟩
   simp only [pS]
   refine tkO 2 ?_
   refine opH_call (some 6) rfl (by rfl) rfl 144 #[.slice ia n ic] (by go_simp) ((HX.out _ hN).mono ?_)
   rintro e w2 ⟨iv',rfl,hox,hk⟩
   have hN:=hN.trans hk
   have hS:Mods (fun b=>b=B) w w2:=Mods.ofNew hN
   obtain ⟨ja,jc,rfl⟩:=hox.slice
   have rB:=hN.heap hB id
   have c2x:=cell_of_row _ _ 2 _ _ _ rB
   have c3x:=cell_of_row _ _ 3 _ _ _ rB
   simp only [gS] at c2x c3x
   clear hk
   refine ⟨_,rfl,hS,?_⟩
   simp only [pS]
   refine tkI 6 (some 10) (.pointer (some ⟨B,2,none⟩)) hS ?_
   simp only [pS]
   refine tkO 5 ?_
   refine opH_call (some 9) rfl (by rfl) rfl 145 #[.slice pa m pc] (by go_simp) ((HP.out _ hN).mono ?_)
   rintro e w5 ⟨pv',rfl,hop,hk⟩
   have hox:=hox.new hk
   have hN:=hN.trans hk
   have hS:Mods (fun b=>b=B) w w5:=Mods.ofNew hN
   obtain ⟨qa,qc,rfl⟩:=hop.slice
   have rB:=hN.heap hB id
   have c2x:=cell_of_row _ _ 2 _ _ _ rB
   have c3x:=cell_of_row _ _ 3 _ _ _ rB
   simp only [gS] at c2x c3x
   have f2:=frozen_row (i:=2) rB
   clear hk
   refine ⟨_,rfl,hS,?_⟩
   simp only [pS]
   refine tkO 7 ?_
   refine opH_skip none (w':=w5.setCell ⟨B,2,none⟩ (.slice ja n jc)) rfl (by rfl) rfl (by go_simp) ?_
   have hm1:=setMods w5 B 2 (.slice ja n jc)
   have rB1:=setCell_heap (i:=2) rB (.slice ja n jc)
   obtain ⟨w6,hw6⟩:∃ w6,w5.setCell ⟨B,2,none⟩ (.slice ja n jc)=w6:=⟨_,rfl⟩
   rw [hw6] at hm1 rB1 ⊢
   have rB1:w6.heap[B]? = some (.cells #[.string q,.bool y,.slice ja n jc,.slice pa m pc] 44 (0,0)):=rB1
   have hS:=hS.trans hm1
   have c3y:=cell_of_row _ _ 3 _ _ _ rB1
   simp only [gS] at c3y
   have f3:=frozen_row (i:=3) rB1
   refine ⟨hS,?_⟩
   simp only [pS]
   refine tkI 8 (some 11) (.pointer (some ⟨B,3,none⟩)) hS ?_
   simp only [pS]
   refine tkO 9 ?_
   refine opH_skip none (w':=w6.setCell ⟨B,3,none⟩ (.slice qa m qc)) rfl (by rfl) rfl (by go_simp) ?_
   have hm2:=setMods w6 B 3 (.slice qa m qc)
   have rB2:=setCell_heap (i:=3) rB1 (.slice qa m qc)
   refine ⟨hS.trans hm2,?_⟩
   refine wpAnyH_done (by kernel_rfl) ?_ _
   have hmm:=hm1.trans hm2
   exact ⟨.slice ja n jc,.slice qa m qc,⟨rfl,rfl,rfl,rfl⟩,rB2,hox.mods hmm (fun g hg e=>by have:=(hox.lt hg).1;omega),hop.mods hmm (fun g hg e=>by have:=(hop.lt hg).1;omega),hS.trans hm2⟩
 ·refine opH_value (some 8) (w':=w.drew) (v:=.slice pa m pc) rfl (by rfl) rfl (by go_simp) ?_
  refine ⟨hS,?_⟩
  simp only [pS]
  refine tkO 1 ?_
  refine opH_value (some 5) (w':=w.drew) (v:=.slice ia n ic) rfl (by rfl) rfl (by go_simp) ?_
  refine ⟨hS,?_⟩
  simp only [pS]
  refine tkO 2 ?_
  refine opH_call (some 6) rfl (by rfl) rfl 144 #[.slice ia n ic] (by go_simp) ((HX.out _ hN).mono ?_)
  rintro e w2 ⟨iv',rfl,hox,hk⟩
  have hN:=hN.trans hk
  have hS:Mods (fun b=>b=B) w w2:=Mods.ofNew hN
  obtain ⟨ja,jc,rfl⟩:=hox.slice
  have rB:=hN.heap hB id
  have c2x:=cell_of_row _ _ 2 _ _ _ rB
  have c3x:=cell_of_row _ _ 3 _ _ _ rB
  simp only [gS] at c2x c3x
  clear hk
  refine ⟨_,rfl,hS,?_⟩
  simp only [pS]
  refine tkI 6 (some 10) (.pointer (some ⟨B,2,none⟩)) hS ?_
  simp only [pS]
  refine tkO 5 ?_
  refine opH_call (some 9) rfl (by rfl) rfl 145 #[.slice pa m pc] (by go_simp) ((HP.out _ hN).mono ?_)
  rintro e w5 ⟨pv',rfl,hop,hk⟩
  have hox:=hox.new hk
  have hN:=hN.trans hk
  have hS:Mods (fun b=>b=B) w w5:=Mods.ofNew hN
  obtain ⟨qa,qc,rfl⟩:=hop.slice
  have rB:=hN.heap hB id
  have c2x:=cell_of_row _ _ 2 _ _ _ rB
  have c3x:=cell_of_row _ _ 3 _ _ _ rB
  simp only [gS] at c2x c3x
  have f2:=frozen_row (i:=2) rB
  clear hk
  refine ⟨_,rfl,hS,?_⟩
  simp only [pS]
  refine tkO 7 ?_
  refine opH_skip none (w':=w5.setCell ⟨B,2,none⟩ (.slice ja n jc)) rfl (by rfl) rfl (by go_simp) ?_
  have hm1:=setMods w5 B 2 (.slice ja n jc)
  have rB1:=setCell_heap (i:=2) rB (.slice ja n jc)
  obtain ⟨w6,hw6⟩:∃ w6,w5.setCell ⟨B,2,none⟩ (.slice ja n jc)=w6:=⟨_,rfl⟩
  rw [hw6] at hm1 rB1 ⊢
  have rB1:w6.heap[B]? = some (.cells #[.string q,.bool y,.slice ja n jc,.slice pa m pc] 44 (0,0)):=rB1
  have hS:=hS.trans hm1
  have c3y:=cell_of_row _ _ 3 _ _ _ rB1
  simp only [gS] at c3y
  have f3:=frozen_row (i:=3) rB1
  refine ⟨hS,?_⟩
  simp only [pS]
  refine tkI 8 (some 11) (.pointer (some ⟨B,3,none⟩)) hS ?_
  simp only [pS]
  refine tkO 9 ?_
  refine opH_skip none (w':=w6.setCell ⟨B,3,none⟩ (.slice qa m qc)) rfl (by rfl) rfl (by go_simp) ?_
  have hm2:=setMods w6 B 3 (.slice qa m qc)
  have rB2:=setCell_heap (i:=3) rB1 (.slice qa m qc)
  refine ⟨hS.trans hm2,?_⟩
  refine wpAnyH_done (by kernel_rfl) ?_ _
  have hmm:=hm1.trans hm2
  exact ⟨.slice ja n jc,.slice qa m qc,⟨rfl,rfl,rfl,rfl⟩,rB2,hox.mods hmm (fun g hg e=>by have:=(hox.lt hg).1;omega),hop.mods hmm (fun g hg e=>by have:=(hop.lt hg).1;omega),hS.trans hm2⟩
noncomputable def reg_dict_own_5:Code:=((Tryz.f84.body.bind (regionOf 5)).getD .skip)
theorem own5 (t:Array Value) (hs:t.size=32) (w:World) {base B g i n m ic pc:Nat} {pa:Option Addr} {x0 x2 x4 x5 x6 x7 x8 x9 x10 x11 x12 x13 x31:Value} {f:Nat→List Value}
  (hq1:t.getD 1 undef = .pointer (some ⟨B,0,none⟩))
  (hq3:t.getD 3 undef = .int .i64 i)
  (hq14:t.getD 14 undef = .int .i64 n)
  (hq15:t.getD 15 undef = .int .i64 i)
  (hq0:t.getD 0 undef=x0)
  (hq2:t.getD 2 undef=x2)
  (hq4:t.getD 4 undef=x4)
  (hq5:t.getD 5 undef=x5)
  (hq6:t.getD 6 undef=x6)
  (hq7:t.getD 7 undef=x7)
  (hq8:t.getD 8 undef=x8)
  (hq9:t.getD 9 undef=x9)
  (hq10:t.getD 10 undef=x10)
  (hq11:t.getD 11 undef=x11)
  (hq12:t.getD 12 undef=x12)
  (hq13:t.getD 13 undef=x13)
  (hq31:t.getD 31 undef=x31)
  (c2:w.cell? ⟨B,2,none⟩=some (.slice (some ⟨g,0,none⟩) n ic)) (hi:i < n) (hgB:¬ B=g) (hc:w.cell? ⟨g,i * 5 + 4,none⟩=some (.slice pa m pc)) (hfz:Hid (∀ W,New w W→W.frozen? ⟨g,i * 5 + 4,none⟩=false))
  (HP:Hid (∀ W,New w W→Calls Tryz.prog 145 #[.slice pa m pc] W fun e w'=>∃ v',e = .returned v'∧OwP base w' v' m f∧New W w')) :
  reg_dict_own_5.wp Tryz.prog (Only fun a' W'=>∃ pv' w2,(a'.tmps.size=32∧a'.defers = []∧a'.tmps.getD 1 undef = .pointer (some ⟨B,0,none⟩)∧a'.tmps.getD 3 undef = .int .i64 i∧a'.tmps.getD 14 undef = .int .i64 n∧a'.tmps.getD 15 undef = .int .i64 i∧a'.tmps.getD 0 undef=x0∧a'.tmps.getD 2 undef=x2∧a'.tmps.getD 4 undef=x4∧a'.tmps.getD 5 undef=x5∧a'.tmps.getD 6 undef=x6∧a'.tmps.getD 7 undef=x7∧a'.tmps.getD 8 undef=x8∧a'.tmps.getD 9 undef=x9∧a'.tmps.getD 10 undef=x10∧a'.tmps.getD 11 undef=x11∧a'.tmps.getD 12 undef=x12∧a'.tmps.getD 13 undef=x13∧a'.tmps.getD 31 undef=x31)∧W'=w2.setCell ⟨g,i * 5 + 4,none⟩ pv'∧New w w2∧OwP base w2 pv' m f) ⟨t,[]⟩ w:=by
 conv=>arg 2;whnf
 obtain ⟨u,rfl⟩:=lit32 t hs
 have hq1:u 1 = _:=hq1
 have hq3:u 3 = _:=hq3
 have hq14:u 14 = _:=hq14
 have hq15:u 15 = _:=hq15
 have hq0:u 0 = _:=hq0
 have hq2:u 2 = _:=hq2
 have hq4:u 4 = _:=hq4
 have hq5:u 5 = _:=hq5
 have hq6:u 6 = _:=hq6
 have hq7:u 7 = _:=hq7
 have hq8:u 8 = _:=hq8
 have hq9:u 9 = _:=hq9
 have hq10:u 10 = _:=hq10
 have hq11:u 11 = _:=hq11
 have hq12:u 12 = _:=hq12
 have hq13:u 13 = _:=hq13
 have hq31:u 31 = _:=hq31
 rw [hq1,hq3,hq14,hq15,hq0,hq2,hq4,hq5,hq6,hq7,hq8,hq9,hq10,hq11,hq12,hq13,hq31]
 clear hq1 hq3 hq14 hq15 hq0 hq2 hq4 hq5 hq6 hq7 hq8 hq9 hq10 hq11 hq12 hq13 hq31 hs
 have hN:New w w.drew:=(Mods.refl _ _).drew
 have hS:Mods (fun b=>b=g) w w.drew:=(Mods.refl _ _).drew
 have hid:decide ((i:Int) < (n:Int))=true:=decide_eq_true (by omega)
 have hc4:=hN.cell hc id
 have hCd:w.drew.cell? ⟨g,i * 5 + 4,none⟩ = _:=hc4
 refine wp_region_held (S:=fun W=>Mods (fun b=>b=g) w W) (by kernel_rfl) ?_
 show wpAnyH _ _ _ _ _ 13 _ _ w.drew
 refine tkI 0 (some 18) (.pointer (some ⟨B,2,none⟩)) hS ?_
 simp only [pS]
 refine tkA 1 rfl (some 19) (.slice (some ⟨g,0,none⟩) n ic) (.inl ⟨by rfl,fun W hW=>by have q:=hW.cell c2 hgB;go_simp⟩) hS ?_
 simp only [pS]
 refine tkI 2 (some 20) (.int .i64 i) hS ?_
 simp only [pS]
 refine tkI 3 (some 21) (.pointer (some ⟨B,2,none⟩)) hS ?_
 simp only [pS]
 refine tkA 4 rfl (some 22) (.slice (some ⟨g,0,none⟩) n ic) (.inl ⟨by rfl,fun W hW=>by have q:=hW.cell c2 hgB;go_simp⟩) hS ?_
 simp only [pS]
 refine tkI 5 (some 23) (.int .i64 i) hS ?_
 simp only [pS]
 refine tkI 6 (some 24) (.pointer (some ⟨g,i * 5,none⟩)) hS ?_
 simp only [pS]
 refine tkI 7 (some 25) (.pointer (some ⟨g,i * 5 + 4,none⟩)) hS ?_
 simp only [pS]
 refine tkO 8 ?_
 refine opH_value (some 26) (w':=w.drew) (v:=.slice pa m pc) rfl (by rfl) rfl (by go_simp) ?_
 refine ⟨hS,?_⟩
 simp only [pS]
 refine tkO 9 ?_
 refine opH_call (some 27) rfl (by rfl) rfl 145 #[.slice pa m pc] (by go_simp) ((HP.out _ hN).mono ?_)
 rintro e w2 ⟨pv',rfl,hop,hk⟩
 have hcw:=hk.cell hCd id
 have hN:=hN.trans hk
 have hS:Mods (fun b=>b=g) w w2:=Mods.ofNew hN
 obtain ⟨qa,qc,rfl⟩:=hop.slice
 have hfw:=hfz.out w2 hN
 clear hk
 refine ⟨_,rfl,hS,?_⟩
 simp only [pS]
 refine tkI 10 (some 28) (.pointer (some ⟨g,i * 5,none⟩)) hS ?_
 simp only [pS]
 refine tkI 11 (some 29) (.pointer (some ⟨g,i * 5 + 4,none⟩)) hS ?_
 simp only [pS]
 refine tkO 12 ?_
 refine opH_skip none (w':=w2.setCell ⟨g,i * 5 + 4,none⟩ (.slice qa m qc)) rfl (by rfl) rfl (by go_simp) ?_
 refine ⟨hS.trans (setMods w2 g _ _),?_⟩
 refine wpAnyH_done (by kernel_rfl) ?_ _
 exact ⟨.slice qa m qc,w2,⟨rfl,rfl,rfl,rfl,rfl,rfl,rfl,rfl,rfl,rfl,rfl,rfl,rfl,rfl,rfl,rfl,rfl,rfl,rfl⟩,rfl,hN,hop⟩


def OwnM (base:Nat) (W:World) (v:Value) (m:Bare.Mem):Prop:=∃ (ja pa:Option Addr) (jc pc:Nat) (ip:Nat→Value),v = .agg (mcs m (.slice ja m.items.length jc) (.slice pa m.params.length pc)).toArray∧OwX base W (.slice ja m.items.length jc) m.items.length (fun i=>ics (m.items.getD i Bare.noI) (ip i))∧(∀ i,i < m.items.length→OwP base W (ip i) (m.items.getD i Bare.noI).params.length (pf (m.items.getD i Bare.noI).params))∧OwP base W (.slice pa m.params.length pc) m.params.length (pf m.params)
theorem own_any {τ:Bool} (v:Value) (m:Bare.Mem) (w:World) (h:RdM τ w v m) (hil:m.items.length ≤ 2199023255552) (hpl:m.params.length ≤ 2513169434880) (hipl:∀ i,i < m.items.length→(m.items.getD i Bare.noI).params.length ≤ 2513169434880) :
  Calls Tryz.prog 84 #[v] w fun e w'=>∃ v',e = .returned v'∧OwnM w.heap.size w' v' m∧New w w':=by
 obtain ⟨iv,pv,rfl,⟨ip,h1,-,h3⟩,hP⟩:=h
 obtain ⟨ia,ic,rfl⟩:=h1.slice
 obtain ⟨pa,pc,rfl⟩:=hP.slice
 obtain ⟨f,hf⟩:∃ f:Nat→List Value,(fun i=>ics (m.items.getD i Bare.noI) (ip i))=f:=⟨_,rfl⟩
 have HF:=Lib.hid hf
 have hfl:∀ i,(f i).length=5:=fun i=>by rw [← hf];rfl
 have hone:∀ i,i < m.items.length→∀ u ∈ f i,u.oneCell'=true:=fun i hi=>by
  obtain ⟨a,c,e⟩:=(h3 i hi).slice
  rw [← hf]
  dsimp only
  rw [e]
  exact ics_one _ _ _ _
 rw [hf] at h1
 have HX:=Lib.hid (fun (w0:World) (hw:New w w0) (W:World) (hN:New w0 W)=>(clone_X (.slice ia m.items.length ic) m.items.length f W hfl hone (h1.new (hw.trans hN)) hil).mono (R':=fun e w'=>∃ v',e = .returned v'∧OwX w0.heap.size w' v' m.items.length f∧New W w') (by
  rintro e w' ⟨v',rfl,ho,hk⟩;exact ⟨v',rfl,ho.mono hN.size,hk⟩))
 have HP:=Lib.hid (fun (w0:World) (hw:New w w0) (W:World) (hN:New w0 W)=>(clone_P (.slice pa m.params.length pc) m.params.length (pf m.params) W (pf_len _) (fun i _=>pcs_one _) (hP.1.new (hw.trans hN)) hpl).mono (R':=fun e w'=>∃ v',e = .returned v'∧OwP w0.heap.size w' v' m.params.length (pf m.params)∧New W w') (by
  rintro e w' ⟨v',rfl,ho,hk⟩;exact ⟨v',rfl,ho.mono hN.size,hk⟩))
 have HPi:=Lib.hid (fun (w0:World) (hw:New w w0) (j:Nat) (hj:j < m.items.length) (wr:World) (hr:New w wr) (hb:w0.heap.size ≤ wr.heap.size) (W:World) (hN:New wr W)=>(clone_P (ip j) (m.items.getD j Bare.noI).params.length (pf (m.items.getD j Bare.noI).params) W (pf_len _) (fun i _=>pcs_one _) ((h3 j hj).1.new (hr.trans hN)) (hipl j hj)).mono (R':=fun e w'=>∃ v',e = .returned v'∧OwP w0.heap.size w' v' (m.items.getD j Bare.noI).params.length (pf (m.items.getD j Bare.noI).params)∧New W w') (by
  rintro e w' ⟨v',rfl,ho,hk⟩;exact ⟨v',rfl,ho.mono (Nat.le_trans hb hN.size),hk⟩))
 have HS:=Lib.hid (fun j hj=>(h3 j hj).slice)
 obtain ⟨n,hn⟩:∃ n,m.items.length=n:=⟨_,rfl⟩
 obtain ⟨k,hk⟩:∃ k,m.params.length=k:=⟨_,rfl⟩
 obtain ⟨K,hK⟩:∃ K,tx m.key=K:=⟨_,rfl⟩
 obtain ⟨y,hy⟩:∃ y,m.inner=y:=⟨_,rfl⟩
 have Hn:=Lib.hid hn
 have Hk:=Lib.hid hk
 have HK:=Lib.hid hK
 have HY:=Lib.hid hy
 unfold OwnM mcs
 rw [hn,hk,hK,hy]
 rw [hn] at HX HPi HS hil hone
 rw [hk] at HP hpl
 clear h1 hP h3 hn hk hK hy hipl hf
 go_enter Tryz.func84,Tryz.ntmps84
 go_upto_region 1 with fail
 obtain ⟨W1,hW1⟩:∃ W1,((w.alloc (.cells #[.string K,.bool y,.slice ia n ic,.slice pa k pc] 44)).alloc (.cells #[.string ⟨#[]⟩,.bool false,.slice none 0 0,.slice none 0 0] 44))=W1:=⟨_,rfl⟩
 have hN1:New w W1:=by rw [← hW1];exact ((Mods.refl _ _).alloc _).alloc _
 have rB:W1.heap[w.heap.size]? = some (.cells #[.string K,.bool y,.slice ia n ic,.slice pa k pc] 44 (0,0)):=by rw [← hW1];exact ((Mods.refl (fun _=>False) _).alloc _).heap (World.alloc_heap_new _ _) id
 have rR:W1.heap[w.heap.size + 1]? = some (.cells #[.string ⟨#[]⟩,.bool false,.slice none 0 0,.slice none 0 0] 44 (0,0)):=by
  have:=World.alloc_heap_new (w.alloc (.cells #[.string K,.bool y,.slice ia n ic,.slice pa k pc] 44)) (.cells #[.string ⟨#[]⟩,.bool false,.slice none 0 0,.slice none 0 0] 44)
  rw [hW1] at this
  simpa using this
 have hs1:W1.heap.size=w.heap.size + 2:=by rw [← hW1];simp
 rw [hW1]
 obtain ⟨b1,hb1⟩:∃ b1,W1.heap.size=b1:=⟨_,rfl⟩
 obtain ⟨B,hB⟩:∃ B,w.heap.size=B:=⟨_,rfl⟩
 rw [hB] at rB rR hs1 ⊢
 obtain ⟨R,hR⟩:∃ R,B + 1=R:=⟨_,rfl⟩
 rw [hR] at rR ⊢
 have hRB:¬ R=B:=by omega
 have HPi1:=Lib.hid (fun j hj (wr:World) hr (hb:b1 ≤ wr.heap.size)=>by have:=HPi.out W1 hN1 j hj wr hr (by rw [hb1];exact hb);rw [hb1] at this;exact this)
 refine piece (fun _=>_) (own1 _ rfl W1 rfl rfl rB (Lib.hid (HX.out W1 hN1)) (Lib.hid (HP.out W1 hN1))) ?_
 rintro ⟨z,dfs⟩ W2 ⟨iv2,pv2,⟨hs,hd,hq1,hq2⟩,rB2,hox,hop,hm2⟩
 simp only at hs hd hq1 hq2
 subst hd
 obtain ⟨uu,rfl⟩:=lit32 z hs
 have hp1:uu 1 = .pointer (some ⟨B,0,none⟩):=hq1
 have hp2:uu 2 = .pointer (some ⟨R,0,none⟩):=hq2
 rw [hp1,hp2]
 clear hp1 hq1 hp2 hq2 hs
 obtain ⟨ja,jc,rfl⟩:=hox.slice
 obtain ⟨qa,qc,rfl⟩:=hop.slice
 have rR2:=hm2.heap rR hRB
 have hbs:b1 ≤ W2.heap.size:=by have:=hm2.size;omega
 rw [hb1] at hox hop
 have hN2:New w W2:=((Mods.ofNew hN1).trans hm2).new (by omega)
 have c2:=cell_of_row _ _ 2 _ _ _ rB2
 simp only [gS] at c2
 have hox0:OwX b1 W2 (.slice ja n jc) n (fun j=>ics (m.items.getD j Bare.noI) (ip j)):=by rw [HF.out];exact hox
 clear hW1 rB rR hm2 HX HP HPi hox hN1
 go_wp2_with fail
 go_loopw [15] (fun t wr=>∃ (i:Nat) (jv:Nat→Value),i ≤ n∧t = .int .i64 i∧wr.heap[B]? = some (.cells #[.string K,.bool y,.slice ja n jc,.slice qa k qc] 44 (0,0))∧wr.heap[R]? = some (.cells #[.string ⟨#[]⟩,.bool false,.slice none 0 0,.slice none 0 0] 44 (0,0))∧OwX b1 wr (.slice ja n jc) n (fun j=>ics (m.items.getD j Bare.noI) (jv j))∧Hid (∀ j,j < i→OwP b1 wr (jv j) (m.items.getD j Bare.noI).params.length (pf (m.items.getD j Bare.noI).params))∧Hid (∀ j,i ≤ j→j < n→jv j=ip j)∧OwP b1 wr (.slice qa k qc) k (pf m.params)∧New w wr∧b1 ≤ wr.heap.size) (fun t _=>n - (intOf t).toNat)
 case atStart=>exact ⟨0,ip,Nat.zero_le _,rfl,rB2,rR2,hox0,Lib.hid (fun j hj=>by omega),Lib.hid (fun j _ _=>rfl),hop,hN2,hbs⟩
 case round =>
  clear rB2 rR2 hox0 hop hN2 hbs c2
  obtain ⟨i,jv,hin,rfl,rB,rR,hox,hnew,hold,hop,hN,hbs⟩:=hrel
  by_cases hlt:i < n
  ·have hkd:decide ((i:Int) < (n:Int))=true:=decide_eq_true (by omega)
   obtain ⟨g,rfl⟩:∃ g,ja=some ⟨g,0,none⟩:=by
    rcases hox.2.2.2 with ⟨h,h'⟩ | ⟨b',cap',cur,h,_⟩
    ·simp only [Value.slice.injEq] at h;omega
    ·simp only [Value.slice.injEq] at h;exact ⟨b',h.1⟩
   obtain ⟨a4,l4,e4⟩:=HS.out i hlt
   have hji:jv i = .slice a4 (m.items.getD i Bare.noI).params.length l4:=by rw [hold.out i (Nat.le_refl _) hlt];exact e4
   have hc:wr.cell? ⟨g,i * 5 + 4,none⟩=some (.slice a4 (m.items.getD i Bare.noI).params.length l4):=by
    obtain ⟨b',o',e',hrw⟩:=(hox.row (by omega)).at.2.2 i hlt
    obtain ⟨rfl,rfl⟩:b'=g∧o'=0:=by cases e';exact ⟨rfl,rfl⟩
    rw [Nat.zero_add] at hrw
    have:=hrw 4 (jv i) rfl
    rw [hji] at this
    exact this
   have hgl:b1 ≤ g∧g < wr.heap.size:=hox.lt rfl
   have hgB:¬ B=g:=by omega
   have c2:=cell_of_row _ _ 2 _ _ _ rB
   simp only [gS] at c2
   have HOX:=Lib.hid hox
   have hfz:Hid (∀ W,New wr W→W.frozen? ⟨g,i * 5 + 4,none⟩=false):=Lib.hid fun W hW=>(HOX.out.new hW).frozen rfl _
   obtain ⟨pl,hpl'⟩:∃ pl,(m.items.getD i Bare.noI).params.length=pl:=⟨_,rfl⟩
   have HPL:=Lib.hid hpl'
   have HPP:=Lib.hid (HPi1.out i hlt wr hN hbs)
   rw [e4] at HPP
   rw [hpl'] at hc e4 HPP
   have HC:=Lib.hid hc
   have HE4:=Lib.hid e4
   clear hpl' e4 hji hox hc
   go_upto_region 5 with fail
   refine piece (fun _=>_) (own5 _ rfl wr rfl rfl rfl rfl rfl rfl rfl rfl rfl rfl rfl rfl rfl rfl rfl rfl rfl c2 hlt hgB HC.out hfz HPP) ?_
   rintro ⟨z,dfs⟩ W3 ⟨pv3,w3,⟨hs,hd,hq1,hq3,hq14,hq15,hq0,hq2,hq4,hq5,hq6,hq7,hq8,hq9,hq10,hq11,hq12,hq13,hq31⟩,hw,hk2,hop2⟩
   simp only at hs hd hq1 hq3 hq14 hq15 hq0 hq2 hq4 hq5 hq6 hq7 hq8 hq9 hq10 hq11 hq12 hq13 hq31
   subst hd
   obtain ⟨u,rfl⟩:=lit32 z hs
   have hp1:u 1 = .pointer (some ⟨B,0,none⟩):=hq1
   have hp3:u 3 = .int .i64 i:=hq3
   have hp14:u 14 = .int .i64 n:=hq14
   have hp15:u 15 = .int .i64 i:=hq15
   have hp0:u 0=uu 0:=hq0
   have hp2:u 2 = .pointer (some ⟨R,0,none⟩):=hq2
   have hp4:u 4=uu 4:=hq4
   have hp5:u 5=uu 5:=hq5
   have hp6:u 6=uu 6:=hq6
   have hp7:u 7=uu 7:=hq7
   have hp8:u 8=uu 8:=hq8
   have hp9:u 9=uu 9:=hq9
   have hp10:u 10=uu 10:=hq10
   have hp11:u 11=uu 11:=hq11
   have hp12:u 12 = .pointer (some ⟨B,2,none⟩):=hq12
   have hp13:u 13 = .slice (some ⟨g,0,none⟩) n jc:=hq13
   have hp31:u 31=uu 31:=hq31
   rw [hp1,hp3,hp14,hp15,hp0,hp2,hp4,hp5,hp6,hp7,hp8,hp9,hp10,hp11,hp12,hp13,hp31]
   clear hp1 hq1 hp3 hq3 hp14 hq14 hp15 hq15 hp0 hq0 hp2 hq2 hp4 hq4 hp5 hq5 hp6 hq6 hp7 hq7 hp8 hq8 hp9 hq9 hp10 hq10 hp11 hq11 hp12 hq12 hp13 hq13 hp31 hq31 hs
   subst hw
   obtain ⟨qa3,qc3,rfl⟩:=hop2.slice
   go_wp2_with fail
   go_roundw
   case rel =>
    have hsm:=setMods w3 g (i * 5 + 4) (.slice qa3 pl qc3)
    have hox3:=HOX.out.new hk2
    have hne:∀ (v:Value),TagAt w3 v 83→∀ b,v.ownBlock=some b→¬ b=g:=fun v ht b hb e=>by
     obtain ⟨cs,fr,h⟩:=ht b hb
     obtain ⟨cs',fr',h'⟩:=hox3.tag g rfl
     subst e
     rw [h] at h'
     cases h'
    have hgR:¬ R=g:=by omega
    refine ⟨i + 1,fun j=>if j=i then .slice qa3 pl qc3 else jv j,by omega,by go_num,hsm.heap (hk2.heap rB id) hgB,hsm.heap (hk2.heap rR id) hgR,?_,?_,?_,?_,(hN.trans hk2).setCell (p:=⟨g,i * 5 + 4,none⟩) (.inl (by show _ ≤ g;omega)) _,by have:=hsm.size;have:=hk2.size;omega⟩
    ·refine OwX.congr (f:=fun k=>if k=i then (ics (m.items.getD i Bare.noI) (jv i)).set 4 (.slice qa3 pl qc3) else ics (m.items.getD k Bare.noI) (jv k)) ⟨set_len hox3.1,fun j hj=>?_,own_set hox3.1 hox3.2.2 hlt (by decide) _⟩ (fun _=>rfl) fun j hj=>?_
     ·dsimp only
      by_cases e:j=i
      ·rw [if_pos e];exact ics_one _ _ _ _
      ·rw [if_neg e];exact hox3.2.1 j hj
     ·dsimp only
      by_cases e:j=i
      ·subst e;rw [if_pos rfl,if_pos rfl];rfl
      ·rw [if_neg e,if_neg e]
    ·refine Lib.hid fun j hj=>?_
     dsimp only
     by_cases e:j=i
     ·subst e
      rw [if_pos rfl,HPL.out]
      exact hop2.mods hsm fun b hb=>hne _ hop2.tag b hb
     ·rw [if_neg e]
      have h3:=(hnew.out j (by omega)).new hk2
      exact h3.mods hsm fun b hb=>hne _ h3.tag b hb
    ·refine Lib.hid fun j h1 h2=>?_
     dsimp only
     rw [if_neg (by omega)]
     exact hold.out j (by omega) h2
    ·have h3:=hop.new hk2
     exact h3.mods hsm fun b hb=>hne _ h3.tag b hb
   case measure=>simp [intOf];omega
  ·have hkd:decide ((i:Int) < (n:Int))=false:=decide_eq_false (by omega)
   obtain rfl:i=n:=by omega
   clear hold
   have hone4:=mcs_one K y ja qa i jc k qc
   have c0:=cell_of_row _ _ 0 _ _ _ rR
   go_wp2_with (first | (refine op_value rfl (run_load_row 44 (.tmp 1) rfl B rfl 44 _ (0,0) _ rB Tryz.underlying44 rfl sizeM) ?_) | (refine op_skip rfl (run_store_row 44 (.tmp 2) (.tmp 31) rfl R rfl 44 [.string ⟨#[]⟩,.bool false,.slice none 0 0,.slice none 0 0] [.string K,.bool y,.slice ja i jc,.slice qa k qc] rfl rR sizeM rfl hone4) ?_))
   have hmR:=mods_setRow rR #[.string K,.bool y,.slice ja i jc,.slice qa k qc]
   have hrow:(wr.setRow R #[.string K,.bool y,.slice ja i jc,.slice qa k qc]).heap[R]? = some (.cells #[.string K,.bool y,.slice ja i jc,.slice qa k qc] 44 (0,0)):=setRow_heap wr R _ _ _ _ rR
   refine bodyPost_ret (v:=.agg #[.string K,.bool y,.slice ja i jc,.slice qa k qc]) (results_cell_row rfl _ _ R 44 _ (0,0) _ rfl hrow Tryz.underlying44 rfl sizeM) rfl ?_
   refine ⟨_,rfl,⟨ja,qa,jc,qc,jv,rfl,?_,fun j hj=>?_,?_⟩,(hN.setRow (by omega) _)⟩
   ·exact (hox.mods hmR fun b hb e=>by have:=(hox.lt hb).1;omega).mono (by omega)
   ·exact ((hnew.out j hj).mods hmR fun b hb e=>by have:=((hnew.out j hj).lt hb).1;omega).mono (by omega)
   ·exact (hop.mods hmR fun b hb e=>by have:=(hop.lt hb).1;omega).mono (by omega)


def findM (d:List Bare.Mem) (k:Bare.Bs):Option Bare.Mem:=d.find? fun m=>decide (m.key=k)
theorem findM_none {d:List Bare.Mem} {k:Bare.Bs} (h:∀ j,j < d.length→(d.getD j noM).key ≠ k):findM d k=none:=by
 unfold findM
 rw [List.find?_eq_none]
 intro m hm
 obtain ⟨j,hj,rfl⟩:=List.mem_iff_getElem.1 hm
 have:=h j hj
 rw [List.getD_eq_getElem?_getD,List.getElem?_eq_getElem hj] at this
 simpa using this
theorem findM_some {d:List Bare.Mem} {k:Bare.Bs} {i:Nat} (hi:i < d.length) (h:∀ j,j < i→(d.getD j noM).key ≠ k) (hk:(d.getD i noM).key=k):findM d k=some (d.getD i noM):=by
 unfold findM
 rw [List.find?_eq_some_iff_getElem]
 have e:d.getD i noM=d[i]:=by rw [List.getD_eq_getElem?_getD,List.getElem?_eq_getElem hi];rfl
 refine ⟨by simpa using hk,i,hi,e.symm,fun j hj=>?_⟩
 have:=h j hj
 rw [List.getD_eq_getElem?_getD,List.getElem?_eq_getElem (by omega)] at this
 simpa using this
theorem OwnM.zero (base:Nat) (W:World):OwnM base W (.agg #[.string ⟨#[]⟩,.bool false,.slice none 0 0,.slice none 0 0]) noM:=⟨none,none,0,0,fun _=>undef,rfl,OwX.nil _ _ _ (fun _=>rfl),(fun i hi=>by simp [noM] at hi),OwP.nil _ _ _ (pf_len _)⟩
theorem OwnM.mods {base:Nat} {W W':World} {v:Value} {m:Bare.Mem} (h:OwnM base W v m) {S:Nat→Prop} (hN:Mods S W W') (hS:∀ g,S g→g < base):OwnM base W' v m:=by
 obtain ⟨ja,pa,jc,pc,ip,rfl,h1,h2,h3⟩:=h
 exact ⟨ja,pa,jc,pc,ip,rfl,h1.mods hN (fun g hg hs=>by have:=(h1.lt hg).1;have:=hS g hs;omega),fun i hi=>(h2 i hi).mods hN (fun g hg hs=>by have:=((h2 i hi).lt hg).1;have:=hS g hs;omega),h3.mods hN (fun g hg hs=>by have:=(h3.lt hg).1;have:=hS g hs;omega)⟩
theorem OwnM.mono {base base':Nat} {W:World} {v:Value} {m:Bare.Mem} (h:OwnM base W v m) (hb:base' ≤ base):OwnM base' W v m:=by
 obtain ⟨ja,pa,jc,pc,ip,rfl,h1,h2,h3⟩:=h
 exact ⟨ja,pa,jc,pc,ip,rfl,h1.mono hb,fun i hi=>(h2 i hi).mono hb,h3.mono hb⟩
def Fits (m:Bare.Mem):Prop:=m.items.length ≤ 2199023255552∧m.params.length ≤ 2513169434880∧∀ i,i < m.items.length→(m.items.getD i Bare.noI).params.length ≤ 2513169434880
theorem find_any {τ:Bool} (v:Value) (key:ByteArray) (d:List Bare.Mem) (w:World) (h:RdD τ w v d) (hf:∀ m ∈ d,Fits m) :
  Calls Tryz.prog 25 #[v,.string key] w fun e w'=>∃ v',e = .returned (.tuple #[v',.bool (findM d (bl key)).isSome])∧OwnM w.heap.size w' v' ((findM d (bl key)).getD noM)∧New w w':=by
 obtain ⟨ao,cap,rfl⟩:=h.slice
 have HD:=Lib.hid h
 have hlen:d.length ≤ 281474976710656:=by obtain ⟨_,_,h1,_⟩:=h;exact h1.1
 clear h
 obtain ⟨Post,hPost⟩:∃ Post:Ending→World→Prop,(fun e w'=>∃ v',e = .returned (.tuple #[v',.bool (findM d (bl key)).isSome])∧OwnM w.heap.size w' v' ((findM d (bl key)).getD noM)∧New w w')=Post:=⟨_,rfl⟩
 have HPost:=Lib.hid hPost
 rw [hPost]
 clear hPost
 have hT:=World.alloc_heap_new w (.cells #[.string ⟨#[]⟩,.bool false,.slice none 0 0,.slice none 0 0] 44)
 have hN0:New w (w.alloc (.cells #[.string ⟨#[]⟩,.bool false,.slice none 0 0,.slice none 0 0] 44)):=(Mods.refl _ _).alloc _
 obtain ⟨n,hn⟩:∃ n,d.length=n:=⟨_,rfl⟩
 have Hn:=Lib.hid hn
 rw [hn] at hlen ⊢
 go_enter Tryz.func25,Tryz.ntmps25
 go_upto_region 1 with fail
 obtain ⟨W1,hW1⟩:∃ W1,w.alloc (.cells #[.string ⟨#[]⟩,.bool false,.slice none 0 0,.slice none 0 0] 44)=W1:=⟨_,rfl⟩
 rw [hW1] at hT hN0 ⊢
 have hb1:W1.heap.size=w.heap.size + 1:=by rw [← hW1];simp
 obtain ⟨R,hR⟩:∃ R,w.heap.size=R:=⟨_,rfl⟩
 rw [hR] at hT hb1 ⊢
 clear hW1 hn
 go_wp2_with fail
 go_loopw [10] (fun t wr=>∃ i:Nat,i ≤ n∧t = .int .i64 i∧wr.heap[R]? = some (.cells #[.string ⟨#[]⟩,.bool false,.slice none 0 0,.slice none 0 0] 44 (0,0))∧Hid (∀ j,j < i→(d.getD j noM).key ≠ bl key)∧New w wr∧R + 1 ≤ wr.heap.size) (fun t _=>n - (intOf t).toNat)
 case atStart=>exact ⟨0,Nat.zero_le _,rfl,hT,Lib.hid fun j hj=>by omega,hN0,by omega⟩
 case round =>
  clear hT hN0 hb1
  obtain ⟨i,hin,rfl,rR,hbef,hN,hbs⟩:=hrel
  by_cases hlt:i < n
  ·have hkd:decide ((i:Int) < (n:Int))=true:=decide_eq_true (by omega)
   have hld:i < d.length:=by rw [Hn.out];exact hlt
   have hd:=HD.out.new hN
   obtain ⟨iv,pv,h1,-,h3⟩:=hd
   obtain ⟨b,o,rfl,hrow⟩:=h1.at.2.2 i hld
   obtain ⟨c0,c1,c2,c3⟩:=cells4 hrow
   obtain ⟨hi,hp⟩:=h3 i hld
   have HF:=Lib.hid (hf _ (getD_mem (d:=noM) hld))
   obtain ⟨ia,ic,hie⟩:=hi.slice
   obtain ⟨pa,pc,hpe⟩:=hp.slice
   have he:=eq_tx (tx (d.getD i noM).key) key
   rw [bl_tx] at he
   have HO:=Lib.hid (fun W (hW:New wr W)=>own_any (τ:=τ) (.agg (mcs (d.getD i noM) (iv i) (pv i)).toArray) (d.getD i noM) W ⟨_,_,rfl,hi.new hW,hp.new hW⟩ HF.out.1 HF.out.2.1 HF.out.2.2)
   rw [hie,hpe] at HO
   rw [hie] at c2
   rw [hpe] at c3
   obtain ⟨m,hm⟩:∃ m,d.getD i noM=m:=⟨_,rfl⟩
   have HM:=Lib.hid hm
   rw [hm] at c0 c1 c2 c3 HO he
   obtain ⟨K,hK⟩:∃ K,tx m.key=K:=⟨_,rfl⟩
   unfold mcs at HO
   rw [hK] at c0 HO he
   obtain ⟨y,hy⟩:∃ y,m.inner=y:=⟨_,rfl⟩
   rw [hy] at c1 HO
   obtain ⟨il,hil⟩:∃ l,m.items.length=l:=⟨_,rfl⟩
   obtain ⟨pl,hpl⟩:∃ l,m.params.length=l:=⟨_,rfl⟩
   rw [hil] at c2 HO
   rw [hpl] at c3 HO
   clear hrow h1 h3 hi hp hie hpe hm hK hy hil hpl iv pv
   have hA:New wr (wr.alloc (.cells #[.string K,.bool y,.slice ia il ic,.slice pa pl pc] 44)):=(Mods.refl _ _).alloc _
   have r7:=World.alloc_heap_new wr (.cells #[.string K,.bool y,.slice ia il ic,.slice pa pl pc] 44)
   have rR7:=hA.heap rR id
   by_cases heq:m.key=bl key
   ·rw [show decide (m.key=bl key)=true from decide_eq_true heq] at he
    go_upto_region 4 with fail
    obtain ⟨W4,hW4⟩:∃ W4,wr.alloc (.cells #[.string K,.bool y,.slice ia il ic,.slice pa pl pc] 44)=W4:=⟨_,rfl⟩
    rw [hW4] at hA r7 rR7 ⊢
    have hbs4:=hA.size
    obtain ⟨B4,hB4⟩:∃ B4,wr.heap.size=B4:=⟨_,rfl⟩
    rw [hB4] at r7 ⊢
    have k0:=cell_of_row _ _ 0 _ _ _ r7
    simp only [gS] at k0
    clear hW4 c0 c1 c2 c3
    go_wp2_with (first | (refine op_value rfl (run_load_row 44 (.tmp 7) rfl B4 rfl 44 _ (0,0) _ r7 Tryz.underlying44 rfl sizeM) ?_) | (go_at_call 84;refine (HO.out _ hA).mono ?_;rintro e W5 ⟨v',rfl,hov,hk5⟩;obtain ⟨ja,qa,jc,qc,ip',rfl,q1,q2,q3⟩:=hov;have rR5:=hk5.heap rR7 id) | (refine op_skip rfl (run_store_row 44 (.tmp 4) (.tmp 19) rfl R rfl 44 [.string ⟨#[]⟩,.bool false,.slice none 0 0,.slice none 0 0] (mcs m (.slice ja m.items.length jc) (.slice qa m.params.length qc)) rfl rR5 sizeM rfl (mcs_one _ _ _ _ _ _ _ _)) ?_))
    have hmR:=mods_setRow rR5 (mcs m (.slice ja m.items.length jc) (.slice qa m.params.length qc)).toArray
    have hrow:=setRow_heap W5 R _ (mcs m (.slice ja m.items.length jc) (.slice qa m.params.length qc)).toArray _ _ rR5
    refine bodyPost_ret (v:=.tuple #[.agg (mcs m (.slice ja m.items.length jc) (.slice qa m.params.length qc)).toArray,.bool true]) (results_row2 rfl _ _ R 44 _ (0,0) _ rfl hrow Tryz.underlying44 rfl sizeM rfl) rfl ?_
    have hfn:=findM_some (k:=bl key) hld hbef.out (by rw [HM.out];exact heq)
    rw [HM.out] at hfn
    have hov:OwnM W4.heap.size W5 (.agg (mcs m (.slice ja m.items.length jc) (.slice qa m.params.length qc)).toArray) m:=⟨ja,qa,jc,qc,ip',rfl,q1,q2,q3⟩
    rw [← HPost.out]
    rw [hfn]
    exact ⟨_,rfl,(hov.mods hmR fun b hb=>by rw [hb];omega).mono (by omega),((hN.trans hA).trans hk5).setRow (by omega) _⟩
   ·rw [show decide (m.key=bl key)=false from decide_eq_false heq] at he
    go_upto_region 4 with fail
    obtain ⟨W4,hW4⟩:∃ W4,wr.alloc (.cells #[.string K,.bool y,.slice ia il ic,.slice pa pl pc] 44)=W4:=⟨_,rfl⟩
    rw [hW4] at hA r7 rR7 ⊢
    have hbs4:=hA.size
    obtain ⟨B4,hB4⟩:∃ B4,wr.heap.size=B4:=⟨_,rfl⟩
    rw [hB4] at r7 ⊢
    have k0:=cell_of_row _ _ 0 _ _ _ r7
    simp only [gS] at k0
    clear hW4 c0 c1 c2 c3
    go_wp2_with fail
    go_roundw
    case rel=>exact ⟨i + 1,by omega,by go_num,rR7,Lib.hid (fun j hj=>by
     by_cases e:j=i
     ·subst e;rw [HM.out];exact heq
     ·exact hbef.out j (by omega)),hN.trans hA,by omega⟩
    case measure=>simp [intOf];omega
  ·have hkd:decide ((i:Int) < (n:Int))=false:=decide_eq_false (by omega)
   go_wp2_with (refine op_skip rfl (run_store_row 44 (.tmp 4) (.tmp 21) rfl R rfl 44 [.string ⟨#[]⟩,.bool false,.slice none 0 0,.slice none 0 0] [.string ⟨#[]⟩,.bool false,.slice none 0 0,.slice none 0 0] rfl rR sizeM rfl (mcs_one _ _ _ _ _ _ _ _)) ?_)
   rw [setRow_same (cs:=[.string ⟨#[]⟩,.bool false,.slice none 0 0,.slice none 0 0]) rR]
   refine bodyPost_ret (v:=.tuple #[.agg #[.string ⟨#[]⟩,.bool false,.slice none 0 0,.slice none 0 0],.bool false]) (results_row2 rfl _ _ R 44 _ (0,0) _ rfl rR Tryz.underlying44 rfl sizeM rfl) rfl ?_
   have hfn:=findM_none (d:=d) (k:=bl key) (fun j hj=>hbef.out j (by have:=Hn.out;omega))
   rw [← HPost.out]
   rw [hfn]
   exact ⟨_,rfl,OwnM.zero _ _,hN⟩


def PredG (g:Nat) (lb:Array Value) (n:Nat) (f1 f2:Nat→List Value) (ok:World→Prop) (p:Nat→Bool):Prop :=
 ∀ i W,i < n→ok W→Calls Tryz.prog g (#[.agg (f1 i).toArray,.agg (f2 i).toArray] ++ lb) W fun e w'=>e = .returned (.bool (p i))∧New W w'
theorem all_range_false {p:Nat→Bool} {n k:Nat} (hk:k < n) (hp:p k=false):(List.range n).all p=false:=by
 rw [Bool.eq_false_iff]
 intro h
 rw [List.all_eq_true.1 h k (List.mem_range.2 hk)] at hp
 cases hp
theorem all_range_true {p:Nat→Bool} {n:Nat} (h:∀ j,j < n→p j=true):(List.range n).all p=true:=by
 rw [List.all_eq_true]
 intro j hj
 exact h j (List.mem_range.1 hj)
theorem equalf_M (g:Nat) (lb:Array Value) (n1 n2:Nat) (c d:Nat→Nat→Value) (ok:World→Prop) (hok:∀ W W',ok W→New W W'→ok W') (p:Nat→Bool) (hg:n1=n2→PredG g lb n1 (fun i=>[c i 0,c i 1,c i 2,c i 3]) (fun i=>[d i 0,d i 1,d i 2,d i 3]) ok p) (eg:∀ args w,(callFunc g args).run Tryz.prog w = .ok (.enter g args) w) (v1 v2:Value) (w:World) (h1:RowR w v1 n1 4 (fun i=>[c i 0,c i 1,c i 2,c i 3])) (h2:RowR w v2 n2 4 (fun i=>[d i 0,d i 1,d i 2,d i 3])) (ho:ok w) (hc1:∀ i,i < n1→∀ u ∈ [c i 0,c i 1,c i 2,c i 3],u.oneCell'=true) (hd1:∀ i,i < n2→∀ u ∈ [d i 0,d i 1,d i 2,d i 3],u.oneCell'=true) :
  Calls Tryz.prog 96 #[v1,v2,.func (.func g) #[] lb] w fun e w'=>e = .returned (.bool (decide (n1=n2) && (List.range n1).all p))∧New w w':=by
 have H1:=Lib.hid h1
 have H2:=Lib.hid h2
 have HO:=Lib.hid ho
 obtain ⟨a1,m1,rfl⟩:=h1.slice
 obtain ⟨a2,m2,rfl⟩:=h2.slice
 have hn1:n1 ≤ 281474976710656:=h1.1
 clear h1 h2 ho
 have hN0:New w w:=Mods.refl _ _
 by_cases hnn:n1=n2
 ·subst hnn
  have HG:=Lib.hid (hg rfl)
  clear hg
  have hdd:decide ((n1:Int)=(n1:Int))=true:=decide_eq_true rfl
  obtain ⟨r,hr⟩:∃ r,(decide (n1=n1) && (List.range n1).all p)=r:=⟨_,rfl⟩
  have HR:Hid ((List.range n1).all p=r):=Lib.hid (by rw [← hr];simp)
  rw [hr]
  clear hr
  go_enter Tryz.func96,Tryz.ntmps96
  go_wp2_with fail
  go_loopw [17] (fun t wr=>∃ k:Nat,k ≤ n1∧t = .int .i64 k∧Hid (∀ j,j < k→p j=true)∧New w wr) (fun t _=>n1 - (intOf t).toNat)
  case atStart=>exact ⟨0,Nat.zero_le _,rfl,Lib.hid fun i hi=>by omega,hN0⟩
  case round =>
   clear hN0
   obtain ⟨k,hk,rfl,hbef,hN⟩:=hrel
   by_cases hlt:k < n1
   ·have hkd:decide ((k:Int) < (n1:Int))=true:=decide_eq_true (by omega)
    obtain ⟨b1,o1,rfl,hrow⟩:=(H1.out.new hN).at.2.2 k hlt
    obtain ⟨b2,o2,rfl,hrow2⟩:=(H2.out.new hN).at.2.2 k hlt
    obtain ⟨k0,k1,k2,k3⟩:=cells4 hrow
    obtain ⟨q0,q1,q2,q3⟩:=cells4 hrow2
    have hA:New wr (wr.alloc (.cells #[c k 0,c k 1,c k 2,c k 3] 44)):=(Mods.refl _ _).alloc _
    have r1:=World.alloc_heap_new wr (.cells #[c k 0,c k 1,c k 2,c k 3] 44)
    obtain ⟨W1,hW1⟩:∃ W1,wr.alloc (.cells #[c k 0,c k 1,c k 2,c k 3] 44)=W1:=⟨_,rfl⟩
    have HP:=Lib.hid (fun W (hW:New wr W)=>HG.out k W hlt (hok _ _ HO.out (hN.trans hW)))
    have hone1:=hc1 k hlt
    have hone2:=hd1 k hlt
    have z1:=World.alloc_heap_new wr (.cells [.string ⟨#[]⟩,.bool false,.slice none 0 0,.slice none 0 0].toArray 44)
    clear hrow hrow2 HG
    go_upto_region 6 with (refine op_skip rfl (run_store_row 44 (.tmp 8) (.tmp 21) rfl wr.heap.size rfl 44 [.string ⟨#[]⟩,.bool false,.slice none 0 0,.slice none 0 0] [c k 0,c k 1,c k 2,c k 3] rfl z1 sizeM rfl hone1) ?_)
    rw [alloc_setRow]
    rw [hW1] at hA r1 ⊢
    have hbs:=hA.size
    obtain ⟨B1,hB1⟩:∃ B1,wr.heap.size=B1:=⟨_,rfl⟩
    rw [hB1] at r1 ⊢
    have q0:=hA.cell q0 id
    have q1:=hA.cell q1 id
    have q2:=hA.cell q2 id
    have q3:=hA.cell q3 id
    clear hW1 k0 k1 k2 k3
    have hA2:New W1 (W1.alloc (.cells #[d k 0,d k 1,d k 2,d k 3] 44)):=(Mods.refl _ _).alloc _
    have r2:=World.alloc_heap_new W1 (.cells #[d k 0,d k 1,d k 2,d k 3] 44)
    obtain ⟨W2,hW2⟩:∃ W2,W1.alloc (.cells #[d k 0,d k 1,d k 2,d k 3] 44)=W2:=⟨_,rfl⟩
    have z2:=World.alloc_heap_new W1 (.cells [.string ⟨#[]⟩,.bool false,.slice none 0 0,.slice none 0 0].toArray 44)
    go_upto_region 7 with (refine op_skip rfl (run_store_row 44 (.tmp 9) (.tmp 25) rfl W1.heap.size rfl 44 [.string ⟨#[]⟩,.bool false,.slice none 0 0,.slice none 0 0] [d k 0,d k 1,d k 2,d k 3] rfl z2 sizeM rfl hone2) ?_)
    rw [alloc_setRow]
    rw [hW2] at hA2 r2 ⊢
    have r1:=hA2.heap r1 id
    obtain ⟨B2,hB2⟩:∃ B2,W1.heap.size=B2:=⟨_,rfl⟩
    rw [hB2] at r2 ⊢
    clear hW2 q0 q1 q2 q3
    have hNN:=hN.trans (hA.trans hA2)
    have HP:=Lib.hid (HP.out W2 (hA.trans hA2))
    cases hp:p k with
    | true =>
     have hh:Hid (∀ j,j < k + 1→p j=true):=Lib.hid fun i hi=>by
      by_cases hik:i < k
      ·exact hbef.out i hik
      ·obtain rfl:i=k:=by omega
       exact hp
     rw [hp] at HP
     clear hp hbef HR
     go_wp2_with (first | (refine op_value rfl (run_load_row 44 (.tmp 8) rfl B1 rfl 44 _ (0,0) _ r1 Tryz.underlying44 rfl sizeM) ?_) | (refine op_value rfl (run_load_row 44 (.tmp 9) rfl B2 rfl 44 _ (0,0) _ r2 Tryz.underlying44 rfl sizeM) ?_))
     refine HP.out.mono ?_
     rintro e w' ⟨rfl,hN'⟩
     have hN2:=hNN.trans hN'
     clear hN hN' hNN r1 r2 hA hA2 hbs
     go_wp2_with fail
     go_roundw
     case rel=>exact ⟨k + 1,by omega,by go_num,hh,hN2⟩
     case measure=>simp [intOf];omega
    | false =>
     obtain rfl:r=false:=by rw [← HR.out];exact all_range_false hlt hp
     rw [hp] at HP
     clear hp hbef HR
     go_wp2_with (first | (refine op_value rfl (run_load_row 44 (.tmp 8) rfl B1 rfl 44 _ (0,0) _ r1 Tryz.underlying44 rfl sizeM) ?_) | (refine op_value rfl (run_load_row 44 (.tmp 9) rfl B2 rfl 44 _ (0,0) _ r2 Tryz.underlying44 rfl sizeM) ?_))
     refine HP.out.mono ?_
     rintro e w' ⟨rfl,hN'⟩
     have hN2:=hNN.trans hN'
     clear hN hN' hNN r1 r2 hA hA2 hbs
     go_wp2_with fail
     go_ret
     exact ⟨rfl,hN2⟩
   ·have hkd:decide ((k:Int) < (n1:Int))=false:=decide_eq_false (by omega)
    obtain rfl:k=n1:=by omega
    obtain rfl:r=true:=by rw [← HR.out];exact all_range_true hbef.out
    clear HR hbef
    go_wp2_with fail
    go_ret
    exact ⟨rfl,hN⟩
 ·have hdd:decide ((n1:Int)=(n2:Int))=false:=decide_eq_false (by omega)
  rw [show decide (n1=n2)=false from decide_eq_false hnn,Bool.false_and]
  clear hg
  go_enter Tryz.func96,Tryz.ntmps96
  go_wp2_with fail
  go_ret
  exact ⟨rfl,hN0⟩
theorem equalf_X (g:Nat) (lb:Array Value) (n1 n2:Nat) (c d:Nat→Nat→Value) (ok:World→Prop) (hok:∀ W W',ok W→New W W'→ok W') (p:Nat→Bool) (hg:n1=n2→PredG g lb n1 (fun i=>[c i 0,c i 1,c i 2,c i 3,c i 4]) (fun i=>[d i 0,d i 1,d i 2,d i 3,d i 4]) ok p) (eg:∀ args w,(callFunc g args).run Tryz.prog w = .ok (.enter g args) w) (v1 v2:Value) (w:World) (h1:RowR w v1 n1 5 (fun i=>[c i 0,c i 1,c i 2,c i 3,c i 4])) (h2:RowR w v2 n2 5 (fun i=>[d i 0,d i 1,d i 2,d i 3,d i 4])) (ho:ok w) (hc1:∀ i,i < n1→∀ u ∈ [c i 0,c i 1,c i 2,c i 3,c i 4],u.oneCell'=true) (hd1:∀ i,i < n2→∀ u ∈ [d i 0,d i 1,d i 2,d i 3,d i 4],u.oneCell'=true) :
  Calls Tryz.prog 98 #[v1,v2,.func (.func g) #[] lb] w fun e w'=>e = .returned (.bool (decide (n1=n2) && (List.range n1).all p))∧New w w':=by
 have H1:=Lib.hid h1
 have H2:=Lib.hid h2
 have HO:=Lib.hid ho
 obtain ⟨a1,m1,rfl⟩:=h1.slice
 obtain ⟨a2,m2,rfl⟩:=h2.slice
 have hn1:n1 ≤ 281474976710656:=h1.1
 clear h1 h2 ho
 have hN0:New w w:=Mods.refl _ _
 by_cases hnn:n1=n2
 ·subst hnn
  have HG:=Lib.hid (hg rfl)
  clear hg
  have hdd:decide ((n1:Int)=(n1:Int))=true:=decide_eq_true rfl
  obtain ⟨r,hr⟩:∃ r,(decide (n1=n1) && (List.range n1).all p)=r:=⟨_,rfl⟩
  have HR:Hid ((List.range n1).all p=r):=Lib.hid (by rw [← hr];simp)
  rw [hr]
  clear hr
  go_enter Tryz.func98,Tryz.ntmps98
  go_wp2_with fail
  go_loopw [17] (fun t wr=>∃ k:Nat,k ≤ n1∧t = .int .i64 k∧Hid (∀ j,j < k→p j=true)∧New w wr) (fun t _=>n1 - (intOf t).toNat)
  case atStart=>exact ⟨0,Nat.zero_le _,rfl,Lib.hid fun i hi=>by omega,hN0⟩
  case round =>
   clear hN0
   obtain ⟨k,hk,rfl,hbef,hN⟩:=hrel
   by_cases hlt:k < n1
   ·have hkd:decide ((k:Int) < (n1:Int))=true:=decide_eq_true (by omega)
    obtain ⟨b1,o1,rfl,hrow⟩:=(H1.out.new hN).at.2.2 k hlt
    obtain ⟨b2,o2,rfl,hrow2⟩:=(H2.out.new hN).at.2.2 k hlt
    obtain ⟨k0,k1,k2,k3,k4⟩:=cells5 hrow
    obtain ⟨q0,q1,q2,q3,q4⟩:=cells5 hrow2
    have hA:New wr (wr.alloc (.cells #[c k 0,c k 1,c k 2,c k 3,c k 4] 85)):=(Mods.refl _ _).alloc _
    have r1:=World.alloc_heap_new wr (.cells #[c k 0,c k 1,c k 2,c k 3,c k 4] 85)
    obtain ⟨W1,hW1⟩:∃ W1,wr.alloc (.cells #[c k 0,c k 1,c k 2,c k 3,c k 4] 85)=W1:=⟨_,rfl⟩
    have HP:=Lib.hid (fun W (hW:New wr W)=>HG.out k W hlt (hok _ _ HO.out (hN.trans hW)))
    have hone1:=hc1 k hlt
    have hone2:=hd1 k hlt
    have z1:=World.alloc_heap_new wr (.cells [.int .u8 0,.int .i64 0,.string ⟨#[]⟩,.bool false,.slice none 0 0].toArray 85)
    clear hrow hrow2 HG
    go_upto_region 6 with (refine op_skip rfl (run_store_row 85 (.tmp 8) (.tmp 21) rfl wr.heap.size rfl 85 [.int .u8 0,.int .i64 0,.string ⟨#[]⟩,.bool false,.slice none 0 0] [c k 0,c k 1,c k 2,c k 3,c k 4] rfl z1 sizeX rfl hone1) ?_)
    rw [alloc_setRow]
    rw [hW1] at hA r1 ⊢
    have hbs:=hA.size
    obtain ⟨B1,hB1⟩:∃ B1,wr.heap.size=B1:=⟨_,rfl⟩
    rw [hB1] at r1 ⊢
    have q0:=hA.cell q0 id
    have q1:=hA.cell q1 id
    have q2:=hA.cell q2 id
    have q3:=hA.cell q3 id
    have q4:=hA.cell q4 id
    clear hW1 k0 k1 k2 k3 k4
    have hA2:New W1 (W1.alloc (.cells #[d k 0,d k 1,d k 2,d k 3,d k 4] 85)):=(Mods.refl _ _).alloc _
    have r2:=World.alloc_heap_new W1 (.cells #[d k 0,d k 1,d k 2,d k 3,d k 4] 85)
    obtain ⟨W2,hW2⟩:∃ W2,W1.alloc (.cells #[d k 0,d k 1,d k 2,d k 3,d k 4] 85)=W2:=⟨_,rfl⟩
    have z2:=World.alloc_heap_new W1 (.cells [.int .u8 0,.int .i64 0,.string ⟨#[]⟩,.bool false,.slice none 0 0].toArray 85)
    go_upto_region 7 with (refine op_skip rfl (run_store_row 85 (.tmp 9) (.tmp 25) rfl W1.heap.size rfl 85 [.int .u8 0,.int .i64 0,.string ⟨#[]⟩,.bool false,.slice none 0 0] [d k 0,d k 1,d k 2,d k 3,d k 4] rfl z2 sizeX rfl hone2) ?_)
    rw [alloc_setRow]
    rw [hW2] at hA2 r2 ⊢
    have r1:=hA2.heap r1 id
    obtain ⟨B2,hB2⟩:∃ B2,W1.heap.size=B2:=⟨_,rfl⟩
    rw [hB2] at r2 ⊢
    clear hW2 q0 q1 q2 q3 q4
    have hNN:=hN.trans (hA.trans hA2)
    have HP:=Lib.hid (HP.out W2 (hA.trans hA2))
    cases hp:p k with
    | true =>
     have hh:Hid (∀ j,j < k + 1→p j=true):=Lib.hid fun i hi=>by
      by_cases hik:i < k
      ·exact hbef.out i hik
      ·obtain rfl:i=k:=by omega
       exact hp
     rw [hp] at HP
     clear hp hbef HR
     go_wp2_with (first | (refine op_value rfl (run_load_row 85 (.tmp 8) rfl B1 rfl 85 _ (0,0) _ r1 Tryz.underlying85 rfl sizeX) ?_) | (refine op_value rfl (run_load_row 85 (.tmp 9) rfl B2 rfl 85 _ (0,0) _ r2 Tryz.underlying85 rfl sizeX) ?_))
     refine HP.out.mono ?_
     rintro e w' ⟨rfl,hN'⟩
     have hN2:=hNN.trans hN'
     clear hN hN' hNN r1 r2 hA hA2 hbs
     go_wp2_with fail
     go_roundw
     case rel=>exact ⟨k + 1,by omega,by go_num,hh,hN2⟩
     case measure=>simp [intOf];omega
    | false =>
     obtain rfl:r=false:=by rw [← HR.out];exact all_range_false hlt hp
     rw [hp] at HP
     clear hp hbef HR
     go_wp2_with (first | (refine op_value rfl (run_load_row 85 (.tmp 8) rfl B1 rfl 85 _ (0,0) _ r1 Tryz.underlying85 rfl sizeX) ?_) | (refine op_value rfl (run_load_row 85 (.tmp 9) rfl B2 rfl 85 _ (0,0) _ r2 Tryz.underlying85 rfl sizeX) ?_))
     refine HP.out.mono ?_
     rintro e w' ⟨rfl,hN'⟩
     have hN2:=hNN.trans hN'
     clear hN hN' hNN r1 r2 hA hA2 hbs
     go_wp2_with fail
     go_ret
     exact ⟨rfl,hN2⟩
   ·have hkd:decide ((k:Int) < (n1:Int))=false:=decide_eq_false (by omega)
    obtain rfl:k=n1:=by omega
    obtain rfl:r=true:=by rw [← HR.out];exact all_range_true hbef.out
    clear HR hbef
    go_wp2_with fail
    go_ret
    exact ⟨rfl,hN⟩
 ·have hdd:decide ((n1:Int)=(n2:Int))=false:=decide_eq_false (by omega)
  rw [show decide (n1=n2)=false from decide_eq_false hnn,Bool.false_and]
  clear hg
  go_enter Tryz.func98,Tryz.ntmps98
  go_wp2_with fail
  go_ret
  exact ⟨rfl,hN0⟩


theorem eq_param (d:Nat) (p q:Bare.Par) (w:World):(Op.equalIn (d + 3) 83 (.agg (pcs p).toArray) (.agg (pcs q).toArray)).run Tryz.prog w = .ok (decide (p=q)) w:=by
 unfold pcs
 rw [show d + 3=(d + 2) + 1 from rfl,run_equalIn_agg w (d + 2) 83 _ _ (by unfold Program.fieldsOf;rw [Tryz.underlying83]) (by kernel_rfl)]
 unfold Program.fieldsOf
 rw [Tryz.underlying83]
 have h0:=fun (s0:ByteArray) (k n:Int) (s:ByteArray) (y:Bool) w=>partAt 9 _ Tryz.underlying9 rfl #[.string s0,.int .u8 k,.int .i64 n,.string s,.bool y] 0 (.string s0) w rfl
 have h1:∀ (s0:ByteArray) (k n:Int) (s:ByteArray) (y:Bool) w,(Go.part 23 #[.string s0,.int .u8 k,.int .i64 n,.string s,.bool y] 1).run Tryz.prog w = .ok (.agg #[.int .u8 k,.int .i64 n,.string s,.bool y]) w:=fun s0 k n s y w=>partAgg 23 _ 4 Tryz.underlying23 rfl info_bare #[.string s0,.int .u8 k,.int .i64 n,.string s,.bool y] 1 w
 have e9:=fun w (a b:ByteArray)=>run_equalIn_string w (d + 1) 9 a b Tryz.underlying9
 have n1 : ("Key" ≠ "_") = True := by simp
 have n2 : ("Bare" ≠ "_") = True := by simp
 obtain ⟨kp,bp⟩:=p
 obtain ⟨kq,bq⟩:=q
 have et:=eq_tx (tx kp) (tx kq)
 rw [bl_tx,bl_tx] at et
 have ei:=eq_item d bp bq
 unfold bv bcs at ei
 simp only at ei ⊢
 simp only [Op.eqFields,n1,n2,if_true,Sem.run_bind,h0,e9,Result.andThen_ok]
 by_cases hk:kp=kq
 ·subst hk
  by_cases hb:bp=bq
  ·subst hb
   simp [Sem.run_bind,h1,ei,et]
  ·simp [Sem.run_bind,h1,ei,et,hb]
 ·simp [Sem.run_bind,h1,ei,et,hk]
theorem nbinop_param (p q:Bare.Par) (w:World):(binOp .neq 83 (.agg (pcs p).toArray) (.agg (pcs q).toArray)).run Tryz.prog w = .ok (.bool (!decide (p=q))) w:=by
 have h:=eq_param 9997 p q w
 simp only [binOp]
 simp [Op.equal,Op.maxDepth,h]
theorem list_same {α:Type} (z:α) {l r:List α} (hl:l.length=r.length) (h:∀ i,i < l.length→l.getD i z=r.getD i z):l=r:=by
 refine List.ext_getElem hl fun i h1 h2=>?_
 have:=h i h1
 rw [List.getD_eq_getElem?_getD,List.getD_eq_getElem?_getD,List.getElem?_eq_getElem h1,List.getElem?_eq_getElem h2] at this
 exact this
theorem lit26 (t:Array Value) (h:t.size=26):∃ u:Nat→Value,t=(u 0::u 1::u 2::u 3::u 4::u 5::u 6::u 7::u 8::u 9::u 10::u 11::u 12::u 13::u 14::u 15::u 16::u 17::u 18::u 19::u 20::u 21::u 22::u 23::u 24::u 25::([]:List Value)).toArray:=⟨fun i=>t.getD i undef,range_lit t 26 h⟩
noncomputable def reg_slices_Equal___api_Param_api_Param__6:Code:=((Tryz.f95.body.bind (regionOf 6)).getD .skip)
theorem equal6 (t:Array Value) (hs:t.size=26) (w:World) {b1 o1 b2 o2 k n m1 m2:Nat} {y:Bool} {a0 a1 a2 a3 a4 d0 d1 d2 d3 d4:Value} {x2 x3 x4 x6 x7 x8 x9 x10 x11 x12:Value}
  (hq0:t.getD 0 undef = .slice (some ⟨b1,o1,none⟩) n m1)
  (hq1:t.getD 1 undef = .slice (some ⟨b2,o2,none⟩) n m2)
  (hq5:t.getD 5 undef = .int .i64 k)
  (hq13:t.getD 13 undef = .int .i64 k)
  (hq2:t.getD 2 undef=x2)
  (hq3:t.getD 3 undef=x3)
  (hq4:t.getD 4 undef=x4)
  (hq6:t.getD 6 undef=x6)
  (hq7:t.getD 7 undef=x7)
  (hq8:t.getD 8 undef=x8)
  (hq9:t.getD 9 undef=x9)
  (hq10:t.getD 10 undef=x10)
  (hq11:t.getD 11 undef=x11)
  (hq12:t.getD 12 undef=x12)
  (c0:w.cell? ⟨b1,o1 + k * 5,none⟩=some a0) (e0:w.cell? ⟨b2,o2 + k * 5,none⟩=some d0) (c1:w.cell? ⟨b1,o1 + k * 5 + 1,none⟩=some a1) (e1:w.cell? ⟨b2,o2 + k * 5 + 1,none⟩=some d1) (c2:w.cell? ⟨b1,o1 + k * 5 + 2,none⟩=some a2) (e2:w.cell? ⟨b2,o2 + k * 5 + 2,none⟩=some d2) (c3:w.cell? ⟨b1,o1 + k * 5 + 3,none⟩=some a3) (e3:w.cell? ⟨b2,o2 + k * 5 + 3,none⟩=some d3) (c4:w.cell? ⟨b1,o1 + k * 5 + 4,none⟩=some a4) (e4:w.cell? ⟨b2,o2 + k * 5 + 4,none⟩=some d4)
  (hk:k < n) (hq:∀ w,(binOp .neq 83 (.agg #[a0,a1,a2,a3,a4]) (.agg #[d0,d1,d2,d3,d4])).run Tryz.prog w = .ok (.bool y) w) :
  reg_slices_Equal___api_Param_api_Param__6.wp Tryz.prog (Only fun a' W'=>(a'.tmps.size=26∧a'.defers = []∧a'.tmps.getD 0 undef = .slice (some ⟨b1,o1,none⟩) n m1∧a'.tmps.getD 1 undef = .slice (some ⟨b2,o2,none⟩) n m2∧a'.tmps.getD 5 undef = .int .i64 k∧a'.tmps.getD 13 undef = .int .i64 k∧a'.tmps.getD 2 undef=x2∧a'.tmps.getD 3 undef=x3∧a'.tmps.getD 4 undef=x4∧a'.tmps.getD 6 undef=x6∧a'.tmps.getD 7 undef=x7∧a'.tmps.getD 8 undef=x8∧a'.tmps.getD 9 undef=x9∧a'.tmps.getD 10 undef=x10∧a'.tmps.getD 11 undef=x11∧a'.tmps.getD 12 undef=x12∧a'.tmps.getD 24 undef = .bool y)∧New w W') ⟨t,[]⟩ w:=by
 conv=>arg 2;whnf
 obtain ⟨u,rfl⟩:=lit26 t hs
 have hq0:u 0 = _:=hq0
 have hq1:u 1 = _:=hq1
 have hq5:u 5 = _:=hq5
 have hq13:u 13 = _:=hq13
 have hq2:u 2 = _:=hq2
 have hq3:u 3 = _:=hq3
 have hq4:u 4 = _:=hq4
 have hq6:u 6 = _:=hq6
 have hq7:u 7 = _:=hq7
 have hq8:u 8 = _:=hq8
 have hq9:u 9 = _:=hq9
 have hq10:u 10 = _:=hq10
 have hq11:u 11 = _:=hq11
 have hq12:u 12 = _:=hq12
 rw [hq0,hq1,hq5,hq13,hq2,hq3,hq4,hq6,hq7,hq8,hq9,hq10,hq11,hq12]
 clear hq0 hq1 hq5 hq13 hq2 hq3 hq4 hq6 hq7 hq8 hq9 hq10 hq11 hq12 hs
 have hS:New w w.drew:=(Mods.refl _ _).drew
 have hid:decide ((k:Int) < (n:Int))=true:=decide_eq_true (by omega)
 refine wp_region_held (S:=fun W=>New w W) (by kernel_rfl) ?_
 show wpAnyH _ _ _ _ _ 9 _ _ w.drew
 refine tkI 0 (some 16) (.slice (some ⟨b1,o1,none⟩) n m1) hS ?_
 simp only [pS]
 refine tkI 1 (some 17) (.int .i64 k) hS ?_
 simp only [pS]
 refine tkI 2 (some 18) (.pointer (some ⟨b1,o1 + k * 5,none⟩)) hS ?_
 simp only [pS]
 refine tkA 3 rfl (some 19) (.agg #[a0,a1,a2,a3,a4]) (.inl ⟨by rfl,fun W hW=>by have q0:=hW.cell c0 id;have q1:=hW.cell c1 id;have q2:=hW.cell c2 id;have q3:=hW.cell c3 id;have q4:=hW.cell c4 id;go_simp⟩) hS ?_
 simp only [pS]
 refine tkI 4 (some 20) (.slice (some ⟨b2,o2,none⟩) n m2) hS ?_
 simp only [pS]
 refine tkI 5 (some 21) (.int .i64 k) hS ?_
 simp only [pS]
 refine tkI 6 (some 22) (.pointer (some ⟨b2,o2 + k * 5,none⟩)) hS ?_
 simp only [pS]
 refine tkA 7 rfl (some 23) (.agg #[d0,d1,d2,d3,d4]) (.inl ⟨by rfl,fun W hW=>by have q0:=hW.cell e0 id;have q1:=hW.cell e1 id;have q2:=hW.cell e2 id;have q3:=hW.cell e3 id;have q4:=hW.cell e4 id;go_simp⟩) hS ?_
 simp only [pS]
 refine tkA 8 rfl (some 24) (.bool y) (.inl ⟨by rfl,fun W hW=>by have hz:=hq W;go_simp⟩) hS ?_
 simp only [pS]
 refine wpAnyH_done (by kernel_rfl) ?_ _
 exact ⟨⟨rfl,rfl,rfl,rfl,rfl,rfl,rfl,rfl,rfl,rfl,rfl,rfl,rfl,rfl,rfl,rfl,rfl⟩,hS⟩
theorem equal_P {τ τ':Bool} (v1 v2:Value) (l r:List Bare.Par) (w:World) (h1:RdP τ w v1 l) (h2:RdP τ' w v2 r) :
  Calls Tryz.prog 95 #[v1,v2] w fun e w'=>e = .returned (.bool (decide (l=r)))∧New w w':=by
 have H1:=Lib.hid h1.1
 have H2:=Lib.hid h2.1
 obtain ⟨a1,m1,rfl⟩:=h1.slice
 obtain ⟨a2,m2,rfl⟩:=h2.slice
 have hn1:l.length ≤ 281474976710656:=h1.1.1
 clear h1 h2
 have hN0:New w w:=Mods.refl _ _
 obtain ⟨n,hn⟩:∃ n,l.length=n:=⟨_,rfl⟩
 obtain ⟨n2,hn2⟩:∃ n,r.length=n:=⟨_,rfl⟩
 by_cases hnn:n=n2
 ·subst hnn
  have hdd:decide ((n:Int)=(n:Int))=true:=decide_eq_true rfl
  have HE:=Lib.hid (list_same (l:=l) (r:=r) noP (by omega))
  obtain ⟨y,hy⟩:∃ y,decide (l=r)=y:=⟨_,rfl⟩
  have HY:=Lib.hid hy
  have Hn:=Lib.hid hn
  rw [hy,hn,hn2]
  rw [hn] at H1 hn1
  rw [hn2] at H2
  clear hy hn hn2
  go_enter Tryz.func95,Tryz.ntmps95
  go_wp2_with fail
  go_loopw [13] (fun t wr=>∃ k:Nat,k ≤ n∧t = .int .i64 k∧Hid (∀ j,j < k→l.getD j noP=r.getD j noP)∧New w wr) (fun t _=>n - (intOf t).toNat)
  case atStart=>exact ⟨0,Nat.zero_le _,rfl,Lib.hid fun i hi=>by omega,hN0⟩
  case round =>
   clear hN0
   obtain ⟨k,hk,rfl,hbef,hN⟩:=hrel
   by_cases hlt:k < n
   ·have hkd:decide ((k:Int) < (n:Int))=true:=decide_eq_true (by omega)
    obtain ⟨b1,o1,rfl,hrow⟩:=(H1.out.new hN).at.2.2 k hlt
    obtain ⟨b2,o2,rfl,hrow2⟩:=(H2.out.new hN).at.2.2 k hlt
    obtain ⟨k0,k1,k2,k3,k4⟩:=cells5 hrow
    obtain ⟨q0,q1,q2,q3,q4⟩:=cells5 hrow2
    have hq:=fun w=>nbinop_param (l.getD k noP) (r.getD k noP) w
    unfold pcs at hq
    cases hp:decide (l.getD k noP=r.getD k noP) with
    | true =>
     have hh:Hid (∀ j,j < k + 1→l.getD j noP=r.getD j noP):=Lib.hid fun i hi=>by
      by_cases hik:i < k
      ·exact hbef.out i hik
      ·obtain rfl:i=k:=by omega
       exact of_decide_eq_true hp
     rw [hp] at hq
     clear hp hbef hrow hrow2
     go_upto_region 6 with fail
     refine piece (fun _=>_) (equal6 _ rfl wr rfl rfl rfl rfl rfl rfl rfl rfl rfl rfl rfl rfl rfl rfl k0 q0 k1 q1 k2 q2 k3 q3 k4 q4 hlt hq) ?_
     rintro ⟨z,dfs⟩ wr2 ⟨⟨hs,hd,hq0,hq1,hq5,hq13,hq2,hq3,hq4,hq6,hq7,hq8,hq9,hq10,hq11,hq12,hq24⟩,hN2⟩
     simp only at hs hd hq0 hq1 hq5 hq13 hq2 hq3 hq4 hq6 hq7 hq8 hq9 hq10 hq11 hq12 hq24
     subst hd
     obtain ⟨u,rfl⟩:=lit26 z hs
     have hp0:u 0 = .slice (some ⟨b1,o1,none⟩) n m1:=hq0
     have hp1:u 1 = .slice (some ⟨b2,o2,none⟩) n m2:=hq1
     have hp5:u 5 = .int .i64 k:=hq5
     have hp13:u 13 = .int .i64 k:=hq13
     have hp2:u 2=undef:=hq2
     have hp3:u 3=undef:=hq3
     have hp4:u 4=u4:=hq4
     have hp6:u 6 = .slice (some ⟨b1,o1,none⟩) n m1:=hq6
     have hp7:u 7 = .int .i64 n:=hq7
     have hp8:u 8 = .slice (some ⟨b2,o2,none⟩) n m2:=hq8
     have hp9:u 9 = .int .i64 n:=hq9
     have hp10:u 10 = .bool false:=hq10
     have hp11:u 11 = .slice (some ⟨b1,o1,none⟩) n m1:=hq11
     have hp12:u 12 = .int .i64 n:=hq12
     have hp24:u 24 = .bool (!true):=hq24
     rw [hp0,hp1,hp5,hp13,hp2,hp3,hp4,hp6,hp7,hp8,hp9,hp10,hp11,hp12,hp24]
     clear hp0 hq0 hp1 hq1 hp5 hq5 hp13 hq13 hp2 hq2 hp3 hq3 hp4 hq4 hp6 hq6 hp7 hq7 hp8 hq8 hp9 hq9 hp10 hq10 hp11 hq11 hp12 hq12 hp24 hq24 hs
     have hN:=hN.trans hN2
     clear k0 k1 k2 k3 k4 q0 q1 q2 q3 q4 hN2
     go_wp2_with fail
     go_roundw
     case rel=>exact ⟨k + 1,by omega,by go_num,hh,hN⟩
     case measure=>simp [intOf];omega
    | false =>
     obtain rfl:y=false:=by
      rw [← HY.out]
      refine decide_eq_false fun e=>?_
      rw [e] at hp
      simp at hp
     rw [hp] at hq
     clear hp hbef hrow hrow2 HE
     go_upto_region 6 with fail
     refine piece (fun _=>_) (equal6 _ rfl wr rfl rfl rfl rfl rfl rfl rfl rfl rfl rfl rfl rfl rfl rfl k0 q0 k1 q1 k2 q2 k3 q3 k4 q4 hlt hq) ?_
     rintro ⟨z,dfs⟩ wr2 ⟨⟨hs,hd,hq0,hq1,hq5,hq13,hq2,hq3,hq4,hq6,hq7,hq8,hq9,hq10,hq11,hq12,hq24⟩,hN2⟩
     simp only at hs hd hq0 hq1 hq5 hq13 hq2 hq3 hq4 hq6 hq7 hq8 hq9 hq10 hq11 hq12 hq24
     subst hd
     obtain ⟨u,rfl⟩:=lit26 z hs
     have hp0:u 0 = .slice (some ⟨b1,o1,none⟩) n m1:=hq0
     have hp1:u 1 = .slice (some ⟨b2,o2,none⟩) n m2:=hq1
     have hp5:u 5 = .int .i64 k:=hq5
     have hp13:u 13 = .int .i64 k:=hq13
     have hp2:u 2=undef:=hq2
     have hp3:u 3=undef:=hq3
     have hp4:u 4=u4:=hq4
     have hp6:u 6 = .slice (some ⟨b1,o1,none⟩) n m1:=hq6
     have hp7:u 7 = .int .i64 n:=hq7
     have hp8:u 8 = .slice (some ⟨b2,o2,none⟩) n m2:=hq8
     have hp9:u 9 = .int .i64 n:=hq9
     have hp10:u 10 = .bool false:=hq10
     have hp11:u 11 = .slice (some ⟨b1,o1,none⟩) n m1:=hq11
     have hp12:u 12 = .int .i64 n:=hq12
     have hp24:u 24 = .bool (!false):=hq24
     rw [hp0,hp1,hp5,hp13,hp2,hp3,hp4,hp6,hp7,hp8,hp9,hp10,hp11,hp12,hp24]
     clear hp0 hq0 hp1 hq1 hp5 hq5 hp13 hq13 hp2 hq2 hp3 hq3 hp4 hq4 hp6 hq6 hp7 hq7 hp8 hq8 hp9 hq9 hp10 hq10 hp11 hq11 hp12 hq12 hp24 hq24 hs
     have hN:=hN.trans hN2
     clear k0 k1 k2 k3 k4 q0 q1 q2 q3 q4 hN2
     go_wp2_with fail
     go_ret
     exact ⟨rfl,hN⟩
   ·have hkd:decide ((k:Int) < (n:Int))=false:=decide_eq_false (by omega)
    obtain rfl:y=true:=by
     rw [← HY.out]
     exact decide_eq_true (HE.out fun i hi=>hbef.out i (by have:=Hn.out;omega))
    clear HE hbef
    go_wp2_with fail
    go_ret
    exact ⟨rfl,hN⟩
 ·have hdd:decide ((n:Int)=(n2:Int))=false:=decide_eq_false (by omega)
  rw [show decide (l=r)=false from decide_eq_false fun e=>hnn (by rw [← hn,← hn2,e])]
  rw [hn,hn2]
  go_enter Tryz.func95,Tryz.ntmps95
  go_wp2_with fail
  go_ret
  exact ⟨rfl,hN0⟩


theorem same_item {τ τ':Bool} (x y:Bare.Itm) (pv qv:Value) (w:World) (h1:RdP τ w pv x.params) (h2:RdP τ' w qv y.params) :
  Calls Tryz.prog 94 #[.agg (ics x pv).toArray,.agg (ics y qv).toArray] w fun e w'=>e = .returned (.bool (decide (x=y)))∧New w w':=by
 obtain ⟨pa,pc,rfl⟩:=h1.slice
 obtain ⟨ra,rc,rfl⟩:=h2.slice
 have HC:=Lib.hid (fun W (hW:New w W)=>equal_P _ _ _ _ W (h1.new hW) (h2.new hW))
 obtain ⟨b,ps⟩:=x
 obtain ⟨c,qs⟩:=y
 have hq:=fun w=>binop_item b c w
 have hd:decide ((⟨b,ps⟩:Bare.Itm)=⟨c,qs⟩)=(decide (b=c) && decide (ps=qs)):=by
  rw [Bool.eq_iff_iff];simp
 rw [hd]
 obtain ⟨bk,bn,bt,by'⟩:=b
 obtain ⟨ck,cn,ct,cy⟩:=c
 unfold bv bcs at hq
 unfold ics
 simp only at hq HC ⊢
 obtain ⟨bt',hbt⟩:∃ z,tx bt=z:=⟨_,rfl⟩
 obtain ⟨ct',hct⟩:∃ z,tx ct=z:=⟨_,rfl⟩
 rw [hbt,hct] at hq ⊢
 obtain ⟨pl,hpl⟩:∃ z,ps.length=z:=⟨_,rfl⟩
 obtain ⟨rl,hrl⟩:∃ z,qs.length=z:=⟨_,rfl⟩
 obtain ⟨r,hr⟩:∃ r,decide (ps=qs)=r:=⟨_,rfl⟩
 obtain ⟨q,hqq⟩:∃ q,decide ((⟨bk,bn,bt,by'⟩:Bare.It)=⟨ck,cn,ct,cy⟩)=q:=⟨_,rfl⟩
 rw [hpl,hrl,hr] at HC
 rw [hpl,hrl,hr,hqq]
 rw [hqq] at hq
 obtain ⟨z,hz⟩:∃ z,(q && r)=z:=⟨_,rfl⟩
 have HZ:=Lib.hid hz
 rw [hz]
 clear hz hpl hrl hr hqq hbt hct h1 h2 hd
 have hA:New w (w.alloc (.cells #[.int .u8 bk,.int .i64 bn,.string bt',.bool by',.slice pa pl pc] 85)):=(Mods.refl _ _).alloc _
 have r1:=World.alloc_heap_new w (.cells #[.int .u8 bk,.int .i64 bn,.string bt',.bool by',.slice pa pl pc] 85)
 obtain ⟨W1,hW1⟩:∃ W1,w.alloc (.cells #[.int .u8 bk,.int .i64 bn,.string bt',.bool by',.slice pa pl pc] 85)=W1:=⟨_,rfl⟩
 have hA2:New W1 (W1.alloc (.cells #[.int .u8 ck,.int .i64 cn,.string ct',.bool cy,.slice ra rl rc] 85)):=(Mods.refl _ _).alloc _
 have r2:=World.alloc_heap_new W1 (.cells #[.int .u8 ck,.int .i64 cn,.string ct',.bool cy,.slice ra rl rc] 85)
 obtain ⟨W2,hW2⟩:∃ W2,W1.alloc (.cells #[.int .u8 ck,.int .i64 cn,.string ct',.bool cy,.slice ra rl rc] 85)=W2:=⟨_,rfl⟩
 have hs1:W1.heap.size=w.heap.size + 1:=by rw [← hW1];simp
 go_enter Tryz.func94,Tryz.ntmps94
 go_upto_region 1 with fail
 rw [hW1] at hA r1
 rw [hW2] at hA2 r2
 rw [hs1] at r2
 have r1:=hA2.heap r1 id
 have HC2:=Lib.hid (HC.out W2 (hA.trans hA2))
 clear hW1 hW2 hs1
 have x0:=cell_of_row _ _ 0 _ _ _ r1
 have y0:=cell_of_row _ _ 0 _ _ _ r2
 have x1:=cell_of_row _ _ 1 _ _ _ r1
 have y1:=cell_of_row _ _ 1 _ _ _ r2
 have x2:=cell_of_row _ _ 2 _ _ _ r1
 have y2:=cell_of_row _ _ 2 _ _ _ r2
 have x3:=cell_of_row _ _ 3 _ _ _ r1
 have y3:=cell_of_row _ _ 3 _ _ _ r2
 have x4:=cell_of_row _ _ 4 _ _ _ r1
 have y4:=cell_of_row _ _ 4 _ _ _ r2
 simp only [gS] at x0 x1 x2 x3 x4 y0 y1 y2 y3 y4
 cases q with
 | true =>
  obtain rfl:r=z:=by rw [← HZ.out,Bool.true_and]
  clear HZ
  go_wp2_with (go_at_call 95;refine (HC2.out).mono ?_;rintro e W3 ⟨rfl,hN3⟩)
  go_ret
  exact ⟨rfl,(hA.trans hA2).trans hN3⟩
 | false =>
  obtain rfl:false=z:=by rw [← HZ.out,Bool.false_and]
  clear HZ
  go_wp2_with fail
  go_ret
  exact ⟨rfl,hA.trans hA2⟩


theorem all_same {α:Type} [DecidableEq α] (z:α) (l r:List α):(decide (l.length=r.length) && (List.range l.length).all fun i=>decide (l.getD i z=r.getD i z))=decide (l=r):=by
 rw [Bool.eq_iff_iff,Bool.and_eq_true,decide_eq_true_eq,decide_eq_true_eq,List.all_eq_true]
 constructor
 ·rintro ⟨h1,h2⟩
  exact list_same z h1 fun i hi=>of_decide_eq_true (h2 i (List.mem_range.2 hi))
 ·rintro rfl
  exact ⟨rfl,fun i _=>decide_eq_true rfl⟩
theorem equal_X {τ τ':Bool} (v1 v2:Value) (l r:List Bare.Itm) (w:World) (h1:RdI τ w v1 l) (h2:RdI τ' w v2 r) :
  Calls Tryz.prog 98 #[v1,v2,.func (.func 94) #[] #[]] w fun e w'=>e = .returned (.bool (decide (l=r)))∧New w w':=by
 obtain ⟨p1,q1,-,s1⟩:=h1
 obtain ⟨p2,q2,-,s2⟩:=h2
 have:=equalf_X 94 #[] l.length r.length (fun i j=>(ics (l.getD i Bare.noI) (p1 i)).getD j undef) (fun i j=>(ics (r.getD i Bare.noI) (p2 i)).getD j undef) (fun W=>New w W) (fun W W' h k=>h.trans k) (fun i=>decide (l.getD i Bare.noI=r.getD i Bare.noI)) (fun hn i W hi hW=>same_item (l.getD i Bare.noI) (r.getD i Bare.noI) (p1 i) (p2 i) W ((s1 i hi).new hW) ((s2 i (by omega)).new hW)) (enters_of Tryz.func94 (by kernel_rfl) rfl) v1 v2 w q1 q2 (Mods.refl _ _) (fun i hi=>by
  obtain ⟨a,c,e⟩:=(s1 i hi).slice
  rw [e];exact ics_one _ _ _ _) (fun i hi=>by
  obtain ⟨a,c,e⟩:=(s2 i hi).slice
  rw [e];exact ics_one _ _ _ _)
 rw [all_same] at this
 exact this
theorem same_member {τ τ':Bool} (m n:Bare.Mem) (iv pv jv qv:Value) (X:Nat) (w:World) (hi:RdI τ w iv m.items) (hp:RdP τ w pv m.params) (hj:RdI τ' w jv n.items) (hq:RdP τ' w qv n.params) (hb:Boxed w X 114 (.func (.func 94) #[] #[])) :
  Calls Tryz.prog 97 #[.agg (mcs m iv pv).toArray,.agg (mcs n jv qv).toArray,.pointer (some ⟨X,0,none⟩)] w fun e w'=>e = .returned (.bool (decide (m=n)))∧New w w':=by
 obtain ⟨ia,ic,rfl⟩:=hi.slice
 obtain ⟨ja,jc,rfl⟩:=hj.slice
 obtain ⟨pa,pc,rfl⟩:=hp.slice
 obtain ⟨qa,qc,rfl⟩:=hq.slice
 have HP:=Lib.hid (fun W (hW:New w W)=>equal_P _ _ _ _ W (hp.new hW) (hq.new hW))
 have HI:=Lib.hid (fun W (hW:New w W)=>equal_X _ _ _ _ W (hi.new hW) (hj.new hW))
 obtain ⟨k,y,its,ps⟩:=m
 obtain ⟨k',y',its',ps'⟩:=n
 have hd:decide ((⟨k,y,its,ps⟩:Bare.Mem)=⟨k',y',its',ps'⟩)=(decide (k=k') && (decide (y=y') && (decide (ps=ps') && decide (its=its')))):=by
  rw [Bool.eq_iff_iff]
  simp only [Bool.and_eq_true,decide_eq_true_eq,Bare.Mem.mk.injEq]
  constructor
  ·rintro ⟨a,b,c,d⟩;exact ⟨a,b,d,c⟩
  ·rintro ⟨a,b,d,c⟩;exact ⟨a,b,c,d⟩
 rw [hd]
 have he:=eq_tx (tx k) (tx k')
 rw [bl_tx,bl_tx] at he
 unfold mcs
 simp only at HP HI ⊢
 obtain ⟨K,hK⟩:∃ z,tx k=z:=⟨_,rfl⟩
 obtain ⟨K',hK'⟩:∃ z,tx k'=z:=⟨_,rfl⟩
 obtain ⟨a1,h1⟩:∃ z,decide (k=k')=z:=⟨_,rfl⟩
 obtain ⟨a2,h2⟩:∃ z,decide (y=y')=z:=⟨_,rfl⟩
 obtain ⟨a3,h3⟩:∃ z,decide (ps=ps')=z:=⟨_,rfl⟩
 obtain ⟨a4,h4⟩:∃ z,decide (its=its')=z:=⟨_,rfl⟩
 have hb2:(y == y')=a2:=by rw [← h2];cases y <;> cases y' <;> rfl
 rw [hK,hK',h1] at he
 rw [hK,hK',h1,h2,h3,h4]
 rw [h3] at HP
 rw [h4] at HI
 obtain ⟨il,hil⟩:∃ z,its.length=z:=⟨_,rfl⟩
 obtain ⟨jl,hjl⟩:∃ z,its'.length=z:=⟨_,rfl⟩
 obtain ⟨pl,hpl⟩:∃ z,ps.length=z:=⟨_,rfl⟩
 obtain ⟨ql,hql⟩:∃ z,ps'.length=z:=⟨_,rfl⟩
 rw [hil,hjl] at HI ⊢
 rw [hpl,hql] at HP ⊢
 obtain ⟨z,hz⟩:∃ z,(a1 && (a2 && (a3 && a4)))=z:=⟨_,rfl⟩
 have HZ:=Lib.hid hz
 rw [hz]
 clear hz hil hjl hpl hql h1 h3 h4 hK hK' hd hi hp hj hq
 have hA:New w (w.alloc (.cells #[.string K,.bool y,.slice ia il ic,.slice pa pl pc] 44)):=(Mods.refl _ _).alloc _
 have r1:=World.alloc_heap_new w (.cells #[.string K,.bool y,.slice ia il ic,.slice pa pl pc] 44)
 obtain ⟨W1,hW1⟩:∃ W1,w.alloc (.cells #[.string K,.bool y,.slice ia il ic,.slice pa pl pc] 44)=W1:=⟨_,rfl⟩
 have hA2:New W1 (W1.alloc (.cells #[.string K',.bool y',.slice ja jl jc,.slice qa ql qc] 44)):=(Mods.refl _ _).alloc _
 have r2:=World.alloc_heap_new W1 (.cells #[.string K',.bool y',.slice ja jl jc,.slice qa ql qc] 44)
 obtain ⟨W2,hW2⟩:∃ W2,W1.alloc (.cells #[.string K',.bool y',.slice ja jl jc,.slice qa ql qc] 44)=W2:=⟨_,rfl⟩
 have hs1:W1.heap.size=w.heap.size + 1:=by rw [← hW1];simp
 go_enter Tryz.func97,Tryz.ntmps97
 go_upto_region 1 with fail
 rw [hW1] at hA r1
 rw [hW2] at hA2 r2
 rw [hs1] at r2
 have r1:=hA2.heap r1 id
 have hN2:=hA.trans hA2
 have HP2:=Lib.hid (HP.out W2 hN2)
 have hb0:=(hN2.boxed hb id)
 obtain ⟨k0,f0⟩:=hb0.both
 have HR1:=Lib.hid r1
 have HR2:=Lib.hid r2
 have HB0:=Lib.hid hb0
 clear hW1 hW2 hs1 hb
 have x0:=cell_of_row _ _ 0 _ _ _ r1
 have y0:=cell_of_row _ _ 0 _ _ _ r2
 have x1:=cell_of_row _ _ 1 _ _ _ r1
 have y1:=cell_of_row _ _ 1 _ _ _ r2
 have x2:=cell_of_row _ _ 2 _ _ _ r1
 have y2:=cell_of_row _ _ 2 _ _ _ r2
 have x3:=cell_of_row _ _ 3 _ _ _ r1
 have y3:=cell_of_row _ _ 3 _ _ _ r2
 simp only [gS] at x0 x1 x2 x3 y0 y1 y2 y3
 cases a1 with
 | false =>
  obtain rfl:false=z:=by rw [← HZ.out];rfl
  clear HZ
  go_wp2_with fail
  go_ret
  exact ⟨rfl,hN2⟩
 | true =>
  cases a2 with
  | false =>
   obtain rfl:false=z:=by rw [← HZ.out];rfl
   clear HZ
   go_wp2_with fail
   go_ret
   exact ⟨rfl,hN2⟩
  | true =>
   cases a3 with
   | false =>
    obtain rfl:false=z:=by rw [← HZ.out];rfl
    clear HZ
    go_wp2_with (go_at_call 95;refine (HP2.out).mono ?_;rintro e W3 ⟨rfl,hN3⟩;have s1:=hN3.heap HR1.out id;have s2:=hN3.heap HR2.out id;have z2:=cell_of_row _ _ 2 _ _ _ s1;have v2:=cell_of_row _ _ 2 _ _ _ s2;simp only [gS] at z2 v2;obtain ⟨k3,f3⟩:=(hN3.boxed HB0.out id).both)
    go_ret
    exact ⟨rfl,hN2.trans hN3⟩
   | true =>
    obtain rfl:a4=z:=by rw [← HZ.out];rfl
    clear HZ
    go_wp2_with (first | (go_at_call 95;refine (HP2.out).mono ?_;rintro e W3 ⟨rfl,hN3⟩;have s1:=hN3.heap HR1.out id;have s2:=hN3.heap HR2.out id;have z2:=cell_of_row _ _ 2 _ _ _ s1;have v2:=cell_of_row _ _ 2 _ _ _ s2;simp only [gS] at z2 v2;obtain ⟨k3,f3⟩:=(hN3.boxed HB0.out id).both) | (go_at_call 98;refine (HI.out _ (hN2.trans hN3)).mono ?_;rintro e W4 ⟨rfl,hN4⟩))
    go_ret
    exact ⟨rfl,(hN2.trans hN3).trans hN4⟩


theorem equal_D {τ τ':Bool} (v1 v2:Value) (l r:List Bare.Mem) (X:Nat) (w:World) (h1:RdD τ w v1 l) (h2:RdD τ' w v2 r) (hb:Boxed w X 114 (.func (.func 94) #[] #[])) :
  Calls Tryz.prog 96 #[v1,v2,.func (.func 97) #[] #[.pointer (some ⟨X,0,none⟩)]] w fun e w'=>e = .returned (.bool (decide (l=r)))∧New w w':=by
 obtain ⟨i1,p1,q1,-,s1⟩:=h1
 obtain ⟨i2,p2,q2,-,s2⟩:=h2
 have:=equalf_M 97 #[.pointer (some ⟨X,0,none⟩)] l.length r.length (fun i j=>(mcs (l.getD i noM) (i1 i) (p1 i)).getD j undef) (fun i j=>(mcs (r.getD i noM) (i2 i) (p2 i)).getD j undef) (fun W=>New w W) (fun W W' h k=>h.trans k) (fun i=>decide (l.getD i noM=r.getD i noM)) (fun hn i W hi hW=>same_member (l.getD i noM) (r.getD i noM) (i1 i) (p1 i) (i2 i) (p2 i) X W ((s1 i hi).1.new hW) ((s1 i hi).2.new hW) ((s2 i (by omega)).1.new hW) ((s2 i (by omega)).2.new hW) (hW.boxed hb id)) (enters_of Tryz.func97 (by kernel_rfl) rfl) v1 v2 w q1 q2 (Mods.refl _ _) (fun i hi=>by
  obtain ⟨a,c,e⟩:=(s1 i hi).1.slice
  obtain ⟨a',c',e'⟩:=(s1 i hi).2.slice
  rw [e,e'];exact mcs_one _ _ _ _ _ _ _ _) (fun i hi=>by
  obtain ⟨a,c,e⟩:=(s2 i hi).1.slice
  obtain ⟨a',c',e'⟩:=(s2 i hi).2.slice
  rw [e,e'];exact mcs_one _ _ _ _ _ _ _ _)
 rw [all_same] at this
 exact this
theorem same_d {τ τ':Bool} (v1 v2:Value) (l r:List Bare.Mem) (w:World) (h1:RdD τ w v1 l) (h2:RdD τ' w v2 r) :
  Calls Tryz.prog 33 #[v1,v2] w fun e w'=>e = .returned (.bool (decide (l=r)))∧New w w':=by
 have hA:New w (w.alloc (.cells #[.func (.func 94) #[] #[]] 114)):=(Mods.refl _ _).alloc _
 have HB:=Boxed.new w 114 (.func (.func 94) #[] #[])
 have HE:=Lib.hid (equal_D v1 v2 l r w.heap.size _ (h1.new hA) (h2.new hA) HB)
 obtain ⟨a1,c1,rfl⟩:=h1.slice
 obtain ⟨a2,c2,rfl⟩:=h2.slice
 obtain ⟨z,hz⟩:∃ z,decide (l=r)=z:=⟨_,rfl⟩
 rw [hz] at HE ⊢
 clear hz h1 h2
 have hst:(store ⟨w.heap.size,0,none⟩ (.func (.func 94) #[] #[])).run Tryz.prog (w.alloc (.cells #[.nilFunc] 114)) = .ok () (w.alloc (.cells #[.func (.func 94) #[] #[]] 114)):=by
  rw [run_store _ _ _ _ _ rfl]
  have hr:=World.alloc_heap_new w (.cells #[.nilFunc] 114)
  have c:=cell_of_row _ _ 0 _ _ _ hr
  simp only [List.getElem?_toArray,List.getElem?_cons_zero] at c
  have f:=frozen_row (i:=0) hr
  go_simp
 go_enter Tryz.func33,Tryz.ntmps33
 go_wp2_with (go_at_call 96;refine (HE.out).mono ?_;rintro e W3 ⟨rfl,hN3⟩)
 go_ret
 exact ⟨rfl,hA.trans hN3⟩
end Go.Proofs.YtnknmmbnhoanfaaGreatDoor
