/- Texts joined. -/
import Derived.Test.YtnknmmbnhoanfaaGreatDoorH08
set_option linter.unusedSimpArgs false
set_option linter.unusedVariables false
set_option maxHeartbeats 16000000
set_option maxRecDepth 100000
namespace Go.Proofs.YtnknmmbnhoanfaaGreatDoor
open Go.RowKit Go.Shelf Go.Cs
attribute [local go_sem] Oper.semAt_some


theorem opIn_got {ops:Array Oper} {Q:Exit→Act→World→Prop} {r:Option Nat} {i:Nat} {o:Oper} (d:Option Tmp) {a:Act} {w:World} {K:Act→World→Prop} {R:Value→World→Prop} (hp:plainOp o=true) (hi:ops[i]? = some o) (hg:o.guard=none) (hd:o.dst=d)
  (h:∃ v w',(execOp a.eval o).run Tryz.prog w = .ok (.value v) w'∧R v w') (hK:∀ v w',R v w'→K (a.put d v) w'):wpOpIn (Fr r) 0 Tryz.prog ops Q i K a w:=by
 obtain ⟨v,w',h1,h2⟩:=h
 exact opIn_value d hp hi hg hd h1 (hK v w' h2)
theorem row_kept {base B:Nat} {w W':World} {v:Value} {L:List Bare.Itm} {cs:Array Value} (hr:w.heap[B]? = some (.cells cs 44 (0,0))) (h:OwIt base w v L) (hm:∀ (w0:World) (S:Nat→Prop),Mods S w0 w→(∀ g,v.ownBlock=some g→w0.heap.size ≤ g ∨ S g)→Mods S w0 W'):W'.heap[B]? = some (.cells cs 44 (0,0)) :=
 (hm w (fun b=>v.ownBlock=some b) (Mods.refl _ _) (fun g hg=>.inr hg)).heap hr (fun e=>by
  obtain ⟨cs',fr,hc⟩:=h.tag B e
  rw [hr] at hc;cases hc)
theorem rdr_kept {base R:Nat} {w W':World} {v:Value} {L:List Bare.Itm} {s:Bare.Bs} {bad:Bool} (hr:Rdr w R s bad) (h:OwIt base w v L) (hm:∀ (w0:World) (S:Nat→Prop),Mods S w0 w→(∀ g,v.ownBlock=some g→w0.heap.size ≤ g ∨ S g)→Mods S w0 W'):Rdr W' R s bad :=
 (hm w (fun b=>v.ownBlock=some b) (Mods.refl _ _) (fun g hg=>.inr hg)).heap hr (fun e=>by
  obtain ⟨cs',fr,hc⟩:=h.tag R e
  rw [show w.heap[R]? = _ from hr] at hc;cases hc)
theorem lit52 (t:Array Value) (h:t.size=52):∃ u:Nat→Value,t=(u 0::u 1::u 2::u 3::u 4::u 5::u 6::u 7::u 8::u 9::u 10::u 11::u 12::u 13::u 14::u 15::u 16::u 17::u 18::u 19::u 20::u 21::u 22::u 23::u 24::u 25::u 26::u 27::u 28::u 29::u 30::u 31::u 32::u 33::u 34::u 35::u 36::u 37::u 38::u 39::u 40::u 41::u 42::u 43::u 44::u 45::u 46::u 47::u 48::u 49::u 50::u 51::([]:List Value)).toArray:=⟨fun i=>t.getD i undef,range_lit t 52 h⟩
theorem lit33 (t:Array Value) (h:t.size=33):∃ u:Nat→Value,t=(u 0::u 1::u 2::u 3::u 4::u 5::u 6::u 7::u 8::u 9::u 10::u 11::u 12::u 13::u 14::u 15::u 16::u 17::u 18::u 19::u 20::u 21::u 22::u 23::u 24::u 25::u 26::u 27::u 28::u 29::u 30::u 31::u 32::([]:List Value)).toArray:=⟨fun i=>t.getD i undef,range_lit t 33 h⟩
noncomputable def reg___dict_reader__inner_5:Code:=((Tryz.f167.body.bind (regionOf 5)).getD .skip)
theorem inner5 (t:Array Value) (hs:t.size=52) (w:World) {base B R ic pl pc:Nat} {ia pa:Option Addr} {x1 x3 x4 x5 x48 x49 x50 x51:Value} {q:ByteArray} {y bad:Bool} {its:List Bare.Itm} {s:Bare.Bs}
  (hq0:t.getD 0 undef = .pointer (some ⟨R,0,none⟩))
  (hq2:t.getD 2 undef = .pointer (some ⟨B,0,none⟩))
  (hq1:t.getD 1 undef=x1)
  (hq3:t.getD 3 undef=x3)
  (hq4:t.getD 4 undef=x4)
  (hq5:t.getD 5 undef=x5)
  (hq48:t.getD 48 undef=x48)
  (hq49:t.getD 49 undef=x49)
  (hq50:t.getD 50 undef=x50)
  (hq51:t.getD 51 undef=x51)
  (hB:w.heap[B]? = some (.cells #[.string q,.bool y,.slice ia its.length ic,.slice pa pl pc] 44 (0,0))) (ho:OwIt base w (.slice ia its.length ic) its) (hr:Rdr w R s bad) (hT:Hid (Tab w))
  (hl:s.length ≤ 1000000) (hln:its.length ≤ 2000000) (hbase:base ≤ w.heap.size) (hRb:R < base) (hRB:¬ R=B) :
  reg___dict_reader__inner_5.wp Tryz.prog (Only fun a' W'=>∃ x s' bad' iv',(a'.tmps.size=52∧a'.defers = []∧a'.tmps.getD 0 undef = .pointer (some ⟨R,0,none⟩)∧a'.tmps.getD 2 undef = .pointer (some ⟨B,0,none⟩)∧a'.tmps.getD 1 undef=x1∧a'.tmps.getD 3 undef=x3∧a'.tmps.getD 4 undef=x4∧a'.tmps.getD 5 undef=x5∧a'.tmps.getD 48 undef=x48∧a'.tmps.getD 49 undef=x49∧a'.tmps.getD 50 undef=x50∧a'.tmps.getD 51 undef=x51)∧W'.heap[B]? = some (.cells #[.string q,.bool y,iv',.slice pa pl pc] 44 (0,0))∧OwIt base W' iv' (its ++ [x])∧Rdr W' R s' bad'∧PostX s bad x s' bad'∧s'.length ≤ s.length∧x.params.length + s'.length ≤ s.length∧∀ w0:World,ModR R w0 w→w0.heap.size ≤ base→w0.heap.size ≤ B→ModR R w0 W') ⟨t,[]⟩ w:=by
 conv=>arg 2;whnf
 obtain ⟨u,rfl⟩:=lit52 t hs
 have hq0:u 0 = _:=hq0
 have hq2:u 2 = _:=hq2
 have hq1:u 1 = _:=hq1
 have hq3:u 3 = _:=hq3
 have hq4:u 4 = _:=hq4
 have hq5:u 5 = _:=hq5
 have hq48:u 48 = _:=hq48
 have hq49:u 49 = _:=hq49
 have hq50:u 50 = _:=hq50
 have hq51:u 51 = _:=hq51
 rw [hq0,hq2,hq1,hq3,hq4,hq5,hq48,hq49,hq50,hq51]
 clear hq0 hq2 hq1 hq3 hq4 hq5 hq48 hq49 hq50 hq51 hs
 have hrd:Rdr w.drew R s bad:=hr
 have hBd:w.drew.heap[B]? = _:=hB
 have hod:OwIt base w.drew (.slice ia its.length ic) its:=ho.new ((Mods.refl _ _).drew)
 have hTd:Tab w.drew:=hT.out.new ((Mods.refl _ _).drew)
 have c2d:=cell_of_row _ _ 2 _ _ _ hBd
 simp only [gS] at c2d
 clear hr hB ho
 refine (wpIn_wide (n:=0)).1 ?_
 refine wpIn_region_any (by kernel_rfl) ?_
 show wpAnyIn _ _ _ _ _ _ 8 _ _ w.drew
 refine any_take 0 (some 18) (.pointer (some ⟨B,2,none⟩)) rfl rfl (by kernel_rfl) (by kernel_rfl) (by kernel_rfl) (fun _ _ _ h=>h.elim) (.value rfl fun w=>by go_simp) ?_
 simp only [pS]
 refine any_take 2 (some 20) (.pointer (some ⟨R,0,none⟩)) rfl rfl (by kernel_rfl) (by kernel_rfl) (by kernel_rfl) (fun _ _ _ h=>h.elim) (.value rfl fun w=>by go_simp) ?_
 simp only [pS]
 refine wpAnyIn_all (rs:=[1,3]) (by kernel_rfl) (by simp) ?_
 intro i hi
 simp only [List.mem_cons,List.not_mem_nil,or_false] at hi
 rcases hi with rfl | rfl
 ·refine opIn_value (some 19) (v:=.slice ia its.length ic) (w':=w.drew) rfl rfl rfl rfl (by go_simp) ?_
  simp only [pS]
  refine wpAnyIn_all (rs:=[3]) (by kernel_rfl) (by simp) ?_
  simp only [List.mem_cons,List.not_mem_nil,or_false,forall_eq]
  refine opIn_call' (some 21) rfl rfl rfl rfl 168 #[.pointer (some ⟨R,0,none⟩)] (by go_simp) ((item_r R s bad w.drew hl hrd hTd).mono ?_)
  rintro e w2 ⟨x,xv,s',bad',rfl,hx2,hr2,hm2,hp,hsl,hll⟩
  obtain ⟨ya,yc,rfl⟩:=hx2.slice
  obtain ⟨yl,hyl⟩:∃ n,x.params.length=n:=⟨_,rfl⟩
  rw [hyl] at hx2
  refine ⟨_,rfl,?_⟩
  have rB2:=hm2.heap hBd (fun e=>hRB e.symm)
  have ho2:=hod.modR hrd hRb hm2
  have hb2:base ≤ w2.heap.size:=Nat.le_trans hbase hm2.size
  have hmm2:ModR R w w2:=(Mods.refl _ _).drew.trans hm2
  have c2':=cell_of_row _ _ 2 _ _ _ rB2
  simp only [gS] at c2'
  simp only [pS]
  refine wpAnyIn_all (rs:=[4]) (by kernel_rfl) (by simp) ?_
  simp only [List.mem_cons,List.not_mem_nil,or_false,forall_eq]
  refine opIn_value (some 22) (v:=.slice (some ⟨w2.heap.size,0,none⟩) 1 1) (w':=w2.alloc (.cells (ics x (.slice ya yl yc)).toArray 85)) rfl rfl rfl rfl (by unfold ics;go_simp) ?_
  simp only [pS]
  refine wpAnyIn_all (rs:=[5]) (by kernel_rfl) (by simp) ?_
  simp only [List.mem_cons,List.not_mem_nil,or_false,forall_eq]
  have AP:=fun (o:Oper) (a:Act) (h1:o.op = .call { callee:=.builtin .append,args:=#[.tmp 19,.tmp 22],argTypes:=#[41,41] }) (h2:a.eval (.tmp 19) = .slice ia its.length ic) (h3:a.eval (.tmp 22) = .slice (some ⟨w2.heap.size,0,none⟩) 1 1)=>run_append_It (y:=x) h1 h2 h3 rfl ho2 hx2 hln hb2
  refine opIn_got (some 23) rfl rfl rfl rfl (AP _ _ rfl rfl rfl) ?_
  rintro v' w3 ⟨ho3,hm3⟩
  simp only [pS]
  obtain ⟨xa,xc,rfl⟩:=ho3.slice
  have rB3:=row_kept rB2 ho2 hm3
  refine wpAnyIn_all (rs:=[6]) (by kernel_rfl) (by simp) ?_
  simp only [List.mem_cons,List.not_mem_nil,or_false,forall_eq]
  refine opIn_value (some 24) (v:=.pointer (some ⟨B,2,none⟩)) (w':=w3) rfl rfl rfl rfl (by go_simp) ?_
  simp only [pS]
  refine wpAnyIn_all (rs:=[7]) (by kernel_rfl) (by simp) ?_
  simp only [List.mem_cons,List.not_mem_nil,or_false,forall_eq]
  have c2:=cell_of_row _ _ 2 _ _ _ rB3
  simp only [gS] at c2
  have f2:=frozen_row (i:=2) rB3
  refine opIn_skip none (w':=w3.setCell ⟨B,2,none⟩ (.slice xa (its ++ [x]).length xc)) rfl rfl rfl rfl (by go_simp) ?_
  refine wpAnyIn_done (by kernel_rfl) ?_ _
  have hm':=setMods w3 B 2 (.slice xa (its ++ [x]).length xc)
  refine ⟨x,s',bad',.slice xa (its ++ [x]).length xc,⟨rfl,rfl,rfl,rfl,rfl,rfl,rfl,rfl,rfl,rfl,rfl,rfl⟩,?_,?_,?_,hp,hsl,hll,fun w0 h1 h2 h3=>?_⟩
  ·exact setCell_heap rB3 _
  ·exact ho3.modB rB3 hm'
  ·exact hm'.heap (rdr_kept hr2 ho2 hm3) (fun e=>hRB e)
  ·exact Mods.trans' (hm3 w0 _ (h1.trans hmm2) (fun g hg=>.inl (Nat.le_trans h2 (ho2.lt hg).1))) hm' h3
 ·refine opIn_call' (some 21) rfl rfl rfl rfl 168 #[.pointer (some ⟨R,0,none⟩)] (by go_simp) ((item_r R s bad w.drew hl hrd hTd).mono ?_)
  rintro e w2 ⟨x,xv,s',bad',rfl,hx2,hr2,hm2,hp,hsl,hll⟩
  obtain ⟨ya,yc,rfl⟩:=hx2.slice
  obtain ⟨yl,hyl⟩:∃ n,x.params.length=n:=⟨_,rfl⟩
  rw [hyl] at hx2
  refine ⟨_,rfl,?_⟩
  have rB2:=hm2.heap hBd (fun e=>hRB e.symm)
  have ho2:=hod.modR hrd hRb hm2
  have hb2:base ≤ w2.heap.size:=Nat.le_trans hbase hm2.size
  have hmm2:ModR R w w2:=(Mods.refl _ _).drew.trans hm2
  have c2':=cell_of_row _ _ 2 _ _ _ rB2
  simp only [gS] at c2'
  simp only [pS]
  refine wpAnyIn_all (rs:=[1,4]) (by kernel_rfl) (by simp) ?_
  intro i hi
  simp only [List.mem_cons,List.not_mem_nil,or_false] at hi
  rcases hi with rfl | rfl
  ·refine opIn_value (some 19) (v:=.slice ia its.length ic) (w':=w2) rfl rfl rfl rfl (by go_simp) ?_
   simp only [pS]
   refine wpAnyIn_all (rs:=[4]) (by kernel_rfl) (by simp) ?_
   simp only [List.mem_cons,List.not_mem_nil,or_false,forall_eq]
   refine opIn_value (some 22) (v:=.slice (some ⟨w2.heap.size,0,none⟩) 1 1) (w':=w2.alloc (.cells (ics x (.slice ya yl yc)).toArray 85)) rfl rfl rfl rfl (by unfold ics;go_simp) ?_
   simp only [pS]
   refine wpAnyIn_all (rs:=[5]) (by kernel_rfl) (by simp) ?_
   simp only [List.mem_cons,List.not_mem_nil,or_false,forall_eq]
   have AP:=fun (o:Oper) (a:Act) (h1:o.op = .call { callee:=.builtin .append,args:=#[.tmp 19,.tmp 22],argTypes:=#[41,41] }) (h2:a.eval (.tmp 19) = .slice ia its.length ic) (h3:a.eval (.tmp 22) = .slice (some ⟨w2.heap.size,0,none⟩) 1 1)=>run_append_It (y:=x) h1 h2 h3 rfl ho2 hx2 hln hb2
   refine opIn_got (some 23) rfl rfl rfl rfl (AP _ _ rfl rfl rfl) ?_
   rintro v' w3 ⟨ho3,hm3⟩
   simp only [pS]
   obtain ⟨xa,xc,rfl⟩:=ho3.slice
   have rB3:=row_kept rB2 ho2 hm3
   refine wpAnyIn_all (rs:=[6]) (by kernel_rfl) (by simp) ?_
   simp only [List.mem_cons,List.not_mem_nil,or_false,forall_eq]
   refine opIn_value (some 24) (v:=.pointer (some ⟨B,2,none⟩)) (w':=w3) rfl rfl rfl rfl (by go_simp) ?_
   simp only [pS]
   refine wpAnyIn_all (rs:=[7]) (by kernel_rfl) (by simp) ?_
   simp only [List.mem_cons,List.not_mem_nil,or_false,forall_eq]
   have c2:=cell_of_row _ _ 2 _ _ _ rB3
   simp only [gS] at c2
   have f2:=frozen_row (i:=2) rB3
   refine opIn_skip none (w':=w3.setCell ⟨B,2,none⟩ (.slice xa (its ++ [x]).length xc)) rfl rfl rfl rfl (by go_simp) ?_
   refine wpAnyIn_done (by kernel_rfl) ?_ _
   have hm':=setMods w3 B 2 (.slice xa (its ++ [x]).length xc)
   refine ⟨x,s',bad',.slice xa (its ++ [x]).length xc,⟨rfl,rfl,rfl,rfl,rfl,rfl,rfl,rfl,rfl,rfl,rfl,rfl⟩,?_,?_,?_,hp,hsl,hll,fun w0 h1 h2 h3=>?_⟩
   ·exact setCell_heap rB3 _
   ·exact ho3.modB rB3 hm'
   ·exact hm'.heap (rdr_kept hr2 ho2 hm3) (fun e=>hRB e)
   ·exact Mods.trans' (hm3 w0 _ (h1.trans hmm2) (fun g hg=>.inl (Nat.le_trans h2 (ho2.lt hg).1))) hm' h3
  ·refine opIn_value (some 22) (v:=.slice (some ⟨w2.heap.size,0,none⟩) 1 1) (w':=w2.alloc (.cells (ics x (.slice ya yl yc)).toArray 85)) rfl rfl rfl rfl (by unfold ics;go_simp) ?_
   simp only [pS]
   have c2f:(w2.alloc (.cells (ics x (.slice ya yl yc)).toArray 85)).cell? ⟨B,2,none⟩=some (.slice ia its.length ic):=((Mods.refl (fun _=>False) w2).alloc _).cell c2' id
   refine wpAnyIn_all (rs:=[1]) (by kernel_rfl) (by simp) ?_
   simp only [List.mem_cons,List.not_mem_nil,or_false,forall_eq]
   refine opIn_value (some 19) (v:=.slice ia its.length ic) (w':=(w2.alloc (.cells (ics x (.slice ya yl yc)).toArray 85))) rfl rfl rfl rfl (by go_simp) ?_
   simp only [pS]
   refine wpAnyIn_all (rs:=[5]) (by kernel_rfl) (by simp) ?_
   simp only [List.mem_cons,List.not_mem_nil,or_false,forall_eq]
   have AP:=fun (o:Oper) (a:Act) (h1:o.op = .call { callee:=.builtin .append,args:=#[.tmp 19,.tmp 22],argTypes:=#[41,41] }) (h2:a.eval (.tmp 19) = .slice ia its.length ic) (h3:a.eval (.tmp 22) = .slice (some ⟨w2.heap.size,0,none⟩) 1 1)=>run_append_It (y:=x) h1 h2 h3 rfl ho2 hx2 hln hb2
   refine opIn_got (some 23) rfl rfl rfl rfl (AP _ _ rfl rfl rfl) ?_
   rintro v' w3 ⟨ho3,hm3⟩
   simp only [pS]
   obtain ⟨xa,xc,rfl⟩:=ho3.slice
   have rB3:=row_kept rB2 ho2 hm3
   refine wpAnyIn_all (rs:=[6]) (by kernel_rfl) (by simp) ?_
   simp only [List.mem_cons,List.not_mem_nil,or_false,forall_eq]
   refine opIn_value (some 24) (v:=.pointer (some ⟨B,2,none⟩)) (w':=w3) rfl rfl rfl rfl (by go_simp) ?_
   simp only [pS]
   refine wpAnyIn_all (rs:=[7]) (by kernel_rfl) (by simp) ?_
   simp only [List.mem_cons,List.not_mem_nil,or_false,forall_eq]
   have c2:=cell_of_row _ _ 2 _ _ _ rB3
   simp only [gS] at c2
   have f2:=frozen_row (i:=2) rB3
   refine opIn_skip none (w':=w3.setCell ⟨B,2,none⟩ (.slice xa (its ++ [x]).length xc)) rfl rfl rfl rfl (by go_simp) ?_
   refine wpAnyIn_done (by kernel_rfl) ?_ _
   have hm':=setMods w3 B 2 (.slice xa (its ++ [x]).length xc)
   refine ⟨x,s',bad',.slice xa (its ++ [x]).length xc,⟨rfl,rfl,rfl,rfl,rfl,rfl,rfl,rfl,rfl,rfl,rfl,rfl⟩,?_,?_,?_,hp,hsl,hll,fun w0 h1 h2 h3=>?_⟩
   ·exact setCell_heap rB3 _
   ·exact ho3.modB rB3 hm'
   ·exact hm'.heap (rdr_kept hr2 ho2 hm3) (fun e=>hRB e)
   ·exact Mods.trans' (hm3 w0 _ (h1.trans hmm2) (fun g hg=>.inl (Nat.le_trans h2 (ho2.lt hg).1))) hm' h3
noncomputable def reg___dict_reader__member_6:Code:=((Tryz.f131.body.bind (regionOf 6)).getD .skip)
theorem member6 (t:Array Value) (hs:t.size=33) (w:World) {base B R ic pl pc:Nat} {ia pa:Option Addr} {x3:Value} {q:ByteArray} {y bad:Bool} {its:List Bare.Itm} {s:Bare.Bs}
  (hq0:t.getD 0 undef = .pointer (some ⟨R,0,none⟩))
  (hq2:t.getD 2 undef = .pointer (some ⟨B,0,none⟩))
  (hq3:t.getD 3 undef=x3)
  (hB:w.heap[B]? = some (.cells #[.string q,.bool y,.slice ia its.length ic,.slice pa pl pc] 44 (0,0))) (ho:OwIt base w (.slice ia its.length ic) its) (hr:Rdr w R s bad) (hT:Hid (Tab w))
  (hl:s.length ≤ 1000000) (hln:its.length ≤ 2000000) (hbase:base ≤ w.heap.size) (hRb:R < base) (hRB:¬ R=B) :
  reg___dict_reader__member_6.wp Tryz.prog (Only fun a' W'=>∃ x s' bad' iv',(a'.tmps.size=33∧a'.defers = []∧a'.tmps.getD 0 undef = .pointer (some ⟨R,0,none⟩)∧a'.tmps.getD 2 undef = .pointer (some ⟨B,0,none⟩)∧a'.tmps.getD 3 undef=x3)∧W'.heap[B]? = some (.cells #[.string q,.bool y,iv',.slice pa pl pc] 44 (0,0))∧OwIt base W' iv' (its ++ [x])∧Rdr W' R s' bad'∧PostX s bad x s' bad'∧s'.length ≤ s.length∧x.params.length + s'.length ≤ s.length∧∀ w0:World,ModR R w0 w→w0.heap.size ≤ base→w0.heap.size ≤ B→ModR R w0 W') ⟨t,[]⟩ w:=by
 conv=>arg 2;whnf
 obtain ⟨u,rfl⟩:=lit33 t hs
 have hq0:u 0 = _:=hq0
 have hq2:u 2 = _:=hq2
 have hq3:u 3 = _:=hq3
 rw [hq0,hq2,hq3]
 clear hq0 hq2 hq3 hs
 have hrd:Rdr w.drew R s bad:=hr
 have hBd:w.drew.heap[B]? = _:=hB
 have hod:OwIt base w.drew (.slice ia its.length ic) its:=ho.new ((Mods.refl _ _).drew)
 have hTd:Tab w.drew:=hT.out.new ((Mods.refl _ _).drew)
 have c2d:=cell_of_row _ _ 2 _ _ _ hBd
 simp only [gS] at c2d
 clear hr hB ho
 refine (wpIn_wide (n:=0)).1 ?_
 refine wpIn_region_any (by kernel_rfl) ?_
 show wpAnyIn _ _ _ _ _ _ 8 _ _ w.drew
 refine any_take 0 (some 23) (.pointer (some ⟨B,2,none⟩)) rfl rfl (by kernel_rfl) (by kernel_rfl) (by kernel_rfl) (fun _ _ _ h=>h.elim) (.value rfl fun w=>by go_simp) ?_
 simp only [pS]
 refine any_take 2 (some 25) (.pointer (some ⟨R,0,none⟩)) rfl rfl (by kernel_rfl) (by kernel_rfl) (by kernel_rfl) (fun _ _ _ h=>h.elim) (.value rfl fun w=>by go_simp) ?_
 simp only [pS]
 refine wpAnyIn_all (rs:=[1,3]) (by kernel_rfl) (by simp) ?_
 intro i hi
 simp only [List.mem_cons,List.not_mem_nil,or_false] at hi
 rcases hi with rfl | rfl
 ·refine opIn_value (some 24) (v:=.slice ia its.length ic) (w':=w.drew) rfl rfl rfl rfl (by go_simp) ?_
  simp only [pS]
  refine wpAnyIn_all (rs:=[3]) (by kernel_rfl) (by simp) ?_
  simp only [List.mem_cons,List.not_mem_nil,or_false,forall_eq]
  refine opIn_call' (some 26) rfl rfl rfl rfl 168 #[.pointer (some ⟨R,0,none⟩)] (by go_simp) ((item_r R s bad w.drew hl hrd hTd).mono ?_)
  rintro e w2 ⟨x,xv,s',bad',rfl,hx2,hr2,hm2,hp,hsl,hll⟩
  obtain ⟨ya,yc,rfl⟩:=hx2.slice
  obtain ⟨yl,hyl⟩:∃ n,x.params.length=n:=⟨_,rfl⟩
  rw [hyl] at hx2
  refine ⟨_,rfl,?_⟩
  have rB2:=hm2.heap hBd (fun e=>hRB e.symm)
  have ho2:=hod.modR hrd hRb hm2
  have hb2:base ≤ w2.heap.size:=Nat.le_trans hbase hm2.size
  have hmm2:ModR R w w2:=(Mods.refl _ _).drew.trans hm2
  have c2':=cell_of_row _ _ 2 _ _ _ rB2
  simp only [gS] at c2'
  simp only [pS]
  refine wpAnyIn_all (rs:=[4]) (by kernel_rfl) (by simp) ?_
  simp only [List.mem_cons,List.not_mem_nil,or_false,forall_eq]
  refine opIn_value (some 27) (v:=.slice (some ⟨w2.heap.size,0,none⟩) 1 1) (w':=w2.alloc (.cells (ics x (.slice ya yl yc)).toArray 85)) rfl rfl rfl rfl (by unfold ics;go_simp) ?_
  simp only [pS]
  refine wpAnyIn_all (rs:=[5]) (by kernel_rfl) (by simp) ?_
  simp only [List.mem_cons,List.not_mem_nil,or_false,forall_eq]
  have AP:=fun (o:Oper) (a:Act) (h1:o.op = .call { callee:=.builtin .append,args:=#[.tmp 24,.tmp 27],argTypes:=#[41,41] }) (h2:a.eval (.tmp 24) = .slice ia its.length ic) (h3:a.eval (.tmp 27) = .slice (some ⟨w2.heap.size,0,none⟩) 1 1)=>run_append_It (y:=x) h1 h2 h3 rfl ho2 hx2 hln hb2
  refine opIn_got (some 28) rfl rfl rfl rfl (AP _ _ rfl rfl rfl) ?_
  rintro v' w3 ⟨ho3,hm3⟩
  simp only [pS]
  obtain ⟨xa,xc,rfl⟩:=ho3.slice
  have rB3:=row_kept rB2 ho2 hm3
  refine wpAnyIn_all (rs:=[6]) (by kernel_rfl) (by simp) ?_
  simp only [List.mem_cons,List.not_mem_nil,or_false,forall_eq]
  refine opIn_value (some 29) (v:=.pointer (some ⟨B,2,none⟩)) (w':=w3) rfl rfl rfl rfl (by go_simp) ?_
  simp only [pS]
  refine wpAnyIn_all (rs:=[7]) (by kernel_rfl) (by simp) ?_
  simp only [List.mem_cons,List.not_mem_nil,or_false,forall_eq]
  have c2:=cell_of_row _ _ 2 _ _ _ rB3
  simp only [gS] at c2
  have f2:=frozen_row (i:=2) rB3
  refine opIn_skip none (w':=w3.setCell ⟨B,2,none⟩ (.slice xa (its ++ [x]).length xc)) rfl rfl rfl rfl (by go_simp) ?_
  refine wpAnyIn_done (by kernel_rfl) ?_ _
  have hm':=setMods w3 B 2 (.slice xa (its ++ [x]).length xc)
  refine ⟨x,s',bad',.slice xa (its ++ [x]).length xc,⟨rfl,rfl,rfl,rfl,rfl⟩,?_,?_,?_,hp,hsl,hll,fun w0 h1 h2 h3=>?_⟩
  ·exact setCell_heap rB3 _
  ·exact ho3.modB rB3 hm'
  ·exact hm'.heap (rdr_kept hr2 ho2 hm3) (fun e=>hRB e)
  ·exact Mods.trans' (hm3 w0 _ (h1.trans hmm2) (fun g hg=>.inl (Nat.le_trans h2 (ho2.lt hg).1))) hm' h3
 ·refine opIn_call' (some 26) rfl rfl rfl rfl 168 #[.pointer (some ⟨R,0,none⟩)] (by go_simp) ((item_r R s bad w.drew hl hrd hTd).mono ?_)
  rintro e w2 ⟨x,xv,s',bad',rfl,hx2,hr2,hm2,hp,hsl,hll⟩
  obtain ⟨ya,yc,rfl⟩:=hx2.slice
  obtain ⟨yl,hyl⟩:∃ n,x.params.length=n:=⟨_,rfl⟩
  rw [hyl] at hx2
  refine ⟨_,rfl,?_⟩
  have rB2:=hm2.heap hBd (fun e=>hRB e.symm)
  have ho2:=hod.modR hrd hRb hm2
  have hb2:base ≤ w2.heap.size:=Nat.le_trans hbase hm2.size
  have hmm2:ModR R w w2:=(Mods.refl _ _).drew.trans hm2
  have c2':=cell_of_row _ _ 2 _ _ _ rB2
  simp only [gS] at c2'
  simp only [pS]
  refine wpAnyIn_all (rs:=[1,4]) (by kernel_rfl) (by simp) ?_
  intro i hi
  simp only [List.mem_cons,List.not_mem_nil,or_false] at hi
  rcases hi with rfl | rfl
  ·refine opIn_value (some 24) (v:=.slice ia its.length ic) (w':=w2) rfl rfl rfl rfl (by go_simp) ?_
   simp only [pS]
   refine wpAnyIn_all (rs:=[4]) (by kernel_rfl) (by simp) ?_
   simp only [List.mem_cons,List.not_mem_nil,or_false,forall_eq]
   refine opIn_value (some 27) (v:=.slice (some ⟨w2.heap.size,0,none⟩) 1 1) (w':=w2.alloc (.cells (ics x (.slice ya yl yc)).toArray 85)) rfl rfl rfl rfl (by unfold ics;go_simp) ?_
   simp only [pS]
   refine wpAnyIn_all (rs:=[5]) (by kernel_rfl) (by simp) ?_
   simp only [List.mem_cons,List.not_mem_nil,or_false,forall_eq]
   have AP:=fun (o:Oper) (a:Act) (h1:o.op = .call { callee:=.builtin .append,args:=#[.tmp 24,.tmp 27],argTypes:=#[41,41] }) (h2:a.eval (.tmp 24) = .slice ia its.length ic) (h3:a.eval (.tmp 27) = .slice (some ⟨w2.heap.size,0,none⟩) 1 1)=>run_append_It (y:=x) h1 h2 h3 rfl ho2 hx2 hln hb2
   refine opIn_got (some 28) rfl rfl rfl rfl (AP _ _ rfl rfl rfl) ?_
   rintro v' w3 ⟨ho3,hm3⟩
   simp only [pS]
   obtain ⟨xa,xc,rfl⟩:=ho3.slice
   have rB3:=row_kept rB2 ho2 hm3
   refine wpAnyIn_all (rs:=[6]) (by kernel_rfl) (by simp) ?_
   simp only [List.mem_cons,List.not_mem_nil,or_false,forall_eq]
   refine opIn_value (some 29) (v:=.pointer (some ⟨B,2,none⟩)) (w':=w3) rfl rfl rfl rfl (by go_simp) ?_
   simp only [pS]
   refine wpAnyIn_all (rs:=[7]) (by kernel_rfl) (by simp) ?_
   simp only [List.mem_cons,List.not_mem_nil,or_false,forall_eq]
   have c2:=cell_of_row _ _ 2 _ _ _ rB3
   simp only [gS] at c2
   have f2:=frozen_row (i:=2) rB3
   refine opIn_skip none (w':=w3.setCell ⟨B,2,none⟩ (.slice xa (its ++ [x]).length xc)) rfl rfl rfl rfl (by go_simp) ?_
   refine wpAnyIn_done (by kernel_rfl) ?_ _
   have hm':=setMods w3 B 2 (.slice xa (its ++ [x]).length xc)
   refine ⟨x,s',bad',.slice xa (its ++ [x]).length xc,⟨rfl,rfl,rfl,rfl,rfl⟩,?_,?_,?_,hp,hsl,hll,fun w0 h1 h2 h3=>?_⟩
   ·exact setCell_heap rB3 _
   ·exact ho3.modB rB3 hm'
   ·exact hm'.heap (rdr_kept hr2 ho2 hm3) (fun e=>hRB e)
   ·exact Mods.trans' (hm3 w0 _ (h1.trans hmm2) (fun g hg=>.inl (Nat.le_trans h2 (ho2.lt hg).1))) hm' h3
  ·refine opIn_value (some 27) (v:=.slice (some ⟨w2.heap.size,0,none⟩) 1 1) (w':=w2.alloc (.cells (ics x (.slice ya yl yc)).toArray 85)) rfl rfl rfl rfl (by unfold ics;go_simp) ?_
   simp only [pS]
   have c2f:(w2.alloc (.cells (ics x (.slice ya yl yc)).toArray 85)).cell? ⟨B,2,none⟩=some (.slice ia its.length ic):=((Mods.refl (fun _=>False) w2).alloc _).cell c2' id
   refine wpAnyIn_all (rs:=[1]) (by kernel_rfl) (by simp) ?_
   simp only [List.mem_cons,List.not_mem_nil,or_false,forall_eq]
   refine opIn_value (some 24) (v:=.slice ia its.length ic) (w':=(w2.alloc (.cells (ics x (.slice ya yl yc)).toArray 85))) rfl rfl rfl rfl (by go_simp) ?_
   simp only [pS]
   refine wpAnyIn_all (rs:=[5]) (by kernel_rfl) (by simp) ?_
   simp only [List.mem_cons,List.not_mem_nil,or_false,forall_eq]
   have AP:=fun (o:Oper) (a:Act) (h1:o.op = .call { callee:=.builtin .append,args:=#[.tmp 24,.tmp 27],argTypes:=#[41,41] }) (h2:a.eval (.tmp 24) = .slice ia its.length ic) (h3:a.eval (.tmp 27) = .slice (some ⟨w2.heap.size,0,none⟩) 1 1)=>run_append_It (y:=x) h1 h2 h3 rfl ho2 hx2 hln hb2
   refine opIn_got (some 28) rfl rfl rfl rfl (AP _ _ rfl rfl rfl) ?_
   rintro v' w3 ⟨ho3,hm3⟩
   simp only [pS]
   obtain ⟨xa,xc,rfl⟩:=ho3.slice
   have rB3:=row_kept rB2 ho2 hm3
   refine wpAnyIn_all (rs:=[6]) (by kernel_rfl) (by simp) ?_
   simp only [List.mem_cons,List.not_mem_nil,or_false,forall_eq]
   refine opIn_value (some 29) (v:=.pointer (some ⟨B,2,none⟩)) (w':=w3) rfl rfl rfl rfl (by go_simp) ?_
   simp only [pS]
   refine wpAnyIn_all (rs:=[7]) (by kernel_rfl) (by simp) ?_
   simp only [List.mem_cons,List.not_mem_nil,or_false,forall_eq]
   have c2:=cell_of_row _ _ 2 _ _ _ rB3
   simp only [gS] at c2
   have f2:=frozen_row (i:=2) rB3
   refine opIn_skip none (w':=w3.setCell ⟨B,2,none⟩ (.slice xa (its ++ [x]).length xc)) rfl rfl rfl rfl (by go_simp) ?_
   refine wpAnyIn_done (by kernel_rfl) ?_ _
   have hm':=setMods w3 B 2 (.slice xa (its ++ [x]).length xc)
   refine ⟨x,s',bad',.slice xa (its ++ [x]).length xc,⟨rfl,rfl,rfl,rfl,rfl⟩,?_,?_,?_,hp,hsl,hll,fun w0 h1 h2 h3=>?_⟩
   ·exact setCell_heap rB3 _
   ·exact ho3.modB rB3 hm'
   ·exact hm'.heap (rdr_kept hr2 ho2 hm3) (fun e=>hRB e)
   ·exact Mods.trans' (hm3 w0 _ (h1.trans hmm2) (fun g hg=>.inl (Nat.le_trans h2 (ho2.lt hg).1))) hm' h3
noncomputable def reg___dict_reader__member_2:Code:=((Tryz.f131.body.bind (regionOf 2)).getD .skip)
theorem member2 (t:Array Value) (hs:t.size=33) (w:World) {base B R ic pl pc:Nat} {ia pa:Option Addr} {x3:Value} {q:ByteArray} {y bad:Bool} {its:List Bare.Itm} {s:Bare.Bs}
  (hq0:t.getD 0 undef = .pointer (some ⟨R,0,none⟩))
  (hq2:t.getD 2 undef = .pointer (some ⟨B,0,none⟩))
  (hq3:t.getD 3 undef=x3)
  (hB:w.heap[B]? = some (.cells #[.string q,.bool y,.slice ia its.length ic,.slice pa pl pc] 44 (0,0))) (ho:OwIt base w (.slice ia its.length ic) its) (hr:Rdr w R s bad) (hT:Hid (Tab w))
  (hl:s.length ≤ 1000000) (hln:its.length ≤ 2000000) (hbase:base ≤ w.heap.size) (hRb:R < base) (hRB:¬ R=B) :
  reg___dict_reader__member_2.wp Tryz.prog (Only fun a' W'=>∃ l s' bad' iv',(a'.tmps.size=33∧a'.defers = []∧a'.tmps.getD 0 undef = .pointer (some ⟨R,0,none⟩)∧a'.tmps.getD 2 undef = .pointer (some ⟨B,0,none⟩)∧a'.tmps.getD 3 undef=x3)∧W'.heap[B]? = some (.cells #[.string q,.bool y,iv',.slice pa pl pc] 44 (0,0))∧OwIt base W' iv' (its ++ [(⟨Bare.yesI,l⟩:Bare.Itm)])∧Rdr W' R s' bad'∧PostP s bad l s' bad'∧s'.length ≤ s.length∧l.length + s'.length ≤ s.length∧∀ w0:World,ModR R w0 w→w0.heap.size ≤ base→w0.heap.size ≤ B→ModR R w0 W') ⟨t,[]⟩ w:=by
 conv=>arg 2;whnf
 obtain ⟨u,rfl⟩:=lit33 t hs
 have hq0:u 0 = _:=hq0
 have hq2:u 2 = _:=hq2
 have hq3:u 3 = _:=hq3
 rw [hq0,hq2,hq3]
 clear hq0 hq2 hq3 hs
 have hrd:Rdr w.drew R s bad:=hr
 have hBd:w.drew.heap[B]? = _:=hB
 have hod:OwIt base w.drew (.slice ia its.length ic) its:=ho.new ((Mods.refl _ _).drew)
 have hTd:Tab w.drew:=hT.out.new ((Mods.refl _ _).drew)
 have c2d:=cell_of_row _ _ 2 _ _ _ hBd
 simp only [gS] at c2d
 clear hr hB ho
 refine (wpIn_wide (n:=0)).1 ?_
 refine wpIn_region_any (by kernel_rfl) ?_
 show wpAnyIn _ _ _ _ _ _ 10 _ _ w.drew
 refine any_take 0 (some 6) (.pointer (some ⟨B,2,none⟩)) rfl rfl (by kernel_rfl) (by kernel_rfl) (by kernel_rfl) (fun _ _ _ h=>h.elim) (.value rfl fun w=>by go_simp) ?_
 simp only [pS]
 refine any_take 3 (some 9) (.pointer (some ⟨R,0,none⟩)) rfl rfl (by kernel_rfl) (by kernel_rfl) (by kernel_rfl) (fun _ _ _ h=>h.elim) (.value rfl fun w=>by go_simp) ?_
 simp only [pS]
 refine wpAnyIn_all (rs:=[1,2]) (by kernel_rfl) (by simp) ?_
 intro i hi
 simp only [List.mem_cons,List.not_mem_nil,or_false] at hi
 rcases hi with rfl | rfl
 ·refine opIn_value (some 7) (v:=.slice ia its.length ic) (w':=w.drew) rfl rfl rfl rfl (by go_simp) ?_
  simp only [pS]
  refine wpAnyIn_all (rs:=[2]) (by kernel_rfl) (by simp) ?_
  simp only [List.mem_cons,List.not_mem_nil,or_false,forall_eq]
  refine opIn_call' (some 8) rfl rfl rfl rfl 138 #[] (by go_simp) ((yes_any w.drew).mono ?_)
  rintro e w1 ⟨rfl,hN1⟩
  refine ⟨_,rfl,?_⟩
  have hrd:=Rdr.new hrd hN1
  have hBd:=hN1.heap hBd id
  have hod:=hod.new hN1
  have hTd:=hTd.new hN1
  have c2e:=cell_of_row _ _ 2 _ _ _ hBd
  simp only [gS] at c2e
  simp only [pS]
  refine wpAnyIn_all (rs:=[4]) (by kernel_rfl) (by simp) ?_
  simp only [List.mem_cons,List.not_mem_nil,or_false,forall_eq]
  refine opIn_call' (some 10) rfl rfl rfl rfl 169 #[.pointer (some ⟨R,0,none⟩)] (by go_simp) ((params_r R s bad w1 hl hrd hTd).mono ?_)
  rintro e w2 ⟨xv,l,s',bad',rfl,hx2,hr2,hm2,hp,hsl,hll⟩
  obtain ⟨ya,yc,rfl⟩:=hx2.slice
  obtain ⟨yl,hyl⟩:∃ n,l.length=n:=⟨_,rfl⟩
  rw [hyl] at hx2
  refine ⟨_,rfl,?_⟩
  have rB2:=hm2.heap hBd (fun e=>hRB e.symm)
  have ho2:=hod.modR hrd hRb hm2
  have hb2:base ≤ w2.heap.size:=Nat.le_trans hbase (Nat.le_trans hN1.size hm2.size)
  have hmm2:ModR R w w2:=(Mods.ofNew ((Mods.refl (fun _=>False) w).drew.trans hN1)).trans hm2
  have c2':=cell_of_row _ _ 2 _ _ _ rB2
  simp only [gS] at c2'
  simp only [pS]
  refine wpAnyIn_all (rs:=[5]) (by kernel_rfl) (by simp) ?_
  simp only [List.mem_cons,List.not_mem_nil,or_false,forall_eq]
  refine opIn_value (some 11) (v:=.agg (ics ⟨Bare.yesI,l⟩ (.slice ya yl yc)).toArray) (w':=w2) rfl rfl rfl rfl (by rw [hyl];unfold ics Bare.yesI bv bcs;go_simp) ?_
  simp only [pS]
  refine wpAnyIn_all (rs:=[6]) (by kernel_rfl) (by simp) ?_
  simp only [List.mem_cons,List.not_mem_nil,or_false,forall_eq]
  refine opIn_value (some 12) (v:=.slice (some ⟨w2.heap.size,0,none⟩) 1 1) (w':=w2.alloc (.cells (ics ⟨Bare.yesI,l⟩ (.slice ya yl yc)).toArray 85)) rfl rfl rfl rfl (by unfold ics Bare.yesI;go_simp) ?_
  simp only [pS]
  refine wpAnyIn_all (rs:=[7]) (by kernel_rfl) (by simp) ?_
  simp only [List.mem_cons,List.not_mem_nil,or_false,forall_eq]
  have AP:=fun (o:Oper) (a:Act) (h1:o.op = .call { callee:=.builtin .append,args:=#[.tmp 7,.tmp 12],argTypes:=#[41,41] }) (h2:a.eval (.tmp 7) = .slice ia its.length ic) (h3:a.eval (.tmp 12) = .slice (some ⟨w2.heap.size,0,none⟩) 1 1)=>run_append_It (y:=⟨Bare.yesI,l⟩) h1 h2 h3 rfl ho2 hx2 hln hb2
  refine opIn_got (some 13) rfl rfl rfl rfl (AP _ _ rfl rfl rfl) ?_
  rintro v' w3 ⟨ho3,hm3⟩
  simp only [pS]
  obtain ⟨xa,xc,rfl⟩:=ho3.slice
  have rB3:=row_kept rB2 ho2 hm3
  refine wpAnyIn_all (rs:=[8]) (by kernel_rfl) (by simp) ?_
  simp only [List.mem_cons,List.not_mem_nil,or_false,forall_eq]
  refine opIn_value (some 14) (v:=.pointer (some ⟨B,2,none⟩)) (w':=w3) rfl rfl rfl rfl (by go_simp) ?_
  simp only [pS]
  refine wpAnyIn_all (rs:=[9]) (by kernel_rfl) (by simp) ?_
  simp only [List.mem_cons,List.not_mem_nil,or_false,forall_eq]
  have c2:=cell_of_row _ _ 2 _ _ _ rB3
  simp only [gS] at c2
  have f2:=frozen_row (i:=2) rB3
  refine opIn_skip none (w':=w3.setCell ⟨B,2,none⟩ (.slice xa (its ++ [(⟨Bare.yesI,l⟩:Bare.Itm)]).length xc)) rfl rfl rfl rfl (by go_simp) ?_
  refine wpAnyIn_done (by kernel_rfl) ?_ _
  have hm':=setMods w3 B 2 (.slice xa (its ++ [(⟨Bare.yesI,l⟩:Bare.Itm)]).length xc)
  refine ⟨l,s',bad',.slice xa (its ++ [(⟨Bare.yesI,l⟩:Bare.Itm)]).length xc,⟨rfl,rfl,rfl,rfl,rfl⟩,?_,?_,?_,hp,hsl,hll,fun w0 h1 h2 h3=>?_⟩
  ·exact setCell_heap rB3 _
  ·exact ho3.modB rB3 hm'
  ·exact hm'.heap (rdr_kept hr2 ho2 hm3) (fun e=>hRB e)
  ·exact Mods.trans' (hm3 w0 _ (h1.trans hmm2) (fun g hg=>.inl (Nat.le_trans h2 (ho2.lt hg).1))) hm' h3
 ·refine opIn_call' (some 8) rfl rfl rfl rfl 138 #[] (by go_simp) ((yes_any w.drew).mono ?_)
  rintro e w1 ⟨rfl,hN1⟩
  refine ⟨_,rfl,?_⟩
  have hrd:=Rdr.new hrd hN1
  have hBd:=hN1.heap hBd id
  have hod:=hod.new hN1
  have hTd:=hTd.new hN1
  have c2e:=cell_of_row _ _ 2 _ _ _ hBd
  simp only [gS] at c2e
  simp only [pS]
  refine wpAnyIn_all (rs:=[1,4]) (by kernel_rfl) (by simp) ?_
  intro i hi
  simp only [List.mem_cons,List.not_mem_nil,or_false] at hi
  rcases hi with rfl | rfl
  ·refine opIn_value (some 7) (v:=.slice ia its.length ic) (w':=w1) rfl rfl rfl rfl (by go_simp) ?_
   simp only [pS]
   refine wpAnyIn_all (rs:=[4]) (by kernel_rfl) (by simp) ?_
   simp only [List.mem_cons,List.not_mem_nil,or_false,forall_eq]
   refine opIn_call' (some 10) rfl rfl rfl rfl 169 #[.pointer (some ⟨R,0,none⟩)] (by go_simp) ((params_r R s bad w1 hl hrd hTd).mono ?_)
   rintro e w2 ⟨xv,l,s',bad',rfl,hx2,hr2,hm2,hp,hsl,hll⟩
   obtain ⟨ya,yc,rfl⟩:=hx2.slice
   obtain ⟨yl,hyl⟩:∃ n,l.length=n:=⟨_,rfl⟩
   rw [hyl] at hx2
   refine ⟨_,rfl,?_⟩
   have rB2:=hm2.heap hBd (fun e=>hRB e.symm)
   have ho2:=hod.modR hrd hRb hm2
   have hb2:base ≤ w2.heap.size:=Nat.le_trans hbase (Nat.le_trans hN1.size hm2.size)
   have hmm2:ModR R w w2:=(Mods.ofNew ((Mods.refl (fun _=>False) w).drew.trans hN1)).trans hm2
   have c2':=cell_of_row _ _ 2 _ _ _ rB2
   simp only [gS] at c2'
   simp only [pS]
   refine wpAnyIn_all (rs:=[5]) (by kernel_rfl) (by simp) ?_
   simp only [List.mem_cons,List.not_mem_nil,or_false,forall_eq]
   refine opIn_value (some 11) (v:=.agg (ics ⟨Bare.yesI,l⟩ (.slice ya yl yc)).toArray) (w':=w2) rfl rfl rfl rfl (by rw [hyl];unfold ics Bare.yesI bv bcs;go_simp) ?_
   simp only [pS]
   refine wpAnyIn_all (rs:=[6]) (by kernel_rfl) (by simp) ?_
   simp only [List.mem_cons,List.not_mem_nil,or_false,forall_eq]
   refine opIn_value (some 12) (v:=.slice (some ⟨w2.heap.size,0,none⟩) 1 1) (w':=w2.alloc (.cells (ics ⟨Bare.yesI,l⟩ (.slice ya yl yc)).toArray 85)) rfl rfl rfl rfl (by unfold ics Bare.yesI;go_simp) ?_
   simp only [pS]
   refine wpAnyIn_all (rs:=[7]) (by kernel_rfl) (by simp) ?_
   simp only [List.mem_cons,List.not_mem_nil,or_false,forall_eq]
   have AP:=fun (o:Oper) (a:Act) (h1:o.op = .call { callee:=.builtin .append,args:=#[.tmp 7,.tmp 12],argTypes:=#[41,41] }) (h2:a.eval (.tmp 7) = .slice ia its.length ic) (h3:a.eval (.tmp 12) = .slice (some ⟨w2.heap.size,0,none⟩) 1 1)=>run_append_It (y:=⟨Bare.yesI,l⟩) h1 h2 h3 rfl ho2 hx2 hln hb2
   refine opIn_got (some 13) rfl rfl rfl rfl (AP _ _ rfl rfl rfl) ?_
   rintro v' w3 ⟨ho3,hm3⟩
   simp only [pS]
   obtain ⟨xa,xc,rfl⟩:=ho3.slice
   have rB3:=row_kept rB2 ho2 hm3
   refine wpAnyIn_all (rs:=[8]) (by kernel_rfl) (by simp) ?_
   simp only [List.mem_cons,List.not_mem_nil,or_false,forall_eq]
   refine opIn_value (some 14) (v:=.pointer (some ⟨B,2,none⟩)) (w':=w3) rfl rfl rfl rfl (by go_simp) ?_
   simp only [pS]
   refine wpAnyIn_all (rs:=[9]) (by kernel_rfl) (by simp) ?_
   simp only [List.mem_cons,List.not_mem_nil,or_false,forall_eq]
   have c2:=cell_of_row _ _ 2 _ _ _ rB3
   simp only [gS] at c2
   have f2:=frozen_row (i:=2) rB3
   refine opIn_skip none (w':=w3.setCell ⟨B,2,none⟩ (.slice xa (its ++ [(⟨Bare.yesI,l⟩:Bare.Itm)]).length xc)) rfl rfl rfl rfl (by go_simp) ?_
   refine wpAnyIn_done (by kernel_rfl) ?_ _
   have hm':=setMods w3 B 2 (.slice xa (its ++ [(⟨Bare.yesI,l⟩:Bare.Itm)]).length xc)
   refine ⟨l,s',bad',.slice xa (its ++ [(⟨Bare.yesI,l⟩:Bare.Itm)]).length xc,⟨rfl,rfl,rfl,rfl,rfl⟩,?_,?_,?_,hp,hsl,hll,fun w0 h1 h2 h3=>?_⟩
   ·exact setCell_heap rB3 _
   ·exact ho3.modB rB3 hm'
   ·exact hm'.heap (rdr_kept hr2 ho2 hm3) (fun e=>hRB e)
   ·exact Mods.trans' (hm3 w0 _ (h1.trans hmm2) (fun g hg=>.inl (Nat.le_trans h2 (ho2.lt hg).1))) hm' h3
  ·refine opIn_call' (some 10) rfl rfl rfl rfl 169 #[.pointer (some ⟨R,0,none⟩)] (by go_simp) ((params_r R s bad w1 hl hrd hTd).mono ?_)
   rintro e w2 ⟨xv,l,s',bad',rfl,hx2,hr2,hm2,hp,hsl,hll⟩
   obtain ⟨ya,yc,rfl⟩:=hx2.slice
   obtain ⟨yl,hyl⟩:∃ n,l.length=n:=⟨_,rfl⟩
   rw [hyl] at hx2
   refine ⟨_,rfl,?_⟩
   have rB2:=hm2.heap hBd (fun e=>hRB e.symm)
   have ho2:=hod.modR hrd hRb hm2
   have hb2:base ≤ w2.heap.size:=Nat.le_trans hbase (Nat.le_trans hN1.size hm2.size)
   have hmm2:ModR R w w2:=(Mods.ofNew ((Mods.refl (fun _=>False) w).drew.trans hN1)).trans hm2
   have c2':=cell_of_row _ _ 2 _ _ _ rB2
   simp only [gS] at c2'
   simp only [pS]
   refine wpAnyIn_all (rs:=[1,5]) (by kernel_rfl) (by simp) ?_
   intro i hi
   simp only [List.mem_cons,List.not_mem_nil,or_false] at hi
   rcases hi with rfl | rfl
   ·refine opIn_value (some 7) (v:=.slice ia its.length ic) (w':=w2) rfl rfl rfl rfl (by go_simp) ?_
    simp only [pS]
    refine wpAnyIn_all (rs:=[5]) (by kernel_rfl) (by simp) ?_
    simp only [List.mem_cons,List.not_mem_nil,or_false,forall_eq]
    refine opIn_value (some 11) (v:=.agg (ics ⟨Bare.yesI,l⟩ (.slice ya yl yc)).toArray) (w':=w2) rfl rfl rfl rfl (by rw [hyl];unfold ics Bare.yesI bv bcs;go_simp) ?_
    simp only [pS]
    refine wpAnyIn_all (rs:=[6]) (by kernel_rfl) (by simp) ?_
    simp only [List.mem_cons,List.not_mem_nil,or_false,forall_eq]
    refine opIn_value (some 12) (v:=.slice (some ⟨w2.heap.size,0,none⟩) 1 1) (w':=w2.alloc (.cells (ics ⟨Bare.yesI,l⟩ (.slice ya yl yc)).toArray 85)) rfl rfl rfl rfl (by unfold ics Bare.yesI;go_simp) ?_
    simp only [pS]
    refine wpAnyIn_all (rs:=[7]) (by kernel_rfl) (by simp) ?_
    simp only [List.mem_cons,List.not_mem_nil,or_false,forall_eq]
    have AP:=fun (o:Oper) (a:Act) (h1:o.op = .call { callee:=.builtin .append,args:=#[.tmp 7,.tmp 12],argTypes:=#[41,41] }) (h2:a.eval (.tmp 7) = .slice ia its.length ic) (h3:a.eval (.tmp 12) = .slice (some ⟨w2.heap.size,0,none⟩) 1 1)=>run_append_It (y:=⟨Bare.yesI,l⟩) h1 h2 h3 rfl ho2 hx2 hln hb2
    refine opIn_got (some 13) rfl rfl rfl rfl (AP _ _ rfl rfl rfl) ?_
    rintro v' w3 ⟨ho3,hm3⟩
    simp only [pS]
    obtain ⟨xa,xc,rfl⟩:=ho3.slice
    have rB3:=row_kept rB2 ho2 hm3
    refine wpAnyIn_all (rs:=[8]) (by kernel_rfl) (by simp) ?_
    simp only [List.mem_cons,List.not_mem_nil,or_false,forall_eq]
    refine opIn_value (some 14) (v:=.pointer (some ⟨B,2,none⟩)) (w':=w3) rfl rfl rfl rfl (by go_simp) ?_
    simp only [pS]
    refine wpAnyIn_all (rs:=[9]) (by kernel_rfl) (by simp) ?_
    simp only [List.mem_cons,List.not_mem_nil,or_false,forall_eq]
    have c2:=cell_of_row _ _ 2 _ _ _ rB3
    simp only [gS] at c2
    have f2:=frozen_row (i:=2) rB3
    refine opIn_skip none (w':=w3.setCell ⟨B,2,none⟩ (.slice xa (its ++ [(⟨Bare.yesI,l⟩:Bare.Itm)]).length xc)) rfl rfl rfl rfl (by go_simp) ?_
    refine wpAnyIn_done (by kernel_rfl) ?_ _
    have hm':=setMods w3 B 2 (.slice xa (its ++ [(⟨Bare.yesI,l⟩:Bare.Itm)]).length xc)
    refine ⟨l,s',bad',.slice xa (its ++ [(⟨Bare.yesI,l⟩:Bare.Itm)]).length xc,⟨rfl,rfl,rfl,rfl,rfl⟩,?_,?_,?_,hp,hsl,hll,fun w0 h1 h2 h3=>?_⟩
    ·exact setCell_heap rB3 _
    ·exact ho3.modB rB3 hm'
    ·exact hm'.heap (rdr_kept hr2 ho2 hm3) (fun e=>hRB e)
    ·exact Mods.trans' (hm3 w0 _ (h1.trans hmm2) (fun g hg=>.inl (Nat.le_trans h2 (ho2.lt hg).1))) hm' h3
   ·refine opIn_value (some 11) (v:=.agg (ics ⟨Bare.yesI,l⟩ (.slice ya yl yc)).toArray) (w':=w2) rfl rfl rfl rfl (by rw [hyl];unfold ics Bare.yesI bv bcs;go_simp) ?_
    simp only [pS]
    refine wpAnyIn_all (rs:=[1,6]) (by kernel_rfl) (by simp) ?_
    intro i hi
    simp only [List.mem_cons,List.not_mem_nil,or_false] at hi
    rcases hi with rfl | rfl
    ·refine opIn_value (some 7) (v:=.slice ia its.length ic) (w':=w2) rfl rfl rfl rfl (by go_simp) ?_
     simp only [pS]
     refine wpAnyIn_all (rs:=[6]) (by kernel_rfl) (by simp) ?_
     simp only [List.mem_cons,List.not_mem_nil,or_false,forall_eq]
     refine opIn_value (some 12) (v:=.slice (some ⟨w2.heap.size,0,none⟩) 1 1) (w':=w2.alloc (.cells (ics ⟨Bare.yesI,l⟩ (.slice ya yl yc)).toArray 85)) rfl rfl rfl rfl (by unfold ics Bare.yesI;go_simp) ?_
     simp only [pS]
     refine wpAnyIn_all (rs:=[7]) (by kernel_rfl) (by simp) ?_
     simp only [List.mem_cons,List.not_mem_nil,or_false,forall_eq]
     have AP:=fun (o:Oper) (a:Act) (h1:o.op = .call { callee:=.builtin .append,args:=#[.tmp 7,.tmp 12],argTypes:=#[41,41] }) (h2:a.eval (.tmp 7) = .slice ia its.length ic) (h3:a.eval (.tmp 12) = .slice (some ⟨w2.heap.size,0,none⟩) 1 1)=>run_append_It (y:=⟨Bare.yesI,l⟩) h1 h2 h3 rfl ho2 hx2 hln hb2
     refine opIn_got (some 13) rfl rfl rfl rfl (AP _ _ rfl rfl rfl) ?_
     rintro v' w3 ⟨ho3,hm3⟩
     simp only [pS]
     obtain ⟨xa,xc,rfl⟩:=ho3.slice
     have rB3:=row_kept rB2 ho2 hm3
     refine wpAnyIn_all (rs:=[8]) (by kernel_rfl) (by simp) ?_
     simp only [List.mem_cons,List.not_mem_nil,or_false,forall_eq]
     refine opIn_value (some 14) (v:=.pointer (some ⟨B,2,none⟩)) (w':=w3) rfl rfl rfl rfl (by go_simp) ?_
     simp only [pS]
     refine wpAnyIn_all (rs:=[9]) (by kernel_rfl) (by simp) ?_
     simp only [List.mem_cons,List.not_mem_nil,or_false,forall_eq]
     have c2:=cell_of_row _ _ 2 _ _ _ rB3
     simp only [gS] at c2
     have f2:=frozen_row (i:=2) rB3
     refine opIn_skip none (w':=w3.setCell ⟨B,2,none⟩ (.slice xa (its ++ [(⟨Bare.yesI,l⟩:Bare.Itm)]).length xc)) rfl rfl rfl rfl (by go_simp) ?_
     refine wpAnyIn_done (by kernel_rfl) ?_ _
     have hm':=setMods w3 B 2 (.slice xa (its ++ [(⟨Bare.yesI,l⟩:Bare.Itm)]).length xc)
     refine ⟨l,s',bad',.slice xa (its ++ [(⟨Bare.yesI,l⟩:Bare.Itm)]).length xc,⟨rfl,rfl,rfl,rfl,rfl⟩,?_,?_,?_,hp,hsl,hll,fun w0 h1 h2 h3=>?_⟩
     ·exact setCell_heap rB3 _
     ·exact ho3.modB rB3 hm'
     ·exact hm'.heap (rdr_kept hr2 ho2 hm3) (fun e=>hRB e)
     ·exact Mods.trans' (hm3 w0 _ (h1.trans hmm2) (fun g hg=>.inl (Nat.le_trans h2 (ho2.lt hg).1))) hm' h3
    ·refine opIn_value (some 12) (v:=.slice (some ⟨w2.heap.size,0,none⟩) 1 1) (w':=w2.alloc (.cells (ics ⟨Bare.yesI,l⟩ (.slice ya yl yc)).toArray 85)) rfl rfl rfl rfl (by unfold ics Bare.yesI;go_simp) ?_
     simp only [pS]
     have c2f:(w2.alloc (.cells (ics ⟨Bare.yesI,l⟩ (.slice ya yl yc)).toArray 85)).cell? ⟨B,2,none⟩=some (.slice ia its.length ic):=((Mods.refl (fun _=>False) w2).alloc _).cell c2' id
     refine wpAnyIn_all (rs:=[1]) (by kernel_rfl) (by simp) ?_
     simp only [List.mem_cons,List.not_mem_nil,or_false,forall_eq]
     refine opIn_value (some 7) (v:=.slice ia its.length ic) (w':=(w2.alloc (.cells (ics ⟨Bare.yesI,l⟩ (.slice ya yl yc)).toArray 85))) rfl rfl rfl rfl (by go_simp) ?_
     simp only [pS]
     refine wpAnyIn_all (rs:=[7]) (by kernel_rfl) (by simp) ?_
     simp only [List.mem_cons,List.not_mem_nil,or_false,forall_eq]
     have AP:=fun (o:Oper) (a:Act) (h1:o.op = .call { callee:=.builtin .append,args:=#[.tmp 7,.tmp 12],argTypes:=#[41,41] }) (h2:a.eval (.tmp 7) = .slice ia its.length ic) (h3:a.eval (.tmp 12) = .slice (some ⟨w2.heap.size,0,none⟩) 1 1)=>run_append_It (y:=⟨Bare.yesI,l⟩) h1 h2 h3 rfl ho2 hx2 hln hb2
     refine opIn_got (some 13) rfl rfl rfl rfl (AP _ _ rfl rfl rfl) ?_
     rintro v' w3 ⟨ho3,hm3⟩
     simp only [pS]
     obtain ⟨xa,xc,rfl⟩:=ho3.slice
     have rB3:=row_kept rB2 ho2 hm3
     refine wpAnyIn_all (rs:=[8]) (by kernel_rfl) (by simp) ?_
     simp only [List.mem_cons,List.not_mem_nil,or_false,forall_eq]
     refine opIn_value (some 14) (v:=.pointer (some ⟨B,2,none⟩)) (w':=w3) rfl rfl rfl rfl (by go_simp) ?_
     simp only [pS]
     refine wpAnyIn_all (rs:=[9]) (by kernel_rfl) (by simp) ?_
     simp only [List.mem_cons,List.not_mem_nil,or_false,forall_eq]
     have c2:=cell_of_row _ _ 2 _ _ _ rB3
     simp only [gS] at c2
     have f2:=frozen_row (i:=2) rB3
     refine opIn_skip none (w':=w3.setCell ⟨B,2,none⟩ (.slice xa (its ++ [(⟨Bare.yesI,l⟩:Bare.Itm)]).length xc)) rfl rfl rfl rfl (by go_simp) ?_
     refine wpAnyIn_done (by kernel_rfl) ?_ _
     have hm':=setMods w3 B 2 (.slice xa (its ++ [(⟨Bare.yesI,l⟩:Bare.Itm)]).length xc)
     refine ⟨l,s',bad',.slice xa (its ++ [(⟨Bare.yesI,l⟩:Bare.Itm)]).length xc,⟨rfl,rfl,rfl,rfl,rfl⟩,?_,?_,?_,hp,hsl,hll,fun w0 h1 h2 h3=>?_⟩
     ·exact setCell_heap rB3 _
     ·exact ho3.modB rB3 hm'
     ·exact hm'.heap (rdr_kept hr2 ho2 hm3) (fun e=>hRB e)
     ·exact Mods.trans' (hm3 w0 _ (h1.trans hmm2) (fun g hg=>.inl (Nat.le_trans h2 (ho2.lt hg).1))) hm' h3
end Go.Proofs.YtnknmmbnhoanfaaGreatDoor
namespace Go.Proofs.YtnknmmbnhoanfaaGreatDoor


def PostI (s0:Bare.Bs) (bad0:Bool) (its:List Bare.Itm) (ps:List Bare.Par) (s:Bare.Bs) (bad:Bool):Prop :=
 if bad0 then bad=true else match Bare.readInner [] s0 with
  | some (its0,r2)=>(match Bare.readParams [] r2 with
   | some (ps0,r3)=>its=its0∧ps=ps0∧s=r3∧bad=false
   | none=>bad=true)
  | none=>bad=true
def InvI (s0:Bare.Bs) (bad0:Bool) (its:List Bare.Itm) (s:Bare.Bs) (bad:Bool):Prop :=
 if bad0 then bad=true else if bad then Bare.readInner [] s0=none else Bare.readInner its s=Bare.readInner [] s0
theorem drop_idem (p:UInt8→Bool):∀ s:Bare.Bs,(s.dropWhile p).dropWhile p=s.dropWhile p
 | []=>rfl
 | c::r=>by
  rw [List.dropWhile_cons]
  split
  ·exact drop_idem p r
  ·rename_i h;rw [List.dropWhile_cons,if_neg h]
theorem skip_idem (c s:Bare.Bs):Bare.skipB c (Bare.skipB c s)=Bare.skipB c s:=drop_idem _ s
theorem inner_skip (l:List Bare.Itm):∀ s:Bare.Bs,Bare.readInner l (Bare.skipB [32] s)=Bare.readInner l s
 | []=>rfl
 | c::r=>by
  by_cases h:c=32
  ·subst h
   rw [Bare.readInner_blank]
   exact inner_skip l r
  ·have:Bare.skipB [32] (c::r)=c::r:=by
    unfold Bare.skipB
    rw [List.dropWhile_cons,if_neg (by simp [h])]
   rw [this]
theorem inner_none {l:List Bare.Itm} {s:Bare.Bs} (hs:s.head? ≠ some 41) (hsk:Bare.skipB [32] s=s) (h:Bare.readItem s=none):Bare.readInner l s=none:=by
 rw [Bare.readInner.eq_def]
 split
 ·rename_i r h1;rw [hsk] at h1;rw [h1] at hs;exact absurd rfl hs
 ·split
  ·rfl
  ·rename_i x r h2;rw [hsk,h] at h2;cases h2
theorem inner_wrong {l:List Bare.Itm} {s y:Bare.Bs} {x:Bare.Itm} (hs:s.head? ≠ some 41) (hsk:Bare.skipB [32] s=s) (h:Bare.readItem s=some (x,y)) (hy:¬ (y.head? = some 41 ∨ y.head? = some 32)):Bare.readInner l s=none:=by
 rw [Bare.readInner.eq_def]
 split
 ·rename_i r h1;rw [hsk] at h1;rw [h1] at hs;exact absurd rfl hs
 ·split
  ·rfl
  ·rename_i x' r h2;rw [hsk,h] at h2;cases h2;rw [if_neg hy]
theorem InvI.step {s0:Bare.Bs} {bad0:Bool} {its:List Bare.Itm} {s:Bare.Bs} (h:InvI s0 bad0 its s false) (hs:s.head? ≠ some 41) (hsk:Bare.skipB [32] s=s) {x:Bare.Itm} {s1:Bare.Bs} {bad1:Bool} (hp:PostX s false x s1 bad1) :
  InvI s0 bad0 (its ++ [x]) (Bare.skipB [32] s1) (bad1 || (!Lib.hasPrefix s1 [41] && !Lib.hasPrefix s1 [32])):=by
 unfold InvI at h ⊢
 split
 ·rename_i h0;rw [if_pos h0] at h;cases h
 ·rename_i h0
  rw [if_neg h0,if_neg (by decide)] at h
  unfold PostX at hp
  rw [if_neg (by decide)] at hp
  have hh:∀ c,Lib.hasPrefix s1 [c]=decide (s1.head? = some c):=fun c=>by
   cases s1 with
   | nil=>rfl
   | cons a r=>rw [(pre1_cons a c r).1];simp
  cases hi:Bare.readItem s with
  | none =>
   rw [hi] at hp
   simp only at hp
   subst hp
   rw [Bool.true_or,if_pos rfl,← h]
   exact inner_none hs hsk hi
  | some y =>
   obtain ⟨x0,r0⟩:=y
   rw [hi] at hp
   obtain ⟨rfl,rfl,rfl⟩:=hp
   rw [hh,hh,Bool.false_or]
   by_cases hy:s1.head? = some 41 ∨ s1.head? = some 32
   ·have e:(!decide (s1.head? = some 41) && !decide (s1.head? = some 32))=false:=by
     rcases hy with hy | hy <;> simp [hy]
    rw [e,if_neg (by decide),inner_skip,← h]
    exact (Bare.readInner_item (fun r hr=>by rw [hsk] at hr;rw [hr] at hs;exact hs rfl) (by rw [hsk];exact hi) hy).symm
   ·have e:(!decide (s1.head? = some 41) && !decide (s1.head? = some 32))=true:=by
     simp only [not_or] at hy
     simp [hy.1,hy.2]
    rw [e,if_pos rfl,← h]
    exact inner_wrong hs hsk hi hy
theorem InvI.fin {s0:Bare.Bs} {bad0:Bool} {its:List Bare.Itm} {r:Bare.Bs} (h:InvI s0 bad0 its (41::r) false) {ps:List Bare.Par} {s:Bare.Bs} {bad:Bool} (hp:PostP r false ps s bad):PostI s0 bad0 its ps s bad:=by
 unfold InvI at h
 unfold PostI
 split
 ·rename_i h0;rw [if_pos h0] at h;cases h
 ·rename_i h0
  rw [if_neg h0,if_neg (by decide),Bare.readInner_close] at h
  rw [← h]
  unfold PostP at hp
  rw [if_neg (by decide)] at hp
  simp only
  cases hq:Bare.readParams [] r with
  | none=>rw [hq] at hp;exact hp
  | some z =>
   obtain ⟨ps0,r3⟩:=z
   rw [hq] at hp
   exact ⟨trivial,hp.1,hp.2.1,hp.2.2⟩
theorem InvI.bad {s0:Bare.Bs} {bad0:Bool} {its:List Bare.Itm} {r:Bare.Bs} (h:InvI s0 bad0 its r true) {ps:List Bare.Par} {s:Bare.Bs} {bad:Bool} (hp:PostP r true ps s bad):PostI s0 bad0 its ps s bad:=by
 unfold InvI at h
 unfold PostI
 unfold PostP at hp
 rw [if_pos rfl] at hp
 split
 ·exact hp.2.2
 ·rename_i h0
  rw [if_neg h0,if_pos rfl] at h
  rw [h]
  exact hp.2.2
def PostM (s0:Bare.Bs) (bad0:Bool) (m:Bare.Mem) (s:Bare.Bs) (bad:Bool):Prop :=
 if bad0 then bad=true else match Bare.readMem s0 with
  | some (m0,r0)=>m=m0∧s=r0∧bad=false
  | none=>bad=true
theorem pre2_true {s:Bare.Bs} {c d:UInt8} (h:Lib.hasPrefix s [c,d]=true):∃ r,s=c::d::r∧Lib.trimPrefix s [c,d]=r:=by
 have h':=h
 unfold Lib.hasPrefix at h
 rw [List.isPrefixOf_iff_prefix] at h
 obtain ⟨r,rfl⟩:=h
 refine ⟨r,rfl,?_⟩
 unfold Lib.trimPrefix
 rw [if_pos h']
 rfl
theorem pre2_false {s:Bare.Bs} {c d:UInt8} (h:Lib.hasPrefix s [c,d]=false):(∀ r,s ≠ c::d::r)∧Lib.trimPrefix s [c,d]=s:=by
 refine ⟨fun r e=>?_,by unfold Lib.trimPrefix;rw [h];rfl⟩
 subst e
 unfold Lib.hasPrefix at h
 simp [List.isPrefixOf] at h
section
variable {s0 s1 s:Bare.Bs} {bad0 bad:Bool} {k:Bare.Bs}
theorem mem_key (hk:Bare.keyOf s0=k) (h1:s0.drop k.length=s1):Bare.readMem s0=if k.isEmpty then none else Bare.readRest k s1:=by
 unfold Bare.readMem Bare.readKey
 simp only [hk,h1]
 cases k with
 | nil=>rfl
 | cons a r=>rfl
theorem mem_inner (hk:Bare.keyOf s0=k) (h1:s0.drop k.length=61::40::s1) {its:List Bare.Itm} {ps:List Bare.Par} (hp:PostI s1 (bad0 || k.isEmpty) its ps s bad):PostM s0 bad0 ⟨k,true,its,ps⟩ s bad:=by
 unfold PostM
 rw [mem_key hk h1]
 unfold PostI at hp
 cases bad0 with
 | true=>rw [if_pos rfl];rw [Bool.true_or,if_pos rfl] at hp;exact hp
 | false =>
  rw [Bool.false_or] at hp
  rw [if_neg (by decide)]
  cases hke:k.isEmpty with
  | true=>rw [hke,if_pos rfl] at hp;simpa using hp
  | false =>
   rw [hke,if_neg (by decide)] at hp
   rw [if_neg (by decide),Bare.readRest_inner]
   cases hi:Bare.readInner [] s1 with
   | none=>rw [hi] at hp;exact hp
   | some y =>
    obtain ⟨its0,r2⟩:=y
    rw [hi] at hp
    simp only at hp ⊢
    cases hq:Bare.readParams [] r2 with
    | none=>rw [hq] at hp;exact hp
    | some z =>
     obtain ⟨ps0,r3⟩:=z
     rw [hq] at hp
     obtain ⟨rfl,rfl,rfl,rfl⟩:=hp
     exact ⟨rfl,rfl,rfl⟩
theorem mem_item (hk:Bare.keyOf s0=k) (h1:s0.drop k.length=61::s1) (hn:∀ r,s1 ≠ 40::r) {x:Bare.Itm} (hp:PostX s1 (bad0 || k.isEmpty) x s bad):PostM s0 bad0 ⟨k,false,[x],[]⟩ s bad:=by
 unfold PostM
 rw [mem_key hk h1]
 unfold PostX at hp
 cases bad0 with
 | true=>rw [if_pos rfl];rw [Bool.true_or,if_pos rfl] at hp;exact hp
 | false =>
  rw [Bool.false_or] at hp
  rw [if_neg (by decide)]
  cases hke:k.isEmpty with
  | true=>rw [hke,if_pos rfl] at hp;simpa using hp
  | false =>
   rw [hke,if_neg (by decide)] at hp
   rw [if_neg (by decide)]
   have e:Bare.readRest k (61::s1)=(match Bare.readItem s1 with
     | none=>none
     | some (x,r2)=>some (⟨k,false,[x],[]⟩,r2)):=by
    cases s1 with
    | nil=>rfl
    | cons c t=>exact Bare.readRest_item k t (fun e=>hn t (by rw [e]))
   rw [e]
   cases hi:Bare.readItem s1 with
   | none=>rw [hi] at hp;exact hp
   | some y =>
    obtain ⟨x0,r2⟩:=y
    rw [hi] at hp
    obtain ⟨rfl,rfl,rfl⟩:=hp
    exact ⟨rfl,rfl,rfl⟩
theorem mem_none (hk:Bare.keyOf s0=k) (h1:s0.drop k.length=s1) (hn:s1.head? ≠ some 61) {l:List Bare.Par} (hp:PostP s1 (bad0 || k.isEmpty) l s bad):PostM s0 bad0 ⟨k,false,[⟨Bare.yesI,l⟩],[]⟩ s bad:=by
 unfold PostM
 rw [mem_key hk h1]
 unfold PostP at hp
 cases bad0 with
 | true=>rw [if_pos rfl];rw [Bool.true_or,if_pos rfl] at hp;exact hp.2.2
 | false =>
  rw [Bool.false_or] at hp
  rw [if_neg (by decide)]
  cases hke:k.isEmpty with
  | true=>rw [hke,if_pos rfl] at hp;simpa using hp.2.2
  | false =>
   rw [hke,if_neg (by decide)] at hp
   rw [if_neg (by decide)]
   have e:Bare.readRest k s1=(match Bare.readParams [] s1 with
     | none=>none
     | some (ps,r2)=>some (⟨k,false,[⟨Bare.yesI,ps⟩],[]⟩,r2)):=by
    cases s1 with
    | nil=>rfl
    | cons c t=>exact Bare.readRest_else k t (fun e=>hn (by rw [e];rfl))
   rw [e]
   cases hi:Bare.readParams [] s1 with
   | none=>rw [hi] at hp;exact hp
   | some y =>
    obtain ⟨x0,r2⟩:=y
    rw [hi] at hp
    obtain ⟨rfl,rfl,rfl⟩:=hp
    exact ⟨rfl,rfl,rfl⟩
end
end Go.Proofs.YtnknmmbnhoanfaaGreatDoor
namespace Go.Proofs.YtnknmmbnhoanfaaGreatDoor
open Go.RowKit Go.Shelf Go.Cs
attribute [local go_sem] Oper.semAt_some


def mea (R:Nat) (w:World):Nat:=2 * left R w + match w.cell? ⟨R,1,none⟩ with
 | some (.bool false)=>1
 | _=>0
theorem mea_rdr {W:World} {R:Nat} {s:Bare.Bs} {bad:Bool} (h:Rdr W R s bad):mea R W=2 * s.length + if bad then 0 else 1:=by
 obtain ⟨⟨c0,c1⟩,_⟩:=h.facts
 unfold mea left
 rw [c0,c1]
 simp only [tx_size]
 cases bad <;> rfl
theorem mcs_one (q:ByteArray) (y:Bool) (a c:Option Addr) (n m k l:Nat):∀ u ∈ ([.string q,.bool y,.slice a n m,.slice c k l]:List Value),u.oneCell'=true:=by
 intro u hu
 simp at hu
 rcases hu with rfl | rfl | rfl | rfl <;> rfl
theorem inner_r (R:Nat) (s0:Bare.Bs) (bad0:Bool) (w:World) (hl:s0.length ≤ 1000000) (h:Rdr w R s0 bad0) (hT:Tab w) :
  Calls Tryz.prog 167 #[.pointer (some ⟨R,0,none⟩)] w fun e w'=>∃ its ps iv pv s bad,e = .returned (.agg (mcs ⟨[],true,its,ps⟩ iv pv).toArray)∧RdI true w' iv its∧RdP true w' pv ps∧Rdr w' R s bad∧ModR R w w'∧PostI s0 bad0 its ps s bad∧s.length ≤ s0.length:=by
 have hlt:=h.lt
 have HTab:=Lib.hid (fun (W:World) (hm:ModR R w W)=>hT.modR h hm)
 go_enter Tryz.func167,Tryz.ntmps167
 go_upto_region 2 with fail
 obtain ⟨W,hW⟩:∃ W,w.alloc (.cells #[.string ⟨#[]⟩,.bool true,.slice none 0 0,.slice none 0 0] 44)=W:=⟨_,rfl⟩
 have rB:W.heap[w.heap.size]? = some (.cells #[.string ⟨#[]⟩,.bool true,.slice none 0 0,.slice none 0 0] 44 (0,0)):=by rw [← hW];exact World.alloc_heap_new _ _
 have hN:New w W:=by rw [← hW];exact (Mods.refl _ _).alloc _
 rw [hW]
 obtain ⟨B,hB⟩:∃ B,w.heap.size=B:=⟨_,rfl⟩
 have hRB:¬ R=B:=by omega
 have hBw:w.heap.size ≤ B:=by omega
 have hRb:R < w.heap.size:=hlt
 rw [hB] at rB ⊢
 have h1:=h.new hN
 have hm1:ModR R w W:=Mods.ofNew hN
 clear hB hW h
 go_wp2_with fail
 refine (skip_any R s0 [32] bad0 W (by decide) (by decide) h1).mono ?_
 rintro e w1 ⟨⟨v5,rfl⟩,hr1,hm2⟩
 have rB1:=hm2.heap rB (fun e=>hRB e.symm)
 have hmm1:=hm1.trans hm2
 have hsl1:=Bare.skip_len [32] s0
 clear rB h1 hm1 hm2
 go_wp2_with fail
 go_loopw [] (fun wr=>∃ (its:List Bare.Itm) (s:Bare.Bs) (bad:Bool) (iv:Value),wr.heap[B]? = some (.cells #[.string ⟨#[]⟩,.bool true,iv,.slice none 0 0] 44 (0,0))∧OwIt w.heap.size wr iv its∧Rdr wr R s bad∧ModR R w wr∧Hid (InvI s0 bad0 its s bad)∧Bare.skipB [32] s=s∧s.length ≤ s0.length∧its.length + s.length ≤ s0.length + (if bad then 1 else 0)) (fun wr=>mea R wr)
 case atStart =>
  refine ⟨[],Bare.skipB [32] s0,bad0,.slice none 0 0,rB1,.nil _ _,hr1,hmm1,Lib.hid ?_,skip_idem _ _,hsl1,by simp;omega⟩
  unfold InvI
  cases bad0
  ·rw [if_neg (by decide),if_neg (by decide)];exact inner_skip [] s0
  ·rw [if_pos rfl]
 case round =>
  clear rB1 hr1 hmm1 hsl1 hN
  obtain ⟨its,s,bad,iv,rBF,hoF,hrF,hmF,hinv,hsk,hsl,hlen⟩:=hrel
  obtain ⟨ia,ic,rfl⟩:=hoF.slice
  obtain ⟨⟨c0,c1⟩,f0,f1⟩:=hrF.facts
  have C0:=Lib.hid c0
  clear c0 f0 f1
  have hitl:its.length ≤ 2000000:=by split at hlen <;> omega
  have hrW:=Lib.hid hrF
  cases bad with
  | true =>
   go_wp2_with fail
   refine (params_r R s true wr (by omega) hrF (HTab.out _ hmF)).mono ?_
   rintro e w5 ⟨xv,ps,s5,bad5,rfl,hx5,hr5,hm5,hp5,hsl5,hll5⟩
   obtain ⟨pa,pc,rfl⟩:=hx5.slice
   have rB5:=hm5.heap rBF (fun e=>hRB e.symm)
   have ho5:=hoF.modR hrF hRb hm5
   have hmm5:=hmF.trans hm5
   have c3:=cell_of_row _ _ 3 _ _ _ rB5
   simp only [gS] at c3
   have f3:=frozen_row (i:=3) rB5
   have HRB5:=Lib.hid rB5
   have HP5:=Lib.hid (hinv.out.bad hp5)
   obtain ⟨pl,hpl⟩:∃ n,ps.length=n:=⟨_,rfl⟩
   rw [hpl] at hx5 ⊢
   clear hm5 hp5 hmF rBF hoF hrF hll5
   go_upto_region 8 with fail
   obtain ⟨w6,hW6⟩:∃ w6,w5.setCell ⟨B,3,none⟩ (.slice pa pl pc)=w6:=⟨_,rfl⟩
   rw [hW6]
   have rB6:w6.heap[B]? = some (.cells #[.string ⟨#[]⟩,.bool true,.slice ia its.length ic,.slice pa pl pc] 44 (0,0)):=by rw [← hW6];exact setCell_heap HRB5.out _
   have hmB:Mods (fun x=>x=B) w5 w6:=by rw [← hW6];exact setMods _ _ _ _
   have hr6:=hmB.heap hr5 (fun e=>hRB e)
   have hmm6:=hmm5.trans' hmB hBw
   have hx6:RdP true w6 (.slice pa pl pc) ps:=hx5.modB HRB5.out hmB
   have ho6:=ho5.modB HRB5.out hmB
   obtain ⟨il,hil⟩:∃ n,its.length=n:=⟨_,rfl⟩
   rw [hil] at rB6
   have hone:=mcs_one ⟨#[]⟩ true ia pa il ic pl pc
   clear c3 f3 hW6 hmm5 hmB hr5 hx5 ho5
   go_wp2_with (first | (refine op_value rfl (run_load_row 44 (.tmp 2) rfl B rfl 44 _ (0,0) _ rB6 Tryz.underlying44 rfl sizeM) ?_) | (refine op_skip rfl (run_store_row 44 (.tmp 2) (.tmp 51) rfl B rfl 44 [.string ⟨#[]⟩,.bool true,.slice ia il ic,.slice pa pl pc] [.string ⟨#[]⟩,.bool true,.slice ia il ic,.slice pa pl pc] rfl rB6 sizeM rfl hone) ?_))
   rw [setRow_same (cs:=[.string ⟨#[]⟩,.bool true,.slice ia il ic,.slice pa pl pc]) rB6]
   refine bodyPost_ret (v:=.agg #[.string ⟨#[]⟩,.bool true,.slice ia il ic,.slice pa pl pc]) (results_cell_row rfl _ _ B 44 _ (0,0) _ rfl rB6 Tryz.underlying44 rfl sizeM) rfl ?_
   rw [hil] at ho6
   exact ⟨its,ps,.slice ia il ic,.slice pa pl pc,s5,bad5,rfl,ho6.reads (by omega),hx6,hr6,hmm6,HP5.out,by omega⟩
  | false =>
  have HSee:=Lib.hid (see_any R s [41] false wr hrF)
  cases hp:Lib.hasPrefix s [41] with
  | true =>
   obtain ⟨r,rfl,q2⟩:=pre1_true hp
   rw [hp,q2] at HSee
   have hrl:r.length ≤ s0.length:=by simp at hsl;omega
   go_wp2_with fail
   refine HSee.out.mono ?_
   rintro e w2 ⟨rfl,hr2,hm2⟩
   have rB2:=hm2.heap rBF (fun e=>hRB e.symm)
   have ho2:=hoF.modR hrF hRb hm2
   have hmm2:=hmF.trans hm2
   clear rBF hoF hrF hmF c1 hm2 HSee hp q2
   go_wp2_with fail
   refine (params_r R r false w2 (by omega) hr2 (HTab.out _ hmm2)).mono ?_
   rintro e w5 ⟨xv,ps,s5,bad5,rfl,hx5,hr5,hm5,hp5,hsl5,hll5⟩
   obtain ⟨pa,pc,rfl⟩:=hx5.slice
   have rB5:=hm5.heap rB2 (fun e=>hRB e.symm)
   have ho5:=ho2.modR hr2 hRb hm5
   have hmm5:=hmm2.trans hm5
   have c3:=cell_of_row _ _ 3 _ _ _ rB5
   simp only [gS] at c3
   have f3:=frozen_row (i:=3) rB5
   have HRB5:=Lib.hid rB5
   have HP5:=Lib.hid (hinv.out.fin hp5)
   obtain ⟨pl,hpl⟩:∃ n,ps.length=n:=⟨_,rfl⟩
   rw [hpl] at hx5 ⊢
   clear hm5 hp5 hmm2 rB2 ho2 hr2 hll5
   go_upto_region 8 with fail
   obtain ⟨w6,hW6⟩:∃ w6,w5.setCell ⟨B,3,none⟩ (.slice pa pl pc)=w6:=⟨_,rfl⟩
   rw [hW6]
   have rB6:w6.heap[B]? = some (.cells #[.string ⟨#[]⟩,.bool true,.slice ia its.length ic,.slice pa pl pc] 44 (0,0)):=by rw [← hW6];exact setCell_heap HRB5.out _
   have hmB:Mods (fun x=>x=B) w5 w6:=by rw [← hW6];exact setMods _ _ _ _
   have hr6:=hmB.heap hr5 (fun e=>hRB e)
   have hmm6:=hmm5.trans' hmB hBw
   have hx6:RdP true w6 (.slice pa pl pc) ps:=hx5.modB HRB5.out hmB
   have ho6:=ho5.modB HRB5.out hmB
   obtain ⟨il,hil⟩:∃ n,its.length=n:=⟨_,rfl⟩
   rw [hil] at rB6
   have hone:=mcs_one ⟨#[]⟩ true ia pa il ic pl pc
   clear c3 f3 hW6 hmm5 hmB hr5 hx5 ho5
   go_wp2_with (first | (refine op_value rfl (run_load_row 44 (.tmp 2) rfl B rfl 44 _ (0,0) _ rB6 Tryz.underlying44 rfl sizeM) ?_) | (refine op_skip rfl (run_store_row 44 (.tmp 2) (.tmp 51) rfl B rfl 44 [.string ⟨#[]⟩,.bool true,.slice ia il ic,.slice pa pl pc] [.string ⟨#[]⟩,.bool true,.slice ia il ic,.slice pa pl pc] rfl rB6 sizeM rfl hone) ?_))
   rw [setRow_same (cs:=[.string ⟨#[]⟩,.bool true,.slice ia il ic,.slice pa pl pc]) rB6]
   refine bodyPost_ret (v:=.agg #[.string ⟨#[]⟩,.bool true,.slice ia il ic,.slice pa pl pc]) (results_cell_row rfl _ _ B 44 _ (0,0) _ rfl rB6 Tryz.underlying44 rfl sizeM) rfl ?_
   rw [hil] at ho6
   exact ⟨its,ps,.slice ia il ic,.slice pa pl pc,s5,bad5,rfl,ho6.reads (by omega),hx6,hr6,hmm6,HP5.out,by omega⟩
  | false =>
  obtain ⟨q1,q2⟩:=pre1_false hp
  rw [hp,q2] at HSee
  go_upto_region 5 with (go_at_call 133;refine HSee.out.mono ?_;rintro e w2 ⟨rfl,hr2,hm2⟩)
  have rB2:=hm2.heap rBF (fun e=>hRB e.symm)
  have ho2:=hoF.modR hrF hRb hm2
  have hmm2:=hmF.trans hm2
  have HT2:=Lib.hid (HTab.out _ hmm2)
  clear rBF hoF hrF hmF c1 hm2 HSee hp q2
  refine piece (fun _=>_) (inner5 _ rfl w2 rfl rfl rfl rfl rfl rfl rfl rfl rfl rfl rB2 ho2 hr2 HT2 (by omega) hitl hmm2.size hRb hRB) ?_
  rintro ⟨z,dfs⟩ w3 ⟨x,s3,bad3,iv3,⟨hs,hd,hq0,hq2,hq1,hq3,hq4,hq5,hq48,hq49,hq50,hq51⟩,rB3,ho3,hr3,hp3,hsl3,hxl3,hm3⟩
  simp only at hs hd hq0 hq2 hq1 hq3 hq4 hq5 hq48 hq49 hq50 hq51
  subst hd
  obtain ⟨u,rfl⟩:=lit52 z hs
  have hp0:u 0 = .pointer (some ⟨R,0,none⟩):=hq0
  have hp2:u 2 = .pointer (some ⟨B,0,none⟩):=hq2
  have hp1:u 1=undef:=hq1
  have hp3:u 3 = .pointer (some ⟨B,1,none⟩):=hq3
  have hp4:u 4 = .pointer (some ⟨R,0,none⟩):=hq4
  have hp5:u 5=v5:=hq5
  have hp48:u 48=undef:=hq48
  have hp49:u 49=undef:=hq49
  have hp50:u 50=undef:=hq50
  have hp51:u 51=undef:=hq51
  rw [hp0,hp2,hp1,hp3,hp4,hp5,hp48,hp49,hp50,hp51]
  clear hp0 hq0 hp2 hq2 hp1 hq1 hp3 hq3 hp4 hq4 hp5 hq5 hp48 hq48 hp49 hq49 hp50 hq50 hp51 hq51 hs
  have hmm3:=hm3 w hmm2 (Nat.le_refl _) hBw
  obtain ⟨xa,xc,rfl⟩:=ho3.slice
  have hst:=Lib.hid (hinv.out.step q1 hsk hp3)
  have hlt3:bad3=false→s3.length < s.length:=fun e=>by
   subst e
   unfold PostX at hp3
   rw [if_neg (by decide)] at hp3
   cases hi:Bare.readItem s with
   | none=>rw [hi] at hp3;cases hp3
   | some y =>
    obtain ⟨x0,r0⟩:=y
    rw [hi] at hp3
    obtain ⟨rfl,rfl,-⟩:=hp3
    exact Bare.readItem_len hi
  have hsl3':=Bare.skip_len [32] s3
  obtain ⟨⟨d0,d1⟩,g0,g1⟩:=hr3.facts
  have HA:=Lib.hid (fun W=>Tryz.strings_HasPrefix (tx s3) (tx [41]) W)
  have HBp:=Lib.hid (fun W=>Tryz.strings_HasPrefix (tx s3) (tx [32]) W)
  obtain ⟨a,ha⟩:∃ a,Lib.hasPrefix s3 [41]=a:=⟨_,rfl⟩
  obtain ⟨b,hb⟩:∃ b,Lib.hasPrefix s3 [32]=b:=⟨_,rfl⟩
  have ha':Lib.hasPrefix (tx s3).data.toList (tx [41]).data.toList=a:=ha
  have hb':Lib.hasPrefix (tx s3).data.toList (tx [32]).data.toList=b:=hb
  rw [ha,hb] at hst
  rw [ha'] at HA
  rw [hb'] at HBp
  have HR3:=Lib.hid hr3
  have Hs3:=Lib.hid hlt3
  obtain ⟨S3,hS3⟩:∃ x,tx s3=x:=⟨_,rfl⟩
  rw [hS3] at HA HBp d0
  have HO3:=Lib.hid ho3
  have HRB3:=Lib.hid rB3
  clear ha hb ha' hb' hS3 hp3 hlt3 hr3 ho3 rB3 rB2 ho2 hr2
  cases bad3 with
  | true =>
   go_upto_region 4 with (first | (go_at_call 190;first | (refine (HA.out _).mono ?_;rintro e w' ⟨rfl,hw⟩;obtain rfl:=hw.symm) | (refine (HBp.out _).mono ?_;rintro e w' ⟨rfl,hw⟩;obtain rfl:=hw.symm)))
   have hr4:=HR3.out.set1 true
   have hmr:=ModR.set w3 R 1 (.bool true)
   obtain ⟨w4,hW4⟩:∃ w4,w3.setCell ⟨R,1,none⟩ (.bool true)=w4:=⟨_,rfl⟩
   rw [hW4] at hr4 hmr ⊢
   have rB4:=hmr.heap HRB3.out (fun e=>hRB e.symm)
   have ho4:=HO3.out.modR HR3.out hRb hmr
   have hmm4:=hmm3.trans hmr
   clear d0 d1 g0 g1 hmr hW4
   go_wp2_with fail
   refine (skip_any R s3 [32] true w4 (by decide) (by decide) hr4).mono ?_
   rintro e w5 ⟨⟨v17,rfl⟩,hr5,hm5⟩
   have rB5:=hm5.heap rB4 (fun e=>hRB e.symm)
   have ho5:=ho4.modR hr4 hRb hm5
   have hmm5:=hmm4.trans hm5
   clear rB4 ho4 hr4 hm5 hmm4
   go_wp2_with fail
   go_roundw
   case rel =>
    refine ⟨its ++ [x],Bare.skipB [32] s3,true,_,rB5,ho5,hr5,hmm5,hst,skip_idem _ _,by omega,?_⟩
    rw [List.length_append]
    simp only [List.length_cons,List.length_nil]
    simp at hlen ⊢;omega
   case measure =>
    rw [mea_rdr hrW.out,mea_rdr hr5]
    simp;omega
  | false =>
   cases a with
   | true =>
    go_upto_region 4 with (first | (go_at_call 190;first | (refine (HA.out _).mono ?_;rintro e w' ⟨rfl,hw⟩;obtain rfl:=hw.symm) | (refine (HBp.out _).mono ?_;rintro e w' ⟨rfl,hw⟩;obtain rfl:=hw.symm)))
    have hr4:=HR3.out.set1 false
    have hmr:=ModR.set w3 R 1 (.bool false)
    obtain ⟨w4,hW4⟩:∃ w4,w3.setCell ⟨R,1,none⟩ (.bool false)=w4:=⟨_,rfl⟩
    rw [hW4] at hr4 hmr ⊢
    have rB4:=hmr.heap HRB3.out (fun e=>hRB e.symm)
    have ho4:=HO3.out.modR HR3.out hRb hmr
    have hmm4:=hmm3.trans hmr
    clear d0 d1 g0 g1 hmr hW4
    go_wp2_with fail
    refine (skip_any R s3 [32] false w4 (by decide) (by decide) hr4).mono ?_
    rintro e w5 ⟨⟨v17,rfl⟩,hr5,hm5⟩
    have rB5:=hm5.heap rB4 (fun e=>hRB e.symm)
    have ho5:=ho4.modR hr4 hRb hm5
    have hmm5:=hmm4.trans hm5
    clear rB4 ho4 hr4 hm5 hmm4
    go_wp2_with fail
    go_roundw
    case rel =>
     refine ⟨its ++ [x],Bare.skipB [32] s3,false,_,rB5,ho5,hr5,hmm5,hst,skip_idem _ _,by omega,?_⟩
     rw [List.length_append]
     simp only [List.length_cons,List.length_nil]
     have:=Hs3.out trivial;simp at hlen ⊢;omega
    case measure =>
     rw [mea_rdr hrW.out,mea_rdr hr5]
     have:=Hs3.out trivial;simp;omega
   | false =>
    cases b with
    | true =>
     go_upto_region 4 with (first | (go_at_call 190;first | (refine (HA.out _).mono ?_;rintro e w' ⟨rfl,hw⟩;obtain rfl:=hw.symm) | (refine (HBp.out _).mono ?_;rintro e w' ⟨rfl,hw⟩;obtain rfl:=hw.symm)))
     have hr4:=HR3.out.set1 false
     have hmr:=ModR.set w3 R 1 (.bool false)
     obtain ⟨w4,hW4⟩:∃ w4,w3.setCell ⟨R,1,none⟩ (.bool false)=w4:=⟨_,rfl⟩
     rw [hW4] at hr4 hmr ⊢
     have rB4:=hmr.heap HRB3.out (fun e=>hRB e.symm)
     have ho4:=HO3.out.modR HR3.out hRb hmr
     have hmm4:=hmm3.trans hmr
     clear d0 d1 g0 g1 hmr hW4
     go_wp2_with fail
     refine (skip_any R s3 [32] false w4 (by decide) (by decide) hr4).mono ?_
     rintro e w5 ⟨⟨v17,rfl⟩,hr5,hm5⟩
     have rB5:=hm5.heap rB4 (fun e=>hRB e.symm)
     have ho5:=ho4.modR hr4 hRb hm5
     have hmm5:=hmm4.trans hm5
     clear rB4 ho4 hr4 hm5 hmm4
     go_wp2_with fail
     go_roundw
     case rel =>
      refine ⟨its ++ [x],Bare.skipB [32] s3,false,_,rB5,ho5,hr5,hmm5,hst,skip_idem _ _,by omega,?_⟩
      rw [List.length_append]
      simp only [List.length_cons,List.length_nil]
      have:=Hs3.out trivial;simp at hlen ⊢;omega
     case measure =>
      rw [mea_rdr hrW.out,mea_rdr hr5]
      have:=Hs3.out trivial;simp;omega
    | false =>
     go_upto_region 4 with (first | (go_at_call 190;first | (refine (HA.out _).mono ?_;rintro e w' ⟨rfl,hw⟩;obtain rfl:=hw.symm) | (refine (HBp.out _).mono ?_;rintro e w' ⟨rfl,hw⟩;obtain rfl:=hw.symm)))
     have hr4:=HR3.out.set1 true
     have hmr:=ModR.set w3 R 1 (.bool true)
     obtain ⟨w4,hW4⟩:∃ w4,w3.setCell ⟨R,1,none⟩ (.bool true)=w4:=⟨_,rfl⟩
     rw [hW4] at hr4 hmr ⊢
     have rB4:=hmr.heap HRB3.out (fun e=>hRB e.symm)
     have ho4:=HO3.out.modR HR3.out hRb hmr
     have hmm4:=hmm3.trans hmr
     clear d0 d1 g0 g1 hmr hW4
     go_wp2_with fail
     refine (skip_any R s3 [32] true w4 (by decide) (by decide) hr4).mono ?_
     rintro e w5 ⟨⟨v17,rfl⟩,hr5,hm5⟩
     have rB5:=hm5.heap rB4 (fun e=>hRB e.symm)
     have ho5:=ho4.modR hr4 hRb hm5
     have hmm5:=hmm4.trans hm5
     clear rB4 ho4 hr4 hm5 hmm4
     go_wp2_with fail
     go_roundw
     case rel =>
      refine ⟨its ++ [x],Bare.skipB [32] s3,true,_,rB5,ho5,hr5,hmm5,hst,skip_idem _ _,by omega,?_⟩
      rw [List.length_append]
      simp only [List.length_cons,List.length_nil]
      simp at hlen ⊢;omega
     case measure =>
      rw [mea_rdr hrW.out,mea_rdr hr5]
      simp;omega


theorem RdI.modB {B:Nat} {W W':World} {v:Value} {L:List Bare.Itm} {c0:Array Value} (h:RdI true W v L) (hr:W.heap[B]? = some (.cells c0 44 (0,0))) (hm:Mods (fun b=>b=B) W W'):RdI true W' v L :=
 h.far hm (fun g cs t fr hg hc=>by subst hg;rw [hr] at hc;cases hc;decide)
theorem member_r (R:Nat) (s0:Bare.Bs) (bad0:Bool) (w:World) (hl:s0.length ≤ 1000000) (h:Rdr w R s0 bad0) (hT:Tab w) :
  Calls Tryz.prog 131 #[.pointer (some ⟨R,0,none⟩)] w fun e w'=>∃ m s bad v,e = .returned v∧RdM true w' v m∧Rdr w' R s bad∧ModR R w w'∧PostM s0 bad0 m s bad∧s.length ≤ s0.length:=by
 have hlt:=h.lt
 have HTab:=Lib.hid (fun (W:World) (hm:ModR R w W)=>hT.modR h hm)
 go_enter Tryz.func131,Tryz.ntmps131
 go_upto_region 1 with fail
 obtain ⟨W,hW⟩:∃ W,w.alloc (.cells #[.string ⟨#[]⟩,.bool false,.slice none 0 0,.slice none 0 0] 44)=W:=⟨_,rfl⟩
 have rB:W.heap[w.heap.size]? = some (.cells #[.string ⟨#[]⟩,.bool false,.slice none 0 0,.slice none 0 0] 44 (0,0)):=by rw [← hW];exact World.alloc_heap_new _ _
 have hN:New w W:=by rw [← hW];exact (Mods.refl _ _).alloc _
 rw [hW]
 obtain ⟨B,hB⟩:∃ B,w.heap.size=B:=⟨_,rfl⟩
 have hRB:¬ R=B:=by omega
 have hBw:w.heap.size ≤ B:=by omega
 have hRb:R < w.heap.size:=hlt
 rw [hB] at rB ⊢
 have h1:=h.new hN
 have hm1:ModR R w W:=Mods.ofNew hN
 clear hB hW h
 go_wp2_with fail
 refine (key_r R s0 bad0 W hl h1).mono ?_
 rintro e w1 ⟨rfl,hr1,hm2⟩
 have rB1:=hm2.heap rB (fun e=>hRB e.symm)
 have hmm1:=hm1.trans hm2
 clear rB h1 hm1 hm2 hN
 obtain ⟨k,hk⟩:∃ x,Bare.keyOf s0=x:=⟨_,rfl⟩
 rw [hk] at hr1 ⊢
 obtain ⟨s1,hs1⟩:∃ x,s0.drop k.length=x:=⟨_,rfl⟩
 have hsl1:s1.length ≤ s0.length:=by rw [← hs1,List.length_drop];omega
 rw [hs1] at hr1
 obtain ⟨bd,hbd⟩:∃ x,(bad0 || k.isEmpty)=x:=⟨_,rfl⟩
 rw [hbd] at hr1
 obtain ⟨K,hK⟩:∃ x,tx k=x:=⟨_,rfl⟩
 have HK:=Lib.hid hK
 rw [hK]
 have hk1:=Lib.hid hk
 have hs1':=Lib.hid hs1
 have hbd':=Lib.hid hbd
 clear hk hs1 hbd hK
 have HSee:=Lib.hid (see_any R s1 [61,40] bd w1 hr1)
 cases hp:Lib.hasPrefix s1 [61,40] with
 | true =>
  obtain ⟨r,rfl,q2⟩:=pre2_true hp
  rw [hp,q2] at HSee
  have hrl:r.length ≤ s0.length:=by simp at hsl1;omega
  go_wp2_with fail
  refine HSee.out.mono ?_
  rintro e w2 ⟨rfl,hr2,hm2⟩
  have rB2:=hm2.heap rB1 (fun e=>hRB e.symm)
  have hmm2:=hmm1.trans hm2
  clear rB1 hmm1 hr1 hm2 HSee hp q2
  go_wp2_with fail
  refine (inner_r R r bd w2 (by omega) hr2 (HTab.out _ hmm2)).mono ?_
  rintro e w3 ⟨its,ps,iv,pv,s4,bad4,rfl,hI3,hP3,hr3,hm3,hp3,hsl4⟩
  obtain ⟨ia,ic,rfl⟩:=hI3.slice
  obtain ⟨pa,pc,rfl⟩:=hP3.slice
  have rB3:=hm3.heap rB2 (fun e=>hRB e.symm)
  have hmm3:=hmm2.trans hm3
  have hone0:=mcs_one ⟨#[]⟩ true ia pa its.length ic ps.length pc
  have hil:its.length ≤ 281474976710656:=by obtain ⟨_,h,_⟩:=hI3;exact h.1
  obtain ⟨il,hile⟩:∃ n,its.length=n:=⟨_,rfl⟩
  obtain ⟨pl,hple⟩:∃ n,ps.length=n:=⟨_,rfl⟩
  unfold mcs
  simp only
  rw [hile,hple] at hone0 ⊢
  rw [hile] at hI3
  rw [hple] at hP3
  have Hpost:Hid (PostM s0 bad0 ⟨k,true,its,ps⟩ s4 bad4):=Lib.hid (mem_inner hk1.out hs1'.out (by rw [hbd'.out];exact hp3))
  clear rB2 hr2 hmm2 hm3 hp3
  go_upto_region 7 with (refine op_skip rfl (run_store_row 44 (.tmp 2) (.tmp 19) rfl B rfl 44 [.string ⟨#[]⟩,.bool false,.slice none 0 0,.slice none 0 0] [.string (tx []),.bool true,.slice ia il ic,.slice pa pl pc] rfl rB3 sizeM rfl hone0) ?_)
  have rB4':=setRow_heap w3 B _ #[.string (tx []),.bool true,.slice ia il ic,.slice pa pl pc] 44 (0,0) rB3
  have hmB4:=mods_setRow rB3 #[.string (tx []),.bool true,.slice ia il ic,.slice pa pl pc]
  obtain ⟨w4,hW4⟩:∃ w4,w3.setRow B #[.string (tx []),.bool true,.slice ia il ic,.slice pa pl pc]=w4:=⟨_,rfl⟩
  have rB4:w4.heap[B]? = some (.cells #[.string (tx []),.bool true,.slice ia il ic,.slice pa pl pc] 44 (0,0)):=by rw [← hW4];exact rB4'
  have hmB4:Mods (fun x=>x=B) w3 w4:=by rw [← hW4];exact hmB4
  have hW4':w3.setRow B [.string (tx []),.bool true,.slice ia il ic,.slice pa pl pc].toArray=w4:=hW4
  rw [hW4']
  have hr4:=hmB4.heap hr3 (fun e=>hRB e)
  have hmm4:=hmm3.trans' hmB4 hBw
  have hI4:=hI3.modB rB3 hmB4
  have hP4:=hP3.modB rB3 hmB4
  clear rB4' hW4 hW4' hmm3 hr3
  have c0:=cell_of_row _ _ 0 _ _ _ rB4
  simp only [gS] at c0
  have f0:=frozen_row (i:=0) rB4
  have HRB4:=Lib.hid rB4
  go_upto_region 8 with fail
  obtain ⟨w6,hW6⟩:∃ w6,w4.setCell ⟨B,0,none⟩ (.string K)=w6:=⟨_,rfl⟩
  rw [hW6]
  have rB6:w6.heap[B]? = some (.cells #[.string K,.bool true,.slice ia il ic,.slice pa pl pc] 44 (0,0)):=by rw [← hW6];exact setCell_heap HRB4.out _
  have hmB:Mods (fun x=>x=B) w4 w6:=by rw [← hW6];exact setMods _ _ _ _
  have hr6:=hmB.heap hr4 (fun e=>hRB e)
  have hmm6:=hmm4.trans' hmB hBw
  have HI6:=hI4.modB HRB4.out hmB
  have HP6:=hP4.modB HRB4.out hmB
  have hone:=mcs_one K true ia pa il ic pl pc
  clear c0 f0 hW6 hmm4 hmB hr4
  go_wp2_with (first | (refine op_value rfl (run_load_row 44 (.tmp 2) rfl B rfl 44 _ (0,0) _ rB6 Tryz.underlying44 rfl sizeM) ?_) | (refine op_skip rfl (run_store_row 44 (.tmp 2) (.tmp 32) rfl B rfl 44 [.string K,.bool true,.slice ia il ic,.slice pa pl pc] [.string K,.bool true,.slice ia il ic,.slice pa pl pc] rfl rB6 sizeM rfl hone) ?_))
  rw [setRow_same (cs:=[.string K,.bool true,.slice ia il ic,.slice pa pl pc]) rB6]
  refine bodyPost_ret (v:=.agg #[.string K,.bool true,.slice ia il ic,.slice pa pl pc]) (results_cell_row rfl _ _ B 44 _ (0,0) _ rfl rB6 Tryz.underlying44 rfl sizeM) rfl ?_
  refine ⟨⟨k,true,its,ps⟩,s4,bad4,.agg #[.string K,.bool true,.slice ia il ic,.slice pa pl pc],rfl,⟨.slice ia il ic,.slice pa pl pc,?_,HI6,HP6⟩,hr6,hmm6,Hpost.out,by omega⟩
  unfold mcs
  rw [← HK.out]
 | false =>
 obtain ⟨q1,q2⟩:=pre2_false hp
 rw [hp,q2] at HSee
 go_wp2_with fail
 refine HSee.out.mono ?_
 rintro e w2 ⟨rfl,hr2,hm2⟩
 have rB2:=hm2.heap rB1 (fun e=>hRB e.symm)
 have hmm2:=hmm1.trans hm2
 clear rB1 hmm1 hr1 hm2 HSee hp q2
 have HSee:=Lib.hid (see_any R s1 [61] bd w2 hr2)
 cases hp:Lib.hasPrefix s1 [61] with
 | true =>
  obtain ⟨r,rfl,q2⟩:=pre1_true hp
  rw [hp,q2] at HSee
  have hrl:r.length ≤ s0.length:=by simp at hsl1;omega
  go_upto_region 6 with (go_at_call 133;refine HSee.out.mono ?_;rintro e w3 ⟨rfl,hr3,hm3⟩)
  have rB3:=hm3.heap rB2 (fun e=>hRB e.symm)
  have hmm3:=hmm2.trans hm3
  have HT3:=Lib.hid (HTab.out _ hmm3)
  clear rB2 hmm2 hr2 hm3 HSee hp q2
  refine piece (fun _=>_) (member6 _ rfl w3 rfl rfl rfl rB3 (.nil w.heap.size _) hr3 HT3 (by omega) (by simp) hmm3.size hRb hRB) ?_
  rintro ⟨z,dfs⟩ w4 ⟨x,s4,bad4,iv4,⟨hs,hd,hq0,hq2,hq3⟩,rB4,ho4,hr4,hp4,hsl4,hxl4,hm4⟩
  simp only at hs hd hq0 hq2 hq3
  subst hd
  obtain ⟨u,rfl⟩:=lit33 z hs
  have hp0:u 0 = .pointer (some ⟨R,0,none⟩):=hq0
  have hp2:u 2 = .pointer (some ⟨B,0,none⟩):=hq2
  have hp3:u 3 = .string K:=hq3
  rw [hp0,hp2,hp3]
  clear hp0 hq0 hp2 hq2 hp3 hq3 hs
  have hmm4:=hm4 w hmm3 (Nat.le_refl _) hBw
  obtain ⟨ia,ic,rfl⟩:=ho4.slice
  have Hpost:Hid (PostM s0 bad0 ⟨k,false,[x],[]⟩ s4 bad4):=Lib.hid (mem_item hk1.out hs1'.out (fun t e=>q1 t (by rw [e])) (by rw [hbd'.out];exact hp4))
  have hI4:RdI true w4 (.slice ia ([] ++ [x]).length ic) [x]:=ho4.reads (by simp)
  obtain ⟨il,hile⟩:∃ n,([] ++ [x]:List Bare.Itm).length=n:=⟨_,rfl⟩
  obtain ⟨pa,pc,hpn⟩:∃ (pa:Option Addr) (pc:Nat),Value.slice none 0 0 = .slice pa 0 pc∧pa=none:=⟨none,0,rfl,rfl⟩
  rw [hile] at rB4 hI4
  rw [hpn.1] at rB4
  have hpn:=hpn.2
  clear rB3 hmm3 hr3 hm4 hp4 ho4
  have c0:=cell_of_row _ _ 0 _ _ _ rB4
  simp only [gS] at c0
  have f0:=frozen_row (i:=0) rB4
  have HRB4:=Lib.hid rB4
  go_upto_region 8 with fail
  obtain ⟨w6,hW6⟩:∃ w6,w4.setCell ⟨B,0,none⟩ (.string K)=w6:=⟨_,rfl⟩
  rw [hW6]
  have rB6:w6.heap[B]? = some (.cells #[.string K,.bool false,.slice ia il ic,.slice pa 0 pc] 44 (0,0)):=by rw [← hW6];exact setCell_heap HRB4.out _
  have hmB:Mods (fun x=>x=B) w4 w6:=by rw [← hW6];exact setMods _ _ _ _
  have hr6:=hmB.heap hr4 (fun e=>hRB e)
  have hmm6:=hmm4.trans' hmB hBw
  have HI6:=hI4.modB HRB4.out hmB
  have HP6:RdP true w6 (.slice pa 0 pc) []:=by subst hpn;exact .nil _ _ _
  have hone:=mcs_one K false ia pa il ic 0 pc
  clear c0 f0 hW6 hmm4 hmB hr4
  go_wp2_with (first | (refine op_value rfl (run_load_row 44 (.tmp 2) rfl B rfl 44 _ (0,0) _ rB6 Tryz.underlying44 rfl sizeM) ?_) | (refine op_skip rfl (run_store_row 44 (.tmp 2) (.tmp 32) rfl B rfl 44 [.string K,.bool false,.slice ia il ic,.slice pa 0 pc] [.string K,.bool false,.slice ia il ic,.slice pa 0 pc] rfl rB6 sizeM rfl hone) ?_))
  rw [setRow_same (cs:=[.string K,.bool false,.slice ia il ic,.slice pa 0 pc]) rB6]
  refine bodyPost_ret (v:=.agg #[.string K,.bool false,.slice ia il ic,.slice pa 0 pc]) (results_cell_row rfl _ _ B 44 _ (0,0) _ rfl rB6 Tryz.underlying44 rfl sizeM) rfl ?_
  refine ⟨⟨k,false,[x],[]⟩,s4,bad4,.agg #[.string K,.bool false,.slice ia il ic,.slice pa 0 pc],rfl,⟨.slice ia il ic,.slice pa 0 pc,?_,HI6,HP6⟩,hr6,hmm6,Hpost.out,by omega⟩
  unfold mcs
  rw [← HK.out]
 | false =>
  obtain ⟨q3,q2⟩:=pre1_false hp
  rw [hp,q2] at HSee
  go_upto_region 2 with (go_at_call 133;refine HSee.out.mono ?_;rintro e w3 ⟨rfl,hr3,hm3⟩)
  have rB3:=hm3.heap rB2 (fun e=>hRB e.symm)
  have hmm3:=hmm2.trans hm3
  have HT3:=Lib.hid (HTab.out _ hmm3)
  clear rB2 hmm2 hr2 hm3 HSee hp q2
  refine piece (fun _=>_) (member2 _ rfl w3 rfl rfl rfl rB3 (.nil w.heap.size _) hr3 HT3 (by omega) (by simp) hmm3.size hRb hRB) ?_
  rintro ⟨z,dfs⟩ w4 ⟨l,s4,bad4,iv4,⟨hs,hd,hq0,hq2,hq3⟩,rB4,ho4,hr4,hp4,hsl4,hxl4,hm4⟩
  simp only at hs hd hq0 hq2 hq3
  subst hd
  obtain ⟨u,rfl⟩:=lit33 z hs
  have hp0:u 0 = .pointer (some ⟨R,0,none⟩):=hq0
  have hp2:u 2 = .pointer (some ⟨B,0,none⟩):=hq2
  have hp3:u 3 = .string K:=hq3
  rw [hp0,hp2,hp3]
  clear hp0 hq0 hp2 hq2 hp3 hq3 hs
  have hmm4:=hm4 w hmm3 (Nat.le_refl _) hBw
  obtain ⟨ia,ic,rfl⟩:=ho4.slice
  have Hpost:Hid (PostM s0 bad0 ⟨k,false,[⟨Bare.yesI,l⟩],[]⟩ s4 bad4):=Lib.hid (mem_none hk1.out hs1'.out q3 (by rw [hbd'.out];exact hp4))
  have hI4:RdI true w4 (.slice ia ([] ++ [(⟨Bare.yesI,l⟩:Bare.Itm)]).length ic) [⟨Bare.yesI,l⟩]:=ho4.reads (by simp)
  obtain ⟨il,hile⟩:∃ n,([] ++ [(⟨Bare.yesI,l⟩:Bare.Itm)]:List Bare.Itm).length=n:=⟨_,rfl⟩
  obtain ⟨pa,pc,hpn⟩:∃ (pa:Option Addr) (pc:Nat),Value.slice none 0 0 = .slice pa 0 pc∧pa=none:=⟨none,0,rfl,rfl⟩
  rw [hile] at rB4 hI4
  rw [hpn.1] at rB4
  have hpn:=hpn.2
  clear rB3 hmm3 hr3 hm4 hp4 ho4
  have c0:=cell_of_row _ _ 0 _ _ _ rB4
  simp only [gS] at c0
  have f0:=frozen_row (i:=0) rB4
  have HRB4:=Lib.hid rB4
  go_upto_region 8 with fail
  obtain ⟨w6,hW6⟩:∃ w6,w4.setCell ⟨B,0,none⟩ (.string K)=w6:=⟨_,rfl⟩
  rw [hW6]
  have rB6:w6.heap[B]? = some (.cells #[.string K,.bool false,.slice ia il ic,.slice pa 0 pc] 44 (0,0)):=by rw [← hW6];exact setCell_heap HRB4.out _
  have hmB:Mods (fun x=>x=B) w4 w6:=by rw [← hW6];exact setMods _ _ _ _
  have hr6:=hmB.heap hr4 (fun e=>hRB e)
  have hmm6:=hmm4.trans' hmB hBw
  have HI6:=hI4.modB HRB4.out hmB
  have HP6:RdP true w6 (.slice pa 0 pc) []:=by subst hpn;exact .nil _ _ _
  have hone:=mcs_one K false ia pa il ic 0 pc
  clear c0 f0 hW6 hmm4 hmB hr4
  go_wp2_with (first | (refine op_value rfl (run_load_row 44 (.tmp 2) rfl B rfl 44 _ (0,0) _ rB6 Tryz.underlying44 rfl sizeM) ?_) | (refine op_skip rfl (run_store_row 44 (.tmp 2) (.tmp 32) rfl B rfl 44 [.string K,.bool false,.slice ia il ic,.slice pa 0 pc] [.string K,.bool false,.slice ia il ic,.slice pa 0 pc] rfl rB6 sizeM rfl hone) ?_))
  rw [setRow_same (cs:=[.string K,.bool false,.slice ia il ic,.slice pa 0 pc]) rB6]
  refine bodyPost_ret (v:=.agg #[.string K,.bool false,.slice ia il ic,.slice pa 0 pc]) (results_cell_row rfl _ _ B 44 _ (0,0) _ rfl rB6 Tryz.underlying44 rfl sizeM) rfl ?_
  refine ⟨⟨k,false,[⟨Bare.yesI,l⟩],[]⟩,s4,bad4,.agg #[.string K,.bool false,.slice ia il ic,.slice pa 0 pc],rfl,⟨.slice ia il ic,.slice pa 0 pc,?_,HI6,HP6⟩,hr6,hmm6,Hpost.out,by omega⟩
  unfold mcs
  rw [← HK.out]
end Go.Proofs.YtnknmmbnhoanfaaGreatDoor
