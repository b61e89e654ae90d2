/- Texts joined. -/
import Derived.Test.YtkiiameibdhdfaaGreatDoorS11
set_option linter.unusedSimpArgs false
set_option linter.unusedVariables false
set_option maxHeartbeats 16000000
set_option maxRecDepth 100000
namespace Go.Proofs.YtkiiameibdhdfaaGreatDoor
open Go.RowKit Go.Shelf Go.Cs
attribute [local go_sem] Oper.semAt_some


theorem run_append_Wx {o:Oper} {a:Act} {W:World} {s x:Operand} {base X m:Nat} {v:Value} {n:Nat} {f:Nat→List Value} {c:List Value} (hop:o.op = .call { callee:=.builtin .append,args:=#[s,x],argTypes:=#[24,24] })
  (hs:a.eval s=v) (hx:a.eval x = .slice (some ⟨X,0,none⟩) 1 m) (hW:W.heap[X]? = some (.cells c.toArray 40 (0,0))) (hc:c.length=3) (hone:∀ u ∈ c,u.oneCell'=true) (hown:OwW base W v n f) (hn:n ≤ 2000000) (hbase:base ≤ W.heap.size) :
  ∃ v' W',(execOp a.eval o).run Tryz.prog W = .ok (.value v') W'∧OwW base W' v' (n + 1) (fun i=>if i=n then c else f i)∧∀ (w0:World) (S:Nat→Prop),Mods S w0 W→(∀ g,v.ownBlock=some g→w0.heap.size ≤ g ∨ S g)→Mods S w0 W':=by
 obtain ⟨i0,hi,hz0,hz1,hz2⟩:=info_parts infoWt
 obtain ⟨v',w',hr,ho,hg,-⟩:=run_append_own (P:=Tryz.prog) W base 24 o.type 40 i0 _ 3 16 Tryz.underlying24 hi hz0 hz1 hz2 rfl (by decide) v n (flatF n f) hown.2.2 ⟨X,0,none⟩ 1 m c (by rw [hc]) (fun j u hj=>by
  rw [add_at,cell_of_row _ _ _ _ _ _ hW];simpa using hj) hone (by unfold maxLen;omega) (by omega) (by omega)
 refine ⟨v',w',?_,⟨fun i=>?_,fun i hi=>?_,?_⟩,fun w0 S hN hb=>?_⟩
 ·simp [execOp,hop,resolve,invoke,builtin,hs,hx,hr,Result.andThen]
 ·dsimp only;split
  ·exact hc
  ·exact hown.1 i
 ·dsimp only;split
  ·exact hone
  ·exact hown.2.1 i (by omega)
 ·rw [flatF_succ,if_pos rfl,flatF_congr (g:=f) (fun i hi=>if_neg (by omega))]
  exact ho
 ·exact hN.grown hg (fun g hg=>(hb g hg).imp id fun h=>⟨h,own_cells hown.2.2 hg⟩)
theorem wpOp_append_Wx {ops:Array Oper} {Q:Exit→Act→World→Prop} {i:Nat} {o:Oper} (d:Option Tmp) {a:Act} {W:World} {K:Act→World→Prop} (hi:ops[i]? = some o) (hw:Region.wanted o (yielded ops a.tmps)=true) (hd:o.dst=d) (s x:Operand) {base X m:Nat} {v:Value} {n:Nat} {f:Nat→List Value} {c:List Value} (hop:o.op = .call { callee:=.builtin .append,args:=#[s,x],argTypes:=#[24,24] })
  (hs:a.eval s=v) (hx:a.eval x = .slice (some ⟨X,0,none⟩) 1 m) (hW:W.heap[X]? = some (.cells c.toArray 40 (0,0))) (hc:c.length=3) (hone:∀ u ∈ c,u.oneCell'=true) (hown:OwW base W v n f) (hn:n ≤ 2000000) (hbase:base ≤ W.heap.size)
  (h:∀ v' W',OwW base W' v' (n + 1) (fun i=>if i=n then c else f i)→(∀ (w0:World) (S:Nat→Prop),Mods S w0 W→(∀ g,v.ownBlock=some g→w0.heap.size ≤ g ∨ S g)→Mods S w0 W')→K (a.put d v') W'):wpOp Tryz.prog ops Q i K a W:=by
 obtain ⟨v',w',hr,ho,hg⟩:=run_append_Wx hop hs hx hW hc hone hown hn hbase
 exact opH_value d hi hw hd hr (h v' w' ho hg)
theorem wf_snoc (L:List WP) (x:WP) (i:Nat) (hi:i < L.length + 1):(if i=L.length then wcs x else wf L i)=wf (L ++ [x]) i:=by
 unfold wf
 rw [List.getD_eq_getElem?_getD,List.getD_eq_getElem?_getD]
 by_cases h:i=L.length
 ·subst h
  simp
 ·rw [if_neg h,List.getElem?_append_left (by omega)]
noncomputable def reg_prio_Update_11:Code:=((Tryz.f15.body.bind (regionOf 11)).getD .skip)
theorem upd11 (t:Array Value) (hs:t.size=77) (w:World) {R3 R4 R6 R10 n cap q:Nat} {l s:Int} {y:Bool} {va:Option Addr} {vo:Value} {L:List WP}
  (hq3:t.getD 3 undef = .pointer (some ⟨R3,0,none⟩))
  (hq4:t.getD 4 undef = .pointer (some ⟨R4,0,none⟩))
  (hq6:t.getD 6 undef = .pointer (some ⟨R6,0,none⟩))
  (hq10:t.getD 10 undef = .pointer (some ⟨R10,0,none⟩))
  (r3:w.heap[R3]? = some (.cells #[.int .i64 l,.slice va n cap] 26 (0,0))) (r4:Boxed w R4 3 (.int .i64 s)) (r6:w.heap[R6]? = some (.cells #[.int .i64 l,vo] 26 (0,0))) (r10:w.heap[R10]? = some (.cells #[.int .u8 q,.bool y] 31 (0,0)))
  (hL:L.length ≤ 1000000)
  (HT:Hid (∀ W,New w W→Calls Tryz.prog 48 #[.slice va n cap,.func (.func 49) #[] #[.pointer (some ⟨R4,0,none⟩)]] W fun e w'=>∃ v',e = .returned v'∧OwW W.heap.size w' v' L.length (wf L)∧New W w')) (h36:¬ R3=R6) (h46:¬ R4=R6) (h06:¬ R10=R6) :
  reg_prio_Update_11.wp Tryz.prog (Only fun a' W'=>∃ z:Nat→Value,∃ v',a'=⟨(pz t z [52,53,54,55,56,57,58,59,60,61]),[]⟩∧W'.heap[R6]? = some (.cells #[.int .i64 l,v'] 26 (0,0))∧OwW w.heap.size W' v' (L ++ ([⟨s,q,y⟩]:List WP)).length (wf (L ++ ([⟨s,q,y⟩]:List WP)))∧Mods (fun b=>b=R6) w W') ⟨t,[]⟩ w:=by
 conv=>arg 2;whnf
 obtain ⟨u,rfl⟩:=lit77 t hs
 have hq3:u 3 = _:=hq3
 have hq4:u 4 = _:=hq4
 have hq6:u 6 = _:=hq6
 have hq10:u 10 = _:=hq10
 rw [hq3,hq4,hq6,hq10]
 clear hq3 hq4 hq6 hq10 hs
 have hS:New w w.drew:=(Mods.refl _ _).drew
 refine wp_region_held (S:=fun W=>Mods (fun b=>b=R6) w W) (by kernel_rfl) ?_
 show wpAnyH _ _ _ _ _ 11 _ _ w.drew
 have hN:=hS
 replace hS:Mods (fun b=>b=R6) w w.drew:=Mods.ofNew hS
 obtain ⟨W0,hW0⟩:∃ W,w.drew=W:=⟨_,rfl⟩
 rw [hW0] at hS hN ⊢
 clear hW0
 obtain ⟨⟨a0,a1⟩,-⟩:=pc_facts r3
 obtain ⟨⟨b0,b1⟩,-⟩:=pr_facts r10
 obtain ⟨c0,-⟩:=r4.both
 refine tkI 0 (some 52) (.pointer (some ⟨R3,1,none⟩)) hS ?_
 simp only [pS]
 refine tkA 1 rfl (some 53) (.slice va n cap) (.inl ⟨by rfl,fun W hW=>by have q:=hW.cell a1 h36;go_simp⟩) hS ?_
 simp only [pS]
 refine tkI 2 (some 54) (.func (.func 49) #[] #[.pointer (some ⟨R4,0,none⟩)]) hS ?_
 simp only [pS]
 refine tkA 4 rfl (some 56) (.int .i64 s) (.inl ⟨by rfl,fun W hW=>by have q:=hW.cell c0 h46;go_simp⟩) hS ?_
 simp only [pS]
 refine tkA 5 rfl (some 57) (.agg #[.int .u8 q,.bool y]) (.inl ⟨by rfl,fun W hW=>by have q0:=hW.cell b0 h06;have q1:=hW.cell b1 h06;go_simp⟩) hS ?_
 simp only [pS]
 refine tkA 6 rfl (some 58) (.agg #[.int .i64 s,.int .u8 q,.bool y]) (.inl ⟨by rfl,fun W hW=>by go_simp;trace_state⟩) hS ?_
 simp only [pS]
 refine wpAnyH_all (rs:=[3,7]) (by kernel_rfl) (by simp) ?_
 intro i hi
 simp only [List.mem_cons,List.not_mem_nil,or_false] at hi
 rcases hi with rfl | rfl
 ·refine opH_call (some 55) rfl (by rfl) rfl 48 #[.slice va n cap,.func (.func 49) #[] #[.pointer (some ⟨R4,0,none⟩)]] (by go_simp) ((HT.out _ hN).mono ?_)
  have hNb:=hN.size
  rintro e w1 ⟨v1,rfl,hO,hk⟩
  have hS:=hS.trans (Mods.ofNew hk)
  have hN:=hN.trans hk
  obtain ⟨oa,oc,rfl⟩:=hO.slice
  refine ⟨_,rfl,hS,?_⟩
  simp only [pS]
  refine tkO 7 ?_
  refine opH_value (some 59) rfl (by rfl) rfl (v:=.slice (some ⟨w1.heap.size,0,none⟩) 1 1) (w':=w1.alloc (.cells #[.int .i64 s,.int .u8 q,.bool y] 40)) (by go_simp) ?_
  have hA:New w1 (w1.alloc (.cells #[.int .i64 s,.int .u8 q,.bool y] 40)):=(Mods.refl _ _).alloc _
  have rx:=World.alloc_heap_new w1 (.cells #[.int .i64 s,.int .u8 q,.bool y] 40)
  obtain ⟨W2,hW2⟩:∃ V,w1.alloc (.cells #[.int .i64 s,.int .u8 q,.bool y] 40)=V:=⟨_,rfl⟩
  obtain ⟨X,hX⟩:∃ X,w1.heap.size=X:=⟨_,rfl⟩
  rw [hW2] at hA rx ⊢
  rw [hX] at rx ⊢
  have hO:=hO.new hA
  have hS:=hS.trans (Mods.ofNew hA)
  have hN:=hN.trans hA
  clear hW2 hX
  refine ⟨hS,?_⟩
  simp only [pS]
  refine tkO 8 ?_
  have hlt6:R6 < w.heap.size:=(Array.getElem?_eq_some_iff.1 r6).1
  have hO:=hO.mono (base':=w.heap.size) (by have:=hNb;omega)
  refine wpOp_append_Wx (c:=wcs ⟨s,q,y⟩) (some 60) rfl (by rfl) rfl (.tmp 55) (.tmp 59) rfl rfl rfl rx rfl (wcs_one _) hO (by omega) hN.size ?_
  intro v' W3 hO' hm
  have hm':=hm w (fun _=>False) hN (fun g hg=>.inl (hO.lt hg).1)
  obtain ⟨oa',oc',rfl⟩:=hO'.slice
  have hS3:Mods (fun b=>b=R6) w W3:=Mods.ofNew hm'
  refine ⟨hS3,?_⟩
  simp only [pS]
  refine tkI 9 (some 61) (.pointer (some ⟨R6,1,none⟩)) hS3 ?_
  simp only [pS]
  refine tkO 10 ?_
  have t6:=hm'.heap r6 id
  obtain ⟨⟨d0,d1⟩,d2,d3⟩:=pc_facts t6
  refine opH_skip none rfl (by rfl) rfl (w':=W3.setCell ⟨R6,1,none⟩ (.slice oa' (L.length + 1) oc')) (by go_simp) ?_
  have s6:=setCell_heap (i:=1) t6 (.slice oa' (L.length + 1) oc')
  simp only [pS] at s6
  have hM4:=hS3.trans (setMods W3 R6 1 (.slice oa' (L.length + 1) oc'))
  refine ⟨hM4,?_⟩
  simp only [pS]
  refine wpAnyH_done (by kernel_rfl) ?_ _
  refine ⟨(fun zz=>([.pointer (some ⟨R3,1,none⟩),.slice va n cap,.func (.func 49) #[] #[.pointer (some ⟨R4,0,none⟩)],.slice oa L.length oc,.int .i64 s,.agg #[.int .u8 q,.bool y],.agg #[.int .i64 s,.int .u8 q,.bool y],.slice (some ⟨X,0,none⟩) 1 1,.slice oa' (L.length + 1) oc',.pointer (some ⟨R6,1,none⟩)]:List Value).getD (cond (Nat.beq zz 52) 0 (cond (Nat.beq zz 53) 1 (cond (Nat.beq zz 54) 2 (cond (Nat.beq zz 55) 3 (cond (Nat.beq zz 56) 4 (cond (Nat.beq zz 57) 5 (cond (Nat.beq zz 58) 6 (cond (Nat.beq zz 59) 7 (cond (Nat.beq zz 60) 8 (cond (Nat.beq zz 61) 9 (0))))))))))) undef),_,rfl,s6,?_,hM4⟩
  rw [List.length_append]
  exact (hO'.congr (wf_len (L ++ ([⟨s,q,y⟩]:List WP))) (fun i hi=>wf_snoc L ⟨s,q,y⟩ i hi)).mods (setMods W3 R6 1 _) (fun g hg e=>by have:=(hO'.lt hg).1;omega)
 ·refine opH_value (some 59) rfl (by rfl) rfl (v:=.slice (some ⟨W0.heap.size,0,none⟩) 1 1) (w':=W0.alloc (.cells #[.int .i64 s,.int .u8 q,.bool y] 40)) (by go_simp) ?_
  have hA:New W0 (W0.alloc (.cells #[.int .i64 s,.int .u8 q,.bool y] 40)):=(Mods.refl _ _).alloc _
  have rx:=World.alloc_heap_new W0 (.cells #[.int .i64 s,.int .u8 q,.bool y] 40)
  obtain ⟨W2,hW2⟩:∃ V,W0.alloc (.cells #[.int .i64 s,.int .u8 q,.bool y] 40)=V:=⟨_,rfl⟩
  obtain ⟨X,hX⟩:∃ X,W0.heap.size=X:=⟨_,rfl⟩
  rw [hW2] at hA rx ⊢
  rw [hX] at rx ⊢
  have hS:=hS.trans (Mods.ofNew hA)
  have hN:=hN.trans hA
  clear hW2 hX
  refine ⟨hS,?_⟩
  simp only [pS]
  refine tkO 3 ?_
  have hNb:=hN.size
  refine opH_call (some 55) rfl (by rfl) rfl 48 #[.slice va n cap,.func (.func 49) #[] #[.pointer (some ⟨R4,0,none⟩)]] (by go_simp) ((HT.out _ hN).mono ?_)
  rintro e w1 ⟨v1,rfl,hO,hk⟩
  have hS:=hS.trans (Mods.ofNew hk)
  have hN:=hN.trans hk
  have rx:=hk.heap rx id
  obtain ⟨oa,oc,rfl⟩:=hO.slice
  refine ⟨_,rfl,hS,?_⟩
  simp only [pS]
  refine tkO 8 ?_
  have hlt6:R6 < w.heap.size:=(Array.getElem?_eq_some_iff.1 r6).1
  have hO:=hO.mono (base':=w.heap.size) (by have:=hNb;omega)
  refine wpOp_append_Wx (c:=wcs ⟨s,q,y⟩) (some 60) rfl (by rfl) rfl (.tmp 55) (.tmp 59) rfl rfl rfl rx rfl (wcs_one _) hO (by omega) hN.size ?_
  intro v' W3 hO' hm
  have hm':=hm w (fun _=>False) hN (fun g hg=>.inl (hO.lt hg).1)
  obtain ⟨oa',oc',rfl⟩:=hO'.slice
  have hS3:Mods (fun b=>b=R6) w W3:=Mods.ofNew hm'
  refine ⟨hS3,?_⟩
  simp only [pS]
  refine tkI 9 (some 61) (.pointer (some ⟨R6,1,none⟩)) hS3 ?_
  simp only [pS]
  refine tkO 10 ?_
  have t6:=hm'.heap r6 id
  obtain ⟨⟨d0,d1⟩,d2,d3⟩:=pc_facts t6
  refine opH_skip none rfl (by rfl) rfl (w':=W3.setCell ⟨R6,1,none⟩ (.slice oa' (L.length + 1) oc')) (by go_simp) ?_
  have s6:=setCell_heap (i:=1) t6 (.slice oa' (L.length + 1) oc')
  simp only [pS] at s6
  have hM4:=hS3.trans (setMods W3 R6 1 (.slice oa' (L.length + 1) oc'))
  refine ⟨hM4,?_⟩
  simp only [pS]
  refine wpAnyH_done (by kernel_rfl) ?_ _
  refine ⟨(fun zz=>([.pointer (some ⟨R3,1,none⟩),.slice va n cap,.func (.func 49) #[] #[.pointer (some ⟨R4,0,none⟩)],.slice oa L.length oc,.int .i64 s,.agg #[.int .u8 q,.bool y],.agg #[.int .i64 s,.int .u8 q,.bool y],.slice (some ⟨X,0,none⟩) 1 1,.slice oa' (L.length + 1) oc',.pointer (some ⟨R6,1,none⟩)]:List Value).getD (cond (Nat.beq zz 52) 0 (cond (Nat.beq zz 53) 1 (cond (Nat.beq zz 54) 2 (cond (Nat.beq zz 55) 3 (cond (Nat.beq zz 56) 4 (cond (Nat.beq zz 57) 5 (cond (Nat.beq zz 58) 6 (cond (Nat.beq zz 59) 7 (cond (Nat.beq zz 60) 8 (cond (Nat.beq zz 61) 9 (0))))))))))) undef),_,rfl,s6,?_,hM4⟩
  rw [List.length_append]
  exact (hO'.congr (wf_len (L ++ ([⟨s,q,y⟩]:List WP))) (fun i hi=>wf_snoc L ⟨s,q,y⟩ i hi)).mods (setMods W3 R6 1 _) (fun g hg e=>by have:=(hO'.lt hg).1;omega)


def faV (wh:Bool) (code:Int):List Value:=[.bool wh,.int .i64 0,.int .u32 code]
theorem results_upd {fn:Func} (h:fn.results = #[.cell 6 26,.tmp 7,.cell 8 31,.cell 9 34]) (tmps:Array Value) (w:World) (R6 R8 R9:Nat) (c6 c8 c9:List Value) (v:Value)
  (h6:tmps.getD 6 undef = .pointer (some ⟨R6,0,none⟩)) (h7:tmps.getD 7 undef=v) (h8:tmps.getD 8 undef = .pointer (some ⟨R8,0,none⟩)) (h9:tmps.getD 9 undef = .pointer (some ⟨R9,0,none⟩))
  (r6:w.heap[R6]? = some (.cells c6.toArray 26 (0,0))) (r8:w.heap[R8]? = some (.cells c8.toArray 31 (0,0))) (r9:w.heap[R9]? = some (.cells c9.toArray 34 (0,0)))
  (l6:c6.length=2) (l8:c8.length=2) (l9:c9.length=3) :
  (results fn tmps).run Tryz.prog w = .ok (.tuple #[.agg c6.toArray,v,.agg c8.toArray,.agg c9.toArray]) w:=by
 subst h7
 have h6':tmps[6]?.getD undef = .pointer (some ⟨R6,0,none⟩):=by simpa using h6
 have h8':tmps[8]?.getD undef = .pointer (some ⟨R8,0,none⟩):=by simpa using h8
 have h9':tmps[9]?.getD undef = .pointer (some ⟨R9,0,none⟩):=by simpa using h9
 have e6:=run_loadVar_row w R6 26 26 c6.toArray (0,0) _ r6 Tryz.underlying26 rfl (by rw [sizeRp];simp [l6])
 have e8:=run_loadVar_row w R8 31 31 c8.toArray (0,0) _ r8 Tryz.underlying31 rfl (by rw [sizePr];simp [l8])
 have e9:=run_loadVar_row w R9 34 34 c9.toArray (0,0) _ r9 Tryz.underlying34 rfl (by rw [sizeFl];simp [l9])
 simp [results,h,h6',h8',h9',asAddr,e6,e8,e9,Sem.run_bind]
theorem results_open {fn:Func} (h:fn.results = #[.cell 8 26,.cell 9 31,.tmp 10]) (tmps:Array Value) (w:World) (R8 R9:Nat) (c8 c9:List Value) (v:Value)
  (h8:tmps.getD 8 undef = .pointer (some ⟨R8,0,none⟩)) (h9:tmps.getD 9 undef = .pointer (some ⟨R9,0,none⟩)) (h10:tmps.getD 10 undef=v)
  (r8:w.heap[R8]? = some (.cells c8.toArray 26 (0,0))) (r9:w.heap[R9]? = some (.cells c9.toArray 31 (0,0)))
  (l8:c8.length=2) (l9:c9.length=2) :
  (results fn tmps).run Tryz.prog w = .ok (.tuple #[.agg c8.toArray,.agg c9.toArray,v]) w:=by
 subst h10
 have h8':tmps[8]?.getD undef = .pointer (some ⟨R8,0,none⟩):=by simpa using h8
 have h9':tmps[9]?.getD undef = .pointer (some ⟨R9,0,none⟩):=by simpa using h9
 have e8:=run_loadVar_row w R8 26 26 c8.toArray (0,0) _ r8 Tryz.underlying26 rfl (by rw [sizeRp];simp [l8])
 have e9:=run_loadVar_row w R9 31 31 c9.toArray (0,0) _ r9 Tryz.underlying31 rfl (by rw [sizePr];simp [l9])
 simp [results,h,h8',h9',asAddr,e8,e9,Sem.run_bind]


structure UpR (W:World) (B:Nat) (l s:Int) (v:Value) (o p q f:List Value):Prop where
 hp:W.heap[B]? = some (.cells #[.int .i64 l,v] 26 (0,0))
 hs:Boxed W (B + 1) 3 (.int .i64 s)
 ho:W.heap[B + 2]? = some (.cells o.toArray 26 (0,0))
 hr:W.heap[B + 3]? = some (.cells p.toArray 31 (0,0))
 hf:W.heap[B + 4]? = some (.cells f.toArray 34 (0,0))
 hq:W.heap[B + 5]? = some (.cells q.toArray 31 (0,0))
theorem UpR.new {W W':World} {B:Nat} {l s:Int} {v:Value} {o p q f:List Value} (h:UpR W B l s v o p q f) (hN:New W W'):UpR W' B l s v o p q f :=
 ⟨hN.heap h.hp id,hN.boxed h.hs id,hN.heap h.ho id,hN.heap h.hr id,hN.heap h.hf id,hN.heap h.hq id⟩
theorem UpR.made (w:World) (l s:Int) (v:Value) (o p q f:List Value) :
  UpR ((((((w.alloc (.cells #[.int .i64 l,v] 26)).alloc (.cells #[.int .i64 s] 3)).alloc (.cells o.toArray 26)).alloc (.cells p.toArray 31)).alloc (.cells f.toArray 34)).alloc (.cells q.toArray 31)) w.heap.size l s v o p q f:=by
 have a:=fun (W:World) (ob:Obj)=>(Mods.refl (fun _=>False) W).alloc ob
 obtain ⟨w1,e1⟩:∃ V,w.alloc (.cells #[.int .i64 l,v] 26)=V:=⟨_,rfl⟩
 have r1:=World.alloc_heap_new w (.cells #[.int .i64 l,v] 26)
 have s1:w1.heap.size=w.heap.size + 1:=by rw [← e1];simp
 rw [e1] at r1 ⊢
 obtain ⟨w2,e2⟩:∃ V,w1.alloc (.cells #[.int .i64 s] 3)=V:=⟨_,rfl⟩
 have r2:=World.alloc_heap_new w1 (.cells #[.int .i64 s] 3)
 have s2:w2.heap.size=w.heap.size + 2:=by rw [← e2];simp;omega
 have n2:=a w1 (.cells #[.int .i64 s] 3)
 rw [e2] at r2 n2 ⊢
 obtain ⟨w3,e3⟩:∃ V,w2.alloc (.cells o.toArray 26)=V:=⟨_,rfl⟩
 have r3:=World.alloc_heap_new w2 (.cells o.toArray 26)
 have s3:w3.heap.size=w.heap.size + 3:=by rw [← e3];simp;omega
 have n3:=a w2 (.cells o.toArray 26)
 rw [e3] at r3 n3 ⊢
 obtain ⟨w4,e4⟩:∃ V,w3.alloc (.cells p.toArray 31)=V:=⟨_,rfl⟩
 have r4:=World.alloc_heap_new w3 (.cells p.toArray 31)
 have s4:w4.heap.size=w.heap.size + 4:=by rw [← e4];simp;omega
 have n4:=a w3 (.cells p.toArray 31)
 rw [e4] at r4 n4 ⊢
 obtain ⟨w5,e5⟩:∃ V,w4.alloc (.cells f.toArray 34)=V:=⟨_,rfl⟩
 have r5:=World.alloc_heap_new w4 (.cells f.toArray 34)
 have s5:w5.heap.size=w.heap.size + 5:=by rw [← e5];simp;omega
 have n5:=a w4 (.cells f.toArray 34)
 rw [e5] at r5 n5 ⊢
 have r6:=World.alloc_heap_new w5 (.cells q.toArray 31)
 have n6:=a w5 (.cells q.toArray 31)
 rw [s1] at r2
 rw [s2] at r3
 rw [s3] at r4
 rw [s4] at r5
 rw [s5] at r6
 exact ⟨n6.heap (n5.heap (n4.heap (n3.heap (n2.heap r1 id) id) id) id) id,n6.boxed (n5.boxed (n4.boxed (n3.boxed r2 id) id) id) id,n6.heap (n5.heap (n4.heap r3 id) id) id,n6.heap (n5.heap r4 id) id,n6.heap r5 id,r6⟩
theorem UpR.first {W:World} {B:Nat} {l s:Int} {v:Value} {a b c d a' b' c' d':Value} {q f:List Value} (h:UpR W B l s v [a,b] [c,d] q f) :
  UpR ((((W.setCell ⟨B + 2,0,none⟩ a').setCell ⟨B + 2,1,none⟩ b').setCell ⟨B + 3,0,none⟩ c').setCell ⟨B + 3,1,none⟩ d') B l s v [a',b'] [c',d'] q f ∧
   Mods (fun x=>x=B + 2 ∨ x=B + 3) W ((((W.setCell ⟨B + 2,0,none⟩ a').setCell ⟨B + 2,1,none⟩ b').setCell ⟨B + 3,0,none⟩ c').setCell ⟨B + 3,1,none⟩ d'):=by
 have hM1:=(setMods W (B + 2) 0 a').trans (setMods _ (B + 2) 1 b')
 have o2:=setCell_heap (i:=1) (setCell_heap (i:=0) h.ho a') b'
 simp only [pS] at o2
 have hr1:=hM1.heap h.hr (by omega)
 obtain ⟨W1,hW1⟩:∃ V,(W.setCell ⟨B + 2,0,none⟩ a').setCell ⟨B + 2,1,none⟩ b'=V:=⟨_,rfl⟩
 rw [hW1] at hM1 o2 hr1 ⊢
 have hM2:=(setMods W1 (B + 3) 0 c').trans (setMods _ (B + 3) 1 d')
 have r2:=setCell_heap (i:=1) (setCell_heap (i:=0) hr1 c') d'
 simp only [pS] at r2
 have hM:Mods (fun x=>x=B + 2 ∨ x=B + 3) W _:=(hM1.mono fun x hx=>.inl hx).trans (hM2.mono fun x hx=>.inr hx)
 exact ⟨⟨hM.heap h.hp (by omega),hM.boxed h.hs (by omega),hM2.heap o2 (by omega),r2,hM.heap h.hf (by omega),hM.heap h.hq (by omega)⟩,hM⟩
def lastN (l:List WP):List WP:=l.drop (l.length - 4)
def updP (l:Int) (d:List WP) (s:Int) (r:Option (Nat × Bool)):List WP × Nat × (Nat × Bool) × (Bool × Nat) :=
 if rightP l d=false then (d,0,(3,false),(false,0))
 else if s < 1 ∨ s % 2=0 then (d,0,(3,false),(true,1))
 else match r with
  | none=>(d,0,(3,false),(false,0))
  | some q=>if l < s∧withinP l s=false then (d,0,(3,false),(false,0)) else if s ≤ l then (d,2,q,(false,0)) else (lastN ((d.filter fun x=>!decide (x.s=s)) ++ [⟨s,q.1,q.2⟩]),1,q,(false,0))
def updE (l:Int) (v:Value) (r:List WP × Nat × (Nat × Bool) × (Bool × Nat)):Ending:=.returned (.tuple #[.agg #[.int .i64 l,v],.int .u8 r.2.1,.agg #[.int .u8 r.2.2.1.1,.bool r.2.2.1.2],.agg (faV r.2.2.2.1 r.2.2.2.2).toArray])


def readP (T:ByteArray):Option (Nat × Bool):=(Bare.parseD (bl T)).map fun d=>((Bare.urgOf d).toNat,Bare.incOf d)
theorem urg_bounds (d:List Bare.Mem):0 ≤ Bare.urgOf d∧Bare.urgOf d ≤ 7:=by
 unfold Bare.urgOf
 split
 ·split
  ·rename_i h;exact ⟨h.2.1,h.2.2⟩
  ·decide
 ·decide
theorem read_p (T:ByteArray) (w:World) (hs:T.size ≤ 1000000) (hT:Tab w) :
  Calls Tryz.prog 38 #[.string T] w fun e w'=>e = .returned (.tuple #[.agg #[.int .u8 ((readP T).getD (3,false)).1,.bool ((readP T).getD (3,false)).2],.bool (readP T).isSome])∧New w w' :=
 (read_u T w hs hT).mono fun e w' ⟨he,hN⟩=>by
  refine ⟨?_,hN⟩
  rw [he]
  unfold readP prV
  cases Bare.parseD (bl T) with
  | none=>rfl
  | some d =>
   have:=(urg_bounds d).1
   simp only [Option.map_some,Option.getD_some,Option.isSome_some]
   rw [Int.toNat_of_nonneg this]
end Go.Proofs.YtkiiameibdhdfaaGreatDoor
namespace Go.Proofs.YtkiiameibdhdfaaGreatDoor
open Go.RowKit Go.Shelf Go.Cs


theorem right_facts {l:Int} {d:List WP} (h:rightP l d=true):0 ≤ l∧l < 2147483648∧d.length ≤ 4∧(d.map (·.s)).Nodup∧∀ x ∈ d,(0 < x.s∧x.s < 2147483648∧x.s % 2=1)∧l < x.s∧x.s - l ≤ 16∧x.u ≤ 7:=by
 unfold rightP at h
 simp only [Bool.and_eq_true,Bool.or_eq_true,decide_eq_true_eq,List.all_eq_true] at h
 obtain ⟨h1,h2,h3,h4⟩:=h
 have hl:0 ≤ l∧l < 2147483648:=by
  rcases h1 with rfl | h1
  ·decide
  ·have:=odd_facts h1;omega
 have hn:=(kN_all d d.length (Nat.le_refl _)).1 h3
 rw [List.take_length] at hn
 refine ⟨hl.1,hl.2,h2,hn,fun x hx=>?_⟩
 have:=h4 x hx
 unfold okW withinP at this
 simp only [Bool.and_eq_true,decide_eq_true_eq] at this
 exact ⟨odd_facts this.1.1,this.1.2.1,this.1.2.2,this.2⟩
theorem uniq_s:∀ {d:List WP},(d.map (·.s)).Nodup→∀ {x y:WP},x ∈ d→y ∈ d→x.s=y.s→x=y
 | [],_,x,y,hx,_,_=>by cases hx
 | a::d,h,x,y,hx,hy,e=>by
  rw [List.map_cons,List.nodup_cons] at h
  rcases List.mem_cons.1 hx with e1 | h1 <;> rcases List.mem_cons.1 hy with e2 | h2
  ·rw [e1,e2]
  ·exact (h.1 (List.mem_map.2 ⟨y,h2,by rw [← e,e1]⟩)).elim
  ·exact (h.1 (List.mem_map.2 ⟨x,h1,by rw [e,e2]⟩)).elim
  ·exact uniq_s h.2 h1 h2 e
theorem wait_own {l:Int} {d:List WP} (h:rightP l d=true) {x:WP} (hx:x ∈ d):waitP l d x.s=some x:=by
 obtain ⟨-,-,-,hn,-⟩:=right_facts h
 unfold waitP
 rw [if_pos h]
 cases hf:d.reverse.find? (fun y=>decide (y.s=x.s)) with
 | none =>
  have:=List.find?_eq_none.1 hf x (List.mem_reverse.2 hx)
  simp at this
 | some y =>
  have h1:=List.mem_of_find?_eq_some hf
  have h2:=List.find?_some hf
  rw [uniq_s hn (List.mem_reverse.1 h1) hx (by simpa using h2)]
end Go.Proofs.YtkiiameibdhdfaaGreatDoor
namespace Go.Proofs.YtkiiameibdhdfaaGreatDoor
open Go.RowKit Go.Shelf Go.Cs
attribute [local go_sem] Oper.semAt_some


theorem reach24 (l:Int) (v:Value) (w:World) (h0:0 ≤ l) (h1:l < 2147483648) :
  Calls Tryz.prog 54 #[.agg #[.int .i64 l,v]] w fun e w'=>e = .returned (.int .i64 (l + 16))∧New w w':=by
 have hA:New w (w.alloc (.cells #[.int .i64 l,v] 26)):=(Mods.refl _ _).alloc _
 go_enter Tryz.func54,Tryz.ntmps54
 go_wp2
 go_ret
 exact ⟨rfl,hA⟩
theorem right_pr14 (u:Nat) (i:Bool) (hu:u < 256) (w:World):Calls Tryz.prog 53 #[prV u i] w fun e w'=>e = .returned (.bool (decide (u ≤ 7)))∧New w w':=by
 have hA:New w (w.alloc (.cells #[.int .u8 u,.bool i] 31)):=(Mods.refl _ _).alloc _
 unfold prV
 by_cases h:u ≤ 7
 ·rw [decide_eq_true h]
  go_enter Tryz.func53,Tryz.ntmps53
  have h':decide ((u:Int) ≤ 7)=true:=decide_eq_true (by omega)
  go_wp2
  go_ret
  first | exact ⟨congrArg (fun b=>Ending.returned (.bool b)) h',hA⟩ | exact ⟨rfl,hA⟩
 ·rw [decide_eq_false h]
  have h':decide ((u:Int) ≤ 7)=false:=decide_eq_false (by omega)
  go_enter Tryz.func53,Tryz.ntmps53
  go_wp2
  go_ret
  first | exact ⟨congrArg (fun b=>Ending.returned (.bool b)) h',hA⟩ | exact ⟨rfl,hA⟩
theorem lit38 (t:Array Value) (h:t.size=38):∃ u:Nat→Value,t=(u 0::u 1::u 2::u 3::u 4::u 5::u 6::u 7::u 8::u 9::u 10::u 11::u 12::u 13::u 14::u 15::u 16::u 17::u 18::u 19::u 20::u 21::u 22::u 23::u 24::u 25::u 26::u 27::u 28::u 29::u 30::u 31::u 32::u 33::u 34::u 35::u 36::u 37::([]:List Value)).toArray:=⟨fun i=>t.getD i undef,range_lit t 38 h⟩
noncomputable def reg_causeyref24_Same_6:Code:=((Tryz.f17.body.bind (regionOf 6)).getD .skip)
theorem same24r (t:Array Value) (hs:t.size=38) (w:World) {B1 B2 b1 o1 b2 o2 k n m1 m2:Nat} {y:Bool} {a0 a1 a2 d0 d1 d2:Value}
  (hq2:t.getD 2 undef = .pointer (some ⟨B1,0,none⟩))
  (hq3:t.getD 3 undef = .pointer (some ⟨B2,0,none⟩))
  (hq5:t.getD 5 undef = .int .i64 k)
  (p1:w.cell? ⟨B1,1,none⟩=some (.slice (some ⟨b1,o1,none⟩) n m1)) (p2:w.cell? ⟨B2,1,none⟩=some (.slice (some ⟨b2,o2,none⟩) n m2)) (c0:w.cell? ⟨b1,o1 + k * 3,none⟩=some a0) (e0:w.cell? ⟨b2,o2 + k * 3,none⟩=some d0) (c1:w.cell? ⟨b1,o1 + k * 3 + 1,none⟩=some a1) (e1:w.cell? ⟨b2,o2 + k * 3 + 1,none⟩=some d1) (c2:w.cell? ⟨b1,o1 + k * 3 + 2,none⟩=some a2) (e2:w.cell? ⟨b2,o2 + k * 3 + 2,none⟩=some d2)
  (hk:k < n) (hq:∀ w,(binOp .neq 40 (.agg #[a0,a1,a2]) (.agg #[d0,d1,d2])).run Tryz.prog w = .ok (.bool y) w) :
  reg_causeyref24_Same_6.wp Tryz.prog (Only fun a' W'=>∃ z:Nat→Value,a'=⟨((pz t z [27,28,29,30,31,32,33,34,35,36]).setIfInBounds 37 (.bool y)),[]⟩∧New w W') ⟨t,[]⟩ w:=by
 conv=>arg 2;whnf
 obtain ⟨u,rfl⟩:=lit38 t hs
 have hq2:u 2 = _:=hq2
 have hq3:u 3 = _:=hq3
 have hq5:u 5 = _:=hq5
 rw [hq2,hq3,hq5]
 clear hq2 hq3 hq5 hs
 have hid:decide ((k:Int) < (n:Int))=true:=decide_eq_true (by omega)
 refine wp_region_held (S:=fun W=>New w W) (by kernel_rfl) ?_
 show wpAnyH _ _ _ _ _ 11 _ _ w.drew
 have hN:New w w.drew:=(Mods.refl _ _).drew
 have hS:New w w.drew:=(Mods.refl _ _).drew
 refine tkI 0 (some 27) (.pointer (some ⟨B1,1,none⟩)) hS ?_
 simp only [pS]
 refine tkA 1 rfl (some 28) (.slice (some ⟨b1,o1,none⟩) n m1) (.inl ⟨by rfl,fun W hW=>by have q:=hW.cell p1 id;go_simp⟩) hS ?_
 simp only [pS]
 refine tkI 2 (some 29) (.int .i64 k) hS ?_
 simp only [pS]
 refine tkI 3 (some 30) (.pointer (some ⟨b1,o1 + k * 3,none⟩)) hS ?_
 simp only [pS]
 refine tkA 4 rfl (some 31) (.agg #[a0,a1,a2]) (.inl ⟨by rfl,fun W hW=>by have q0:=hW.cell c0 id;have q1:=hW.cell c1 id;have q2:=hW.cell c2 id;go_simp⟩) hS ?_
 simp only [pS]
 refine tkI 5 (some 32) (.pointer (some ⟨B2,1,none⟩)) hS ?_
 simp only [pS]
 refine tkA 6 rfl (some 33) (.slice (some ⟨b2,o2,none⟩) n m2) (.inl ⟨by rfl,fun W hW=>by have q:=hW.cell p2 id;go_simp⟩) hS ?_
 simp only [pS]
 refine tkI 7 (some 34) (.int .i64 k) hS ?_
 simp only [pS]
 refine tkI 8 (some 35) (.pointer (some ⟨b2,o2 + k * 3,none⟩)) hS ?_
 simp only [pS]
 refine tkA 9 rfl (some 36) (.agg #[d0,d1,d2]) (.inl ⟨by rfl,fun W hW=>by have q0:=hW.cell e0 id;have q1:=hW.cell e1 id;have q2:=hW.cell e2 id;go_simp⟩) hS ?_
 simp only [pS]
 refine tkA 10 rfl (some 37) (.bool y) (.inl ⟨by rfl,fun W hW=>by have hz:=hq W;go_simp⟩) hS ?_
 simp only [pS]
 refine wpAnyH_done (by kernel_rfl) ?_ _
 exact zc rfl hN
theorem lit86 (t:Array Value) (h:t.size=86):∃ u:Nat→Value,t=(u 0::u 1::u 2::u 3::u 4::u 5::u 6::u 7::u 8::u 9::u 10::u 11::u 12::u 13::u 14::u 15::u 16::u 17::u 18::u 19::u 20::u 21::u 22::u 23::u 24::u 25::u 26::u 27::u 28::u 29::u 30::u 31::u 32::u 33::u 34::u 35::u 36::u 37::u 38::u 39::u 40::u 41::u 42::u 43::u 44::u 45::u 46::u 47::u 48::u 49::u 50::u 51::u 52::u 53::u 54::u 55::u 56::u 57::u 58::u 59::u 60::u 61::u 62::u 63::u 64::u 65::u 66::u 67::u 68::u 69::u 70::u 71::u 72::u 73::u 74::u 75::u 76::u 77::u 78::u 79::u 80::u 81::u 82::u 83::u 84::u 85::([]:List Value)).toArray:=⟨fun i=>t.getD i undef,range_lit t 86 h⟩
noncomputable def reg_causeyref24_Right_7:Code:=((Tryz.f20.body.bind (regionOf 7)).getD .skip)
theorem right7_0 (t:Array Value) (hs:t.size=86) (w:World) {B X n cap q:Nat} {l s:Int} {i:Bool} {ao:Option Addr}
  (hq1:t.getD 1 undef = .pointer (some ⟨B,0,none⟩))
  (hq4:t.getD 4 undef = .pointer (some ⟨X,0,none⟩))
  (p0:w.cell? ⟨B,0,none⟩=some (.int .i64 l)) (p1:w.cell? ⟨B,1,none⟩=some (.slice ao n cap)) (q0:w.cell? ⟨X,0,none⟩=some (.int .i64 s)) (q1:w.cell? ⟨X,1,none⟩=some (.int .u8 q)) (q2:w.cell? ⟨X,2,none⟩=some (.bool i)) (h256:q < 256) (hl0:0 ≤ l) (hl1:l < 2147483648)
  (hu:¬ q ≤ 7)  :
  reg_causeyref24_Right_7.wp Tryz.prog (Only fun a' W'=>∃ z:Nat→Value,a'=⟨((pz t z [43,44,45,46,47,48,49,50,51,52,53,54,55,56,57,58,59,60,61,62,63,64,65,66,67,68,69,70]).setIfInBounds 71 (.bool true)),[]⟩∧New w W') ⟨t,[]⟩ w:=by
 conv=>arg 2;whnf
 obtain ⟨u,rfl⟩:=lit86 t hs
 have hq1:u 1 = _:=hq1
 have hq4:u 4 = _:=hq4
 rw [hq1,hq4]
 clear hq1 hq4 hs
 refine wp_region_held (S:=fun W=>New w W) (by kernel_rfl) ?_
 show wpAnyH _ _ _ _ _ 29 _ _ w.drew
 have hN:New w w.drew:=(Mods.refl _ _).drew
 have hS:New w w.drew:=(Mods.refl _ _).drew
 refine tkI 0 (some 43) (.pointer (some ⟨X,1,none⟩)) hS ?_
 simp only [pS]
 refine tkA 1 rfl (some 44) (.agg #[.int .u8 q,.bool i]) (.inl ⟨by rfl,fun W hW=>by have q0:=hW.cell q1 id;have q1:=hW.cell q2 id;go_simp⟩) hS ?_
 simp only [pS]
 refine tkO 2 ?_
 refine opH_call (some 45) rfl (by rfl) rfl 53 #[.agg #[.int .u8 q,.bool i]] (by go_simp) (((right_pr14 q i h256 _).mono (R':=fun e w'=>e = .returned (.bool false)∧New _ w') (by rintro e w' ⟨rfl,h⟩;exact ⟨by rw [decide_eq_false hu],h⟩)).mono ?_)
 rintro e w2 ⟨rfl,hk⟩
 have hS:=hS.trans hk
 have hN:=hN.trans hk
 clear hk
 refine ⟨_,rfl,hS,?_⟩
 simp only [pS]
 refine tkI 3 (some 46) (.bool true) hS ?_
 simp only [pS]
 refine tkI 4 (some 47) (.bool true) hS ?_
 simp only [pS]
 refine tkU 5 (some 48) hS ?_
 simp only [pS]
 refine tkU 6 (some 49) hS ?_
 simp only [pS]
 refine tkU 7 (some 50) hS ?_
 simp only [pS]
 refine tkU 8 (some 51) hS ?_
 simp only [pS]
 refine tkI 9 (some 52) (.bool true) hS ?_
 simp only [pS]
 refine tkI 10 (some 53) (.bool true) hS ?_
 simp only [pS]
 refine tkU 11 (some 54) hS ?_
 simp only [pS]
 refine tkU 12 (some 55) hS ?_
 simp only [pS]
 refine tkU 13 (some 56) hS ?_
 simp only [pS]
 refine tkU 14 (some 57) hS ?_
 simp only [pS]
 refine tkU 15 (some 58) hS ?_
 simp only [pS]
 refine tkI 16 (some 59) (.bool true) hS ?_
 simp only [pS]
 refine tkI 17 (some 60) (.bool true) hS ?_
 simp only [pS]
 refine tkU 18 (some 61) hS ?_
 simp only [pS]
 refine tkU 19 (some 62) hS ?_
 simp only [pS]
 refine tkU 20 (some 63) hS ?_
 simp only [pS]
 refine tkU 21 (some 64) hS ?_
 simp only [pS]
 refine tkU 22 (some 65) hS ?_
 simp only [pS]
 refine tkI 23 (some 66) (.bool true) hS ?_
 simp only [pS]
 refine tkI 24 (some 67) (.bool true) hS ?_
 simp only [pS]
 refine tkU 25 (some 68) hS ?_
 simp only [pS]
 refine tkU 26 (some 69) hS ?_
 simp only [pS]
 refine tkU 27 (some 70) hS ?_
 simp only [pS]
 refine tkI 28 (some 71) (.bool true) hS ?_
 simp only [pS]
 refine wpAnyH_done (by kernel_rfl) ?_ _
 exact zc rfl hN
theorem right7_1 (t:Array Value) (hs:t.size=86) (w:World) {B X n cap q:Nat} {l s:Int} {i:Bool} {ao:Option Addr}
  (hq1:t.getD 1 undef = .pointer (some ⟨B,0,none⟩))
  (hq4:t.getD 4 undef = .pointer (some ⟨X,0,none⟩))
  (p0:w.cell? ⟨B,0,none⟩=some (.int .i64 l)) (p1:w.cell? ⟨B,1,none⟩=some (.slice ao n cap)) (q0:w.cell? ⟨X,0,none⟩=some (.int .i64 s)) (q1:w.cell? ⟨X,1,none⟩=some (.int .u8 q)) (q2:w.cell? ⟨X,2,none⟩=some (.bool i)) (h256:q < 256) (hl0:0 ≤ l) (hl1:l < 2147483648)
  (hu:q ≤ 7) (he:s.tmod 2=0)  :
  reg_causeyref24_Right_7.wp Tryz.prog (Only fun a' W'=>∃ z:Nat→Value,a'=⟨((pz t z [43,44,45,46,47,48,49,50,51,52,53,54,55,56,57,58,59,60,61,62,63,64,65,66,67,68,69,70]).setIfInBounds 71 (.bool true)),[]⟩∧New w W') ⟨t,[]⟩ w:=by
 conv=>arg 2;whnf
 obtain ⟨u,rfl⟩:=lit86 t hs
 have hq1:u 1 = _:=hq1
 have hq4:u 4 = _:=hq4
 rw [hq1,hq4]
 clear hq1 hq4 hs
 refine wp_region_held (S:=fun W=>New w W) (by kernel_rfl) ?_
 show wpAnyH _ _ _ _ _ 29 _ _ w.drew
 have hN:New w w.drew:=(Mods.refl _ _).drew
 have hS:New w w.drew:=(Mods.refl _ _).drew
 refine tkI 0 (some 43) (.pointer (some ⟨X,1,none⟩)) hS ?_
 simp only [pS]
 refine tkA 1 rfl (some 44) (.agg #[.int .u8 q,.bool i]) (.inl ⟨by rfl,fun W hW=>by have q0:=hW.cell q1 id;have q1:=hW.cell q2 id;go_simp⟩) hS ?_
 simp only [pS]
 refine tkO 2 ?_
 refine opH_call (some 45) rfl (by rfl) rfl 53 #[.agg #[.int .u8 q,.bool i]] (by go_simp) (((right_pr14 q i h256 _).mono (R':=fun e w'=>e = .returned (.bool true)∧New _ w') (by rintro e w' ⟨rfl,h⟩;exact ⟨by rw [decide_eq_true hu],h⟩)).mono ?_)
 rintro e w2 ⟨rfl,hk⟩
 have hS:=hS.trans hk
 have hN:=hN.trans hk
 clear hk
 refine ⟨_,rfl,hS,?_⟩
 simp only [pS]
 refine tkI 3 (some 46) (.bool false) hS ?_
 simp only [pS]
 refine tkI 4 (some 47) (.bool false) hS ?_
 simp only [pS]
 refine tkI 5 (some 48) (.pointer (some ⟨X,0,none⟩)) hS ?_
 simp only [pS]
 refine tkA 6 rfl (some 49) (.int .i64 s) (.inl ⟨by rfl,fun W hW=>by have q:=hW.cell q0 id;go_simp⟩) hS ?_
 simp only [pS]
 refine tkI 7 (some 50) (.int .i64 (s.tmod 2)) hS ?_
 simp only [pS]
 refine tkA 8 rfl (some 51) (.bool true) (.inl ⟨by rfl,fun W hW=>by go_simp;first | done | assumption⟩) hS ?_
 simp only [pS]
 refine tkI 9 (some 52) (.bool true) hS ?_
 simp only [pS]
 refine tkI 10 (some 53) (.bool true) hS ?_
 simp only [pS]
 refine tkU 11 (some 54) hS ?_
 simp only [pS]
 refine tkU 12 (some 55) hS ?_
 simp only [pS]
 refine tkU 13 (some 56) hS ?_
 simp only [pS]
 refine tkU 14 (some 57) hS ?_
 simp only [pS]
 refine tkU 15 (some 58) hS ?_
 simp only [pS]
 refine tkI 16 (some 59) (.bool true) hS ?_
 simp only [pS]
 refine tkI 17 (some 60) (.bool true) hS ?_
 simp only [pS]
 refine tkU 18 (some 61) hS ?_
 simp only [pS]
 refine tkU 19 (some 62) hS ?_
 simp only [pS]
 refine tkU 20 (some 63) hS ?_
 simp only [pS]
 refine tkU 21 (some 64) hS ?_
 simp only [pS]
 refine tkU 22 (some 65) hS ?_
 simp only [pS]
 refine tkI 23 (some 66) (.bool true) hS ?_
 simp only [pS]
 refine tkI 24 (some 67) (.bool true) hS ?_
 simp only [pS]
 refine tkU 25 (some 68) hS ?_
 simp only [pS]
 refine tkU 26 (some 69) hS ?_
 simp only [pS]
 refine tkU 27 (some 70) hS ?_
 simp only [pS]
 refine tkI 28 (some 71) (.bool true) hS ?_
 simp only [pS]
 refine wpAnyH_done (by kernel_rfl) ?_ _
 exact zc rfl hN
theorem right7_2 (t:Array Value) (hs:t.size=86) (w:World) {B X n cap q:Nat} {l s:Int} {i:Bool} {ao:Option Addr}
  (hq1:t.getD 1 undef = .pointer (some ⟨B,0,none⟩))
  (hq4:t.getD 4 undef = .pointer (some ⟨X,0,none⟩))
  (p0:w.cell? ⟨B,0,none⟩=some (.int .i64 l)) (p1:w.cell? ⟨B,1,none⟩=some (.slice ao n cap)) (q0:w.cell? ⟨X,0,none⟩=some (.int .i64 s)) (q1:w.cell? ⟨X,1,none⟩=some (.int .u8 q)) (q2:w.cell? ⟨X,2,none⟩=some (.bool i)) (h256:q < 256) (hl0:0 ≤ l) (hl1:l < 2147483648)
  (hu:q ≤ 7) (he:¬ s.tmod 2=0) (h1:decide (s ≤ l)=true)  :
  reg_causeyref24_Right_7.wp Tryz.prog (Only fun a' W'=>∃ z:Nat→Value,a'=⟨((pz t z [43,44,45,46,47,48,49,50,51,52,53,54,55,56,57,58,59,60,61,62,63,64,65,66,67,68,69,70]).setIfInBounds 71 (.bool true)),[]⟩∧New w W') ⟨t,[]⟩ w:=by
 conv=>arg 2;whnf
 obtain ⟨u,rfl⟩:=lit86 t hs
 have hq1:u 1 = _:=hq1
 have hq4:u 4 = _:=hq4
 rw [hq1,hq4]
 clear hq1 hq4 hs
 refine wp_region_held (S:=fun W=>New w W) (by kernel_rfl) ?_
 show wpAnyH _ _ _ _ _ 29 _ _ w.drew
 have hN:New w w.drew:=(Mods.refl _ _).drew
 have hS:New w w.drew:=(Mods.refl _ _).drew
 refine tkI 0 (some 43) (.pointer (some ⟨X,1,none⟩)) hS ?_
 simp only [pS]
 refine tkA 1 rfl (some 44) (.agg #[.int .u8 q,.bool i]) (.inl ⟨by rfl,fun W hW=>by have q0:=hW.cell q1 id;have q1:=hW.cell q2 id;go_simp⟩) hS ?_
 simp only [pS]
 refine tkO 2 ?_
 refine opH_call (some 45) rfl (by rfl) rfl 53 #[.agg #[.int .u8 q,.bool i]] (by go_simp) (((right_pr14 q i h256 _).mono (R':=fun e w'=>e = .returned (.bool true)∧New _ w') (by rintro e w' ⟨rfl,h⟩;exact ⟨by rw [decide_eq_true hu],h⟩)).mono ?_)
 rintro e w2 ⟨rfl,hk⟩
 have hS:=hS.trans hk
 have hN:=hN.trans hk
 clear hk
 refine ⟨_,rfl,hS,?_⟩
 simp only [pS]
 refine tkI 3 (some 46) (.bool false) hS ?_
 simp only [pS]
 refine tkI 4 (some 47) (.bool false) hS ?_
 simp only [pS]
 refine tkI 5 (some 48) (.pointer (some ⟨X,0,none⟩)) hS ?_
 simp only [pS]
 refine tkA 6 rfl (some 49) (.int .i64 s) (.inl ⟨by rfl,fun W hW=>by have q:=hW.cell q0 id;go_simp⟩) hS ?_
 simp only [pS]
 refine tkI 7 (some 50) (.int .i64 (s.tmod 2)) hS ?_
 simp only [pS]
 refine tkA 8 rfl (some 51) (.bool false) (.inl ⟨by rfl,fun W hW=>by go_simp;first | done | assumption⟩) hS ?_
 simp only [pS]
 refine tkI 9 (some 52) (.bool false) hS ?_
 simp only [pS]
 refine tkI 10 (some 53) (.bool false) hS ?_
 simp only [pS]
 refine tkI 11 (some 54) (.pointer (some ⟨X,0,none⟩)) hS ?_
 simp only [pS]
 refine tkA 12 rfl (some 55) (.int .i64 s) (.inl ⟨by rfl,fun W hW=>by have q:=hW.cell q0 id;go_simp⟩) hS ?_
 simp only [pS]
 refine tkI 13 (some 56) (.pointer (some ⟨B,0,none⟩)) hS ?_
 simp only [pS]
 refine tkA 14 rfl (some 57) (.int .i64 l) (.inl ⟨by rfl,fun W hW=>by have q:=hW.cell p0 id;go_simp⟩) hS ?_
 simp only [pS]
 refine tkA 15 rfl (some 58) (.bool true) (.inl ⟨by rfl,fun W hW=>by go_simp;first | done | assumption⟩) hS ?_
 simp only [pS]
 refine tkI 16 (some 59) (.bool true) hS ?_
 simp only [pS]
 refine tkI 17 (some 60) (.bool true) hS ?_
 simp only [pS]
 refine tkU 18 (some 61) hS ?_
 simp only [pS]
 refine tkU 19 (some 62) hS ?_
 simp only [pS]
 refine tkU 20 (some 63) hS ?_
 simp only [pS]
 refine tkU 21 (some 64) hS ?_
 simp only [pS]
 refine tkU 22 (some 65) hS ?_
 simp only [pS]
 refine tkI 23 (some 66) (.bool true) hS ?_
 simp only [pS]
 refine tkI 24 (some 67) (.bool true) hS ?_
 simp only [pS]
 refine tkU 25 (some 68) hS ?_
 simp only [pS]
 refine tkU 26 (some 69) hS ?_
 simp only [pS]
 refine tkU 27 (some 70) hS ?_
 simp only [pS]
 refine tkI 28 (some 71) (.bool true) hS ?_
 simp only [pS]
 refine wpAnyH_done (by kernel_rfl) ?_ _
 exact zc rfl hN
theorem right7_3 (t:Array Value) (hs:t.size=86) (w:World) {B X n cap q:Nat} {l s:Int} {i:Bool} {ao:Option Addr}
  (hq1:t.getD 1 undef = .pointer (some ⟨B,0,none⟩))
  (hq4:t.getD 4 undef = .pointer (some ⟨X,0,none⟩))
  (p0:w.cell? ⟨B,0,none⟩=some (.int .i64 l)) (p1:w.cell? ⟨B,1,none⟩=some (.slice ao n cap)) (q0:w.cell? ⟨X,0,none⟩=some (.int .i64 s)) (q1:w.cell? ⟨X,1,none⟩=some (.int .u8 q)) (q2:w.cell? ⟨X,2,none⟩=some (.bool i)) (h256:q < 256) (hl0:0 ≤ l) (hl1:l < 2147483648)
  (hu:q ≤ 7) (he:¬ s.tmod 2=0) (h1:decide (s ≤ l)=false) (h2:decide (l + 16 < s)=true)  :
  reg_causeyref24_Right_7.wp Tryz.prog (Only fun a' W'=>∃ z:Nat→Value,a'=⟨((pz t z [43,44,45,46,47,48,49,50,51,52,53,54,55,56,57,58,59,60,61,62,63,64,65,66,67,68,69,70]).setIfInBounds 71 (.bool true)),[]⟩∧New w W') ⟨t,[]⟩ w:=by
 conv=>arg 2;whnf
 obtain ⟨u,rfl⟩:=lit86 t hs
 have hq1:u 1 = _:=hq1
 have hq4:u 4 = _:=hq4
 rw [hq1,hq4]
 clear hq1 hq4 hs
 refine wp_region_held (S:=fun W=>New w W) (by kernel_rfl) ?_
 show wpAnyH _ _ _ _ _ 29 _ _ w.drew
 have hN:New w w.drew:=(Mods.refl _ _).drew
 have hS:New w w.drew:=(Mods.refl _ _).drew
 refine tkI 0 (some 43) (.pointer (some ⟨X,1,none⟩)) hS ?_
 simp only [pS]
 refine tkA 1 rfl (some 44) (.agg #[.int .u8 q,.bool i]) (.inl ⟨by rfl,fun W hW=>by have q0:=hW.cell q1 id;have q1:=hW.cell q2 id;go_simp⟩) hS ?_
 simp only [pS]
 refine tkO 2 ?_
 refine opH_call (some 45) rfl (by rfl) rfl 53 #[.agg #[.int .u8 q,.bool i]] (by go_simp) (((right_pr14 q i h256 _).mono (R':=fun e w'=>e = .returned (.bool true)∧New _ w') (by rintro e w' ⟨rfl,h⟩;exact ⟨by rw [decide_eq_true hu],h⟩)).mono ?_)
 rintro e w2 ⟨rfl,hk⟩
 have hS:=hS.trans hk
 have hN:=hN.trans hk
 clear hk
 refine ⟨_,rfl,hS,?_⟩
 simp only [pS]
 refine tkI 3 (some 46) (.bool false) hS ?_
 simp only [pS]
 refine tkI 4 (some 47) (.bool false) hS ?_
 simp only [pS]
 refine tkI 5 (some 48) (.pointer (some ⟨X,0,none⟩)) hS ?_
 simp only [pS]
 refine tkA 6 rfl (some 49) (.int .i64 s) (.inl ⟨by rfl,fun W hW=>by have q:=hW.cell q0 id;go_simp⟩) hS ?_
 simp only [pS]
 refine tkI 7 (some 50) (.int .i64 (s.tmod 2)) hS ?_
 simp only [pS]
 refine tkA 8 rfl (some 51) (.bool false) (.inl ⟨by rfl,fun W hW=>by go_simp;first | done | assumption⟩) hS ?_
 simp only [pS]
 refine tkI 9 (some 52) (.bool false) hS ?_
 simp only [pS]
 refine tkI 10 (some 53) (.bool false) hS ?_
 simp only [pS]
 refine tkI 11 (some 54) (.pointer (some ⟨X,0,none⟩)) hS ?_
 simp only [pS]
 refine tkA 12 rfl (some 55) (.int .i64 s) (.inl ⟨by rfl,fun W hW=>by have q:=hW.cell q0 id;go_simp⟩) hS ?_
 simp only [pS]
 refine tkI 13 (some 56) (.pointer (some ⟨B,0,none⟩)) hS ?_
 simp only [pS]
 refine tkA 14 rfl (some 57) (.int .i64 l) (.inl ⟨by rfl,fun W hW=>by have q:=hW.cell p0 id;go_simp⟩) hS ?_
 simp only [pS]
 refine tkA 15 rfl (some 58) (.bool false) (.inl ⟨by rfl,fun W hW=>by go_simp;first | done | assumption⟩) hS ?_
 simp only [pS]
 refine tkI 16 (some 59) (.bool false) hS ?_
 simp only [pS]
 refine tkI 17 (some 60) (.bool false) hS ?_
 simp only [pS]
 refine tkI 18 (some 61) (.pointer (some ⟨X,0,none⟩)) hS ?_
 simp only [pS]
 refine tkA 19 rfl (some 62) (.int .i64 s) (.inl ⟨by rfl,fun W hW=>by have q:=hW.cell q0 id;go_simp⟩) hS ?_
 simp only [pS]
 refine tkA 20 rfl (some 63) (.agg #[.int .i64 l,.slice ao n cap]) (.inl ⟨by rfl,fun W hW=>by have q0:=hW.cell p0 id;have q1:=hW.cell p1 id;go_simp⟩) hS ?_
 simp only [pS]
 refine tkO 21 ?_
 refine opH_call (some 64) rfl (by rfl) rfl 54 #[.agg #[.int .i64 l,.slice ao n cap]] (by go_simp) ((reach24 l _ _ hl0 hl1).mono ?_)
 rintro e w21 ⟨rfl,hk⟩
 have hS:=hS.trans hk
 have hN:=hN.trans hk
 clear hk
 refine ⟨_,rfl,hS,?_⟩
 simp only [pS]
 refine tkA 22 rfl (some 65) (.bool true) (.inl ⟨by rfl,fun W hW=>by go_simp;first | done | assumption⟩) hS ?_
 simp only [pS]
 refine tkI 23 (some 66) (.bool true) hS ?_
 simp only [pS]
 refine tkI 24 (some 67) (.bool true) hS ?_
 simp only [pS]
 refine tkU 25 (some 68) hS ?_
 simp only [pS]
 refine tkU 26 (some 69) hS ?_
 simp only [pS]
 refine tkU 27 (some 70) hS ?_
 simp only [pS]
 refine tkI 28 (some 71) (.bool true) hS ?_
 simp only [pS]
 refine wpAnyH_done (by kernel_rfl) ?_ _
 exact zc rfl hN
theorem right7_4 (t:Array Value) (hs:t.size=86) (w:World) {B X n cap q:Nat} {l s:Int} {i:Bool} {ao:Option Addr}
  (hq1:t.getD 1 undef = .pointer (some ⟨B,0,none⟩))
  (hq4:t.getD 4 undef = .pointer (some ⟨X,0,none⟩))
  (p0:w.cell? ⟨B,0,none⟩=some (.int .i64 l)) (p1:w.cell? ⟨B,1,none⟩=some (.slice ao n cap)) (q0:w.cell? ⟨X,0,none⟩=some (.int .i64 s)) (q1:w.cell? ⟨X,1,none⟩=some (.int .u8 q)) (q2:w.cell? ⟨X,2,none⟩=some (.bool i)) (h256:q < 256) (hl0:0 ≤ l) (hl1:l < 2147483648)
  (hu:q ≤ 7) (he:¬ s.tmod 2=0) (h1:decide (s ≤ l)=false) (h2:decide (l + 16 < s)=false) (h3:decide (2147483647 < s)=true)  :
  reg_causeyref24_Right_7.wp Tryz.prog (Only fun a' W'=>∃ z:Nat→Value,a'=⟨((pz t z [43,44,45,46,47,48,49,50,51,52,53,54,55,56,57,58,59,60,61,62,63,64,65,66,67,68,69,70]).setIfInBounds 71 (.bool true)),[]⟩∧New w W') ⟨t,[]⟩ w:=by
 conv=>arg 2;whnf
 obtain ⟨u,rfl⟩:=lit86 t hs
 have hq1:u 1 = _:=hq1
 have hq4:u 4 = _:=hq4
 rw [hq1,hq4]
 clear hq1 hq4 hs
 refine wp_region_held (S:=fun W=>New w W) (by kernel_rfl) ?_
 show wpAnyH _ _ _ _ _ 29 _ _ w.drew
 have hN:New w w.drew:=(Mods.refl _ _).drew
 have hS:New w w.drew:=(Mods.refl _ _).drew
 refine tkI 0 (some 43) (.pointer (some ⟨X,1,none⟩)) hS ?_
 simp only [pS]
 refine tkA 1 rfl (some 44) (.agg #[.int .u8 q,.bool i]) (.inl ⟨by rfl,fun W hW=>by have q0:=hW.cell q1 id;have q1:=hW.cell q2 id;go_simp⟩) hS ?_
 simp only [pS]
 refine tkO 2 ?_
 refine opH_call (some 45) rfl (by rfl) rfl 53 #[.agg #[.int .u8 q,.bool i]] (by go_simp) (((right_pr14 q i h256 _).mono (R':=fun e w'=>e = .returned (.bool true)∧New _ w') (by rintro e w' ⟨rfl,h⟩;exact ⟨by rw [decide_eq_true hu],h⟩)).mono ?_)
 rintro e w2 ⟨rfl,hk⟩
 have hS:=hS.trans hk
 have hN:=hN.trans hk
 clear hk
 refine ⟨_,rfl,hS,?_⟩
 simp only [pS]
 refine tkI 3 (some 46) (.bool false) hS ?_
 simp only [pS]
 refine tkI 4 (some 47) (.bool false) hS ?_
 simp only [pS]
 refine tkI 5 (some 48) (.pointer (some ⟨X,0,none⟩)) hS ?_
 simp only [pS]
 refine tkA 6 rfl (some 49) (.int .i64 s) (.inl ⟨by rfl,fun W hW=>by have q:=hW.cell q0 id;go_simp⟩) hS ?_
 simp only [pS]
 refine tkI 7 (some 50) (.int .i64 (s.tmod 2)) hS ?_
 simp only [pS]
 refine tkA 8 rfl (some 51) (.bool false) (.inl ⟨by rfl,fun W hW=>by go_simp;first | done | assumption⟩) hS ?_
 simp only [pS]
 refine tkI 9 (some 52) (.bool false) hS ?_
 simp only [pS]
 refine tkI 10 (some 53) (.bool false) hS ?_
 simp only [pS]
 refine tkI 11 (some 54) (.pointer (some ⟨X,0,none⟩)) hS ?_
 simp only [pS]
 refine tkA 12 rfl (some 55) (.int .i64 s) (.inl ⟨by rfl,fun W hW=>by have q:=hW.cell q0 id;go_simp⟩) hS ?_
 simp only [pS]
 refine tkI 13 (some 56) (.pointer (some ⟨B,0,none⟩)) hS ?_
 simp only [pS]
 refine tkA 14 rfl (some 57) (.int .i64 l) (.inl ⟨by rfl,fun W hW=>by have q:=hW.cell p0 id;go_simp⟩) hS ?_
 simp only [pS]
 refine tkA 15 rfl (some 58) (.bool false) (.inl ⟨by rfl,fun W hW=>by go_simp;first | done | assumption⟩) hS ?_
 simp only [pS]
 refine tkI 16 (some 59) (.bool false) hS ?_
 simp only [pS]
 refine tkI 17 (some 60) (.bool false) hS ?_
 simp only [pS]
 refine tkI 18 (some 61) (.pointer (some ⟨X,0,none⟩)) hS ?_
 simp only [pS]
 refine tkA 19 rfl (some 62) (.int .i64 s) (.inl ⟨by rfl,fun W hW=>by have q:=hW.cell q0 id;go_simp⟩) hS ?_
 simp only [pS]
 refine tkA 20 rfl (some 63) (.agg #[.int .i64 l,.slice ao n cap]) (.inl ⟨by rfl,fun W hW=>by have q0:=hW.cell p0 id;have q1:=hW.cell p1 id;go_simp⟩) hS ?_
 simp only [pS]
 refine tkO 21 ?_
 refine opH_call (some 64) rfl (by rfl) rfl 54 #[.agg #[.int .i64 l,.slice ao n cap]] (by go_simp) ((reach24 l _ _ hl0 hl1).mono ?_)
 rintro e w21 ⟨rfl,hk⟩
 have hS:=hS.trans hk
 have hN:=hN.trans hk
 clear hk
 refine ⟨_,rfl,hS,?_⟩
 simp only [pS]
 refine tkA 22 rfl (some 65) (.bool false) (.inl ⟨by rfl,fun W hW=>by go_simp;first | done | assumption⟩) hS ?_
 simp only [pS]
 refine tkI 23 (some 66) (.bool false) hS ?_
 simp only [pS]
 refine tkI 24 (some 67) (.bool false) hS ?_
 simp only [pS]
 refine tkI 25 (some 68) (.pointer (some ⟨X,0,none⟩)) hS ?_
 simp only [pS]
 refine tkA 26 rfl (some 69) (.int .i64 s) (.inl ⟨by rfl,fun W hW=>by have q:=hW.cell q0 id;go_simp⟩) hS ?_
 simp only [pS]
 refine tkA 27 rfl (some 70) (.bool true) (.inl ⟨by rfl,fun W hW=>by go_simp;first | done | assumption⟩) hS ?_
 simp only [pS]
 refine tkI 28 (some 71) (.bool true) hS ?_
 simp only [pS]
 refine wpAnyH_done (by kernel_rfl) ?_ _
 exact zc rfl hN
theorem right7_5 (t:Array Value) (hs:t.size=86) (w:World) {B X n cap q:Nat} {l s:Int} {i:Bool} {ao:Option Addr}
  (hq1:t.getD 1 undef = .pointer (some ⟨B,0,none⟩))
  (hq4:t.getD 4 undef = .pointer (some ⟨X,0,none⟩))
  (p0:w.cell? ⟨B,0,none⟩=some (.int .i64 l)) (p1:w.cell? ⟨B,1,none⟩=some (.slice ao n cap)) (q0:w.cell? ⟨X,0,none⟩=some (.int .i64 s)) (q1:w.cell? ⟨X,1,none⟩=some (.int .u8 q)) (q2:w.cell? ⟨X,2,none⟩=some (.bool i)) (h256:q < 256) (hl0:0 ≤ l) (hl1:l < 2147483648)
  (hu:q ≤ 7) (he:¬ s.tmod 2=0) (h1:decide (s ≤ l)=false) (h2:decide (l + 16 < s)=false) (h3:decide (2147483647 < s)=false)  :
  reg_causeyref24_Right_7.wp Tryz.prog (Only fun a' W'=>∃ z:Nat→Value,a'=⟨((pz t z [43,44,45,46,47,48,49,50,51,52,53,54,55,56,57,58,59,60,61,62,63,64,65,66,67,68,69,70]).setIfInBounds 71 (.bool false)),[]⟩∧New w W') ⟨t,[]⟩ w:=by
 conv=>arg 2;whnf
 obtain ⟨u,rfl⟩:=lit86 t hs
 have hq1:u 1 = _:=hq1
 have hq4:u 4 = _:=hq4
 rw [hq1,hq4]
 clear hq1 hq4 hs
 refine wp_region_held (S:=fun W=>New w W) (by kernel_rfl) ?_
 show wpAnyH _ _ _ _ _ 29 _ _ w.drew
 have hN:New w w.drew:=(Mods.refl _ _).drew
 have hS:New w w.drew:=(Mods.refl _ _).drew
 refine tkI 0 (some 43) (.pointer (some ⟨X,1,none⟩)) hS ?_
 simp only [pS]
 refine tkA 1 rfl (some 44) (.agg #[.int .u8 q,.bool i]) (.inl ⟨by rfl,fun W hW=>by have q0:=hW.cell q1 id;have q1:=hW.cell q2 id;go_simp⟩) hS ?_
 simp only [pS]
 refine tkO 2 ?_
 refine opH_call (some 45) rfl (by rfl) rfl 53 #[.agg #[.int .u8 q,.bool i]] (by go_simp) (((right_pr14 q i h256 _).mono (R':=fun e w'=>e = .returned (.bool true)∧New _ w') (by rintro e w' ⟨rfl,h⟩;exact ⟨by rw [decide_eq_true hu],h⟩)).mono ?_)
 rintro e w2 ⟨rfl,hk⟩
 have hS:=hS.trans hk
 have hN:=hN.trans hk
 clear hk
 refine ⟨_,rfl,hS,?_⟩
 simp only [pS]
 refine tkI 3 (some 46) (.bool false) hS ?_
 simp only [pS]
 refine tkI 4 (some 47) (.bool false) hS ?_
 simp only [pS]
 refine tkI 5 (some 48) (.pointer (some ⟨X,0,none⟩)) hS ?_
 simp only [pS]
 refine tkA 6 rfl (some 49) (.int .i64 s) (.inl ⟨by rfl,fun W hW=>by have q:=hW.cell q0 id;go_simp⟩) hS ?_
 simp only [pS]
 refine tkI 7 (some 50) (.int .i64 (s.tmod 2)) hS ?_
 simp only [pS]
 refine tkA 8 rfl (some 51) (.bool false) (.inl ⟨by rfl,fun W hW=>by go_simp;first | done | assumption⟩) hS ?_
 simp only [pS]
 refine tkI 9 (some 52) (.bool false) hS ?_
 simp only [pS]
 refine tkI 10 (some 53) (.bool false) hS ?_
 simp only [pS]
 refine tkI 11 (some 54) (.pointer (some ⟨X,0,none⟩)) hS ?_
 simp only [pS]
 refine tkA 12 rfl (some 55) (.int .i64 s) (.inl ⟨by rfl,fun W hW=>by have q:=hW.cell q0 id;go_simp⟩) hS ?_
 simp only [pS]
 refine tkI 13 (some 56) (.pointer (some ⟨B,0,none⟩)) hS ?_
 simp only [pS]
 refine tkA 14 rfl (some 57) (.int .i64 l) (.inl ⟨by rfl,fun W hW=>by have q:=hW.cell p0 id;go_simp⟩) hS ?_
 simp only [pS]
 refine tkA 15 rfl (some 58) (.bool false) (.inl ⟨by rfl,fun W hW=>by go_simp;first | done | assumption⟩) hS ?_
 simp only [pS]
 refine tkI 16 (some 59) (.bool false) hS ?_
 simp only [pS]
 refine tkI 17 (some 60) (.bool false) hS ?_
 simp only [pS]
 refine tkI 18 (some 61) (.pointer (some ⟨X,0,none⟩)) hS ?_
 simp only [pS]
 refine tkA 19 rfl (some 62) (.int .i64 s) (.inl ⟨by rfl,fun W hW=>by have q:=hW.cell q0 id;go_simp⟩) hS ?_
 simp only [pS]
 refine tkA 20 rfl (some 63) (.agg #[.int .i64 l,.slice ao n cap]) (.inl ⟨by rfl,fun W hW=>by have q0:=hW.cell p0 id;have q1:=hW.cell p1 id;go_simp⟩) hS ?_
 simp only [pS]
 refine tkO 21 ?_
 refine opH_call (some 64) rfl (by rfl) rfl 54 #[.agg #[.int .i64 l,.slice ao n cap]] (by go_simp) ((reach24 l _ _ hl0 hl1).mono ?_)
 rintro e w21 ⟨rfl,hk⟩
 have hS:=hS.trans hk
 have hN:=hN.trans hk
 clear hk
 refine ⟨_,rfl,hS,?_⟩
 simp only [pS]
 refine tkA 22 rfl (some 65) (.bool false) (.inl ⟨by rfl,fun W hW=>by go_simp;first | done | assumption⟩) hS ?_
 simp only [pS]
 refine tkI 23 (some 66) (.bool false) hS ?_
 simp only [pS]
 refine tkI 24 (some 67) (.bool false) hS ?_
 simp only [pS]
 refine tkI 25 (some 68) (.pointer (some ⟨X,0,none⟩)) hS ?_
 simp only [pS]
 refine tkA 26 rfl (some 69) (.int .i64 s) (.inl ⟨by rfl,fun W hW=>by have q:=hW.cell q0 id;go_simp⟩) hS ?_
 simp only [pS]
 refine tkA 27 rfl (some 70) (.bool false) (.inl ⟨by rfl,fun W hW=>by go_simp;first | done | assumption⟩) hS ?_
 simp only [pS]
 refine tkI 28 (some 71) (.bool false) hS ?_
 simp only [pS]
 refine wpAnyH_done (by kernel_rfl) ?_ _
 exact zc rfl hN
noncomputable def reg_causeyref24_Right_12:Code:=((Tryz.f20.body.bind (regionOf 12)).getD .skip)
theorem right12_24 (t:Array Value) (hs:t.size=86) (w:World) {B X b1 o1 k n m1:Nat} {s s2:Int} {y:Bool}
  (hq1:t.getD 1 undef = .pointer (some ⟨B,0,none⟩))
  (hq4:t.getD 4 undef = .pointer (some ⟨X,0,none⟩))
  (hq5:t.getD 5 undef = .int .i64 k)
  (p1:w.cell? ⟨B,1,none⟩=some (.slice (some ⟨b1,o1,none⟩) n m1)) (q0:w.cell? ⟨X,0,none⟩=some (.int .i64 s)) (c0:w.cell? ⟨b1,o1 + k * 3,none⟩=some (.int .i64 s2)) (hk:k < n) (hy:(s2 == s)=y) :
  reg_causeyref24_Right_12.wp Tryz.prog (Only fun a' W'=>∃ z:Nat→Value,a'=⟨((pz t z [77,78,79,80,81,82,83,84]).setIfInBounds 85 (.bool y)),[]⟩∧New w W') ⟨t,[]⟩ w:=by
 conv=>arg 2;whnf
 obtain ⟨u,rfl⟩:=lit86 t hs
 have hq1:u 1 = _:=hq1
 have hq4:u 4 = _:=hq4
 have hq5:u 5 = _:=hq5
 rw [hq1,hq4,hq5]
 clear hq1 hq4 hq5 hs
 have hid:decide ((k:Int) < (n:Int))=true:=decide_eq_true (by omega)
 refine wp_region_held (S:=fun W=>New w W) (by kernel_rfl) ?_
 show wpAnyH _ _ _ _ _ 9 _ _ w.drew
 have hN:New w w.drew:=(Mods.refl _ _).drew
 have hS:New w w.drew:=(Mods.refl _ _).drew
 refine tkI 0 (some 77) (.pointer (some ⟨B,1,none⟩)) hS ?_
 simp only [pS]
 refine tkA 1 rfl (some 78) (.slice (some ⟨b1,o1,none⟩) n m1) (.inl ⟨by rfl,fun W hW=>by have q:=hW.cell p1 id;go_simp⟩) hS ?_
 simp only [pS]
 refine tkI 2 (some 79) (.int .i64 k) hS ?_
 simp only [pS]
 refine tkI 3 (some 80) (.pointer (some ⟨b1,o1 + k * 3,none⟩)) hS ?_
 simp only [pS]
 refine tkI 4 (some 81) (.pointer (some ⟨b1,o1 + k * 3,none⟩)) hS ?_
 simp only [pS]
 refine tkA 5 rfl (some 82) (.int .i64 s2) (.inl ⟨by rfl,fun W hW=>by have q:=hW.cell c0 id;go_simp⟩) hS ?_
 simp only [pS]
 refine tkI 6 (some 83) (.pointer (some ⟨X,0,none⟩)) hS ?_
 simp only [pS]
 refine tkA 7 rfl (some 84) (.int .i64 s) (.inl ⟨by rfl,fun W hW=>by have q:=hW.cell q0 id;go_simp⟩) hS ?_
 simp only [pS]
 refine tkA 8 rfl (some 85) (.bool y) (.inl ⟨by rfl,fun W hW=>by go_simp;first | done | assumption⟩) hS ?_
 simp only [pS]
 refine wpAnyH_done (by kernel_rfl) ?_ _
 exact zc rfl hN


theorem UpR.qset {W:World} {B:Nat} {l s:Int} {v:Value} {o p:List Value} {a b a' b':Value} {f:List Value} (h:UpR W B l s v o p [a,b] f) :
  UpR ((W.setCell ⟨B + 5,0,none⟩ a').setCell ⟨B + 5,1,none⟩ b') B l s v o p [a',b'] f∧Mods (fun x=>x=B + 5) W ((W.setCell ⟨B + 5,0,none⟩ a').setCell ⟨B + 5,1,none⟩ b'):=by
 have hM:=(setMods W (B + 5) 0 a').trans (setMods _ (B + 5) 1 b')
 have r:=setCell_heap (i:=1) (setCell_heap (i:=0) h.hq a') b'
 simp only [pS] at r
 exact ⟨⟨hM.heap h.hp (by omega),hM.boxed h.hs (by omega),hM.heap h.ho (by omega),hM.heap h.hr (by omega),hM.heap h.hf (by omega),r⟩,hM⟩
theorem RdW.dropN {W:World} {g cap m k:Nat} {F:List WP} (h:RdW W (.slice (some ⟨g,0,none⟩) m cap) F) (hm:F.length=m) (hk:k ≤ m) (c':Nat):RdW W (.slice (some ⟨g,0 + k * 3,none⟩) (m - k) c') (F.drop k):=by
 obtain ⟨hl,ao,cp,e,hc⟩:=h
 cases e
 refine ⟨by simp;omega,_,_,by rw [List.length_drop,hm],fun i hi=>?_⟩
 rw [List.length_drop] at hi
 obtain ⟨b,o,e,h⟩:=hc (k + i) (by omega)
 cases e
 refine ⟨_,_,rfl,?_⟩
 have e1:(F.drop k).getD i noW=F.getD (k + i) noW:=by simp [List.getD]
 dsimp only
 rw [e1,show 0 + k * 3 + i * 3=0 + (k + i) * 3 by omega]
 exact h
def RdWF (b:Nat) (W:World) (v:Value) (l:List WP):Prop:=RdW W v l∧∀ g,v.ownBlock=some g→b ≤ g
theorem update_f (l s:Int) (v:Value) (d:List WP) (T:ByteArray) (w:World) (h:RdW w v d) (hu:∀ x ∈ d,x.u < 256) (hd:d.length ≤ 1000) (hs:T.size ≤ 1000000) (hT:Tab w) :
  Calls Tryz.prog 15 #[.agg #[.int .i64 l,v],.int .i64 s,.string T] w fun e w'=>∃ v',e=updE l v' (updP l d s (readP T))∧RdWF w.heap.size w' v' (updP l d s (readP T)).1∧New w w':=by
 have HO:=Lib.hid (fun W (hN:New w W)=>own_p l v d W (h.new hN) (by omega))
 have HR:=Lib.hid (fun W (hN:New w W)=>right_p l v d W (h.new hN) hu)
 have HRd:=Lib.hid (fun W (hN:New w W)=>read_p T W hs (hT.new hN))
 have HD:=Lib.hid h
 have hU:=UpR.made w l s v [.int .i64 0,.slice none 0 0] [.int .u8 0,.bool false] [.int .u8 0,.bool false] (faV false 0)
 unfold faV at hU
 obtain ⟨ao,cap,rfl⟩:=h.slice
 obtain ⟨rp,hrp⟩:∃ r,readP T=r:=⟨_,rfl⟩
 rw [hrp] at HRd ⊢
 obtain ⟨n,hn⟩:∃ n,d.length=n:=⟨_,rfl⟩
 have HN:=Lib.hid hn
 rw [hn] at h HO HR hU hd HD ⊢
 clear hn h hrp hs hT
 obtain ⟨Post,hPost⟩:∃ Post:Ending→World→Prop,(fun e w'=>∃ v',e=updE l v' (updP l d s rp)∧RdWF w.heap.size w' v' (updP l d s rp).1∧New w w')=Post:=⟨_,rfl⟩
 have HPost:=Lib.hid hPost
 rw [hPost]
 clear hPost
 go_enter Tryz.func15,Tryz.ntmps15
 go_upto_region 3 with fail
 refine wp_scope_fwd 0 (fun a W=>∃ (R6 R8 R9 oc:Nat) (oa:Option Addr) (wh:Bool) (code:Nat),(a.tmps.size=77∧a.defers = [])∧(a.tmps.getD 6 undef = .pointer (some ⟨R6,0,none⟩)∧a.tmps.getD 8 undef = .pointer (some ⟨R8,0,none⟩)∧a.tmps.getD 9 undef = .pointer (some ⟨R9,0,none⟩))∧(W.heap[R6]? = some (.cells #[.int .i64 l,.slice oa n oc] 26 (0,0))∧W.heap[R8]? = some (.cells #[.int .u8 3,.bool false] 31 (0,0))∧W.heap[R9]? = some (.cells #[.bool wh,.int .i64 0,.int .u32 code] 34 (0,0)))∧(R6 < R8∧R8 < R9∧w.heap.size ≤ R6)∧(∀ g,(Value.slice oa n oc).ownBlock=some g→R9 < g)∧OwW w.heap.size W (.slice oa n oc) n (wf d)∧Hid (updP l d s rp=(d,0,(3,false),(wh,code)))∧New w W) rfl ?first ?pass
 case pass =>
  rintro ⟨t,dfs⟩ W ⟨R6,R8,R9,oc,oa,wh,code,⟨hs,hdf⟩,⟨q6,q8,q9⟩,⟨r6,r8,r9⟩,⟨h1,h2,h3⟩,hg,hO,hE,hN⟩
  simp only at hs hdf q6 q8 q9
  subst hdf
  obtain ⟨u,rfl⟩:=lit77 t hs
  have p6:u 6 = .pointer (some ⟨R6,0,none⟩):=q6
  have p8:u 8 = .pointer (some ⟨R8,0,none⟩):=q8
  have p9:u 9 = .pointer (some ⟨R9,0,none⟩):=q9
  rw [p6,p8,p9]
  clear p6 p8 p9 q6 q8 q9 hs HO HR HRd hU HD
  go_upto_region 14 with fail
  refine piece (fun _=>_) (upd14 _ rfl W rfl rfl rfl r6 r8 r9 (by intro x hx;simp only [List.mem_cons,List.not_mem_nil,or_false] at hx;rcases hx with rfl | rfl | rfl <;> rfl) h1 h2) ?_
  rintro a' W2 ⟨z,rfl,s6,s8,s9,hM⟩
  simp only [pS]
  go_wp2_with fail
  rw [Exit.noGoto_ret]
  have hres:=fun tmps h6 h7 h8 h9=>results_upd (fn:=Tryz.f15) rfl tmps W2 R6 R8 R9 [.int .i64 l,.slice oa n oc] [.int .u8 3,.bool false] [.bool wh,.int .i64 0,.int .u32 code] (.int .u8 0) h6 h7 h8 h9 s6 s8 s9 rfl rfl rfl
  refine bodyPost_ret (hres _ rfl rfl rfl rfl) rfl ?_
  rw [← HPost.out,hE.out]
  refine ⟨.slice oa n oc,rfl,?_,((Mods.ofNew hN).trans hM).new (fun g hg=>by omega)⟩
  have hO2:=hO.mods hM (fun g hg' e=>by have:=hg g hg';omega)
  rw [← HN.out] at hO2
  have hO3:=hO2.reads (by rw [HN.out];omega)
  rw [HN.out] at hO3
  exact ⟨hO3,fun g hg=>(hO.lt hg).1⟩
 case first =>
 have hN:New w ((((((w.alloc (.cells #[.int .i64 l,.slice ao n cap] 26)).alloc (.cells #[.int .i64 s] 3)).alloc (.cells #[.int .i64 0,.slice none 0 0] 26)).alloc (.cells #[.int .u8 0,.bool false] 31)).alloc (.cells #[.bool false,.int .i64 0,.int .u32 0] 34)).alloc (.cells #[.int .u8 0,.bool false] 31)):=((((((Mods.refl _ _).alloc _).alloc _).alloc _).alloc _).alloc _).alloc _
 go_upto_region 3 with fail
 obtain ⟨W0,hW0⟩:∃ V,((((((w.alloc (.cells #[.int .i64 l,.slice ao n cap] 26)).alloc (.cells #[.int .i64 s] 3)).alloc (.cells #[.int .i64 0,.slice none 0 0] 26)).alloc (.cells #[.int .u8 0,.bool false] 31)).alloc (.cells #[.bool false,.int .i64 0,.int .u32 0] 34)).alloc (.cells #[.int .u8 0,.bool false] 31))=V:=⟨_,rfl⟩
 rw [hW0] at hN
 have hU:UpR W0 w.heap.size l s (.slice ao n cap) [.int .i64 0,.slice none 0 0] [.int .u8 0,.bool false] [.int .u8 0,.bool false] [.bool false,.int .i64 0,.int .u32 0]:=by rw [← hW0];exact hU
 simp only [hW0]
 clear hW0
 obtain ⟨⟨p0,p1⟩,-⟩:=pc_facts hU.hp
 obtain ⟨B,hB⟩:∃ B,w.heap.size=B:=⟨_,rfl⟩
 rw [hB] at hU p0 p1
 have hwB:w.heap.size ≤ B:=by omega
 have hBs:B + 5 < W0.heap.size:=(Array.getElem?_eq_some_iff.1 hU.hq).1
 simp only [hB,show B + 1 + 1=B + 2 from rfl,show B + 2 + 1=B + 3 from rfl,show B + 3 + 1=B + 4 from rfl,show B + 4 + 1=B + 5 from rfl]
 clear hB
 go_wp2_with fail
 refine (HO.out _ hN).mono ?_
 rintro e w1 ⟨v',rfl,hOw,hk⟩
 replace hN:=hN.trans hk
 replace hU:=hU.new hk
 clear hk p0 p1
 obtain ⟨oa,oc,rfl⟩:=hOw.slice
 go_wp2_with fail
 refine (first_u _).mono ?_
 rintro e w2 ⟨rfl,hk⟩
 unfold prV
 replace hN:=hN.trans hk
 replace hU:=hU.new hk
 replace hOw:=hOw.new hk
 clear hk
 have hOg:∀ g,(Value.slice oa n oc).ownBlock=some g→B + 5 < g:=fun g hg=>by have:=(hOw.lt hg).1;omega
 replace hOw:=hOw.mono (base':=w.heap.size) (by omega)
 obtain ⟨⟨p0,p1⟩,p2,p3⟩:=pc_facts hU.ho
 obtain ⟨⟨q0,q1⟩,q2,q3⟩:=pr_facts hU.hr
 go_upto_region 4 with fail
 obtain ⟨hU2,hM2⟩:=hU.first (a':=.int .i64 l) (b':=.slice oa n oc) (c':=.int .u8 3) (d':=.bool false)
 replace hOw:=hOw.mods hM2 (by intro g hg e;have:=hOg g hg;omega)
 have hN3:New w _:=((Mods.ofNew hN).trans hM2).new (by rintro b (rfl | rfl) <;> omega)
 obtain ⟨w3,hw3⟩:∃ V,((((w2.setCell ⟨B + 2,0,none⟩ (.int .i64 l)).setCell ⟨B + 2,1,none⟩ (.slice oa n oc)).setCell ⟨B + 3,0,none⟩ (.int .u8 3)).setCell ⟨B + 3,1,none⟩ (.bool false))=V:=⟨_,rfl⟩
 rw [hw3] at hU2 hM2 hOw hN3 ⊢
 clear hU hN hM2 hw3 p0 p1 p2 p3 q0 q1 q2 q3
 obtain ⟨⟨p0,p1⟩,-⟩:=pc_facts hU2.hp
 go_wp2_with fail
 refine (HR.out _ hN3).mono ?_
 rintro e w4 ⟨rfl,hk⟩
 replace hN3:=hN3.trans hk
 replace hU2:=hU2.new hk
 replace hOw:=hOw.new hk
 clear hk p0 p1 HR
 cases hr:rightP l d with
 | false =>
  have hE:Hid (updP l d s rp=(d,0,(3,false),(false,0))):=Lib.hid (by unfold updP;rw [if_pos hr])
  clear hr
  go_wp2_with fail
  exact wp_goto (And.intro rfl ⟨B + 2,B + 3,B + 4,oc,oa,false,0,⟨rfl,rfl⟩,⟨rfl,rfl,rfl⟩,⟨hU2.ho,hU2.hr,hU2.hf⟩,⟨by omega,by omega,by omega⟩,(fun g hg=>by have:=hOg g hg;omega),hOw,hE,hN3⟩)
 | true =>
  obtain ⟨h0,h1,h4,h5,h6⟩:=right_facts hr
  have HRt:=Lib.hid hr
  have HF:=Lib.hid h6
  clear h5 h6 hr
  obtain ⟨cs,-⟩:=hU2.hs.both
  have ha:=and_one s
  have hbad:∀ w5,New w4 w5→(s < 1 ∨ s % 2=0)→True:=fun _ _ _=>trivial
  by_cases hs1:s < 1
  ·have hE:Hid (updP l d s rp=(d,0,(3,false),(true,1))):=Lib.hid (by unfold updP;rw [if_neg (by rw [HRt.out];decide),if_pos (.inl hs1)])
   have hd1:decide (s < 1)=true:=decide_eq_true hs1
   clear ha HRd HF HD
   have rf:=hU2.hf
   go_wp2_with (refine op_skip rfl (run_store_row 34 (.tmp 9) (.tmp 25) rfl (B + 4) rfl 34 [.bool false,.int .i64 0,.int .u32 0] [.bool true,.int .i64 0,.int .u32 1] rfl rf sizeFl rfl (by intro x hx;simp only [List.mem_cons,List.not_mem_nil,or_false] at hx;rcases hx with rfl | rfl | rfl <;> rfl)) ?_)
   have hmR:=mods_setRow rf #[.bool true,.int .i64 0,.int .u32 1]
   have rf2:=setRow_heap w4 (B + 4) _ #[.bool true,.int .i64 0,.int .u32 1] _ _ rf
   exact wp_goto (And.intro rfl ⟨B + 2,B + 3,B + 4,oc,oa,true,1,⟨rfl,rfl⟩,⟨rfl,rfl,rfl⟩,⟨hmR.heap hU2.ho (by omega),hmR.heap hU2.hr (by omega),rf2⟩,⟨by omega,by omega,by omega⟩,(fun g hg=>by have:=hOg g hg;omega),hOw.mods hmR (fun g hg e=>by have:=hOg g hg;omega),hE,hN3.setRow (by omega) _⟩)
  ·by_cases hs2:s % 2=0
   ·have hE:Hid (updP l d s rp=(d,0,(3,false),(true,1))):=Lib.hid (by unfold updP;rw [if_neg (by rw [HRt.out];decide),if_pos (.inr hs2)])
    have hd1:decide (s < 1)=false:=decide_eq_false hs1
    rw [hs2] at ha
    clear HRd HF HD
    have rf:=hU2.hf
    go_wp2_with (refine op_skip rfl (run_store_row 34 (.tmp 9) (.tmp 25) rfl (B + 4) rfl 34 [.bool false,.int .i64 0,.int .u32 0] [.bool true,.int .i64 0,.int .u32 1] rfl rf sizeFl rfl (by intro x hx;simp only [List.mem_cons,List.not_mem_nil,or_false] at hx;rcases hx with rfl | rfl | rfl <;> rfl)) ?_)
    have hmR:=mods_setRow rf #[.bool true,.int .i64 0,.int .u32 1]
    have rf2:=setRow_heap w4 (B + 4) _ #[.bool true,.int .i64 0,.int .u32 1] _ _ rf
    exact wp_goto (And.intro rfl ⟨B + 2,B + 3,B + 4,oc,oa,true,1,⟨rfl,rfl⟩,⟨rfl,rfl,rfl⟩,⟨hmR.heap hU2.ho (by omega),hmR.heap hU2.hr (by omega),rf2⟩,⟨by omega,by omega,by omega⟩,(fun g hg=>by have:=hOg g hg;omega),hOw.mods hmR (fun g hg e=>by have:=hOg g hg;omega),hE,hN3.setRow (by omega) _⟩)
   ·have hs3:s % 2=1:=by omega
    have hd1:decide (s < 1)=false:=decide_eq_false hs1
    have hnb:¬ (s < 1 ∨ s % 2=0):=by omega
    rw [hs3] at ha
    go_upto_region 7 with fail
    clear cs ha
    go_wp2_with fail
    refine (HRd.out _ hN3).mono ?_
    rintro e w5 ⟨rfl,hk⟩
    replace hN3:=hN3.trans hk
    replace hU2:=hU2.new hk
    replace hOw:=hOw.new hk
    clear hk HRd
    obtain ⟨cs,-⟩:=hU2.hs.both
    obtain ⟨⟨p0,p1⟩,-⟩:=pc_facts hU2.hp
    obtain ⟨⟨q0,q1⟩,q2,q3⟩:=pr_facts hU2.hq
    cases rp with
    | none =>
     have hE:Hid (updP l d s none=(d,0,(3,false),(false,0))):=Lib.hid (by unfold updP;rw [if_neg (by rw [HRt.out];decide),if_neg hnb])
     obtain ⟨hU3,hM3⟩:=hU2.qset (a':=.int .u8 3) (b':=.bool false)
     go_wp2_with fail
     replace hOw:=hOw.mods hM3 (fun g hg e=>by have:=hOg g hg;omega)
     replace hN3:=((Mods.ofNew hN3).trans hM3).new (fun g hg=>by omega)
     replace hU2:=hU3
     exact wp_goto (And.intro rfl ⟨B + 2,B + 3,B + 4,oc,oa,false,0,⟨rfl,rfl⟩,⟨rfl,rfl,rfl⟩,⟨hU2.ho,hU2.hr,hU2.hf⟩,⟨by omega,by omega,by omega⟩,(fun g hg=>by have:=hOg g hg;omega),hOw,hE,hN3⟩)
    | some q =>
     obtain ⟨qu,qi⟩:=q
     obtain ⟨hU3,hM3⟩:=hU2.qset (a':=.int .u8 qu) (b':=.bool qi)
     simp only [Option.getD_some,Option.isSome_some]
     go_upto_region 8 with fail
     replace hOw:=hOw.mods hM3 (fun g hg e=>by have:=hOg g hg;omega)
     replace hN3:=((Mods.ofNew hN3).trans hM3).new (fun g hg=>by omega)
     replace hU2:=hU3
     obtain ⟨w6,hw6⟩:∃ V,((w5.setCell ⟨B + 5,0,none⟩ (.int .u8 qu)).setCell ⟨B + 5,1,none⟩ (.bool qi))=V:=⟨_,rfl⟩
     rw [hw6] at hU2 hM3 hOw hN3 ⊢
     clear hU3 hM3 hw6 cs p0 p1 q0 q1 q2 q3
     obtain ⟨cs,-⟩:=hU2.hs.both
     obtain ⟨⟨p0,p1⟩,-⟩:=pc_facts hU2.hp
     by_cases hsl:l < s
     ·have HW:=Lib.hid (fun W=>within_p l s (.slice ao n cap) W h0 h1)
      have hd2:decide (l < s)=true:=decide_eq_true hsl
      have hd3:decide (s ≤ l)=false:=decide_eq_false (by omega)
      cases hwi:withinP l s with
      | false =>
       have hE:Hid (updP l d s (some (qu,qi))=(d,0,(3,false),(false,0))):=Lib.hid (by unfold updP;rw [if_neg (by rw [HRt.out];decide),if_neg hnb];simp only;rw [if_pos ⟨hsl,hwi⟩])
       rw [hwi] at HW
       clear hwi
       go_wp2_with fail
       refine (HW.out _).mono ?_
       rintro e w7 ⟨rfl,hk⟩
       replace hN3:=hN3.trans hk
       replace hU2:=hU2.new hk
       replace hOw:=hOw.new hk
       go_wp2_with fail
       exact wp_goto (And.intro rfl ⟨B + 2,B + 3,B + 4,oc,oa,false,0,⟨rfl,rfl⟩,⟨rfl,rfl,rfl⟩,⟨hU2.ho,hU2.hr,hU2.hf⟩,⟨by omega,by omega,by omega⟩,(fun g hg=>by have:=hOg g hg;omega),hOw,hE,hN3⟩)
      | true =>
       have HE:Hid (updP l d s (some (qu,qi))=(lastN ((d.filter fun x=>!decide (x.s=s)) ++ [⟨s,qu,qi⟩]),1,(qu,qi),(false,0))):=Lib.hid (by unfold updP;rw [if_neg (by rw [HRt.out];decide),if_neg hnb];simp only;rw [if_neg (fun h=>by rw [hwi] at h;cases h.2),if_neg (by omega)])
       rw [hwi] at HW
       clear hwi
       go_wp2_with fail
       refine (HW.out _).mono ?_
       rintro e w7 ⟨rfl,hk⟩
       replace hN3:=hN3.trans hk
       replace hU2:=hU2.new hk
       replace hOw:=hOw.new hk
       clear cs p0 p1 hk
       obtain ⟨cs,-⟩:=hU2.hs.both
       obtain ⟨⟨p0,p1⟩,-⟩:=pc_facts hU2.hp
       go_upto_region 11 with fail
       obtain ⟨L,hL⟩:∃ L,d.filter (fun x=>!decide (x.s=s))=L:=⟨_,rfl⟩
       have hLl:L.length ≤ n:=by rw [← hL,← HN.out];exact List.length_filter_le _ _
       have hsz7:B + 5 < w7.heap.size:=(Array.getElem?_eq_some_iff.1 hU2.hq).1
       rw [hL] at HE
       have HT:Hid (∀ W,New w7 W→Calls Tryz.prog 48 #[.slice ao n cap,.func (.func 49) #[] #[.pointer (some ⟨B + 1,0,none⟩)]] W fun e w'=>∃ v',e = .returned v'∧OwW W.heap.size w' v' L.length (wf L)∧New W w'):=Lib.hid (fun W hW=>by
        have:=those_p (.slice ao n cap) d 49 #[.pointer (some ⟨B + 1,0,none⟩)] (fun t=>!decide (t=s)) W (HD.out.new (hN3.trans hW)) (by have:=HN.out;omega) (enters_of Tryz.func49 (by kernel_rfl) rfl) (fun W' S hS hm=>so_ne (B + 1) s W' (hm.boxed (hW.boxed hU2.hs id) (fun hb=>by have:=hS _ hb;have:=hW.size;omega)))
        have e:(d.filter fun x=>(fun t=>!decide (t=s)) x.s)=L:=hL
        rw [e] at this
        exact this)
       have hd4:n ≤ 4:=by have:=HN.out;omega
       clear cs p0 p1 hL
       refine piece (fun _=>_) (upd11 _ rfl w7 rfl rfl rfl rfl hU2.hp hU2.hs hU2.ho hU2.hq (by omega) HT (by omega) (by omega) (by omega)) ?_
       rintro a' W8 ⟨z,v8,rfl,s6,hO8,hM8⟩
       simp only [pS]
       have s8:=hM8.heap hU2.hr (by omega)
       have s9:=hM8.heap hU2.hf (by omega)
       have s10:=hM8.heap hU2.hq (by omega)
       have hN8:New w W8:=((Mods.ofNew hN3).trans hM8).new (fun g hg=>by omega)
       obtain ⟨F,hF⟩:∃ F,L ++ ([⟨s,qu,qi⟩]:List WP)=F:=⟨_,rfl⟩
       rw [hF] at HE hO8
       have hFl:F.length=L.length + 1:=by rw [← hF];simp
       obtain ⟨m,hm⟩:∃ m,F.length=m:=⟨_,rfl⟩
       have hRW:=hO8.reads (by omega)
       rw [hm] at hO8
       obtain ⟨g,oc8,rfl,hcap⟩:∃ g c,v8 = .slice (some ⟨g,0,none⟩) m c∧m ≤ c:=by
        rcases hO8.2.2.2 with ⟨e,e'⟩ | ⟨b',cap',cur,e,_,_,hc,_⟩
        ·omega
        ·exact ⟨b',cap',e,hc⟩
       have hgl:=hO8.lt rfl
       clear hU hU2 hM8 HT hF hOw
       obtain ⟨⟨p0,p1⟩,p2,p3⟩:=pc_facts s6
       by_cases hm4:m ≤ 4
       ·have hmx:max (0:Int) ((m:Int) - 4)=0:=by omega
        go_upto_region 13 with fail
        have hMs:=setMods W8 (B + 2) 1 (.slice (some ⟨g,0,none⟩) m oc8)
        have s6b:=setCell_heap (i:=1) s6 (.slice (some ⟨g,0,none⟩) m oc8)
        simp only [pS] at s6b
        have s8b:=hMs.heap s8 (by omega)
        have s9b:=hMs.heap s9 (by omega)
        have s10b:=hMs.heap s10 (by omega)
        have hNb:New w _:=((Mods.ofNew hN8).trans hMs).new (fun g hg=>by omega)
        obtain ⟨V,hV⟩:∃ V,W8.setCell ⟨B + 2,1,none⟩ (.slice (some ⟨g,0,none⟩) m oc8)=V:=⟨_,rfl⟩
        rw [hV] at hMs s6b s8b s9b s10b hNb ⊢
        refine piece (fun _=>_) (upd13 _ rfl V rfl rfl rfl rfl s6b s8b s9b s10b (by intro x hx;simp only [List.mem_cons,List.not_mem_nil,or_false] at hx;rcases hx with rfl | rfl | rfl <;> rfl) (by omega) (by omega) (by omega)) ?_
        rintro a' W9 ⟨z,rfl,t6,t8,t9,hM9⟩
        simp only [pS]
        go_wp2_with fail
        have hres:=fun tmps h6 h7 h8 h9=>results_upd (fn:=Tryz.f15) rfl tmps W9 (B + 2) (B + 3) (B + 4) [.int .i64 l,.slice (some ⟨g,0,none⟩) m oc8] [.int .u8 qu,.bool qi] [.bool false,.int .i64 0,.int .u32 0] (.int .u8 1) h6 h7 h8 h9 t6 t8 t9 rfl rfl rfl
        refine bodyPost_ret (hres _ rfl rfl rfl rfl) rfl ?_
        rw [← HPost.out,HE.out]
        refine ⟨.slice (some ⟨g,0,none⟩) m oc8,rfl,?_,((Mods.ofNew hNb).trans hM9).new (fun g hg=>by omega)⟩
        have hl:lastN F=F:=by unfold lastN;rw [hm];rw [show m - 4=0 by omega];rfl
        rw [hl]
        exact ⟨RowR.kept (RowR.kept (hRW) hMs (fun _ g' hg' e=>by obtain rfl:g=g':=Option.some.inj hg';have e:g=B + 2:=e;omega)) hM9 (fun _ g' hg' e=>by obtain rfl:g=g':=Option.some.inj hg';have e:g=B + 2 ∨ g=B + 3 ∨ g=B + 4:=e;omega),fun g' hg'=>by obtain rfl:g=g':=Option.some.inj hg';omega⟩
       ·obtain rfl:m=5:=by omega
        have hmx:max (0:Int) 1=1:=rfl
        have hoc1:¬ oc8=1:=by omega
        go_upto_region 13 with fail
        have hMs:=setMods W8 (B + 2) 1 (.slice (some ⟨g,3,none⟩) 4 (oc8 - 1))
        have s6b:=setCell_heap (i:=1) s6 (.slice (some ⟨g,3,none⟩) 4 (oc8 - 1))
        simp only [pS] at s6b
        have s8b:=hMs.heap s8 (by omega)
        have s9b:=hMs.heap s9 (by omega)
        have s10b:=hMs.heap s10 (by omega)
        have hNb:New w _:=((Mods.ofNew hN8).trans hMs).new (fun g hg=>by omega)
        obtain ⟨V,hV⟩:∃ V,W8.setCell ⟨B + 2,1,none⟩ (.slice (some ⟨g,3,none⟩) 4 (oc8 - 1))=V:=⟨_,rfl⟩
        rw [hV] at hMs s6b s8b s9b s10b hNb ⊢
        refine piece (fun _=>_) (upd13 _ rfl V rfl rfl rfl rfl s6b s8b s9b s10b (by intro x hx;simp only [List.mem_cons,List.not_mem_nil,or_false] at hx;rcases hx with rfl | rfl | rfl <;> rfl) (by omega) (by omega) (by omega)) ?_
        rintro a' W9 ⟨z,rfl,t6,t8,t9,hM9⟩
        simp only [pS]
        go_wp2_with fail
        have hres:=fun tmps h6 h7 h8 h9=>results_upd (fn:=Tryz.f15) rfl tmps W9 (B + 2) (B + 3) (B + 4) [.int .i64 l,.slice (some ⟨g,3,none⟩) 4 (oc8 - 1)] [.int .u8 qu,.bool qi] [.bool false,.int .i64 0,.int .u32 0] (.int .u8 1) h6 h7 h8 h9 t6 t8 t9 rfl rfl rfl
        refine bodyPost_ret (hres _ rfl rfl rfl rfl) rfl ?_
        rw [← HPost.out,HE.out]
        refine ⟨.slice (some ⟨g,3,none⟩) 4 (oc8 - 1),rfl,?_,((Mods.ofNew hNb).trans hM9).new (fun g hg=>by omega)⟩
        have hl:lastN F=F.drop 1:=by unfold lastN;rw [hm];skip
        rw [hl]
        exact ⟨RowR.kept (RowR.kept (hRW.dropN hm (k:=1) (by omega) (oc8 - 1)) hMs (fun _ g' hg' e=>by obtain rfl:g=g':=Option.some.inj hg';have e:g=B + 2:=e;omega)) hM9 (fun _ g' hg' e=>by obtain rfl:g=g':=Option.some.inj hg';have e:g=B + 2 ∨ g=B + 3 ∨ g=B + 4:=e;omega),fun g' hg'=>by obtain rfl:g=g':=Option.some.inj hg';omega⟩
     ·have hd2:decide (l < s)=false:=decide_eq_false hsl
      have hd3:decide (s ≤ l)=true:=decide_eq_true (by omega)
      have HE:Hid (updP l d s (some (qu,qi))=(d,2,(qu,qi),(false,0))):=Lib.hid (by unfold updP;rw [if_neg (by rw [HRt.out];decide),if_neg hnb];simp only;rw [if_neg (fun h=>hsl h.1),if_pos (by omega)])
      go_upto_region 10 with fail
      refine piece (fun _=>_) (upd10 _ rfl w6 rfl rfl rfl rfl hU2.ho hU2.hr hU2.hf hU2.hq (by intro x hx;simp only [List.mem_cons,List.not_mem_nil,or_false] at hx;rcases hx with rfl | rfl | rfl <;> rfl) (by omega) (by omega) (by omega)) ?_
      rintro a' W2 ⟨z,rfl,s6,s8,s9,hM⟩
      simp only [pS]
      go_wp2_with fail
      have hres:=fun tmps h6 h7 h8 h9=>results_upd (fn:=Tryz.f15) rfl tmps W2 (B + 2) (B + 3) (B + 4) [.int .i64 l,.slice oa n oc] [.int .u8 qu,.bool qi] [.bool false,.int .i64 0,.int .u32 0] (.int .u8 2) h6 h7 h8 h9 s6 s8 s9 rfl rfl rfl
      refine bodyPost_ret (hres _ rfl rfl rfl rfl) rfl ?_
      rw [← HPost.out,HE.out]
      refine ⟨.slice oa n oc,rfl,?_,((Mods.ofNew hN3).trans hM).new (fun g hg=>by omega)⟩
      have hO2:=hOw.mods hM (fun g hg' e=>by have:=hOg g hg';omega)
      rw [← HN.out] at hO2
      have hO3:=hO2.reads (by rw [HN.out];omega)
      rw [HN.out] at hO3
      exact ⟨hO3,fun g hg=>(hOw.lt hg).1⟩
theorem update_p (l s:Int) (v:Value) (d:List WP) (T:ByteArray) (w:World) (h:RdW w v d) (hu:∀ x ∈ d,x.u < 256) (hd:d.length ≤ 1000) (hs:T.size ≤ 1000000) (hT:Tab w) :
  Calls Tryz.prog 15 #[.agg #[.int .i64 l,v],.int .i64 s,.string T] w fun e w'=>∃ v',e=updE l v' (updP l d s (readP T))∧RdW w' v' (updP l d s (readP T)).1∧New w w' :=
 (update_f l s v d T w h hu hd hs hT).mono fun e w' ⟨v',he,hr,hN⟩=>⟨v',he,hr.1,hN⟩
end Go.Proofs.YtkiiameibdhdfaaGreatDoor
