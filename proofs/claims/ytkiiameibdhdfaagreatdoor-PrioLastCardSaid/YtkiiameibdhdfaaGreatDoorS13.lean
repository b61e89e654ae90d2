/- Texts joined. -/
import Derived.Test.YtkiiameibdhdfaaGreatDoorS12
import Derived.Test.YtkiiameibdhdfaaGreatDoorS09
import Derived.Test.YtkiiameibdhdfaaGreatDoorS05
import Derived.Test.YtkiiameibdhdfaaGreatDoorS06
import Derived.OrdersHeld
import Derived.Test.YtkiiameibdhdfaaGreatDoorS08
import Derived.Test.YtkiiameibdhdfaaGreatDoorS10
set_option linter.unusedSimpArgs false
set_option linter.unusedVariables false
set_option maxHeartbeats 16000000
set_option maxRecDepth 100000
namespace Go.Proofs.YtkiiameibdhdfaaGreatDoor
open Go.RowKit Go.Shelf Go.Cs
attribute [local go_sem] Oper.semAt_some


theorem lit57 (t:Array Value) (h:t.size=57):∃ u:Nat→Value,t=(u 0::u 1::u 2::u 3::u 4::u 5::u 6::u 7::u 8::u 9::u 10::u 11::u 12::u 13::u 14::u 15::u 16::u 17::u 18::u 19::u 20::u 21::u 22::u 23::u 24::u 25::u 26::u 27::u 28::u 29::u 30::u 31::u 32::u 33::u 34::u 35::u 36::u 37::u 38::u 39::u 40::u 41::u 42::u 43::u 44::u 45::u 46::u 47::u 48::u 49::u 50::u 51::u 52::u 53::u 54::u 55::u 56::([]:List Value)).toArray:=⟨fun i=>t.getD i undef,range_lit t 57 h⟩
noncomputable def reg_prio_Open_3:Code:=((Tryz.f18.body.bind (regionOf 3)).getD .skip)
theorem open3 (t:Array Value) (hs:t.size=57) (w:World) {R8 R9 R11 n cap:Nat} {l:Int} {va:Option Addr}
  (hq8:t.getD 8 undef = .pointer (some ⟨R8,0,none⟩))
  (hq9:t.getD 9 undef = .pointer (some ⟨R9,0,none⟩))
  (hq11:t.getD 11 undef = .pointer (some ⟨R11,0,none⟩))
  (r8:w.heap[R8]? = some (.cells #[.int .i64 0,.slice none 0 0] 26 (0,0))) (r9:w.heap[R9]? = some (.cells #[.int .u8 0,.bool false] 31 (0,0))) (r11:w.heap[R11]? = some (.cells #[.int .i64 l,.slice va n cap] 26 (0,0)))
  (h1:R8 < R9) (h2:R9 < R11) :
  reg_prio_Open_3.wp Tryz.prog (Only fun a' W'=>∃ z:Nat→Value,a'=⟨((pz t z [30,31]).setIfInBounds 10 (.bool false)),[]⟩∧W'.heap[R8]? = some (.cells #[.int .i64 l,.slice va n cap] 26 (0,0))∧W'.heap[R9]? = some (.cells #[.int .u8 3,.bool false] 31 (0,0))∧Mods (fun b=>b=R8 ∨ b=R9) w W') ⟨t,[]⟩ w:=by
 conv=>arg 2;whnf
 obtain ⟨u,rfl⟩:=lit57 t hs
 have hq8:u 8 = _:=hq8
 have hq9:u 9 = _:=hq9
 have hq11:u 11 = _:=hq11
 rw [hq8,hq9,hq11]
 clear hq8 hq9 hq11 hs
 refine wp_region_held (S:=fun W=>W.heap[R11]? = some (.cells #[.int .i64 l,.slice va n cap] 26 (0,0))) (by kernel_rfl) ?_
 show wpAnyH _ _ _ _ _ 5 _ _ w.drew
 have hN:New w w.drew:=(Mods.refl _ _).drew
 have r8:=hN.heap r8 id
 have r9:=hN.heap r9 id
 have r11:=hN.heap r11 id
 have hM:Mods (fun b=>b=R8 ∨ b=R9) w w.drew:=Mods.ofNew hN
 obtain ⟨W0,hW0⟩:∃ W,w.drew=W:=⟨_,rfl⟩
 rw [hW0] at r8 r9 r11 hM ⊢
 clear hW0 hN
 refine tkA 0 rfl (some 30) (.agg #[.int .i64 l,.slice va n cap]) (.inl ⟨by rfl,fun W hW=>by obtain ⟨⟨c0,c1⟩,-⟩:=pc_facts hW;go_simp⟩) r11 ?_
 simp only [pS]
 refine tkO 1 ?_
 refine opH_call (some 31) rfl (by rfl) rfl 46 #[] (by go_simp) ((first_u _).mono ?_)
 rintro e w1 ⟨rfl,hk⟩
 unfold prV
 have r8:=hk.heap r8 id
 have r9:=hk.heap r9 id
 have r11:=hk.heap r11 id
 have hM:=hM.trans (Mods.ofNew hk)
 clear hk
 refine ⟨_,rfl,r11,?_⟩
 simp only [pS]
 refine tkO 2 ?_
 refine opH_skip none rfl (by rfl) rfl (run_store_row 26 (.tmp 8) (.tmp 30) rfl R8 rfl 26 [.int .i64 0,.slice none 0 0] [.int .i64 l,.slice va n cap] rfl r8 sizeRp rfl (by intro x hx;simp only [List.mem_cons,List.not_mem_nil,or_false] at hx;rcases hx with rfl | rfl <;> rfl)) ?_
 have hmW2:=mods_setRow r8 #[.int .i64 l,.slice va n cap]
 have t8:=setRow_heap w1 R8 _ #[.int .i64 l,.slice va n cap] _ _ r8
 replace r9:=hmW2.heap r9 (by omega)
 replace r11:=hmW2.heap r11 (by omega)
 replace hM:=hM.trans (hmW2.mono fun b hb=>by omega)
 obtain ⟨W2,hvW2⟩:∃ V,w1.setRow R8 #[.int .i64 l,.slice va n cap]=V:=⟨_,rfl⟩
 rw [hvW2] at r9 r11 hM t8 ⊢
 clear hvW2 hmW2
 refine ⟨r11,?_⟩
 simp only [pS]
 refine tkO 3 ?_
 refine opH_skip none rfl (by rfl) rfl (run_store_row 31 (.tmp 9) (.tmp 31) rfl R9 rfl 31 [.int .u8 0,.bool false] [.int .u8 3,.bool false] rfl r9 sizePr rfl (by intro x hx;simp only [List.mem_cons,List.not_mem_nil,or_false] at hx;rcases hx with rfl | rfl <;> rfl)) ?_
 have hmW3:=mods_setRow r9 #[.int .u8 3,.bool false]
 have t9:=setRow_heap W2 R9 _ #[.int .u8 3,.bool false] _ _ r9
 replace t8:=hmW3.heap t8 (by omega)
 replace r11:=hmW3.heap r11 (by omega)
 replace hM:=hM.trans (hmW3.mono fun b hb=>by omega)
 obtain ⟨W3,hvW3⟩:∃ V,W2.setRow R9 #[.int .u8 3,.bool false]=V:=⟨_,rfl⟩
 rw [hvW3] at t8 r11 hM t9 ⊢
 clear hvW3 hmW3
 refine ⟨r11,?_⟩
 simp only [pS]
 refine tkO 4 ?_
 refine opH_value (some 10) rfl (by rfl) rfl (v:=.bool false) (w':=W3) (by go_simp) ?_
 refine ⟨r11,?_⟩
 simp only [pS]
 refine wpAnyH_done (by kernel_rfl) ?_ _
 exact zc rfl ⟨t8,t9,hM⟩
noncomputable def reg_prio_Open_8:Code:=((Tryz.f18.body.bind (regionOf 8)).getD .skip)
theorem open8 (t:Array Value) (hs:t.size=57) (w:World) {R8 R9 R11 R12 n cap:Nat} {l q:Int} {y:Bool} {va:Option Addr}
  (hq8:t.getD 8 undef = .pointer (some ⟨R8,0,none⟩))
  (hq9:t.getD 9 undef = .pointer (some ⟨R9,0,none⟩))
  (hq11:t.getD 11 undef = .pointer (some ⟨R11,0,none⟩))
  (hq12:t.getD 12 undef = .pointer (some ⟨R12,0,none⟩))
  (r8:w.heap[R8]? = some (.cells #[.int .i64 0,.slice none 0 0] 26 (0,0))) (r9:w.heap[R9]? = some (.cells #[.int .u8 0,.bool false] 31 (0,0))) (r11:w.heap[R11]? = some (.cells #[.int .i64 l,.slice va n cap] 26 (0,0))) (r12:w.heap[R12]? = some (.cells #[.int .u8 q,.bool y] 31 (0,0)))
  (h1:R8 < R9) (h2:R9 < R11) (h3:R11 < R12) :
  reg_prio_Open_8.wp Tryz.prog (Only fun a' W'=>∃ z:Nat→Value,a'=⟨((pz t z [55,56]).setIfInBounds 10 (.bool true)),[]⟩∧W'.heap[R8]? = some (.cells #[.int .i64 l,.slice va n cap] 26 (0,0))∧W'.heap[R9]? = some (.cells #[.int .u8 q,.bool y] 31 (0,0))∧Mods (fun b=>b=R8 ∨ b=R9) w W') ⟨t,[]⟩ w:=by
 conv=>arg 2;whnf
 obtain ⟨u,rfl⟩:=lit57 t hs
 have hq8:u 8 = _:=hq8
 have hq9:u 9 = _:=hq9
 have hq11:u 11 = _:=hq11
 have hq12:u 12 = _:=hq12
 rw [hq8,hq9,hq11,hq12]
 clear hq8 hq9 hq11 hq12 hs
 refine wp_region_held (S:=fun W=>(W.heap[R11]? = some (.cells #[.int .i64 l,.slice va n cap] 26 (0,0)))∧W.heap[R12]? = some (.cells #[.int .u8 q,.bool y] 31 (0,0))) (by kernel_rfl) ?_
 show wpAnyH _ _ _ _ _ 5 _ _ w.drew
 have hN:New w w.drew:=(Mods.refl _ _).drew
 have r8:=hN.heap r8 id
 have r9:=hN.heap r9 id
 have r11:=hN.heap r11 id
 have r12:=hN.heap r12 id
 have hM:Mods (fun b=>b=R8 ∨ b=R9) w w.drew:=Mods.ofNew hN
 obtain ⟨W0,hW0⟩:∃ W,w.drew=W:=⟨_,rfl⟩
 rw [hW0] at r8 r9 r11 r12 hM ⊢
 clear hW0 hN
 refine tkA 0 rfl (some 55) (.agg #[.int .i64 l,.slice va n cap]) (.inl ⟨by rfl,fun W hW=>by obtain ⟨⟨c0,c1⟩,-⟩:=pc_facts hW.1;go_simp⟩) ⟨r11,r12⟩ ?_
 simp only [pS]
 refine tkA 1 rfl (some 56) (.agg #[.int .u8 q,.bool y]) (.inl ⟨by rfl,fun W hW=>by obtain ⟨⟨c0,c1⟩,-⟩:=pr_facts hW.2;go_simp⟩) ⟨r11,r12⟩ ?_
 simp only [pS]
 refine tkO 2 ?_
 refine opH_skip none rfl (by rfl) rfl (run_store_row 26 (.tmp 8) (.tmp 55) rfl R8 rfl 26 [.int .i64 0,.slice none 0 0] [.int .i64 l,.slice va n cap] rfl r8 sizeRp rfl (by intro x hx;simp only [List.mem_cons,List.not_mem_nil,or_false] at hx;rcases hx with rfl | rfl <;> rfl)) ?_
 have hmW2:=mods_setRow r8 #[.int .i64 l,.slice va n cap]
 have t8:=setRow_heap W0 R8 _ #[.int .i64 l,.slice va n cap] _ _ r8
 replace r9:=hmW2.heap r9 (by omega)
 replace r11:=hmW2.heap r11 (by omega)
 replace r12:=hmW2.heap r12 (by omega)
 replace hM:=hM.trans (hmW2.mono fun b hb=>by omega)
 obtain ⟨W2,hvW2⟩:∃ V,W0.setRow R8 #[.int .i64 l,.slice va n cap]=V:=⟨_,rfl⟩
 rw [hvW2] at r9 r11 r12 hM t8 ⊢
 clear hvW2 hmW2
 refine ⟨⟨r11,r12⟩,?_⟩
 simp only [pS]
 refine tkO 3 ?_
 refine opH_skip none rfl (by rfl) rfl (run_store_row 31 (.tmp 9) (.tmp 56) rfl R9 rfl 31 [.int .u8 0,.bool false] [.int .u8 q,.bool y] rfl r9 sizePr rfl (by intro x hx;simp only [List.mem_cons,List.not_mem_nil,or_false] at hx;rcases hx with rfl | rfl <;> rfl)) ?_
 have hmW3:=mods_setRow r9 #[.int .u8 q,.bool y]
 have t9:=setRow_heap W2 R9 _ #[.int .u8 q,.bool y] _ _ r9
 replace t8:=hmW3.heap t8 (by omega)
 replace r11:=hmW3.heap r11 (by omega)
 replace r12:=hmW3.heap r12 (by omega)
 replace hM:=hM.trans (hmW3.mono fun b hb=>by omega)
 obtain ⟨W3,hvW3⟩:∃ V,W2.setRow R9 #[.int .u8 q,.bool y]=V:=⟨_,rfl⟩
 rw [hvW3] at t8 r11 r12 hM t9 ⊢
 clear hvW3 hmW3
 refine ⟨⟨r11,r12⟩,?_⟩
 simp only [pS]
 refine tkO 4 ?_
 refine opH_value (some 10) rfl (by rfl) rfl (v:=.bool true) (w':=W3) (by go_simp) ?_
 refine ⟨⟨r11,r12⟩,?_⟩
 simp only [pS]
 refine wpAnyH_done (by kernel_rfl) ?_ _
 exact zc rfl ⟨t8,t9,hM⟩
noncomputable def reg_prio_Open_7:Code:=((Tryz.f18.body.bind (regionOf 7)).getD .skip)
theorem open7 (t:Array Value) (hs:t.size=57) (w:World) {R4 R5 R11 n cap:Nat} {l s l0:Int} {va:Option Addr} {x1:Value} {L:List WP}
  (hq4:t.getD 4 undef = .pointer (some ⟨R4,0,none⟩))
  (hq5:t.getD 5 undef = .pointer (some ⟨R5,0,none⟩))
  (hq11:t.getD 11 undef = .pointer (some ⟨R11,0,none⟩))
  (r4:w.heap[R4]? = some (.cells #[.int .i64 l,.slice va n cap] 26 (0,0))) (r5:Boxed w R5 3 (.int .i64 s)) (r11:w.heap[R11]? = some (.cells #[.int .i64 l0,x1] 26 (0,0)))
  (HT:Hid (∀ W,New w W→Calls Tryz.prog 48 #[.slice va n cap,.func (.func 52) #[] #[.pointer (some ⟨R5,0,none⟩)]] W fun e w'=>∃ v',e = .returned v'∧OwW W.heap.size w' v' L.length (wf L)∧New W w')) (h1:¬ R4=R11) (h2:¬ R5=R11) :
  reg_prio_Open_7.wp Tryz.prog (Only fun a' W'=>∃ z:Nat→Value,∃ v',a'=⟨(pz t z [48,49,50,51,52,53,54]),[]⟩∧W'.heap[R11]? = some (.cells #[.int .i64 s,v'] 26 (0,0))∧OwW w.heap.size W' v' L.length (wf L)∧Mods (fun b=>b=R11) w W') ⟨t,[]⟩ w:=by
 conv=>arg 2;whnf
 obtain ⟨u,rfl⟩:=lit57 t hs
 have hq4:u 4 = _:=hq4
 have hq5:u 5 = _:=hq5
 have hq11:u 11 = _:=hq11
 rw [hq4,hq5,hq11]
 clear hq4 hq5 hq11 hs
 have hN:New w w.drew:=(Mods.refl _ _).drew
 refine wp_region_held (S:=fun W=>Mods (fun b=>b=R11) w W) (by kernel_rfl) ?_
 show wpAnyH _ _ _ _ _ 9 _ _ w.drew
 have hS:Mods (fun b=>b=R11) w w.drew:=Mods.ofNew hN
 obtain ⟨⟨a0,a1⟩,-⟩:=pc_facts r4
 obtain ⟨c0,-⟩:=r5.both
 have hl11:R11 < w.heap.size:=(Array.getElem?_eq_some_iff.1 r11).1
 refine tkA 0 rfl (some 48) (.int .i64 s) (.inl ⟨by rfl,fun W hW=>by have q:=hW.cell c0 h2;go_simp⟩) hS ?_
 simp only [pS]
 refine tkI 1 (some 49) (.pointer (some ⟨R4,1,none⟩)) hS ?_
 simp only [pS]
 refine tkA 2 rfl (some 50) (.slice va n cap) (.inl ⟨by rfl,fun W hW=>by have q:=hW.cell a1 h1;go_simp⟩) hS ?_
 simp only [pS]
 refine tkI 3 (some 51) (.func (.func 52) #[] #[.pointer (some ⟨R5,0,none⟩)]) hS ?_
 simp only [pS]
 refine tkI 5 (some 53) (.pointer (some ⟨R11,0,none⟩)) hS ?_
 simp only [pS]
 refine tkO 4 ?_
 refine opH_call (some 52) rfl (by rfl) rfl 48 #[.slice va n cap,.func (.func 52) #[] #[.pointer (some ⟨R5,0,none⟩)]] (by go_simp) ((HT.out _ hN).mono ?_)
 have hNb:=hN.size
 rintro e w1 ⟨v1,rfl,hO,hk⟩
 have hN:=hN.trans hk
 have hS:=hS.trans (Mods.ofNew hk)
 have r11:=hN.heap r11 id
 obtain ⟨⟨d0,d1⟩,d2,d3⟩:=pc_facts r11
 obtain ⟨oa,oc,rfl⟩:=hO.slice
 have hO:=hO.mono (base':=w.heap.size) (by have:=hNb;omega)
 clear hk
 refine ⟨_,rfl,hS,?_⟩
 simp only [pS]
 refine tkO 6 ?_
 refine opH_skip none rfl (by rfl) rfl (w':=w1.setCell ⟨R11,0,none⟩ (.int .i64 s)) (by go_simp) ?_
 have s11:=setCell_heap (i:=0) r11 (.int .i64 s)
 simp only [pS] at s11
 have hm:=setMods w1 R11 0 (.int .i64 s)
 have hS:=hS.trans hm
 have hO:=hO.mods hm (fun g hg e=>by have:=(hO.lt hg).1;omega)
 obtain ⟨W2,hW2⟩:∃ V,w1.setCell ⟨R11,0,none⟩ (.int .i64 s)=V:=⟨_,rfl⟩
 rw [hW2] at s11 hS hO ⊢
 clear hm hW2 d0 d1 d2 d3
 refine ⟨hS,?_⟩
 simp only [pS]
 refine tkI 7 (some 54) (.pointer (some ⟨R11,1,none⟩)) hS ?_
 simp only [pS]
 refine tkO 8 ?_
 obtain ⟨⟨d0,d1⟩,d2,d3⟩:=pc_facts s11
 refine opH_skip none rfl (by rfl) rfl (w':=W2.setCell ⟨R11,1,none⟩ (.slice oa L.length oc)) (by go_simp) ?_
 have s12:=setCell_heap (i:=1) s11 (.slice oa L.length oc)
 simp only [pS] at s12
 have hm:=setMods W2 R11 1 (.slice oa L.length oc)
 have hS:=hS.trans hm
 have hO:=hO.mods hm (fun g hg e=>by have:=(hO.lt hg).1;omega)
 refine ⟨hS,?_⟩
 simp only [pS]
 refine wpAnyH_done (by kernel_rfl) ?_ _
 exact zc1 _ rfl ⟨s12,hO,hS⟩


structure OpR (W:World) (B:Nat) (l s:Int) (v:Value):Prop where
 hp:W.heap[B]? = some (.cells #[.int .i64 l,v] 26 (0,0))
 hs:Boxed W (B + 1) 3 (.int .i64 s)
 ho:W.heap[B + 2]? = some (.cells #[.int .i64 0,.slice none 0 0] 26 (0,0))
 hq:W.heap[B + 3]? = some (.cells #[.int .u8 0,.bool false] 31 (0,0))
theorem OpR.new {W W':World} {B:Nat} {l s:Int} {v:Value} (h:OpR W B l s v) (hN:New W W'):OpR W' B l s v :=
 ⟨hN.heap h.hp id,hN.boxed h.hs id,hN.heap h.ho id,hN.heap h.hq id⟩
theorem OpR.made (w:World) (l s:Int) (v:Value) :
  OpR ((((w.alloc (.cells #[.int .i64 l,v] 26)).alloc (.cells #[.int .i64 s] 3)).alloc (.cells #[.int .i64 0,.slice none 0 0] 26)).alloc (.cells #[.int .u8 0,.bool false] 31)) w.heap.size l s v:=by
 have a:=fun (W:World) (ob:Obj)=>(Mods.refl (fun _=>False) W).alloc ob
 obtain ⟨w1,e1⟩:∃ V,w.alloc (.cells #[.int .i64 l,v] 26)=V:=⟨_,rfl⟩
 have r1:=World.alloc_heap_new w (.cells #[.int .i64 l,v] 26)
 have s1:w1.heap.size=w.heap.size + 1:=by rw [← e1];simp
 rw [e1] at r1 ⊢
 obtain ⟨w2,e2⟩:∃ V,w1.alloc (.cells #[.int .i64 s] 3)=V:=⟨_,rfl⟩
 have r2:=World.alloc_heap_new w1 (.cells #[.int .i64 s] 3)
 have s2:w2.heap.size=w.heap.size + 2:=by rw [← e2];simp;omega
 have n2:=a w1 (.cells #[.int .i64 s] 3)
 rw [e2] at r2 n2 ⊢
 obtain ⟨w3,e3⟩:∃ V,w2.alloc (.cells #[.int .i64 0,.slice none 0 0] 26)=V:=⟨_,rfl⟩
 have r3:=World.alloc_heap_new w2 (.cells #[.int .i64 0,.slice none 0 0] 26)
 have s3:w3.heap.size=w.heap.size + 3:=by rw [← e3];simp;omega
 have n3:=a w2 (.cells #[.int .i64 0,.slice none 0 0] 26)
 rw [e3] at r3 n3 ⊢
 have r4:=World.alloc_heap_new w3 (.cells #[.int .u8 0,.bool false] 31)
 have n4:=a w3 (.cells #[.int .u8 0,.bool false] 31)
 rw [s1] at r2
 rw [s2] at r3
 rw [s3] at r4
 exact ⟨n4.heap (n3.heap (n2.heap r1 id) id) id,n4.boxed (n3.boxed r2 id) id,n4.heap r3 id,r4⟩
def openP (l:Int) (d:List WP) (s:Int) (has:Bool) (r:Option (Nat × Bool)):Int × List WP × (Nat × Bool) × Bool :=
 if rightP l d && (oddP s && decide (l < s)) then (s,d.filter (fun x=>decide (s < x.s)),(match waitP l d s with | some x=>(x.u,x.i) | none=>if has then r.getD (3,false) else (3,false)),true)
 else (l,d,(3,false),false)
def openE (v:Value) (o:Int × List WP × (Nat × Bool) × Bool):Ending:=.returned (.tuple #[.agg #[.int .i64 o.1,v],.agg #[.int .u8 o.2.2.1.1,.bool o.2.2.1.2],.bool o.2.2.2])
theorem open_f (l s:Int) (v:Value) (d:List WP) (T:ByteArray) (has:Bool) (w:World) (h:RdW w v d) (hu:∀ x ∈ d,x.u < 256) (hd:d.length ≤ 1000) (hs:T.size ≤ 1000000) (hT:Tab w) :
  Calls Tryz.prog 18 #[.agg #[.int .i64 l,v],.int .i64 s,.string T,.bool has] w fun e w'=>∃ v',e=openE v' (openP l d s has (readP T))∧RdWF w.heap.size w' v' (openP l d s has (readP T)).2.1∧New w w':=by
 have HO:=Lib.hid (fun W (hN:New w W)=>own_p l v d W (h.new hN) (by omega))
 have HR:=Lib.hid (fun W (hN:New w W)=>right_p l v d W (h.new hN) hu)
 have HRd:=Lib.hid (fun W (hN:New w W)=>read_p T W hs (hT.new hN))
 have HWt:=Lib.hid (fun W (hN:New w W)=>waiting_p l v d s W (h.new hN) hu)
 have HD:=Lib.hid h
 have hU:=OpR.made w l s v
 obtain ⟨ao,cap,rfl⟩:=h.slice
 obtain ⟨rp,hrp⟩:∃ r,readP T=r:=⟨_,rfl⟩
 rw [hrp] at HRd ⊢
 obtain ⟨n,hn⟩:∃ n,d.length=n:=⟨_,rfl⟩
 have HN:=Lib.hid hn
 rw [hn] at h HO HR hU hd HD HWt ⊢
 clear hn h hrp hs hT
 obtain ⟨Post,hPost⟩:∃ Post:Ending→World→Prop,(fun e w'=>∃ v',e=openE v' (openP l d s has rp)∧RdWF w.heap.size w' v' (openP l d s has rp).2.1∧New w w')=Post:=⟨_,rfl⟩
 have HPost:=Lib.hid hPost
 rw [hPost]
 clear hPost
 have hN:New w ((((w.alloc (.cells #[.int .i64 l,.slice ao n cap] 26)).alloc (.cells #[.int .i64 s] 3)).alloc (.cells #[.int .i64 0,.slice none 0 0] 26)).alloc (.cells #[.int .u8 0,.bool false] 31)):=((((Mods.refl _ _).alloc _).alloc _).alloc _).alloc _
 go_enter Tryz.func18,Tryz.ntmps18
 go_upto_region 1 with fail
 obtain ⟨W0,hW0⟩:∃ V,((((w.alloc (.cells #[.int .i64 l,.slice ao n cap] 26)).alloc (.cells #[.int .i64 s] 3)).alloc (.cells #[.int .i64 0,.slice none 0 0] 26)).alloc (.cells #[.int .u8 0,.bool false] 31))=V:=⟨_,rfl⟩
 rw [hW0] at hN hU
 simp only [hW0]
 clear hW0
 obtain ⟨⟨p0,p1⟩,-⟩:=pc_facts hU.hp
 obtain ⟨B,hB⟩:∃ B,w.heap.size=B:=⟨_,rfl⟩
 rw [hB] at hU p0 p1
 have hwB:w.heap.size ≤ B:=by omega
 have hBs:B + 3 < W0.heap.size:=(Array.getElem?_eq_some_iff.1 hU.hq).1
 simp only [hB,show B + 1 + 1=B + 2 from rfl,show B + 2 + 1=B + 3 from rfl]
 clear hB
 go_wp2_with fail
 refine (HO.out _ hN).mono ?_
 rintro e w1 ⟨v',rfl,hOw,hk⟩
 replace hN:=hN.trans hk
 replace hU:=hU.new hk
 obtain ⟨oa,oc,rfl⟩:=hOw.slice
 have hOg:∀ g,(Value.slice oa n oc).ownBlock=some g→B + 3 < g∧g < w1.heap.size:=fun g hg=>by have:=hOw.lt hg;omega
 replace hOw:=hOw.mono (base':=w.heap.size) (by have:=hN.size;have:=hk.size;omega)
 have hBs1:B + 3 < w1.heap.size:=by have:=hk.size;omega
 clear hk p0 p1 hBs HO
 go_upto_region 2 with fail
 have hA:New w1 (w1.alloc (.cells #[.int .i64 l,.slice oa n oc] 26)):=(Mods.refl _ _).alloc _
 have r11:=World.alloc_heap_new w1 (.cells #[.int .i64 l,.slice oa n oc] 26)
 obtain ⟨w2,hw2⟩:∃ V,w1.alloc (.cells #[.int .i64 l,.slice oa n oc] 26)=V:=⟨_,rfl⟩
 obtain ⟨X,hX⟩:∃ X,w1.heap.size=X:=⟨_,rfl⟩
 rw [hw2] at hA r11 ⊢
 rw [hX] at r11 hOg hBs1 ⊢
 replace hN:=hN.trans hA
 replace hU:=hU.new hA
 replace hOw:=hOw.new hA
 clear hw2 hX hA
 obtain ⟨⟨p0,p1⟩,-⟩:=pc_facts hU.hp
 go_wp2_with fail
 refine (HR.out _ hN).mono ?_
 rintro e w3 ⟨rfl,hk⟩
 replace hN:=hN.trans hk
 replace hU:=hU.new hk
 replace hOw:=hOw.new hk
 replace r11:=hk.heap r11 id
 clear hk p0 p1 HR
 obtain ⟨cs,-⟩:=hU.hs.both
 obtain ⟨⟨p0,p1⟩,-⟩:=pc_facts hU.hp
 have HOd:=Lib.hid (fun W=>odd_p s W)
 cases hr:rightP l d with
 | false =>
  have hE:Hid (openP l d s has rp=(l,d,(3,false),false)):=Lib.hid (by unfold openP;rw [hr];rfl)
  clear hr HRd HWt HD HOd
  go_upto_region 3 with fail
  refine piece (fun _=>_) (open3 _ rfl w3 rfl rfl rfl hU.ho hU.hq r11 (by omega) (by omega)) ?_
  rintro a' W2 ⟨z,rfl,s8,s9,hM⟩
  simp only [pS]
  go_wp2_with fail
  have hres:=fun tmps h8 h9 h10=>results_open (fn:=Tryz.f18) rfl tmps W2 (B + 2) (B + 3) [.int .i64 l,.slice oa n oc] [.int .u8 3,.bool false] (.bool false) h8 h9 h10 s8 s9 rfl rfl
  refine bodyPost_ret (hres _ rfl rfl rfl) rfl ?_
  rw [← HPost.out,hE.out]
  refine ⟨.slice oa n oc,rfl,?_,((Mods.ofNew hN).trans hM).new (fun g hg=>by omega)⟩
  have hO2:=hOw.mods hM (fun g hg' e=>by have:=hOg g hg';omega)
  rw [← HN.out] at hO2
  have hO3:=hO2.reads (by rw [HN.out];omega)
  rw [HN.out] at hO3
  exact ⟨hO3,fun g hg=>(hOw.lt hg).1⟩
 | true =>
  obtain ⟨h0,h1,h4,h5,h6⟩:=right_facts hr
  have HRt:=Lib.hid hr
  clear h5 h6 hr
  cases ho:oddP s with
  | false =>
   have hE:Hid (openP l d s has rp=(l,d,(3,false),false)):=Lib.hid (by unfold openP;rw [HRt.out,ho];rfl)
   rw [ho] at HOd
   clear ho HRd HWt HD
   go_wp2_with fail
   refine (HOd.out _).mono ?_
   rintro e w3' ⟨rfl,rfl⟩
   go_upto_region 3 with fail
   refine piece (fun _=>_) (open3 _ rfl w3' rfl rfl rfl hU.ho hU.hq r11 (by omega) (by omega)) ?_
   rintro a' W2 ⟨z,rfl,s8,s9,hM⟩
   simp only [pS]
   go_wp2_with fail
   have hres:=fun tmps h8 h9 h10=>results_open (fn:=Tryz.f18) rfl tmps W2 (B + 2) (B + 3) [.int .i64 l,.slice oa n oc] [.int .u8 3,.bool false] (.bool false) h8 h9 h10 s8 s9 rfl rfl
   refine bodyPost_ret (hres _ rfl rfl rfl) rfl ?_
   rw [← HPost.out,hE.out]
   refine ⟨.slice oa n oc,rfl,?_,((Mods.ofNew hN).trans hM).new (fun g hg=>by omega)⟩
   have hO2:=hOw.mods hM (fun g hg' e=>by have:=hOg g hg';omega)
   rw [← HN.out] at hO2
   have hO3:=hO2.reads (by rw [HN.out];omega)
   rw [HN.out] at hO3
   exact ⟨hO3,fun g hg=>(hOw.lt hg).1⟩
  | true =>
   have HOt:=Lib.hid ho
   rw [ho] at HOd
   by_cases hsl:l < s
   ·have hd3:decide (s ≤ l)=false:=decide_eq_false (by omega)
    have hE:Hid (openP l d s has rp=(s,d.filter (fun x=>decide (s < x.s)),(match waitP l d s with | some x=>(x.u,x.i) | none=>if has then rp.getD (3,false) else (3,false)),true)):=Lib.hid (by unfold openP;rw [HRt.out,HOt.out,decide_eq_true hsl];rfl)
    clear ho
    go_wp2_with fail
    refine (HOd.out _).mono ?_
    rintro e w3' ⟨rfl,rfl⟩
    go_wp2_with fail
    refine (HWt.out _ hN).mono ?_
    rintro e w4 ⟨rfl,hk⟩
    replace hN:=hN.trans hk
    replace hU:=hU.new hk
    replace hOw:=hOw.new hk
    replace r11:=hk.heap r11 id
    have hXs:X < w4.heap.size:=(Array.getElem?_eq_some_iff.1 r11).1
    clear hk p0 p1 cs HWt HOd HOt
    cases hwt:waitP l d s with
    | some x =>
     rw [hwt] at hE
     obtain ⟨xs,xu,xi⟩:=x
     have hV:waitV (some ⟨xs,xu,xi⟩) = .tuple #[.agg #[.int .u8 xu,.bool xi],.bool true]:=rfl
     rw [hV]
     clear hwt hV HRd
     go_upto_region 7 with fail
     have hA:New w4 (w4.alloc (.cells #[.int .u8 xu,.bool xi] 31)):=(Mods.refl _ _).alloc _
     have r12:=World.alloc_heap_new w4 (.cells #[.int .u8 xu,.bool xi] 31)
     obtain ⟨w5,hw5⟩:∃ V,w4.alloc (.cells #[.int .u8 xu,.bool xi] 31)=V:=⟨_,rfl⟩
     obtain ⟨Y,hY⟩:∃ Y,w4.heap.size=Y:=⟨_,rfl⟩
     rw [hw5] at hA r12 ⊢
     rw [hY] at r12 hXs ⊢
     replace hN:=hN.trans hA
     replace hU:=hU.new hA
     replace hOw:=hOw.new hA
     replace r11:=hA.heap r11 id
     clear hA hw5 hY
     obtain ⟨L,hL⟩:∃ L,d.filter (fun x=>decide (s < x.s))=L:=⟨_,rfl⟩
     have hLl:L.length ≤ n:=by rw [← hL,← HN.out];exact List.length_filter_le _ _
     have hsz:B + 3 < w5.heap.size:=(Array.getElem?_eq_some_iff.1 hU.hq).1
     rw [hL] at hE
     have HT:Hid (∀ W,New w5 W→Calls Tryz.prog 48 #[.slice ao n cap,.func (.func 52) #[] #[.pointer (some ⟨B + 1,0,none⟩)]] W fun e w'=>∃ v',e = .returned v'∧OwW W.heap.size w' v' L.length (wf L)∧New W w'):=Lib.hid (fun W hW=>by
      have:=those_p (.slice ao n cap) d 52 #[.pointer (some ⟨B + 1,0,none⟩)] (fun t=>decide (s < t)) W (HD.out.new (hN.trans hW)) (by have:=HN.out;omega) (enters_of Tryz.func52 (by kernel_rfl) rfl) (fun W' S hS hm=>so_gt (B + 1) s W' (hm.boxed (hW.boxed hU.hs id) (fun hb=>by have:=hS _ hb;have:=hW.size;omega)))
      have e:(d.filter fun x=>(fun t=>decide (s < t)) x.s)=L:=hL
      rw [e] at this
      exact this)
     clear hL
     refine piece (fun _=>_) (open7 _ rfl w5 rfl rfl rfl hU.hp hU.hs r11 HT (by omega) (by omega)) ?_
     rintro a' W8 ⟨z,v8,rfl,s11,hO8,hM8⟩
     simp only [pS]
     have hRW:=hO8.reads (by omega)
     obtain ⟨va8,c8,rfl⟩:=hO8.slice
     have hN8:New w W8:=((Mods.ofNew hN).trans hM8).new (fun g hg=>by omega)
     go_upto_region 8 with fail
     refine piece (fun _=>_) (open8 _ rfl W8 rfl rfl rfl rfl (hM8.heap hU.ho (by omega)) (hM8.heap hU.hq (by omega)) s11 (hM8.heap r12 (by omega)) (by omega) (by omega) (by omega)) ?_
     rintro a' W9 ⟨z',rfl,s8,s9,hM9⟩
     simp only [pS]
     go_wp2_with fail
     have hres:=fun tmps h8 h9 h10=>results_open (fn:=Tryz.f18) rfl tmps W9 (B + 2) (B + 3) [.int .i64 s,.slice va8 L.length c8] [.int .u8 xu,.bool xi] (.bool true) h8 h9 h10 s8 s9 rfl rfl
     refine bodyPost_ret (hres _ rfl rfl rfl) rfl ?_
     rw [← HPost.out,hE.out]
     refine ⟨.slice va8 L.length c8,rfl,?_,((Mods.ofNew hN8).trans hM9).new (fun g hg=>by omega)⟩
     exact ⟨RowR.kept hRW hM9 (fun _ g hg' e=>by have:=hO8.lt hg';have e:g=B + 2 ∨ g=B + 3:=e;omega),fun g hg=>by have:=hO8.lt hg;omega⟩
    | none =>
     rw [hwt] at hE
     have hV:waitV none = .tuple #[.agg #[.int .u8 3,.bool false],.bool false]:=rfl
     rw [hV]
     clear hwt hV
     cases has with
     | false =>
      clear HRd
      go_upto_region 7 with fail
      have hA:New w4 (w4.alloc (.cells #[.int .u8 3,.bool false] 31)):=(Mods.refl _ _).alloc _
      have r12:=World.alloc_heap_new w4 (.cells #[.int .u8 3,.bool false] 31)
      obtain ⟨w5,hw5⟩:∃ V,w4.alloc (.cells #[.int .u8 3,.bool false] 31)=V:=⟨_,rfl⟩
      obtain ⟨Y,hY⟩:∃ Y,w4.heap.size=Y:=⟨_,rfl⟩
      rw [hw5] at hA r12 ⊢
      rw [hY] at r12 hXs ⊢
      replace hN:=hN.trans hA
      replace hU:=hU.new hA
      replace hOw:=hOw.new hA
      replace r11:=hA.heap r11 id
      clear hA hw5 hY
      obtain ⟨L,hL⟩:∃ L,d.filter (fun x=>decide (s < x.s))=L:=⟨_,rfl⟩
      have hLl:L.length ≤ n:=by rw [← hL,← HN.out];exact List.length_filter_le _ _
      have hsz:B + 3 < w5.heap.size:=(Array.getElem?_eq_some_iff.1 hU.hq).1
      rw [hL] at hE
      have HT:Hid (∀ W,New w5 W→Calls Tryz.prog 48 #[.slice ao n cap,.func (.func 52) #[] #[.pointer (some ⟨B + 1,0,none⟩)]] W fun e w'=>∃ v',e = .returned v'∧OwW W.heap.size w' v' L.length (wf L)∧New W w'):=Lib.hid (fun W hW=>by
       have:=those_p (.slice ao n cap) d 52 #[.pointer (some ⟨B + 1,0,none⟩)] (fun t=>decide (s < t)) W (HD.out.new (hN.trans hW)) (by have:=HN.out;omega) (enters_of Tryz.func52 (by kernel_rfl) rfl) (fun W' S hS hm=>so_gt (B + 1) s W' (hm.boxed (hW.boxed hU.hs id) (fun hb=>by have:=hS _ hb;have:=hW.size;omega)))
       have e:(d.filter fun x=>(fun t=>decide (s < t)) x.s)=L:=hL
       rw [e] at this
       exact this)
      clear hL
      refine piece (fun _=>_) (open7 _ rfl w5 rfl rfl rfl hU.hp hU.hs r11 HT (by omega) (by omega)) ?_
      rintro a' W8 ⟨z,v8,rfl,s11,hO8,hM8⟩
      simp only [pS]
      have hRW:=hO8.reads (by omega)
      obtain ⟨va8,c8,rfl⟩:=hO8.slice
      have hN8:New w W8:=((Mods.ofNew hN).trans hM8).new (fun g hg=>by omega)
      go_upto_region 8 with fail
      refine piece (fun _=>_) (open8 _ rfl W8 rfl rfl rfl rfl (hM8.heap hU.ho (by omega)) (hM8.heap hU.hq (by omega)) s11 (hM8.heap r12 (by omega)) (by omega) (by omega) (by omega)) ?_
      rintro a' W9 ⟨z',rfl,s8,s9,hM9⟩
      simp only [pS]
      go_wp2_with fail
      have hres:=fun tmps h8 h9 h10=>results_open (fn:=Tryz.f18) rfl tmps W9 (B + 2) (B + 3) [.int .i64 s,.slice va8 L.length c8] [.int .u8 3,.bool false] (.bool true) h8 h9 h10 s8 s9 rfl rfl
      refine bodyPost_ret (hres _ rfl rfl rfl) rfl ?_
      rw [← HPost.out,hE.out]
      refine ⟨.slice va8 L.length c8,rfl,?_,((Mods.ofNew hN8).trans hM9).new (fun g hg=>by omega)⟩
      exact ⟨RowR.kept hRW hM9 (fun _ g hg' e=>by have:=hO8.lt hg';have e:g=B + 2 ∨ g=B + 3:=e;omega),fun g hg=>by have:=hO8.lt hg;omega⟩
     | true =>
      obtain ⟨⟨qu,qi⟩,hq⟩:∃ q,rp.getD (3,false)=q:=⟨_,rfl⟩
      rw [hq] at HRd
      have hE2:Hid (openP l d s true rp=(s,d.filter (fun x=>decide (s < x.s)),(qu,qi),true)):=Lib.hid (by rw [hE.out,← hq];rfl)
      clear hq hE
      have hE:=hE2
      clear hE2
      have hA:New w4 (w4.alloc (.cells #[.int .u8 3,.bool false] 31)):=(Mods.refl _ _).alloc _
      have r12:=World.alloc_heap_new w4 (.cells #[.int .u8 3,.bool false] 31)
      go_upto_region 6 with fail
      obtain ⟨w5,hw5⟩:∃ V,w4.alloc (.cells #[.int .u8 3,.bool false] 31)=V:=⟨_,rfl⟩
      obtain ⟨Y,hY⟩:∃ Y,w4.heap.size=Y:=⟨_,rfl⟩
      rw [hw5] at hA r12 ⊢
      rw [hY] at r12 hXs ⊢
      replace hN:=hN.trans hA
      replace hU:=hU.new hA
      replace hOw:=hOw.new hA
      replace r11:=hA.heap r11 id
      clear hA hw5 hY
      go_wp2_with fail
      refine (HRd.out _ hN).mono ?_
      rintro e w6 ⟨rfl,hk⟩
      replace hN:=hN.trans hk
      replace hU:=hU.new hk
      replace hOw:=hOw.new hk
      replace r11:=hk.heap r11 id
      replace r12:=hk.heap r12 id
      clear hk HRd
      obtain ⟨⟨q0,q1⟩,q2,q3⟩:=pr_facts r12
      go_upto_region 7 with fail
      have hM:=(setMods w6 Y 0 (.int .u8 qu)).trans (setMods _ Y 1 (.bool qi))
      have s12:=setCell_heap (i:=1) (setCell_heap (i:=0) r12 (.int .u8 qu)) (.bool qi)
      simp only [pS] at s12
      replace hOw:=hOw.mods hM (fun g hg e=>by have:=hOg g hg;omega)
      replace hU:OpR _ B l s _:=⟨hM.heap hU.hp (by omega),hM.boxed hU.hs (by omega),hM.heap hU.ho (by omega),hM.heap hU.hq (by omega)⟩
      replace r11:=hM.heap r11 (by omega)
      replace hN:=((Mods.ofNew hN).trans hM).new (fun g hg=>by have:=hN.size;omega)
      obtain ⟨w7,hw7⟩:∃ V,((w6.setCell ⟨Y,0,none⟩ (.int .u8 qu)).setCell ⟨Y,1,none⟩ (.bool qi))=V:=⟨_,rfl⟩
      rw [hw7] at hU r11 s12 hOw hN ⊢
      have r12:=s12
      clear hM hw7 q0 q1 q2 q3
      obtain ⟨L,hL⟩:∃ L,d.filter (fun x=>decide (s < x.s))=L:=⟨_,rfl⟩
      have hLl:L.length ≤ n:=by rw [← hL,← HN.out];exact List.length_filter_le _ _
      have hsz:B + 3 < w7.heap.size:=(Array.getElem?_eq_some_iff.1 hU.hq).1
      rw [hL] at hE
      have HT:Hid (∀ W,New w7 W→Calls Tryz.prog 48 #[.slice ao n cap,.func (.func 52) #[] #[.pointer (some ⟨B + 1,0,none⟩)]] W fun e w'=>∃ v',e = .returned v'∧OwW W.heap.size w' v' L.length (wf L)∧New W w'):=Lib.hid (fun W hW=>by
       have:=those_p (.slice ao n cap) d 52 #[.pointer (some ⟨B + 1,0,none⟩)] (fun t=>decide (s < t)) W (HD.out.new (hN.trans hW)) (by have:=HN.out;omega) (enters_of Tryz.func52 (by kernel_rfl) rfl) (fun W' S hS hm=>so_gt (B + 1) s W' (hm.boxed (hW.boxed hU.hs id) (fun hb=>by have:=hS _ hb;have:=hW.size;omega)))
       have e:(d.filter fun x=>(fun t=>decide (s < t)) x.s)=L:=hL
       rw [e] at this
       exact this)
      clear hL
      refine piece (fun _=>_) (open7 _ rfl w7 rfl rfl rfl hU.hp hU.hs r11 HT (by omega) (by omega)) ?_
      rintro a' W8 ⟨z,v8,rfl,s11,hO8,hM8⟩
      simp only [pS]
      have hRW:=hO8.reads (by omega)
      obtain ⟨va8,c8,rfl⟩:=hO8.slice
      have hN8:New w W8:=((Mods.ofNew hN).trans hM8).new (fun g hg=>by omega)
      go_upto_region 8 with fail
      refine piece (fun _=>_) (open8 _ rfl W8 rfl rfl rfl rfl (hM8.heap hU.ho (by omega)) (hM8.heap hU.hq (by omega)) s11 (hM8.heap r12 (by omega)) (by omega) (by omega) (by omega)) ?_
      rintro a' W9 ⟨z',rfl,s8,s9,hM9⟩
      simp only [pS]
      go_wp2_with fail
      have hres:=fun tmps h8 h9 h10=>results_open (fn:=Tryz.f18) rfl tmps W9 (B + 2) (B + 3) [.int .i64 s,.slice va8 L.length c8] [.int .u8 qu,.bool qi] (.bool true) h8 h9 h10 s8 s9 rfl rfl
      refine bodyPost_ret (hres _ rfl rfl rfl) rfl ?_
      rw [← HPost.out,hE.out]
      refine ⟨.slice va8 L.length c8,rfl,?_,((Mods.ofNew hN8).trans hM9).new (fun g hg=>by omega)⟩
      exact ⟨RowR.kept hRW hM9 (fun _ g hg' e=>by have:=hO8.lt hg';have e:g=B + 2 ∨ g=B + 3:=e;omega),fun g hg=>by have:=hO8.lt hg;omega⟩
   ·have hd3:decide (s ≤ l)=true:=decide_eq_true (by omega)
    have hE:Hid (openP l d s has rp=(l,d,(3,false),false)):=Lib.hid (by unfold openP;rw [decide_eq_false hsl];simp)
    clear ho HRd HWt HD
    go_wp2_with fail
    refine (HOd.out _).mono ?_
    rintro e w3' ⟨rfl,rfl⟩
    go_upto_region 3 with fail
    refine piece (fun _=>_) (open3 _ rfl w3' rfl rfl rfl hU.ho hU.hq r11 (by omega) (by omega)) ?_
    rintro a' W2 ⟨z,rfl,s8,s9,hM⟩
    simp only [pS]
    go_wp2_with fail
    have hres:=fun tmps h8 h9 h10=>results_open (fn:=Tryz.f18) rfl tmps W2 (B + 2) (B + 3) [.int .i64 l,.slice oa n oc] [.int .u8 3,.bool false] (.bool false) h8 h9 h10 s8 s9 rfl rfl
    refine bodyPost_ret (hres _ rfl rfl rfl) rfl ?_
    rw [← HPost.out,hE.out]
    refine ⟨.slice oa n oc,rfl,?_,((Mods.ofNew hN).trans hM).new (fun g hg=>by omega)⟩
    have hO2:=hOw.mods hM (fun g hg' e=>by have:=hOg g hg';omega)
    rw [← HN.out] at hO2
    have hO3:=hO2.reads (by rw [HN.out];omega)
    rw [HN.out] at hO3
    exact ⟨hO3,fun g hg=>(hOw.lt hg).1⟩
theorem open_p (l s:Int) (v:Value) (d:List WP) (T:ByteArray) (has:Bool) (w:World) (h:RdW w v d) (hu:∀ x ∈ d,x.u < 256) (hd:d.length ≤ 1000) (hs:T.size ≤ 1000000) (hT:Tab w) :
  Calls Tryz.prog 18 #[.agg #[.int .i64 l,v],.int .i64 s,.string T,.bool has] w fun e w'=>∃ v',e=openE v' (openP l d s has (readP T))∧RdW w' v' (openP l d s has (readP T)).2.1∧New w w' :=
 (open_f l s v d T has w h hu hd hs hT).mono fun e w' ⟨v',he,hr,hN⟩=>⟨v',he,hr.1,hN⟩


theorem same_r24 (l1 l2:Int) (v1 v2:Value) (a b:List WP) (w:World) (h1:RdW w v1 a) (h2:RdW w v2 b) :
  Calls Tryz.prog 17 #[.agg #[.int .i64 l1,v1],.agg #[.int .i64 l2,v2]] w fun e w'=>e = .returned (.bool (decide (l1=l2) && decide (a=b)))∧New w w':=by
 have hA:New w ((w.alloc (.cells #[.int .i64 l1,v1] 26)).alloc (.cells #[.int .i64 l2,v2] 26)):=((Mods.refl _ _).alloc _).alloc _
 have H1:=Lib.hid h1
 have H2:=Lib.hid h2
 have hn1:a.length ≤ 281474976710656:=h1.1
 have hn2:b.length ≤ 281474976710656:=h2.1
 have r2':=World.alloc_heap_new (w.alloc (.cells #[.int .i64 l1,v1] 26)) (.cells #[.int .i64 l2,v2] 26)
 have r1':=((Mods.refl (fun _=>False) (w.alloc (.cells #[.int .i64 l1,v1] 26))).alloc (.cells #[.int .i64 l2,v2] 26)).heap (World.alloc_heap_new w (.cells #[.int .i64 l1,v1] 26)) id
 obtain ⟨ao1,m1,rfl⟩:=h1.slice
 obtain ⟨ao2,m2,rfl⟩:=h2.slice
 clear h1 h2
 obtain ⟨n,hn⟩:∃ n,a.length=n:=⟨_,rfl⟩
 obtain ⟨n2,hn2'⟩:∃ n,b.length=n:=⟨_,rfl⟩
 have Hn:=Lib.hid hn
 have HE:Hid (n=n2→(∀ i,i < n→a.getD i noW=b.getD i noW)→a=b):=Lib.hid (fun h hh=>list_same noW (by rw [hn,hn2',h]) (fun i hi=>hh i (by rw [← hn];exact hi)))
 obtain ⟨y,hy⟩:∃ y,decide (a=b)=y:=⟨_,rfl⟩
 have HY:=Lib.hid hy
 have hlen:n ≠ n2→y=false:=fun h=>by rw [← hy];exact decide_eq_false (fun e=>h (by rw [← hn,← hn2',e]))
 rw [hy]
 rw [hn] at H1 hn1 r1' hA r2'
 rw [hn2'] at H2 hn2 r1' hA r2'
 obtain ⟨z,hz⟩:∃ z,(decide (l1=l2) && y)=z:=⟨_,rfl⟩
 have HZ:=Lib.hid hz
 rw [hz]
 rw [hn,hn2']
 clear hy hn hn2' hz
 obtain ⟨W1,hW1⟩:∃ V,((w.alloc (.cells #[.int .i64 l1,.slice ao1 n m1] 26)).alloc (.cells #[.int .i64 l2,.slice ao2 n2 m2] 26))=V:=⟨_,rfl⟩
 have hs1:(w.alloc (.cells #[.int .i64 l1,.slice ao1 n m1] 26)).heap.size=w.heap.size + 1:=by simp
 rw [hs1] at r2'
 rw [hW1] at hA r1' r2'
 obtain ⟨B,hB⟩:∃ B,w.heap.size=B:=⟨_,rfl⟩
 rw [hB] at r1' r2' hs1
 obtain ⟨⟨p0,p1⟩,-⟩:=pc_facts r1'
 obtain ⟨⟨q0,q1⟩,-⟩:=pc_facts r2'
 go_enter Tryz.func17,Tryz.ntmps17
 go_upto_region 1 with fail
 clear hW1 hB hs1
 by_cases hl:l1=l2
 ·subst hl
  by_cases hnn:n=n2
  ·subst hnn
   replace HE:Hid ((∀ i,i < n→a.getD i noW=b.getD i noW)→a=b):=Lib.hid (HE.out rfl)
   clear hlen
   have HR1:=Lib.hid r1'
   have HR2:=Lib.hid r2'
   clear r1' r2'
   go_wp2_with fail
   clear p0 p1 q0 q1
   go_loopw [5] (fun t wr=>∃ k:Nat,k ≤ n∧t = .int .i64 k∧Hid (∀ j,j < k→a.getD j noW=b.getD j noW)∧New W1 wr) (fun t _=>n - (intOf t).toNat)
   case atStart=>exact ⟨0,Nat.zero_le _,rfl,Lib.hid fun i hi=>by omega,Mods.refl _ _⟩
   case round =>
    obtain ⟨k,hk,rfl,hbef,hN⟩:=hrel
    have r1:=hN.heap HR1.out id
    have r2:=hN.heap HR2.out id
    obtain ⟨⟨p0,p1⟩,-⟩:=pc_facts r1
    obtain ⟨⟨q0,q1⟩,-⟩:=pc_facts r2
    clear r1 r2
    by_cases hlt:k < n
    ·have hkd:decide ((k:Int) < (n:Int))=true:=decide_eq_true (by omega)
     obtain ⟨b1,o1,rfl,hrow⟩:=(H1.out.new (hA.trans hN)).at.2.2 k hlt
     obtain ⟨b2,o2,rfl,hrow2⟩:=(H2.out.new (hA.trans hN)).at.2.2 k hlt
     obtain ⟨k0,k1,k2⟩:=cells3w hrow
     obtain ⟨j0,j1,j2⟩:=cells3w hrow2
     have hq:=fun w=>nbinop_wait (a.getD k noW) (b.getD k noW) w
     unfold wcs at hq
     have HC:=Lib.hid (And.intro k0 (And.intro k1 (And.intro k2 (And.intro j0 (And.intro j1 j2)))))
     have HQ:=Lib.hid hq
     clear hrow hrow2 k0 k1 k2 j0 j1 j2 hq
     cases hp:decide (a.getD k noW=b.getD k noW) with
     | true =>
      have hh:Hid (∀ j,j < k + 1→a.getD j noW=b.getD j noW):=Lib.hid fun i hi=>by
       by_cases hik:i < k
       ·exact hbef.out i hik
       ·obtain rfl:i=k:=by omega
        exact of_decide_eq_true hp
      rw [hp] at HQ
      clear hp hbef
      go_upto_region 6 with fail
      refine piece (fun _=>_) (same24r _ rfl wr rfl rfl rfl p1 q1 HC.out.1 HC.out.2.2.2.1 HC.out.2.1 HC.out.2.2.2.2.1 HC.out.2.2.1 HC.out.2.2.2.2.2 hlt HQ.out) ?_
      rintro a' w2 ⟨zf,rfl,hN2⟩
      simp only [pS]
      clear p0 p1 q0 q1 HC HQ
      go_wp2_with fail
      go_roundw
      case rel=>exact ⟨k + 1,by omega,by go_num,hh,hN.trans hN2⟩
      case measure=>simp [intOf];omega
     | false =>
      obtain rfl:z=false:=by
       rw [← HZ.out,← HY.out,decide_eq_false (p:=a=b) (fun e=>by subst e;exact absurd rfl (of_decide_eq_false hp)),Bool.and_false]
      rw [hp] at HQ
      clear hp hbef
      go_upto_region 6 with fail
      refine piece (fun _=>_) (same24r _ rfl wr rfl rfl rfl p1 q1 HC.out.1 HC.out.2.2.2.1 HC.out.2.1 HC.out.2.2.2.2.1 HC.out.2.2.1 HC.out.2.2.2.2.2 hlt HQ.out) ?_
      rintro a' w2 ⟨zf,rfl,hN2⟩
      simp only [pS]
      clear p0 p1 q0 q1 HC HQ
      go_wp2_with fail
      go_ret
      exact ⟨rfl,(hA.trans hN).trans hN2⟩
    ·obtain rfl:k=n:=by omega
     have hkd:decide ((k:Int) < (k:Int))=false:=decide_eq_false (by omega)
     have hab:a=b:=HE.out (fun j hj=>hbef.out j hj)
     obtain rfl:z=true:=by
      rw [← HZ.out,← HY.out]
      simp [hab]
     clear hbef
     go_wp2_with fail
     go_ret
     exact ⟨rfl,hA.trans hN⟩
  ·obtain rfl:z=false:=by rw [← HZ.out,hlen hnn,Bool.and_false]
   have hd2:((n:Int) != (n2:Int))=true:=by simp;omega
   clear HE hlen H1 H2
   go_wp2_with fail
   go_ret
   exact ⟨rfl,hA⟩
 ·obtain rfl:z=false:=by rw [← HZ.out,decide_eq_false hl,Bool.false_and]
  clear HE hlen H1 H2
  go_wp2_with fail
  go_ret
  exact ⟨rfl,hA⟩
theorem nodup_of {d:List WP} (h:∀ j,j < d.length→∀ i,i < j→(d.getD i noW).s ≠ (d.getD j noW).s):(d.map (·.s)).Nodup:=by
 refine List.pairwise_iff_getElem.2 fun i j hi hj hij=>?_
 rw [List.length_map] at hi hj
 have:=h j hj i hij
 rw [List.getD_eq_getElem?_getD,List.getD_eq_getElem?_getD,List.getElem?_eq_getElem hi,List.getElem?_eq_getElem hj] at this
 simpa using this
theorem right_mk {l:Int} {d:List WP} (h1:l=0 ∨ oddP l=true) (h2:d.length ≤ 4) (h3:(d.map (·.s)).Nodup) (h4:∀ j,j < d.length→okW l (d.getD j noW)=true):rightP l d=true:=by
 have hk:=(kN_all d d.length (Nat.le_refl _)).2 (by rw [List.take_length];exact h3)
 unfold rightP
 simp only [Bool.and_eq_true,Bool.or_eq_true,decide_eq_true_eq,List.all_eq_true]
 refine ⟨h1,h2,hk,fun x hx=>?_⟩
 obtain ⟨j,hj,e⟩:=List.mem_iff_getElem.1 hx
 have:=h4 j hj
 rw [List.getD_eq_getElem?_getD,List.getElem?_eq_getElem hj] at this
 rw [← e]
 exact this
theorem right_no1 {l:Int} {d:List WP} (h:l ≠ 0) (h1:oddP l=false):rightP l d=false:=by
 unfold rightP
 rw [h1,decide_eq_false h];rfl
theorem right_no2 {l:Int} {d:List WP} (h:¬ d.length ≤ 4):rightP l d=false:=by
 unfold rightP
 rw [decide_eq_false h];simp
theorem right_no3 {l:Int} {d:List WP} {j:Nat} (hj:j < d.length) (h:okW l (d.getD j noW)=false):rightP l d=false:=by
 have:d.all (okW l)=false:=by
  refine Bool.eq_false_iff.2 fun h2=>?_
  have:=List.all_eq_true.1 h2 _ (getD_mem (d:=noW) hj)
  rw [h] at this
  cases this
 unfold rightP
 rw [this];simp
theorem right_no4 {l:Int} {d:List WP} {i j:Nat} (hj:j < d.length) (hi:i < j) (h:(d.getD i noW).s=(d.getD j noW).s):rightP l d=false:=by
 refine Bool.eq_false_iff.2 fun h2=>?_
 obtain ⟨-,-,-,hn,-⟩:=right_facts h2
 have:=List.pairwise_iff_getElem.1 hn i j (by rw [List.length_map];omega) (by rw [List.length_map];exact hj) hi
 rw [List.getD_eq_getElem?_getD,List.getD_eq_getElem?_getD,List.getElem?_eq_getElem (by omega),List.getElem?_eq_getElem hj] at h
 exact this (by simpa using h)


theorem tmod_two {s:Int}:s.tmod 2=0 ↔ s % 2=0:=by
 constructor
 ·intro h
  have:=Int.dvd_of_tmod_eq_zero h
  omega
 ·intro h
  exact Int.tmod_eq_zero_of_dvd (by omega)
theorem okW_no1 {l:Int} {x:WP} (h:¬ x.u ≤ 7):okW l x=false:=by unfold okW;rw [decide_eq_false h,Bool.and_false]
theorem okW_no2 {l:Int} {x:WP} (h:x.s.tmod 2=0):okW l x=false:=by
 have h2:=tmod_two.1 h
 unfold okW withinP oddP;rw [decide_eq_false (show ¬ (0 < x.s∧x.s < 2147483648∧x.s % 2=1) by omega)];rfl
theorem okW_no3 {l:Int} {x:WP} (h:x.s ≤ l):okW l x=false:=by unfold okW withinP;rw [decide_eq_false (show ¬ l < x.s by omega)];simp
theorem okW_no4 {l:Int} {x:WP} (h:l + 16 < x.s):okW l x=false:=by unfold okW withinP;rw [decide_eq_false (show ¬ x.s - l ≤ 16 by omega)];simp
theorem okW_no5 {l:Int} {x:WP} (h:2147483647 < x.s):okW l x=false:=by
 unfold okW withinP oddP;rw [decide_eq_false (show ¬ (0 < x.s∧x.s < 2147483648∧x.s % 2=1) by omega)];rfl
theorem okW_yes {l:Int} {x:WP} (h0:0 ≤ l) (h1:x.u ≤ 7) (h2:¬ x.s.tmod 2=0) (h3:¬ x.s ≤ l) (h4:¬ l + 16 < x.s) (h5:¬ 2147483647 < x.s):okW l x=true:=by
 have h6:=mt tmod_two.2 h2
 unfold okW withinP oddP
 rw [decide_eq_true h1,decide_eq_true (show l < x.s by omega),decide_eq_true (show x.s - l ≤ 16 by omega),decide_eq_true (show 0 < x.s∧x.s < 2147483648∧x.s % 2=1 by omega)];rfl
theorem right_r24 (l:Int) (v:Value) (d:List WP) (w:World) (h:RdW w v d) (hu:∀ x ∈ d,x.u < 256) :
  Calls Tryz.prog 20 #[.agg #[.int .i64 l,v]] w fun e w'=>e = .returned (.bool (rightP l d))∧New w w':=by
 have H:=Lib.hid h
 have HU:=Lib.hid hu
 have hn1:d.length ≤ 281474976710656:=h.1
 obtain ⟨ao,cap,rfl⟩:=h.slice
 obtain ⟨n,hn⟩:∃ n,d.length=n:=⟨_,rfl⟩
 have Hn:=Lib.hid hn
 obtain ⟨z,hz⟩:∃ z,rightP l d=z:=⟨_,rfl⟩
 have HZ:=Lib.hid hz
 rw [hn] at H hn1
 rw [hz,hn]
 clear h hn hz hu
 have r0:=World.alloc_heap_new w (.cells #[.int .i64 l,.slice ao n cap] 26)
 have hA:New w (w.alloc (.cells #[.int .i64 l,.slice ao n cap] 26)):=(Mods.refl _ _).alloc _
 obtain ⟨W1,hW1⟩:∃ W,w.alloc (.cells #[.int .i64 l,.slice ao n cap] 26)=W:=⟨_,rfl⟩
 obtain ⟨B,hB⟩:∃ B,w.heap.size=B:=⟨_,rfl⟩
 rw [hW1] at r0 hA
 rw [hB] at r0
 obtain ⟨⟨p0,p1⟩,-⟩:=pc_facts r0
 go_enter Tryz.func20,Tryz.ntmps20
 go_upto_region 1 with fail
 clear hW1 hB
 by_cases hl:l=0
 ·have hok:Hid (l=0 ∨ oddP l=true):=Lib.hid (.inl hl)
  have hl0:0 ≤ l:=by omega
  have hl1:l < 2147483648:=by omega
  have hz0:((l:Int) != 0)=false:=by simp [hl]
  clear hl
  by_cases hg:n ≤ 4
  ·have hgd:decide ((4:Int) < (n:Int))=false:=decide_eq_false (by omega)
   have r0':=Lib.hid r0
   clear r0
   go_upto_region 4 with fail
   go_loopw [3] (fun t wr=>∃ k:Nat,k ≤ n∧t = .int .i64 k∧Hid (∀ j,j < k→okW l (d.getD j noW)=true)∧Hid (∀ j,j < k→∀ i,i < j→(d.getD i noW).s ≠ (d.getD j noW).s)∧New W1 wr) (fun t _=>n - (intOf t).toNat)
   case atStart=>exact ⟨0,Nat.zero_le _,rfl,Lib.hid fun i hi=>by omega,Lib.hid fun i hi=>by omega,Mods.refl _ _⟩
   case round =>
    obtain ⟨k,hk,rfl,hbef,hdif,hN⟩:=hrel
    have r0:=hN.heap r0'.out id
    clear p0 p1
    obtain ⟨⟨p0,p1⟩,-⟩:=pc_facts r0
    by_cases hlt:k < n
    ·have hkd:decide ((k:Int) < (n:Int))=true:=decide_eq_true (by omega)
     obtain ⟨b1,o1,rfl,hrow⟩:=(H.out.new (hA.trans hN)).at.2.2 k hlt
     obtain ⟨x,hx⟩:∃ x,d.getD k noW=x:=⟨_,rfl⟩
     have hrow:wr.rangeAt b1 (o1 + k * 3) (wcs x):=by rw [← hx];exact hrow
     obtain ⟨q0,q1,q2⟩:=cells3w hrow
     have hxm:x ∈ d:=by rw [← hx];exact getD_mem (by have:=Hn.out;omega)
     have hxu:=HU.out x hxm
     clear hrow hxm
     have r1:=World.alloc_heap_new wr (.cells #[.int .i64 x.s,.int .u8 x.u,.bool x.i] 40)
     have hAx:New wr (wr.alloc (.cells #[.int .i64 x.s,.int .u8 x.u,.bool x.i] 40)):=(Mods.refl _ _).alloc _
     obtain ⟨W2,hW2⟩:∃ W,wr.alloc (.cells #[.int .i64 x.s,.int .u8 x.u,.bool x.i] 40)=W:=⟨_,rfl⟩
     obtain ⟨X,hX⟩:∃ X,wr.heap.size=X:=⟨_,rfl⟩
     go_upto_region 7 with fail
     rw [hW2] at hAx r1
     rw [hX] at r1
     replace hN:=hN.trans hAx
     replace r0:=hAx.heap r0 id
     clear q0 q1 q2 p0 p1 hW2 hX hAx
     obtain ⟨⟨p0,p1⟩,-⟩:=pc_facts r0
     have q0:=cell_of_row _ _ 0 _ _ _ r1
     have q1:=cell_of_row _ _ 1 _ _ _ r1
     have q2:=cell_of_row _ _ 2 _ _ _ r1
     simp only [List.getElem?_toArray,List.getElem?_cons_zero,List.getElem?_cons_succ] at q0 q1 q2
     by_cases h1:¬ x.u ≤ 7
     ·obtain rfl:z=false:=by rw [← HZ.out];exact right_no3 (by rw [Hn.out];exact hlt) (by rw [hx];exact okW_no1 h1)
      clear hbef hdif hx
      refine piece (fun _=>_) (right7_0 _ rfl W2 rfl rfl p0 p1 q0 q1 q2 hxu hl0 hl1 h1) ?_
      rintro a' w3 ⟨zf,rfl,hN3⟩
      simp only [pS]
      go_wp2_with fail
      go_ret
      exact ⟨rfl,(hA.trans hN).trans hN3⟩
     by_cases h2:x.s.tmod 2=0
     ·obtain rfl:z=false:=by rw [← HZ.out];exact right_no3 (by rw [Hn.out];exact hlt) (by rw [hx];exact okW_no2 h2)
      clear hbef hdif hx
      refine piece (fun _=>_) (right7_1 _ rfl W2 rfl rfl p0 p1 q0 q1 q2 hxu hl0 hl1 (Decidable.not_not.1 h1) h2) ?_
      rintro a' w3 ⟨zf,rfl,hN3⟩
      simp only [pS]
      go_wp2_with fail
      go_ret
      exact ⟨rfl,(hA.trans hN).trans hN3⟩
     by_cases h3:x.s ≤ l
     ·obtain rfl:z=false:=by rw [← HZ.out];exact right_no3 (by rw [Hn.out];exact hlt) (by rw [hx];exact okW_no3 h3)
      clear hbef hdif hx
      refine piece (fun _=>_) (right7_2 _ rfl W2 rfl rfl p0 p1 q0 q1 q2 hxu hl0 hl1 (Decidable.not_not.1 h1) h2 (decide_eq_true h3)) ?_
      rintro a' w3 ⟨zf,rfl,hN3⟩
      simp only [pS]
      go_wp2_with fail
      go_ret
      exact ⟨rfl,(hA.trans hN).trans hN3⟩
     by_cases h4:l + 16 < x.s
     ·obtain rfl:z=false:=by rw [← HZ.out];exact right_no3 (by rw [Hn.out];exact hlt) (by rw [hx];exact okW_no4 h4)
      clear hbef hdif hx
      refine piece (fun _=>_) (right7_3 _ rfl W2 rfl rfl p0 p1 q0 q1 q2 hxu hl0 hl1 (Decidable.not_not.1 h1) h2 (decide_eq_false h3) (decide_eq_true h4)) ?_
      rintro a' w3 ⟨zf,rfl,hN3⟩
      simp only [pS]
      go_wp2_with fail
      go_ret
      exact ⟨rfl,(hA.trans hN).trans hN3⟩
     by_cases h5:2147483647 < x.s
     ·obtain rfl:z=false:=by rw [← HZ.out];exact right_no3 (by rw [Hn.out];exact hlt) (by rw [hx];exact okW_no5 h5)
      clear hbef hdif hx
      refine piece (fun _=>_) (right7_4 _ rfl W2 rfl rfl p0 p1 q0 q1 q2 hxu hl0 hl1 (Decidable.not_not.1 h1) h2 (decide_eq_false h3) (decide_eq_false h4) (decide_eq_true h5)) ?_
      rintro a' w3 ⟨zf,rfl,hN3⟩
      simp only [pS]
      go_wp2_with fail
      go_ret
      exact ⟨rfl,(hA.trans hN).trans hN3⟩
     have hokx:Hid (okW l x=true):=Lib.hid (okW_yes hl0 (Decidable.not_not.1 h1) h2 h3 h4 h5)
     refine piece (fun _=>_) (right7_5 _ rfl W2 rfl rfl p0 p1 q0 q1 q2 hxu hl0 hl1 (Decidable.not_not.1 h1) h2 (decide_eq_false h3) (decide_eq_false h4) (decide_eq_false h5)) ?_
     rintro a' w3 ⟨zf,rfl,hN3⟩
     simp only [pS]
     have HR1:=Lib.hid (hN3.heap r1 id)
     have HR0:=Lib.hid (hN3.heap r0 id)
     have HX:=Lib.hid hx
     replace hN:=hN.trans hN3
     clear h1 h2 h3 h4 h5 q0 q1 q2 p0 p1 r1 r0 hN3 hx hxu
     go_upto_region 10 with fail
     go_loopw [5] (fun t wi=>∃ i:Nat,i ≤ k∧t = .int .i64 i∧Hid (∀ j,j < i→(d.getD j noW).s ≠ x.s)∧New w3 wi) (fun t _=>k - (intOf t).toNat)
     case atStart=>exact ⟨0,Nat.zero_le _,rfl,Lib.hid fun i hi=>by omega,Mods.refl _ _⟩
     case round =>
      obtain ⟨i,hi,rfl,hnone,hNi⟩:=hrel
      have hNa:=hN.trans hNi
      obtain ⟨⟨p0,p1⟩,-⟩:=pc_facts (hNi.heap HR0.out id)
      have q0:=cell_of_row _ _ 0 _ _ _ (hNi.heap HR1.out id)
      simp only [List.getElem?_toArray,List.getElem?_cons_zero,List.getElem?_cons_succ] at q0
      by_cases hil:i < k
      ·have hid:decide ((i:Int) < (k:Int))=true:=decide_eq_true (by omega)
       obtain ⟨b2,o2,e2,hrow⟩:=(H.out.new (hA.trans hNa)).at.2.2 i (by omega)
       cases e2
       obtain ⟨k0,-,-⟩:=cells3w hrow
       obtain ⟨y,hy⟩:∃ y,d.getD i noW=y:=⟨_,rfl⟩
       rw [hy] at k0
       have HY:=Lib.hid hy
       clear hrow hy
       by_cases he:y.s=x.s
       ·obtain rfl:z=false:=by rw [← HZ.out];exact right_no4 (i:=i) (j:=k) (by rw [Hn.out];exact hlt) hil (by rw [HY.out,HX.out];exact he)
        have hbe:(y.s == x.s)=true:=by simp [he]
        clear hbef hdif hnone he
        go_upto_region 12 with fail
        refine piece (fun _=>_) (right12_24 _ rfl _ rfl rfl rfl p1 q0 k0 (by omega) hbe) ?_
        rintro a' w5 ⟨zg,rfl,hN5⟩
        simp only [pS]
        go_wp2_with fail
        go_ret
        exact ⟨rfl,(hA.trans hNa).trans hN5⟩
       ·have hbe:(y.s == x.s)=false:=by simp [he]
        have hh:Hid (∀ j,j < i + 1→(d.getD j noW).s ≠ x.s):=Lib.hid fun j hj=>by
         by_cases e:j < i
         ·exact hnone.out j e
         ·obtain rfl:j=i:=by omega
          rw [HY.out];exact he
        clear hnone he
        go_upto_region 12 with fail
        refine piece (fun _=>_) (right12_24 _ rfl _ rfl rfl rfl p1 q0 k0 (by omega) hbe) ?_
        rintro a' w5 ⟨zg,rfl,hN5⟩
        simp only [pS]
        clear p0 p1 q0 k0
        go_wp2_with fail
        go_roundw
        case rel=>exact ⟨i + 1,by omega,by go_num,hh,hNi.trans hN5⟩
        case measure=>simp [intOf];omega
      ·have hid:decide ((i:Int) < (k:Int))=false:=decide_eq_false (by omega)
       obtain rfl:i=k:=by omega
       have hb2:Hid (∀ j,j < i + 1→okW l (d.getD j noW)=true):=Lib.hid fun j hj=>by
        by_cases e:j < i
        ·exact hbef.out j e
        ·obtain rfl:j=i:=by omega
         rw [HX.out];exact hokx.out
       have hd2:Hid (∀ j,j < i + 1→∀ i',i' < j→(d.getD i' noW).s ≠ (d.getD j noW).s):=Lib.hid fun j hj i' hi'=>by
        by_cases e:j < i
        ·exact hdif.out j e i' hi'
        ·obtain rfl:j=i:=by omega
         rw [HX.out];exact hnone.out i' hi'
       clear hbef hdif hnone hokx p0 p1 q0
       go_wp2_with fail
       go_roundw
       case rel=>exact ⟨i + 1,by omega,by go_num,hb2,hd2,hNa⟩
       case measure=>simp [intOf];omega
    ·obtain rfl:k=n:=by omega
     have hkd:decide ((k:Int) < (k:Int))=false:=decide_eq_false (by omega)
     obtain rfl:z=true:=by
      rw [← HZ.out]
      exact right_mk hok.out (by rw [Hn.out];exact hg) (nodup_of fun j hj=>hdif.out j (by have:=Hn.out;omega)) (fun j hj=>hbef.out j (by have:=Hn.out;omega))
     clear hbef hdif
     go_wp2_with fail
     go_ret
     exact ⟨rfl,hA.trans hN⟩
  ·have hgd:decide ((4:Int) < (n:Int))=true:=decide_eq_true (by omega)
   obtain rfl:z=false:=by rw [← HZ.out];exact right_no2 (by rw [Hn.out];exact hg)
   go_wp2_with fail
   go_ret
   exact ⟨rfl,hA⟩
 ·have hz0:((l:Int) != 0)=true:=by simp [hl]
  cases ho:oddP l with
  | false =>
   obtain rfl:z=false:=by rw [← HZ.out];exact right_no1 hl ho
   have ho:=of_decide_eq_false ho
   by_cases h1:l < 1
   ·have hd1:decide (l < 1)=true:=decide_eq_true h1
    clear ho hl
    go_wp2_with fail
    go_ret
    exact ⟨rfl,hA⟩
   ·have hd1:decide (l < 1)=false:=decide_eq_false h1
    by_cases h2:2147483647 < l
    ·have hd2:decide (2147483647 < l)=true:=decide_eq_true h2
     clear ho hl
     go_wp2_with fail
     go_ret
     exact ⟨rfl,hA⟩
    ·have hd2:decide (2147483647 < l)=false:=decide_eq_false h2
     have hd3:l.tmod 2=0:=tmod_two.2 (by omega)
     clear ho hl
     go_wp2_with fail
     go_ret
     exact ⟨rfl,hA⟩
  | true =>
   have hok:Hid (l=0 ∨ oddP l=true):=Lib.hid (.inr ho)
   have ho:=odd_facts ho
   have hl0:0 ≤ l:=by omega
   have hl1:l < 2147483648:=by omega
   have hd1:decide (l < 1)=false:=decide_eq_false (by omega)
   have hd2:decide (2147483647 < l)=false:=decide_eq_false (by omega)
   have hd3:l % 2=1:=ho.2.2
   clear ho hl
   by_cases hg:n ≤ 4
   ·have hgd:decide ((4:Int) < (n:Int))=false:=decide_eq_false (by omega)
    have r0':=Lib.hid r0
    clear r0
    go_upto_region 4 with fail
    go_loopw [3] (fun t wr=>∃ k:Nat,k ≤ n∧t = .int .i64 k∧Hid (∀ j,j < k→okW l (d.getD j noW)=true)∧Hid (∀ j,j < k→∀ i,i < j→(d.getD i noW).s ≠ (d.getD j noW).s)∧New W1 wr) (fun t _=>n - (intOf t).toNat)
    case atStart=>exact ⟨0,Nat.zero_le _,rfl,Lib.hid fun i hi=>by omega,Lib.hid fun i hi=>by omega,Mods.refl _ _⟩
    case round =>
     obtain ⟨k,hk,rfl,hbef,hdif,hN⟩:=hrel
     have r0:=hN.heap r0'.out id
     clear p0 p1
     obtain ⟨⟨p0,p1⟩,-⟩:=pc_facts r0
     by_cases hlt:k < n
     ·have hkd:decide ((k:Int) < (n:Int))=true:=decide_eq_true (by omega)
      obtain ⟨b1,o1,rfl,hrow⟩:=(H.out.new (hA.trans hN)).at.2.2 k hlt
      obtain ⟨x,hx⟩:∃ x,d.getD k noW=x:=⟨_,rfl⟩
      have hrow:wr.rangeAt b1 (o1 + k * 3) (wcs x):=by rw [← hx];exact hrow
      obtain ⟨q0,q1,q2⟩:=cells3w hrow
      have hxm:x ∈ d:=by rw [← hx];exact getD_mem (by have:=Hn.out;omega)
      have hxu:=HU.out x hxm
      clear hrow hxm
      have r1:=World.alloc_heap_new wr (.cells #[.int .i64 x.s,.int .u8 x.u,.bool x.i] 40)
      have hAx:New wr (wr.alloc (.cells #[.int .i64 x.s,.int .u8 x.u,.bool x.i] 40)):=(Mods.refl _ _).alloc _
      obtain ⟨W2,hW2⟩:∃ W,wr.alloc (.cells #[.int .i64 x.s,.int .u8 x.u,.bool x.i] 40)=W:=⟨_,rfl⟩
      obtain ⟨X,hX⟩:∃ X,wr.heap.size=X:=⟨_,rfl⟩
      go_upto_region 7 with fail
      rw [hW2] at hAx r1
      rw [hX] at r1
      replace hN:=hN.trans hAx
      replace r0:=hAx.heap r0 id
      clear q0 q1 q2 p0 p1 hW2 hX hAx
      obtain ⟨⟨p0,p1⟩,-⟩:=pc_facts r0
      have q0:=cell_of_row _ _ 0 _ _ _ r1
      have q1:=cell_of_row _ _ 1 _ _ _ r1
      have q2:=cell_of_row _ _ 2 _ _ _ r1
      simp only [List.getElem?_toArray,List.getElem?_cons_zero,List.getElem?_cons_succ] at q0 q1 q2
      by_cases h1:¬ x.u ≤ 7
      ·obtain rfl:z=false:=by rw [← HZ.out];exact right_no3 (by rw [Hn.out];exact hlt) (by rw [hx];exact okW_no1 h1)
       clear hbef hdif hx
       refine piece (fun _=>_) (right7_0 _ rfl W2 rfl rfl p0 p1 q0 q1 q2 hxu hl0 hl1 h1) ?_
       rintro a' w3 ⟨zf,rfl,hN3⟩
       simp only [pS]
       go_wp2_with fail
       go_ret
       exact ⟨rfl,(hA.trans hN).trans hN3⟩
      by_cases h2:x.s.tmod 2=0
      ·obtain rfl:z=false:=by rw [← HZ.out];exact right_no3 (by rw [Hn.out];exact hlt) (by rw [hx];exact okW_no2 h2)
       clear hbef hdif hx
       refine piece (fun _=>_) (right7_1 _ rfl W2 rfl rfl p0 p1 q0 q1 q2 hxu hl0 hl1 (Decidable.not_not.1 h1) h2) ?_
       rintro a' w3 ⟨zf,rfl,hN3⟩
       simp only [pS]
       go_wp2_with fail
       go_ret
       exact ⟨rfl,(hA.trans hN).trans hN3⟩
      by_cases h3:x.s ≤ l
      ·obtain rfl:z=false:=by rw [← HZ.out];exact right_no3 (by rw [Hn.out];exact hlt) (by rw [hx];exact okW_no3 h3)
       clear hbef hdif hx
       refine piece (fun _=>_) (right7_2 _ rfl W2 rfl rfl p0 p1 q0 q1 q2 hxu hl0 hl1 (Decidable.not_not.1 h1) h2 (decide_eq_true h3)) ?_
       rintro a' w3 ⟨zf,rfl,hN3⟩
       simp only [pS]
       go_wp2_with fail
       go_ret
       exact ⟨rfl,(hA.trans hN).trans hN3⟩
      by_cases h4:l + 16 < x.s
      ·obtain rfl:z=false:=by rw [← HZ.out];exact right_no3 (by rw [Hn.out];exact hlt) (by rw [hx];exact okW_no4 h4)
       clear hbef hdif hx
       refine piece (fun _=>_) (right7_3 _ rfl W2 rfl rfl p0 p1 q0 q1 q2 hxu hl0 hl1 (Decidable.not_not.1 h1) h2 (decide_eq_false h3) (decide_eq_true h4)) ?_
       rintro a' w3 ⟨zf,rfl,hN3⟩
       simp only [pS]
       go_wp2_with fail
       go_ret
       exact ⟨rfl,(hA.trans hN).trans hN3⟩
      by_cases h5:2147483647 < x.s
      ·obtain rfl:z=false:=by rw [← HZ.out];exact right_no3 (by rw [Hn.out];exact hlt) (by rw [hx];exact okW_no5 h5)
       clear hbef hdif hx
       refine piece (fun _=>_) (right7_4 _ rfl W2 rfl rfl p0 p1 q0 q1 q2 hxu hl0 hl1 (Decidable.not_not.1 h1) h2 (decide_eq_false h3) (decide_eq_false h4) (decide_eq_true h5)) ?_
       rintro a' w3 ⟨zf,rfl,hN3⟩
       simp only [pS]
       go_wp2_with fail
       go_ret
       exact ⟨rfl,(hA.trans hN).trans hN3⟩
      have hokx:Hid (okW l x=true):=Lib.hid (okW_yes hl0 (Decidable.not_not.1 h1) h2 h3 h4 h5)
      refine piece (fun _=>_) (right7_5 _ rfl W2 rfl rfl p0 p1 q0 q1 q2 hxu hl0 hl1 (Decidable.not_not.1 h1) h2 (decide_eq_false h3) (decide_eq_false h4) (decide_eq_false h5)) ?_
      rintro a' w3 ⟨zf,rfl,hN3⟩
      simp only [pS]
      have HR1:=Lib.hid (hN3.heap r1 id)
      have HR0:=Lib.hid (hN3.heap r0 id)
      have HX:=Lib.hid hx
      replace hN:=hN.trans hN3
      clear h1 h2 h3 h4 h5 q0 q1 q2 p0 p1 r1 r0 hN3 hx hxu
      go_upto_region 10 with fail
      go_loopw [5] (fun t wi=>∃ i:Nat,i ≤ k∧t = .int .i64 i∧Hid (∀ j,j < i→(d.getD j noW).s ≠ x.s)∧New w3 wi) (fun t _=>k - (intOf t).toNat)
      case atStart=>exact ⟨0,Nat.zero_le _,rfl,Lib.hid fun i hi=>by omega,Mods.refl _ _⟩
      case round =>
       obtain ⟨i,hi,rfl,hnone,hNi⟩:=hrel
       have hNa:=hN.trans hNi
       obtain ⟨⟨p0,p1⟩,-⟩:=pc_facts (hNi.heap HR0.out id)
       have q0:=cell_of_row _ _ 0 _ _ _ (hNi.heap HR1.out id)
       simp only [List.getElem?_toArray,List.getElem?_cons_zero,List.getElem?_cons_succ] at q0
       by_cases hil:i < k
       ·have hid:decide ((i:Int) < (k:Int))=true:=decide_eq_true (by omega)
        obtain ⟨b2,o2,e2,hrow⟩:=(H.out.new (hA.trans hNa)).at.2.2 i (by omega)
        cases e2
        obtain ⟨k0,-,-⟩:=cells3w hrow
        obtain ⟨y,hy⟩:∃ y,d.getD i noW=y:=⟨_,rfl⟩
        rw [hy] at k0
        have HY:=Lib.hid hy
        clear hrow hy
        by_cases he:y.s=x.s
        ·obtain rfl:z=false:=by rw [← HZ.out];exact right_no4 (i:=i) (j:=k) (by rw [Hn.out];exact hlt) hil (by rw [HY.out,HX.out];exact he)
         have hbe:(y.s == x.s)=true:=by simp [he]
         clear hbef hdif hnone he
         go_upto_region 12 with fail
         refine piece (fun _=>_) (right12_24 _ rfl _ rfl rfl rfl p1 q0 k0 (by omega) hbe) ?_
         rintro a' w5 ⟨zg,rfl,hN5⟩
         simp only [pS]
         go_wp2_with fail
         go_ret
         exact ⟨rfl,(hA.trans hNa).trans hN5⟩
        ·have hbe:(y.s == x.s)=false:=by simp [he]
         have hh:Hid (∀ j,j < i + 1→(d.getD j noW).s ≠ x.s):=Lib.hid fun j hj=>by
          by_cases e:j < i
          ·exact hnone.out j e
          ·obtain rfl:j=i:=by omega
           rw [HY.out];exact he
         clear hnone he
         go_upto_region 12 with fail
         refine piece (fun _=>_) (right12_24 _ rfl _ rfl rfl rfl p1 q0 k0 (by omega) hbe) ?_
         rintro a' w5 ⟨zg,rfl,hN5⟩
         simp only [pS]
         clear p0 p1 q0 k0
         go_wp2_with fail
         go_roundw
         case rel=>exact ⟨i + 1,by omega,by go_num,hh,hNi.trans hN5⟩
         case measure=>simp [intOf];omega
       ·have hid:decide ((i:Int) < (k:Int))=false:=decide_eq_false (by omega)
        obtain rfl:i=k:=by omega
        have hb2:Hid (∀ j,j < i + 1→okW l (d.getD j noW)=true):=Lib.hid fun j hj=>by
         by_cases e:j < i
         ·exact hbef.out j e
         ·obtain rfl:j=i:=by omega
          rw [HX.out];exact hokx.out
        have hd2:Hid (∀ j,j < i + 1→∀ i',i' < j→(d.getD i' noW).s ≠ (d.getD j noW).s):=Lib.hid fun j hj i' hi'=>by
         by_cases e:j < i
         ·exact hdif.out j e i' hi'
         ·obtain rfl:j=i:=by omega
          rw [HX.out];exact hnone.out i' hi'
        clear hbef hdif hnone hokx p0 p1 q0
        go_wp2_with fail
        go_roundw
        case rel=>exact ⟨i + 1,by omega,by go_num,hb2,hd2,hNa⟩
        case measure=>simp [intOf];omega
     ·obtain rfl:k=n:=by omega
      have hkd:decide ((k:Int) < (k:Int))=false:=decide_eq_false (by omega)
      obtain rfl:z=true:=by
       rw [← HZ.out]
       exact right_mk hok.out (by rw [Hn.out];exact hg) (nodup_of fun j hj=>hdif.out j (by have:=Hn.out;omega)) (fun j hj=>hbef.out j (by have:=Hn.out;omega))
      clear hbef hdif
      go_wp2_with fail
      go_ret
      exact ⟨rfl,hA.trans hN⟩
   ·have hgd:decide ((4:Int) < (n:Int))=true:=decide_eq_true (by omega)
    obtain rfl:z=false:=by rw [← HZ.out];exact right_no2 (by rw [Hn.out];exact hg)
    go_wp2_with fail
    go_ret
    exact ⟨rfl,hA⟩


def opsOf:Code→Array Oper
 | .region _ ops _=>ops
 | _=>#[]
end Go.Proofs.YtkiiameibdhdfaaGreatDoor
