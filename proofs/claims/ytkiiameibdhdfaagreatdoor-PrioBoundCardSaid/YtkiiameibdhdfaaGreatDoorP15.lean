/- Texts joined. -/
import Derived.Test.YtkiiameibdhdfaaGreatDoorP14
set_option linter.unusedSimpArgs false
set_option linter.unusedVariables false
/- Update: the ends (the program). -/
namespace Go.Proofs.YtkiiameibdhdfaaGreatDoor
open Go.RowKit Go.Shelf Go.Cs
attribute [local go_sem] Oper.semAt_some
set_option linter.unusedVariables false
set_option linter.unusedSimpArgs false
theorem sizeFl : (Tryz.prog.info? 34).map (·.size) = some 3 := by kernel_rfl
theorem lit77 (t : Array Value) (h : t.size = 77) : ∃ u : Nat → Value, t = (u 0 :: u 1 :: u 2 :: u 3 :: u 4 :: u 5 :: u 6 :: u 7 :: u 8 :: u 9 :: u 10 :: u 11 :: u 12 :: u 13 :: u 14 :: u 15 :: u 16 :: u 17 :: u 18 :: u 19 :: u 20 :: u 21 :: u 22 :: u 23 :: u 24 :: u 25 :: u 26 :: u 27 :: u 28 :: u 29 :: u 30 :: u 31 :: u 32 :: u 33 :: u 34 :: u 35 :: u 36 :: u 37 :: u 38 :: u 39 :: u 40 :: u 41 :: u 42 :: u 43 :: u 44 :: u 45 :: u 46 :: u 47 :: u 48 :: u 49 :: u 50 :: u 51 :: u 52 :: u 53 :: u 54 :: u 55 :: u 56 :: u 57 :: u 58 :: u 59 :: u 60 :: u 61 :: u 62 :: u 63 :: u 64 :: u 65 :: u 66 :: u 67 :: u 68 :: u 69 :: u 70 :: u 71 :: u 72 :: u 73 :: u 74 :: u 75 :: u 76 :: ([] : List Value)).toArray := ⟨fun i => t.getD i undef, range_lit t 77 h⟩
noncomputable def reg_prio_Update_14 : Code := ((Tryz.f15.body.bind (regionOf 14)).getD .skip)
set_option maxHeartbeats 4000000 in
set_option maxRecDepth 100000 in
theorem upd14 (t : Array Value) (hs : t.size = 77) (w : World) {R6 R8 R9 n cap : Nat} {l q : Int} {y : Bool} {va : Option Addr} {f0 f1 f2 : Value}
    (hq6 : t.getD 6 undef = .pointer (some ⟨R6, 0, none⟩))
    (hq8 : t.getD 8 undef = .pointer (some ⟨R8, 0, none⟩))
    (hq9 : t.getD 9 undef = .pointer (some ⟨R9, 0, none⟩))
    (r6 : w.heap[R6]? = some (.cells #[.int .i64 l, .slice va n cap] 26 (0, 0))) (r8 : w.heap[R8]? = some (.cells #[.int .u8 q, .bool y] 31 (0, 0))) (r9 : w.heap[R9]? = some (.cells #[f0, f1, f2] 34 (0, 0)))
    (hf : ∀ x ∈ [f0, f1, f2], x.oneCell' = true) (h68 : R6 < R8) (h89 : R8 < R9) :
    reg_prio_Update_14.wp Tryz.prog (Only fun a' W' => ∃ z : Nat → Value, a' = ⟨((((t).setIfInBounds 74 (z 74)).setIfInBounds 75 (z 75)).setIfInBounds 76 (z 76)).setIfInBounds 7 (.int .u8 0), []⟩ ∧ W'.heap[R6]? = some (.cells #[.int .i64 l, .slice va n cap] 26 (0, 0)) ∧ W'.heap[R8]? = some (.cells #[.int .u8 q, .bool y] 31 (0, 0)) ∧ W'.heap[R9]? = some (.cells #[f0, f1, f2] 34 (0, 0)) ∧ Mods (fun b => b = R6 ∨ b = R8 ∨ b = R9) w W') ⟨t, []⟩ w := by
  conv => arg 2; whnf
  obtain ⟨u, rfl⟩ := lit77 t hs
  have hq6 : u 6 = .pointer (some ⟨R6, 0, none⟩) := hq6
  have hq8 : u 8 = .pointer (some ⟨R8, 0, none⟩) := hq8
  have hq9 : u 9 = .pointer (some ⟨R9, 0, none⟩) := hq9
  rw [hq6, hq8, hq9]
  clear hq6 hq8 hq9 hs
  have rs := r8
  refine wp_region_held (S := fun W => W.heap[R6]? = some (.cells #[.int .i64 l, .slice va n cap] 26 (0, 0)) ∧ W.heap[R9]? = some (.cells #[f0, f1, f2] 34 (0, 0)) ∧ W.heap[R8]? = some (.cells #[.int .u8 q, .bool y] 31 (0, 0))) (by kernel_rfl) ?_
  show wpAnyH _ _ _ _ _ 7 _ _ w.drew
  have hN : New w w.drew := (Mods.refl _ _).drew
  have r6 := hN.heap r6 id
  have r8 := hN.heap r8 id
  have r9 := hN.heap r9 id
  have rs := hN.heap rs id
  have hM : Mods (fun b => b = R6 ∨ b = R8 ∨ b = R9) w w.drew := Mods.ofNew hN
  obtain ⟨W0, hW0⟩ : ∃ W, w.drew = W := ⟨_, rfl⟩
  rw [hW0] at r6 r8 r9 rs hM ⊢
  refine anyH_take 0 (some 74) (.agg #[.int .i64 l, .slice va n cap]) rfl rfl (by kernel_rfl) (by kernel_rfl) (by kernel_rfl) (fun _ _ _ h => h.elim) (.inl ⟨by rfl, fun W hW => by obtain ⟨⟨c0, c1⟩, -⟩ := pc_facts hW.1; go_simp⟩) ⟨r6, r9, rs⟩ ?_
  simp only [Act.put, List.setIfInBounds_toArray, List.set_cons_succ, List.set_cons_zero]
  refine anyH_take 1 (some 75) (.agg #[.int .u8 q, .bool y]) rfl rfl (by kernel_rfl) (by kernel_rfl) (by kernel_rfl) (fun _ _ _ h => h.elim) (.inl ⟨by rfl, fun W hW => by obtain ⟨⟨c0, c1⟩, -⟩ := pr_facts hW.2.2; go_simp⟩) ⟨r6, r9, rs⟩ ?_
  simp only [Act.put, List.setIfInBounds_toArray, List.set_cons_succ, List.set_cons_zero]
  refine anyH_take 2 (some 76) (.agg #[f0, f1, f2]) rfl rfl (by kernel_rfl) (by kernel_rfl) (by kernel_rfl) (fun _ _ _ h => h.elim) (.inl ⟨by rfl, fun W hW => by have c0 := cell_of_row _ _ 0 _ _ _ hW.2.1; have c1 := cell_of_row _ _ 1 _ _ _ hW.2.1; have c2 := cell_of_row _ _ 2 _ _ _ hW.2.1; simp only [List.getElem?_toArray, List.getElem?_cons_zero, List.getElem?_cons_succ] at c0 c1 c2; go_simp⟩) ⟨r6, r9, rs⟩ ?_
  simp only [Act.put, List.setIfInBounds_toArray, List.set_cons_succ, List.set_cons_zero]
  refine wpAnyH_all (rs := [3]) (by kernel_rfl) (by simp) ?_
  simp only [List.mem_cons, List.not_mem_nil, or_false, forall_eq]
  refine opH_skip none rfl (by rfl) rfl (run_store_row 26 (.tmp 6) (.tmp 74) rfl R6 rfl 26 [.int .i64 l, .slice va n cap] [.int .i64 l, .slice va n cap] rfl r6 sizeRp rfl (by intro x hx; simp only [List.mem_cons, List.not_mem_nil, or_false] at hx; rcases hx with rfl | rfl <;> rfl)) ?_
  have hmW1 := mods_setRow r6 #[.int .i64 l, .slice va n cap]
  have t6 := setRow_heap W0 R6 _ #[.int .i64 l, .slice va n cap] _ _ r6
  replace r8 := hmW1.heap r8 (by omega)
  replace r9 := hmW1.heap r9 (by omega)
  replace rs := hmW1.heap rs (by omega)
  replace hM := hM.trans (hmW1.mono fun b hb => by omega)
  obtain ⟨W1, hvW1⟩ : ∃ V, W0.setRow R6 #[.int .i64 l, .slice va n cap] = V := ⟨_, rfl⟩
  rw [hvW1] at r8 r9 rs hM t6 ⊢
  clear hvW1 hmW1
  refine ⟨⟨t6, r9, rs⟩, ?_⟩
  simp only [Act.put, List.setIfInBounds_toArray, List.set_cons_succ, List.set_cons_zero]
  refine wpAnyH_all (rs := [4]) (by kernel_rfl) (by simp) ?_
  simp only [List.mem_cons, List.not_mem_nil, or_false, forall_eq]
  refine opH_value (some 7) rfl (by rfl) rfl (v := .int .u8 0) (w' := W1) (by go_simp) ?_
  refine ⟨⟨t6, r9, rs⟩, ?_⟩
  simp only [Act.put, List.setIfInBounds_toArray, List.set_cons_succ, List.set_cons_zero]
  refine wpAnyH_all (rs := [5]) (by kernel_rfl) (by simp) ?_
  simp only [List.mem_cons, List.not_mem_nil, or_false, forall_eq]
  refine opH_skip none rfl (by rfl) rfl (run_store_row 31 (.tmp 8) (.tmp 75) rfl R8 rfl 31 [.int .u8 q, .bool y] [.int .u8 q, .bool y] rfl r8 sizePr rfl (by intro x hx; simp only [List.mem_cons, List.not_mem_nil, or_false] at hx; rcases hx with rfl | rfl <;> rfl)) ?_
  have hmW2 := mods_setRow r8 #[.int .u8 q, .bool y]
  have t8 := setRow_heap W1 R8 _ #[.int .u8 q, .bool y] _ _ r8
  replace t6 := hmW2.heap t6 (by omega)
  replace r9 := hmW2.heap r9 (by omega)
  replace hM := hM.trans (hmW2.mono fun b hb => by omega)
  obtain ⟨W2, hvW2⟩ : ∃ V, W1.setRow R8 #[.int .u8 q, .bool y] = V := ⟨_, rfl⟩
  rw [hvW2] at t6 r9 hM t8 ⊢
  clear hvW2 hmW2
  have rs := t8
  refine ⟨⟨t6, r9, rs⟩, ?_⟩
  simp only [Act.put, List.setIfInBounds_toArray, List.set_cons_succ, List.set_cons_zero]
  refine wpAnyH_all (rs := [6]) (by kernel_rfl) (by simp) ?_
  simp only [List.mem_cons, List.not_mem_nil, or_false, forall_eq]
  refine opH_skip none rfl (by rfl) rfl (run_store_row 34 (.tmp 9) (.tmp 76) rfl R9 rfl 34 [f0, f1, f2] [f0, f1, f2] rfl r9 sizeFl rfl (hf)) ?_
  have hmW3 := mods_setRow r9 #[f0, f1, f2]
  have t9 := setRow_heap W2 R9 _ #[f0, f1, f2] _ _ r9
  replace t6 := hmW3.heap t6 (by omega)
  replace t8 := hmW3.heap t8 (by omega)
  replace rs := hmW3.heap rs (by omega)
  replace hM := hM.trans (hmW3.mono fun b hb => by omega)
  obtain ⟨W3, hvW3⟩ : ∃ V, W2.setRow R9 #[f0, f1, f2] = V := ⟨_, rfl⟩
  rw [hvW3] at t6 t8 rs hM t9 ⊢
  clear hvW3 hmW3
  refine ⟨⟨t6, t9, rs⟩, ?_⟩
  simp only [Act.put, List.setIfInBounds_toArray, List.set_cons_succ, List.set_cons_zero]
  refine wpAnyH_done (by kernel_rfl) ?_ _
  exact ⟨(fun zz => ([.agg #[.int .i64 l, .slice va n cap], .agg #[.int .u8 q, .bool y], .agg #[f0, f1, f2]] : List Value).getD (cond (Nat.beq zz 74) 0 (cond (Nat.beq zz 75) 1 (cond (Nat.beq zz 76) 2 (0)))) undef), rfl, t6, t8, t9, hM⟩
noncomputable def reg_prio_Update_10 : Code := ((Tryz.f15.body.bind (regionOf 10)).getD .skip)
set_option maxHeartbeats 4000000 in
set_option maxRecDepth 100000 in
theorem upd10 (t : Array Value) (hs : t.size = 77) (w : World) {R6 R8 R9 R10 n cap : Nat} {l q q0 : Int} {y y0 : Bool} {va : Option Addr} {f0 f1 f2 : Value}
    (hq6 : t.getD 6 undef = .pointer (some ⟨R6, 0, none⟩))
    (hq8 : t.getD 8 undef = .pointer (some ⟨R8, 0, none⟩))
    (hq9 : t.getD 9 undef = .pointer (some ⟨R9, 0, none⟩))
    (hq10 : t.getD 10 undef = .pointer (some ⟨R10, 0, none⟩))
    (r6 : w.heap[R6]? = some (.cells #[.int .i64 l, .slice va n cap] 26 (0, 0))) (r8 : w.heap[R8]? = some (.cells #[.int .u8 q0, .bool y0] 31 (0, 0))) (r9 : w.heap[R9]? = some (.cells #[f0, f1, f2] 34 (0, 0))) (rs : w.heap[R10]? = some (.cells #[.int .u8 q, .bool y] 31 (0, 0)))
    (hf : ∀ x ∈ [f0, f1, f2], x.oneCell' = true) (h68 : R6 < R8) (h89 : R8 < R9) (h90 : R9 < R10) :
    reg_prio_Update_10.wp Tryz.prog (Only fun a' W' => ∃ z : Nat → Value, a' = ⟨((((t).setIfInBounds 49 (z 49)).setIfInBounds 50 (z 50)).setIfInBounds 51 (z 51)).setIfInBounds 7 (.int .u8 2), []⟩ ∧ W'.heap[R6]? = some (.cells #[.int .i64 l, .slice va n cap] 26 (0, 0)) ∧ W'.heap[R8]? = some (.cells #[.int .u8 q, .bool y] 31 (0, 0)) ∧ W'.heap[R9]? = some (.cells #[f0, f1, f2] 34 (0, 0)) ∧ Mods (fun b => b = R6 ∨ b = R8 ∨ b = R9) w W') ⟨t, []⟩ w := by
  conv => arg 2; whnf
  obtain ⟨u, rfl⟩ := lit77 t hs
  have hq6 : u 6 = .pointer (some ⟨R6, 0, none⟩) := hq6
  have hq8 : u 8 = .pointer (some ⟨R8, 0, none⟩) := hq8
  have hq9 : u 9 = .pointer (some ⟨R9, 0, none⟩) := hq9
  have hq10 : u 10 = .pointer (some ⟨R10, 0, none⟩) := hq10
  rw [hq6, hq8, hq9, hq10]
  clear hq6 hq8 hq9 hq10 hs
  refine wp_region_held (S := fun W => W.heap[R6]? = some (.cells #[.int .i64 l, .slice va n cap] 26 (0, 0)) ∧ W.heap[R9]? = some (.cells #[f0, f1, f2] 34 (0, 0)) ∧ W.heap[R10]? = some (.cells #[.int .u8 q, .bool y] 31 (0, 0))) (by kernel_rfl) ?_
  show wpAnyH _ _ _ _ _ 7 _ _ w.drew
  have hN : New w w.drew := (Mods.refl _ _).drew
  have r6 := hN.heap r6 id
  have r8 := hN.heap r8 id
  have r9 := hN.heap r9 id
  have rs := hN.heap rs id
  have hM : Mods (fun b => b = R6 ∨ b = R8 ∨ b = R9) w w.drew := Mods.ofNew hN
  obtain ⟨W0, hW0⟩ : ∃ W, w.drew = W := ⟨_, rfl⟩
  rw [hW0] at r6 r8 r9 rs hM ⊢
  refine anyH_take 0 (some 49) (.agg #[.int .i64 l, .slice va n cap]) rfl rfl (by kernel_rfl) (by kernel_rfl) (by kernel_rfl) (fun _ _ _ h => h.elim) (.inl ⟨by rfl, fun W hW => by obtain ⟨⟨c0, c1⟩, -⟩ := pc_facts hW.1; go_simp⟩) ⟨r6, r9, rs⟩ ?_
  simp only [Act.put, List.setIfInBounds_toArray, List.set_cons_succ, List.set_cons_zero]
  refine anyH_take 1 (some 50) (.agg #[.int .u8 q, .bool y]) rfl rfl (by kernel_rfl) (by kernel_rfl) (by kernel_rfl) (fun _ _ _ h => h.elim) (.inl ⟨by rfl, fun W hW => by obtain ⟨⟨c0, c1⟩, -⟩ := pr_facts hW.2.2; go_simp⟩) ⟨r6, r9, rs⟩ ?_
  simp only [Act.put, List.setIfInBounds_toArray, List.set_cons_succ, List.set_cons_zero]
  refine anyH_take 2 (some 51) (.agg #[f0, f1, f2]) rfl rfl (by kernel_rfl) (by kernel_rfl) (by kernel_rfl) (fun _ _ _ h => h.elim) (.inl ⟨by rfl, fun W hW => by have c0 := cell_of_row _ _ 0 _ _ _ hW.2.1; have c1 := cell_of_row _ _ 1 _ _ _ hW.2.1; have c2 := cell_of_row _ _ 2 _ _ _ hW.2.1; simp only [List.getElem?_toArray, List.getElem?_cons_zero, List.getElem?_cons_succ] at c0 c1 c2; go_simp⟩) ⟨r6, r9, rs⟩ ?_
  simp only [Act.put, List.setIfInBounds_toArray, List.set_cons_succ, List.set_cons_zero]
  refine wpAnyH_all (rs := [3]) (by kernel_rfl) (by simp) ?_
  simp only [List.mem_cons, List.not_mem_nil, or_false, forall_eq]
  refine opH_skip none rfl (by rfl) rfl (run_store_row 26 (.tmp 6) (.tmp 49) rfl R6 rfl 26 [.int .i64 l, .slice va n cap] [.int .i64 l, .slice va n cap] rfl r6 sizeRp rfl (by intro x hx; simp only [List.mem_cons, List.not_mem_nil, or_false] at hx; rcases hx with rfl | rfl <;> rfl)) ?_
  have hmW1 := mods_setRow r6 #[.int .i64 l, .slice va n cap]
  have t6 := setRow_heap W0 R6 _ #[.int .i64 l, .slice va n cap] _ _ r6
  replace r8 := hmW1.heap r8 (by omega)
  replace r9 := hmW1.heap r9 (by omega)
  replace rs := hmW1.heap rs (by omega)
  replace hM := hM.trans (hmW1.mono fun b hb => by omega)
  obtain ⟨W1, hvW1⟩ : ∃ V, W0.setRow R6 #[.int .i64 l, .slice va n cap] = V := ⟨_, rfl⟩
  rw [hvW1] at r8 r9 rs hM t6 ⊢
  clear hvW1 hmW1
  refine ⟨⟨t6, r9, rs⟩, ?_⟩
  simp only [Act.put, List.setIfInBounds_toArray, List.set_cons_succ, List.set_cons_zero]
  refine wpAnyH_all (rs := [4]) (by kernel_rfl) (by simp) ?_
  simp only [List.mem_cons, List.not_mem_nil, or_false, forall_eq]
  refine opH_value (some 7) rfl (by rfl) rfl (v := .int .u8 2) (w' := W1) (by go_simp) ?_
  refine ⟨⟨t6, r9, rs⟩, ?_⟩
  simp only [Act.put, List.setIfInBounds_toArray, List.set_cons_succ, List.set_cons_zero]
  refine wpAnyH_all (rs := [5]) (by kernel_rfl) (by simp) ?_
  simp only [List.mem_cons, List.not_mem_nil, or_false, forall_eq]
  refine opH_skip none rfl (by rfl) rfl (run_store_row 31 (.tmp 8) (.tmp 50) rfl R8 rfl 31 [.int .u8 q0, .bool y0] [.int .u8 q, .bool y] rfl r8 sizePr rfl (by intro x hx; simp only [List.mem_cons, List.not_mem_nil, or_false] at hx; rcases hx with rfl | rfl <;> rfl)) ?_
  have hmW2 := mods_setRow r8 #[.int .u8 q, .bool y]
  have t8 := setRow_heap W1 R8 _ #[.int .u8 q, .bool y] _ _ r8
  replace t6 := hmW2.heap t6 (by omega)
  replace r9 := hmW2.heap r9 (by omega)
  replace rs := hmW2.heap rs (by omega)
  replace hM := hM.trans (hmW2.mono fun b hb => by omega)
  obtain ⟨W2, hvW2⟩ : ∃ V, W1.setRow R8 #[.int .u8 q, .bool y] = V := ⟨_, rfl⟩
  rw [hvW2] at t6 r9 rs hM t8 ⊢
  clear hvW2 hmW2
  refine ⟨⟨t6, r9, rs⟩, ?_⟩
  simp only [Act.put, List.setIfInBounds_toArray, List.set_cons_succ, List.set_cons_zero]
  refine wpAnyH_all (rs := [6]) (by kernel_rfl) (by simp) ?_
  simp only [List.mem_cons, List.not_mem_nil, or_false, forall_eq]
  refine opH_skip none rfl (by rfl) rfl (run_store_row 34 (.tmp 9) (.tmp 51) rfl R9 rfl 34 [f0, f1, f2] [f0, f1, f2] rfl r9 sizeFl rfl (hf)) ?_
  have hmW3 := mods_setRow r9 #[f0, f1, f2]
  have t9 := setRow_heap W2 R9 _ #[f0, f1, f2] _ _ r9
  replace t6 := hmW3.heap t6 (by omega)
  replace t8 := hmW3.heap t8 (by omega)
  replace rs := hmW3.heap rs (by omega)
  replace hM := hM.trans (hmW3.mono fun b hb => by omega)
  obtain ⟨W3, hvW3⟩ : ∃ V, W2.setRow R9 #[f0, f1, f2] = V := ⟨_, rfl⟩
  rw [hvW3] at t6 t8 rs hM t9 ⊢
  clear hvW3 hmW3
  refine ⟨⟨t6, t9, rs⟩, ?_⟩
  simp only [Act.put, List.setIfInBounds_toArray, List.set_cons_succ, List.set_cons_zero]
  refine wpAnyH_done (by kernel_rfl) ?_ _
  exact ⟨(fun zz => ([.agg #[.int .i64 l, .slice va n cap], .agg #[.int .u8 q, .bool y], .agg #[f0, f1, f2]] : List Value).getD (cond (Nat.beq zz 49) 0 (cond (Nat.beq zz 50) 1 (cond (Nat.beq zz 51) 2 (0)))) undef), rfl, t6, t8, t9, hM⟩
noncomputable def reg_prio_Update_13 : Code := ((Tryz.f15.body.bind (regionOf 13)).getD .skip)
set_option maxHeartbeats 4000000 in
set_option maxRecDepth 100000 in
theorem upd13 (t : Array Value) (hs : t.size = 77) (w : World) {R6 R8 R9 R10 n cap : Nat} {l q q0 : Int} {y y0 : Bool} {va : Option Addr} {f0 f1 f2 : Value}
    (hq6 : t.getD 6 undef = .pointer (some ⟨R6, 0, none⟩))
    (hq8 : t.getD 8 undef = .pointer (some ⟨R8, 0, none⟩))
    (hq9 : t.getD 9 undef = .pointer (some ⟨R9, 0, none⟩))
    (hq10 : t.getD 10 undef = .pointer (some ⟨R10, 0, none⟩))
    (r6 : w.heap[R6]? = some (.cells #[.int .i64 l, .slice va n cap] 26 (0, 0))) (r8 : w.heap[R8]? = some (.cells #[.int .u8 q0, .bool y0] 31 (0, 0))) (r9 : w.heap[R9]? = some (.cells #[f0, f1, f2] 34 (0, 0))) (rs : w.heap[R10]? = some (.cells #[.int .u8 q, .bool y] 31 (0, 0)))
    (hf : ∀ x ∈ [f0, f1, f2], x.oneCell' = true) (h68 : R6 < R8) (h89 : R8 < R9) (h90 : R9 < R10) :
    reg_prio_Update_13.wp Tryz.prog (Only fun a' W' => ∃ z : Nat → Value, a' = ⟨((((t).setIfInBounds 71 (z 71)).setIfInBounds 72 (z 72)).setIfInBounds 73 (z 73)).setIfInBounds 7 (.int .u8 1), []⟩ ∧ W'.heap[R6]? = some (.cells #[.int .i64 l, .slice va n cap] 26 (0, 0)) ∧ W'.heap[R8]? = some (.cells #[.int .u8 q, .bool y] 31 (0, 0)) ∧ W'.heap[R9]? = some (.cells #[f0, f1, f2] 34 (0, 0)) ∧ Mods (fun b => b = R6 ∨ b = R8 ∨ b = R9) w W') ⟨t, []⟩ w := by
  conv => arg 2; whnf
  obtain ⟨u, rfl⟩ := lit77 t hs
  have hq6 : u 6 = .pointer (some ⟨R6, 0, none⟩) := hq6
  have hq8 : u 8 = .pointer (some ⟨R8, 0, none⟩) := hq8
  have hq9 : u 9 = .pointer (some ⟨R9, 0, none⟩) := hq9
  have hq10 : u 10 = .pointer (some ⟨R10, 0, none⟩) := hq10
  rw [hq6, hq8, hq9, hq10]
  clear hq6 hq8 hq9 hq10 hs
  refine wp_region_held (S := fun W => W.heap[R6]? = some (.cells #[.int .i64 l, .slice va n cap] 26 (0, 0)) ∧ W.heap[R9]? = some (.cells #[f0, f1, f2] 34 (0, 0)) ∧ W.heap[R10]? = some (.cells #[.int .u8 q, .bool y] 31 (0, 0))) (by kernel_rfl) ?_
  show wpAnyH _ _ _ _ _ 7 _ _ w.drew
  have hN : New w w.drew := (Mods.refl _ _).drew
  have r6 := hN.heap r6 id
  have r8 := hN.heap r8 id
  have r9 := hN.heap r9 id
  have rs := hN.heap rs id
  have hM : Mods (fun b => b = R6 ∨ b = R8 ∨ b = R9) w w.drew := Mods.ofNew hN
  obtain ⟨W0, hW0⟩ : ∃ W, w.drew = W := ⟨_, rfl⟩
  rw [hW0] at r6 r8 r9 rs hM ⊢
  refine anyH_take 0 (some 71) (.agg #[.int .i64 l, .slice va n cap]) rfl rfl (by kernel_rfl) (by kernel_rfl) (by kernel_rfl) (fun _ _ _ h => h.elim) (.inl ⟨by rfl, fun W hW => by obtain ⟨⟨c0, c1⟩, -⟩ := pc_facts hW.1; go_simp⟩) ⟨r6, r9, rs⟩ ?_
  simp only [Act.put, List.setIfInBounds_toArray, List.set_cons_succ, List.set_cons_zero]
  refine anyH_take 1 (some 72) (.agg #[.int .u8 q, .bool y]) rfl rfl (by kernel_rfl) (by kernel_rfl) (by kernel_rfl) (fun _ _ _ h => h.elim) (.inl ⟨by rfl, fun W hW => by obtain ⟨⟨c0, c1⟩, -⟩ := pr_facts hW.2.2; go_simp⟩) ⟨r6, r9, rs⟩ ?_
  simp only [Act.put, List.setIfInBounds_toArray, List.set_cons_succ, List.set_cons_zero]
  refine anyH_take 2 (some 73) (.agg #[f0, f1, f2]) rfl rfl (by kernel_rfl) (by kernel_rfl) (by kernel_rfl) (fun _ _ _ h => h.elim) (.inl ⟨by rfl, fun W hW => by have c0 := cell_of_row _ _ 0 _ _ _ hW.2.1; have c1 := cell_of_row _ _ 1 _ _ _ hW.2.1; have c2 := cell_of_row _ _ 2 _ _ _ hW.2.1; simp only [List.getElem?_toArray, List.getElem?_cons_zero, List.getElem?_cons_succ] at c0 c1 c2; go_simp⟩) ⟨r6, r9, rs⟩ ?_
  simp only [Act.put, List.setIfInBounds_toArray, List.set_cons_succ, List.set_cons_zero]
  refine wpAnyH_all (rs := [3]) (by kernel_rfl) (by simp) ?_
  simp only [List.mem_cons, List.not_mem_nil, or_false, forall_eq]
  refine opH_skip none rfl (by rfl) rfl (run_store_row 26 (.tmp 6) (.tmp 71) rfl R6 rfl 26 [.int .i64 l, .slice va n cap] [.int .i64 l, .slice va n cap] rfl r6 sizeRp rfl (by intro x hx; simp only [List.mem_cons, List.not_mem_nil, or_false] at hx; rcases hx with rfl | rfl <;> rfl)) ?_
  have hmW1 := mods_setRow r6 #[.int .i64 l, .slice va n cap]
  have t6 := setRow_heap W0 R6 _ #[.int .i64 l, .slice va n cap] _ _ r6
  replace r8 := hmW1.heap r8 (by omega)
  replace r9 := hmW1.heap r9 (by omega)
  replace rs := hmW1.heap rs (by omega)
  replace hM := hM.trans (hmW1.mono fun b hb => by omega)
  obtain ⟨W1, hvW1⟩ : ∃ V, W0.setRow R6 #[.int .i64 l, .slice va n cap] = V := ⟨_, rfl⟩
  rw [hvW1] at r8 r9 rs hM t6 ⊢
  clear hvW1 hmW1
  refine ⟨⟨t6, r9, rs⟩, ?_⟩
  simp only [Act.put, List.setIfInBounds_toArray, List.set_cons_succ, List.set_cons_zero]
  refine wpAnyH_all (rs := [4]) (by kernel_rfl) (by simp) ?_
  simp only [List.mem_cons, List.not_mem_nil, or_false, forall_eq]
  refine opH_value (some 7) rfl (by rfl) rfl (v := .int .u8 1) (w' := W1) (by go_simp) ?_
  refine ⟨⟨t6, r9, rs⟩, ?_⟩
  simp only [Act.put, List.setIfInBounds_toArray, List.set_cons_succ, List.set_cons_zero]
  refine wpAnyH_all (rs := [5]) (by kernel_rfl) (by simp) ?_
  simp only [List.mem_cons, List.not_mem_nil, or_false, forall_eq]
  refine opH_skip none rfl (by rfl) rfl (run_store_row 31 (.tmp 8) (.tmp 72) rfl R8 rfl 31 [.int .u8 q0, .bool y0] [.int .u8 q, .bool y] rfl r8 sizePr rfl (by intro x hx; simp only [List.mem_cons, List.not_mem_nil, or_false] at hx; rcases hx with rfl | rfl <;> rfl)) ?_
  have hmW2 := mods_setRow r8 #[.int .u8 q, .bool y]
  have t8 := setRow_heap W1 R8 _ #[.int .u8 q, .bool y] _ _ r8
  replace t6 := hmW2.heap t6 (by omega)
  replace r9 := hmW2.heap r9 (by omega)
  replace rs := hmW2.heap rs (by omega)
  replace hM := hM.trans (hmW2.mono fun b hb => by omega)
  obtain ⟨W2, hvW2⟩ : ∃ V, W1.setRow R8 #[.int .u8 q, .bool y] = V := ⟨_, rfl⟩
  rw [hvW2] at t6 r9 rs hM t8 ⊢
  clear hvW2 hmW2
  refine ⟨⟨t6, r9, rs⟩, ?_⟩
  simp only [Act.put, List.setIfInBounds_toArray, List.set_cons_succ, List.set_cons_zero]
  refine wpAnyH_all (rs := [6]) (by kernel_rfl) (by simp) ?_
  simp only [List.mem_cons, List.not_mem_nil, or_false, forall_eq]
  refine opH_skip none rfl (by rfl) rfl (run_store_row 34 (.tmp 9) (.tmp 73) rfl R9 rfl 34 [f0, f1, f2] [f0, f1, f2] rfl r9 sizeFl rfl (hf)) ?_
  have hmW3 := mods_setRow r9 #[f0, f1, f2]
  have t9 := setRow_heap W2 R9 _ #[f0, f1, f2] _ _ r9
  replace t6 := hmW3.heap t6 (by omega)
  replace t8 := hmW3.heap t8 (by omega)
  replace rs := hmW3.heap rs (by omega)
  replace hM := hM.trans (hmW3.mono fun b hb => by omega)
  obtain ⟨W3, hvW3⟩ : ∃ V, W2.setRow R9 #[f0, f1, f2] = V := ⟨_, rfl⟩
  rw [hvW3] at t6 t8 rs hM t9 ⊢
  clear hvW3 hmW3
  refine ⟨⟨t6, t9, rs⟩, ?_⟩
  simp only [Act.put, List.setIfInBounds_toArray, List.set_cons_succ, List.set_cons_zero]
  refine wpAnyH_done (by kernel_rfl) ?_ _
  exact ⟨(fun zz => ([.agg #[.int .i64 l, .slice va n cap], .agg #[.int .u8 q, .bool y], .agg #[f0, f1, f2]] : List Value).getD (cond (Nat.beq zz 71) 0 (cond (Nat.beq zz 72) 1 (cond (Nat.beq zz 73) 2 (0)))) undef), rfl, t6, t8, t9, hM⟩
end Go.Proofs.YtkiiameibdhdfaaGreatDoor
/- Update: the row that is kept (the program). -/
namespace Go.Proofs.YtkiiameibdhdfaaGreatDoor
open Go.RowKit Go.Shelf Go.Cs
attribute [local go_sem] Oper.semAt_some
set_option linter.unusedVariables false
set_option linter.unusedSimpArgs false
/-- One more, out of a row that stands somewhere. -/
theorem run_append_Wx {o : Oper} {a : Act} {W : World} {s x : Operand} {base X m : Nat} {v : Value} {n : Nat} {f : Nat → List Value} {c : List Value} (hop : o.op = .call { callee := .builtin .append, args := #[s, x], argTypes := #[24, 24] })
    (hs : a.eval s = v) (hx : a.eval x = .slice (some ⟨X, 0, none⟩) 1 m) (hW : W.heap[X]? = some (.cells c.toArray 40 (0, 0))) (hc : c.length = 3) (hone : ∀ u ∈ c, u.oneCell' = true) (hown : OwW base W v n f) (hn : n ≤ 2000000) (hbase : base ≤ W.heap.size) :
    ∃ v' W', (execOp a.eval o).run Tryz.prog W = .ok (.value v') W' ∧ OwW base W' v' (n + 1) (fun i => if i = n then c else f i) ∧ ∀ (w0 : World) (S : Nat → Prop), Mods S w0 W → (∀ g, v.ownBlock = some g → w0.heap.size ≤ g ∨ S g) → Mods S w0 W' := by
  obtain ⟨i0, hi, hz0, hz1, hz2⟩ := info_parts infoWt
  obtain ⟨v', w', hr, ho, hg, -⟩ := run_append_own (P := Tryz.prog) W base 24 o.type 40 i0 _ 3 16 Tryz.underlying24 hi hz0 hz1 hz2 rfl (by decide) v n (flatF n f) hown.2.2 ⟨X, 0, none⟩ 1 m c (by rw [hc]) (fun j u hj => by
    rw [add_at, cell_of_row _ _ _ _ _ _ hW]; simpa using hj) hone (by unfold maxLen; omega) (by omega) (by omega)
  refine ⟨v', w', ?_, ⟨fun i => ?_, fun i hi => ?_, ?_⟩, fun w0 S hN hb => ?_⟩
  · simp [execOp, hop, resolve, invoke, builtin, hs, hx, hr, Result.andThen]
  · dsimp only; split
    · exact hc
    · exact hown.1 i
  · dsimp only; split
    · exact hone
    · exact hown.2.1 i (by omega)
  · rw [flatF_succ, if_pos rfl, flatF_congr (g := f) (fun i hi => if_neg (by omega))]
    exact ho
  · exact hN.grown hg (fun g hg => (hb g hg).imp id fun h => ⟨h, own_cells hown.2.2 hg⟩)
theorem wpOp_append_Wx {ops : Array Oper} {Q : Exit → Act → World → Prop} {i : Nat} {o : Oper} (d : Option Tmp) {a : Act} {W : World} {K : Act → World → Prop} (hi : ops[i]? = some o) (hw : Region.wanted o (yielded ops a.tmps) = true) (hd : o.dst = d) (s x : Operand) {base X m : Nat} {v : Value} {n : Nat} {f : Nat → List Value} {c : List Value} (hop : o.op = .call { callee := .builtin .append, args := #[s, x], argTypes := #[24, 24] })
    (hs : a.eval s = v) (hx : a.eval x = .slice (some ⟨X, 0, none⟩) 1 m) (hW : W.heap[X]? = some (.cells c.toArray 40 (0, 0))) (hc : c.length = 3) (hone : ∀ u ∈ c, u.oneCell' = true) (hown : OwW base W v n f) (hn : n ≤ 2000000) (hbase : base ≤ W.heap.size)
    (h : ∀ v' W', OwW base W' v' (n + 1) (fun i => if i = n then c else f i) → (∀ (w0 : World) (S : Nat → Prop), Mods S w0 W → (∀ g, v.ownBlock = some g → w0.heap.size ≤ g ∨ S g) → Mods S w0 W') → K (a.put d v') W') : wpOp Tryz.prog ops Q i K a W := by
  obtain ⟨v', w', hr, ho, hg⟩ := run_append_Wx hop hs hx hW hc hone hown hn hbase
  exact opH_value d hi hw hd hr (h v' w' ho hg)
theorem wf_snoc (L : List WP) (x : WP) (i : Nat) (hi : i < L.length + 1) : (if i = L.length then wcs x else wf L i) = wf (L ++ [x]) i := by
  unfold wf
  rw [List.getD_eq_getElem?_getD, List.getD_eq_getElem?_getD]
  by_cases h : i = L.length
  · subst h
    simp
  · rw [if_neg h, List.getElem?_append_left (by omega)]
noncomputable def reg_prio_Update_11 : Code := ((Tryz.f15.body.bind (regionOf 11)).getD .skip)
set_option maxHeartbeats 4000000 in
set_option maxRecDepth 100000 in
theorem upd11 (t : Array Value) (hs : t.size = 77) (w : World) {R3 R4 R6 R10 n cap q : Nat} {l s : Int} {y : Bool} {va : Option Addr} {vo : Value} {L : List WP}
    (hq3 : t.getD 3 undef = .pointer (some ⟨R3, 0, none⟩))
    (hq4 : t.getD 4 undef = .pointer (some ⟨R4, 0, none⟩))
    (hq6 : t.getD 6 undef = .pointer (some ⟨R6, 0, none⟩))
    (hq10 : t.getD 10 undef = .pointer (some ⟨R10, 0, none⟩))
    (r3 : w.heap[R3]? = some (.cells #[.int .i64 l, .slice va n cap] 26 (0, 0))) (r4 : Boxed w R4 3 (.int .i64 s)) (r6 : w.heap[R6]? = some (.cells #[.int .i64 l, vo] 26 (0, 0))) (r10 : w.heap[R10]? = some (.cells #[.int .u8 q, .bool y] 31 (0, 0)))
    (hL : L.length ≤ 1000000)
    (HT : Hid (∀ W, New w W → Calls Tryz.prog 48 #[.slice va n cap, .func (.func 49) #[] #[.pointer (some ⟨R4, 0, none⟩)]] W fun e w' => ∃ v', e = .returned v' ∧ OwW W.heap.size w' v' L.length (wf L) ∧ New W w')) (h36 : ¬ R3 = R6) (h46 : ¬ R4 = R6) (h06 : ¬ R10 = R6) :
    reg_prio_Update_11.wp Tryz.prog (Only fun a' W' => ∃ z : Nat → Value, ∃ v', a' = ⟨((((((((((t).setIfInBounds 52 (z 52)).setIfInBounds 53 (z 53)).setIfInBounds 54 (z 54)).setIfInBounds 55 (z 55)).setIfInBounds 56 (z 56)).setIfInBounds 57 (z 57)).setIfInBounds 58 (z 58)).setIfInBounds 59 (z 59)).setIfInBounds 60 (z 60)).setIfInBounds 61 (z 61), []⟩ ∧ W'.heap[R6]? = some (.cells #[.int .i64 l, v'] 26 (0, 0)) ∧ OwW w.heap.size W' v' (L ++ ([⟨s, q, y⟩] : List WP)).length (wf (L ++ ([⟨s, q, y⟩] : List WP))) ∧ Mods (fun b => b = R6) w W') ⟨t, []⟩ w := by
  conv => arg 2; whnf
  obtain ⟨u, rfl⟩ := lit77 t hs
  have hq3 : u 3 = .pointer (some ⟨R3, 0, none⟩) := hq3
  have hq4 : u 4 = .pointer (some ⟨R4, 0, none⟩) := hq4
  have hq6 : u 6 = .pointer (some ⟨R6, 0, none⟩) := hq6
  have hq10 : u 10 = .pointer (some ⟨R10, 0, none⟩) := hq10
  rw [hq3, hq4, hq6, hq10]
  clear hq3 hq4 hq6 hq10 hs
  have hS : New w w.drew := (Mods.refl _ _).drew
  refine wp_region_held (S := fun W => Mods (fun b => b = R6) w W) (by kernel_rfl) ?_
  show wpAnyH _ _ _ _ _ 11 _ _ w.drew
  have hN := hS
  replace hS : Mods (fun b => b = R6) w w.drew := Mods.ofNew hS
  obtain ⟨W0, hW0⟩ : ∃ W, w.drew = W := ⟨_, rfl⟩
  rw [hW0] at hS hN ⊢
  clear hW0
  obtain ⟨⟨a0, a1⟩, -⟩ := pc_facts r3
  obtain ⟨⟨b0, b1⟩, -⟩ := pr_facts r10
  obtain ⟨c0, -⟩ := r4.both
  refine anyH_take 0 (some 52) (.pointer (some ⟨R3, 1, none⟩)) rfl rfl (by kernel_rfl) (by kernel_rfl) (by kernel_rfl) (fun _ _ _ h => h.elim) (.inl ⟨by rfl, fun W hW => by go_simp⟩) hS ?_
  simp only [Act.put, List.setIfInBounds_toArray, List.set_cons_succ, List.set_cons_zero]
  refine anyH_take 1 (some 53) (.slice va n cap) rfl rfl (by kernel_rfl) (by kernel_rfl) (by kernel_rfl) (fun _ _ _ h => h.elim) (.inl ⟨by rfl, fun W hW => by have q := hW.cell a1 h36; go_simp⟩) hS ?_
  simp only [Act.put, List.setIfInBounds_toArray, List.set_cons_succ, List.set_cons_zero]
  refine anyH_take 2 (some 54) (.func (.func 49) #[] #[.pointer (some ⟨R4, 0, none⟩)]) rfl rfl (by kernel_rfl) (by kernel_rfl) (by kernel_rfl) (fun _ _ _ h => h.elim) (.inl ⟨by rfl, fun W hW => by go_simp⟩) hS ?_
  simp only [Act.put, List.setIfInBounds_toArray, List.set_cons_succ, List.set_cons_zero]
  refine anyH_take 4 (some 56) (.int .i64 s) rfl rfl (by kernel_rfl) (by kernel_rfl) (by kernel_rfl) (fun _ _ _ h => h.elim) (.inl ⟨by rfl, fun W hW => by have q := hW.cell c0 h46; go_simp⟩) hS ?_
  simp only [Act.put, List.setIfInBounds_toArray, List.set_cons_succ, List.set_cons_zero]
  refine anyH_take 5 (some 57) (.agg #[.int .u8 q, .bool y]) rfl rfl (by kernel_rfl) (by kernel_rfl) (by kernel_rfl) (fun _ _ _ h => h.elim) (.inl ⟨by rfl, fun W hW => by have q0 := hW.cell b0 h06; have q1 := hW.cell b1 h06; go_simp⟩) hS ?_
  simp only [Act.put, List.setIfInBounds_toArray, List.set_cons_succ, List.set_cons_zero]
  refine anyH_take 6 (some 58) (.agg #[.int .i64 s, .int .u8 q, .bool y]) rfl rfl (by kernel_rfl) (by kernel_rfl) (by kernel_rfl) (fun _ _ _ h => h.elim) (.inl ⟨by rfl, fun W hW => by go_simp; trace_state⟩) hS ?_
  simp only [Act.put, List.setIfInBounds_toArray, List.set_cons_succ, List.set_cons_zero]
  refine wpAnyH_all (rs := [3, 7]) (by kernel_rfl) (by simp) ?_
  intro i hi
  simp only [List.mem_cons, List.not_mem_nil, or_false] at hi
  rcases hi with rfl | rfl
  · refine opH_call (some 55) rfl (by rfl) rfl 48 #[.slice va n cap, .func (.func 49) #[] #[.pointer (some ⟨R4, 0, none⟩)]] (by go_simp) ((HT.out _ hN).mono ?_)
    have hNb := hN.size
    rintro e w1 ⟨v1, rfl, hO, hk⟩
    have hS := hS.trans (Mods.ofNew hk)
    have hN := hN.trans hk
    obtain ⟨oa, oc, rfl⟩ := hO.slice
    refine ⟨_, rfl, hS, ?_⟩
    simp only [Act.put, List.setIfInBounds_toArray, List.set_cons_succ, List.set_cons_zero]
    refine wpAnyH_all (rs := [7]) (by kernel_rfl) (by simp) ?_
    simp only [List.mem_cons, List.not_mem_nil, or_false, forall_eq]
    refine opH_value (some 59) rfl (by rfl) rfl (v := .slice (some ⟨w1.heap.size, 0, none⟩) 1 1) (w' := w1.alloc (.cells #[.int .i64 s, .int .u8 q, .bool y] 40)) (by go_simp) ?_
    have hA : New w1 (w1.alloc (.cells #[.int .i64 s, .int .u8 q, .bool y] 40)) := (Mods.refl _ _).alloc _
    have rx := World.alloc_heap_new w1 (.cells #[.int .i64 s, .int .u8 q, .bool y] 40)
    obtain ⟨W2, hW2⟩ : ∃ V, w1.alloc (.cells #[.int .i64 s, .int .u8 q, .bool y] 40) = V := ⟨_, rfl⟩
    obtain ⟨X, hX⟩ : ∃ X, w1.heap.size = X := ⟨_, rfl⟩
    rw [hW2] at hA rx ⊢
    rw [hX] at rx ⊢
    have hO := hO.new hA
    have hS := hS.trans (Mods.ofNew hA)
    have hN := hN.trans hA
    clear hW2 hX
    refine ⟨hS, ?_⟩
    simp only [Act.put, List.setIfInBounds_toArray, List.set_cons_succ, List.set_cons_zero]
    refine wpAnyH_all (rs := [8]) (by kernel_rfl) (by simp) ?_
    simp only [List.mem_cons, List.not_mem_nil, or_false, forall_eq]
    have hlt6 : R6 < w.heap.size := (Array.getElem?_eq_some_iff.1 r6).1
    have hO := hO.mono (base' := w.heap.size) (by have := hNb; omega)
    refine wpOp_append_Wx (c := wcs ⟨s, q, y⟩) (some 60) rfl (by rfl) rfl (.tmp 55) (.tmp 59) rfl rfl rfl rx rfl (wcs_one _) hO (by omega) hN.size ?_
    intro v' W3 hO' hm
    have hm' := hm w (fun _ => False) hN (fun g hg => .inl (hO.lt hg).1)
    obtain ⟨oa', oc', rfl⟩ := hO'.slice
    have hS3 : Mods (fun b => b = R6) w W3 := Mods.ofNew hm'
    refine ⟨hS3, ?_⟩
    simp only [Act.put, List.setIfInBounds_toArray, List.set_cons_succ, List.set_cons_zero]
    refine anyH_take 9 (some 61) (.pointer (some ⟨R6, 1, none⟩)) rfl rfl (by kernel_rfl) (by kernel_rfl) (by kernel_rfl) (fun _ _ _ h => h.elim) (.inl ⟨by rfl, fun W hW => by go_simp⟩) hS3 ?_
    simp only [Act.put, List.setIfInBounds_toArray, List.set_cons_succ, List.set_cons_zero]
    refine wpAnyH_all (rs := [10]) (by kernel_rfl) (by simp) ?_
    simp only [List.mem_cons, List.not_mem_nil, or_false, forall_eq]
    have t6 := hm'.heap r6 id
    obtain ⟨⟨d0, d1⟩, d2, d3⟩ := pc_facts t6
    refine opH_skip none rfl (by rfl) rfl (w' := W3.setCell ⟨R6, 1, none⟩ (.slice oa' (L.length + 1) oc')) (by go_simp) ?_
    have s6 := setCell_heap (i := 1) t6 (.slice oa' (L.length + 1) oc')
    simp only [List.setIfInBounds_toArray, List.set_cons_succ, List.set_cons_zero] at s6
    have hM4 := hS3.trans (setMods W3 R6 1 (.slice oa' (L.length + 1) oc'))
    refine ⟨hM4, ?_⟩
    simp only [Act.put, List.setIfInBounds_toArray, List.set_cons_succ, List.set_cons_zero]
    refine wpAnyH_done (by kernel_rfl) ?_ _
    refine ⟨(fun zz => ([.pointer (some ⟨R3, 1, none⟩), .slice va n cap, .func (.func 49) #[] #[.pointer (some ⟨R4, 0, none⟩)], .slice oa L.length oc, .int .i64 s, .agg #[.int .u8 q, .bool y], .agg #[.int .i64 s, .int .u8 q, .bool y], .slice (some ⟨X, 0, none⟩) 1 1, .slice oa' (L.length + 1) oc', .pointer (some ⟨R6, 1, none⟩)] : List Value).getD (cond (Nat.beq zz 52) 0 (cond (Nat.beq zz 53) 1 (cond (Nat.beq zz 54) 2 (cond (Nat.beq zz 55) 3 (cond (Nat.beq zz 56) 4 (cond (Nat.beq zz 57) 5 (cond (Nat.beq zz 58) 6 (cond (Nat.beq zz 59) 7 (cond (Nat.beq zz 60) 8 (cond (Nat.beq zz 61) 9 (0))))))))))) undef), _, rfl, s6, ?_, hM4⟩
    rw [List.length_append]
    exact (hO'.congr (wf_len (L ++ ([⟨s, q, y⟩] : List WP))) (fun i hi => wf_snoc L ⟨s, q, y⟩ i hi)).mods (setMods W3 R6 1 _) (fun g hg e => by have := (hO'.lt hg).1; omega)
  · refine opH_value (some 59) rfl (by rfl) rfl (v := .slice (some ⟨W0.heap.size, 0, none⟩) 1 1) (w' := W0.alloc (.cells #[.int .i64 s, .int .u8 q, .bool y] 40)) (by go_simp) ?_
    have hA : New W0 (W0.alloc (.cells #[.int .i64 s, .int .u8 q, .bool y] 40)) := (Mods.refl _ _).alloc _
    have rx := World.alloc_heap_new W0 (.cells #[.int .i64 s, .int .u8 q, .bool y] 40)
    obtain ⟨W2, hW2⟩ : ∃ V, W0.alloc (.cells #[.int .i64 s, .int .u8 q, .bool y] 40) = V := ⟨_, rfl⟩
    obtain ⟨X, hX⟩ : ∃ X, W0.heap.size = X := ⟨_, rfl⟩
    rw [hW2] at hA rx ⊢
    rw [hX] at rx ⊢
    have hS := hS.trans (Mods.ofNew hA)
    have hN := hN.trans hA
    clear hW2 hX
    refine ⟨hS, ?_⟩
    simp only [Act.put, List.setIfInBounds_toArray, List.set_cons_succ, List.set_cons_zero]
    refine wpAnyH_all (rs := [3]) (by kernel_rfl) (by simp) ?_
    simp only [List.mem_cons, List.not_mem_nil, or_false, forall_eq]
    have hNb := hN.size
    refine opH_call (some 55) rfl (by rfl) rfl 48 #[.slice va n cap, .func (.func 49) #[] #[.pointer (some ⟨R4, 0, none⟩)]] (by go_simp) ((HT.out _ hN).mono ?_)
    rintro e w1 ⟨v1, rfl, hO, hk⟩
    have hS := hS.trans (Mods.ofNew hk)
    have hN := hN.trans hk
    have rx := hk.heap rx id
    obtain ⟨oa, oc, rfl⟩ := hO.slice
    refine ⟨_, rfl, hS, ?_⟩
    simp only [Act.put, List.setIfInBounds_toArray, List.set_cons_succ, List.set_cons_zero]
    refine wpAnyH_all (rs := [8]) (by kernel_rfl) (by simp) ?_
    simp only [List.mem_cons, List.not_mem_nil, or_false, forall_eq]
    have hlt6 : R6 < w.heap.size := (Array.getElem?_eq_some_iff.1 r6).1
    have hO := hO.mono (base' := w.heap.size) (by have := hNb; omega)
    refine wpOp_append_Wx (c := wcs ⟨s, q, y⟩) (some 60) rfl (by rfl) rfl (.tmp 55) (.tmp 59) rfl rfl rfl rx rfl (wcs_one _) hO (by omega) hN.size ?_
    intro v' W3 hO' hm
    have hm' := hm w (fun _ => False) hN (fun g hg => .inl (hO.lt hg).1)
    obtain ⟨oa', oc', rfl⟩ := hO'.slice
    have hS3 : Mods (fun b => b = R6) w W3 := Mods.ofNew hm'
    refine ⟨hS3, ?_⟩
    simp only [Act.put, List.setIfInBounds_toArray, List.set_cons_succ, List.set_cons_zero]
    refine anyH_take 9 (some 61) (.pointer (some ⟨R6, 1, none⟩)) rfl rfl (by kernel_rfl) (by kernel_rfl) (by kernel_rfl) (fun _ _ _ h => h.elim) (.inl ⟨by rfl, fun W hW => by go_simp⟩) hS3 ?_
    simp only [Act.put, List.setIfInBounds_toArray, List.set_cons_succ, List.set_cons_zero]
    refine wpAnyH_all (rs := [10]) (by kernel_rfl) (by simp) ?_
    simp only [List.mem_cons, List.not_mem_nil, or_false, forall_eq]
    have t6 := hm'.heap r6 id
    obtain ⟨⟨d0, d1⟩, d2, d3⟩ := pc_facts t6
    refine opH_skip none rfl (by rfl) rfl (w' := W3.setCell ⟨R6, 1, none⟩ (.slice oa' (L.length + 1) oc')) (by go_simp) ?_
    have s6 := setCell_heap (i := 1) t6 (.slice oa' (L.length + 1) oc')
    simp only [List.setIfInBounds_toArray, List.set_cons_succ, List.set_cons_zero] at s6
    have hM4 := hS3.trans (setMods W3 R6 1 (.slice oa' (L.length + 1) oc'))
    refine ⟨hM4, ?_⟩
    simp only [Act.put, List.setIfInBounds_toArray, List.set_cons_succ, List.set_cons_zero]
    refine wpAnyH_done (by kernel_rfl) ?_ _
    refine ⟨(fun zz => ([.pointer (some ⟨R3, 1, none⟩), .slice va n cap, .func (.func 49) #[] #[.pointer (some ⟨R4, 0, none⟩)], .slice oa L.length oc, .int .i64 s, .agg #[.int .u8 q, .bool y], .agg #[.int .i64 s, .int .u8 q, .bool y], .slice (some ⟨X, 0, none⟩) 1 1, .slice oa' (L.length + 1) oc', .pointer (some ⟨R6, 1, none⟩)] : List Value).getD (cond (Nat.beq zz 52) 0 (cond (Nat.beq zz 53) 1 (cond (Nat.beq zz 54) 2 (cond (Nat.beq zz 55) 3 (cond (Nat.beq zz 56) 4 (cond (Nat.beq zz 57) 5 (cond (Nat.beq zz 58) 6 (cond (Nat.beq zz 59) 7 (cond (Nat.beq zz 60) 8 (cond (Nat.beq zz 61) 9 (0))))))))))) undef), _, rfl, s6, ?_, hM4⟩
    rw [List.length_append]
    exact (hO'.congr (wf_len (L ++ ([⟨s, q, y⟩] : List WP))) (fun i hi => wf_snoc L ⟨s, q, y⟩ i hi)).mods (setMods W3 R6 1 _) (fun g hg e => by have := (hO'.lt hg).1; omega)
end Go.Proofs.YtkiiameibdhdfaaGreatDoor
/- Update, Open: what is told (the program). -/
namespace Go.Proofs.YtkiiameibdhdfaaGreatDoor
open Go.RowKit Go.Shelf Go.Cs
attribute [local go_sem] Oper.semAt_some
set_option linter.unusedVariables false
set_option linter.unusedSimpArgs false
def faV (wh : Bool) (code : Int) : List Value := [.bool wh, .int .i64 0, .int .u32 code]
theorem results_upd {fn : Func} (h : fn.results = #[.cell 6 26, .tmp 7, .cell 8 31, .cell 9 34]) (tmps : Array Value) (w : World) (R6 R8 R9 : Nat) (c6 c8 c9 : List Value) (v : Value)
    (h6 : tmps.getD 6 undef = .pointer (some ⟨R6, 0, none⟩)) (h7 : tmps.getD 7 undef = v) (h8 : tmps.getD 8 undef = .pointer (some ⟨R8, 0, none⟩)) (h9 : tmps.getD 9 undef = .pointer (some ⟨R9, 0, none⟩))
    (r6 : w.heap[R6]? = some (.cells c6.toArray 26 (0, 0))) (r8 : w.heap[R8]? = some (.cells c8.toArray 31 (0, 0))) (r9 : w.heap[R9]? = some (.cells c9.toArray 34 (0, 0)))
    (l6 : c6.length = 2) (l8 : c8.length = 2) (l9 : c9.length = 3) :
    (results fn tmps).run Tryz.prog w = .ok (.tuple #[.agg c6.toArray, v, .agg c8.toArray, .agg c9.toArray]) w := by
  subst h7
  have h6' : tmps[6]?.getD undef = .pointer (some ⟨R6, 0, none⟩) := by simpa using h6
  have h8' : tmps[8]?.getD undef = .pointer (some ⟨R8, 0, none⟩) := by simpa using h8
  have h9' : tmps[9]?.getD undef = .pointer (some ⟨R9, 0, none⟩) := by simpa using h9
  have e6 := run_loadVar_row w R6 26 26 c6.toArray (0, 0) _ r6 Tryz.underlying26 rfl (by rw [sizeRp]; simp [l6])
  have e8 := run_loadVar_row w R8 31 31 c8.toArray (0, 0) _ r8 Tryz.underlying31 rfl (by rw [sizePr]; simp [l8])
  have e9 := run_loadVar_row w R9 34 34 c9.toArray (0, 0) _ r9 Tryz.underlying34 rfl (by rw [sizeFl]; simp [l9])
  simp [results, h, h6', h8', h9', asAddr, e6, e8, e9, Sem.run_bind]
theorem results_open {fn : Func} (h : fn.results = #[.cell 8 26, .cell 9 31, .tmp 10]) (tmps : Array Value) (w : World) (R8 R9 : Nat) (c8 c9 : List Value) (v : Value)
    (h8 : tmps.getD 8 undef = .pointer (some ⟨R8, 0, none⟩)) (h9 : tmps.getD 9 undef = .pointer (some ⟨R9, 0, none⟩)) (h10 : tmps.getD 10 undef = v)
    (r8 : w.heap[R8]? = some (.cells c8.toArray 26 (0, 0))) (r9 : w.heap[R9]? = some (.cells c9.toArray 31 (0, 0)))
    (l8 : c8.length = 2) (l9 : c9.length = 2) :
    (results fn tmps).run Tryz.prog w = .ok (.tuple #[.agg c8.toArray, .agg c9.toArray, v]) w := by
  subst h10
  have h8' : tmps[8]?.getD undef = .pointer (some ⟨R8, 0, none⟩) := by simpa using h8
  have h9' : tmps[9]?.getD undef = .pointer (some ⟨R9, 0, none⟩) := by simpa using h9
  have e8 := run_loadVar_row w R8 26 26 c8.toArray (0, 0) _ r8 Tryz.underlying26 rfl (by rw [sizeRp]; simp [l8])
  have e9 := run_loadVar_row w R9 31 31 c9.toArray (0, 0) _ r9 Tryz.underlying31 rfl (by rw [sizePr]; simp [l9])
  simp [results, h, h8', h9', asAddr, e8, e9, Sem.run_bind]
end Go.Proofs.YtkiiameibdhdfaaGreatDoor
/- Update (the program). -/
namespace Go.Proofs.YtkiiameibdhdfaaGreatDoor
open Go.RowKit Go.Shelf Go.Cs
attribute [local go_sem] Oper.semAt_some
set_option linter.unusedVariables false
set_option linter.unusedSimpArgs false
/-- The boxes of Update. -/
structure UpR (W : World) (B : Nat) (l s : Int) (v : Value) (o p q f : List Value) : Prop where
  hp : W.heap[B]? = some (.cells #[.int .i64 l, v] 26 (0, 0))
  hs : Boxed W (B + 1) 3 (.int .i64 s)
  ho : W.heap[B + 2]? = some (.cells o.toArray 26 (0, 0))
  hr : W.heap[B + 3]? = some (.cells p.toArray 31 (0, 0))
  hf : W.heap[B + 4]? = some (.cells f.toArray 34 (0, 0))
  hq : W.heap[B + 5]? = some (.cells q.toArray 31 (0, 0))
theorem UpR.new {W W' : World} {B : Nat} {l s : Int} {v : Value} {o p q f : List Value} (h : UpR W B l s v o p q f) (hN : New W W') : UpR W' B l s v o p q f :=
  ⟨hN.heap h.hp id, hN.boxed h.hs id, hN.heap h.ho id, hN.heap h.hr id, hN.heap h.hf id, hN.heap h.hq id⟩
theorem UpR.made (w : World) (l s : Int) (v : Value) (o p q f : List Value) :
    UpR ((((((w.alloc (.cells #[.int .i64 l, v] 26)).alloc (.cells #[.int .i64 s] 3)).alloc (.cells o.toArray 26)).alloc (.cells p.toArray 31)).alloc (.cells f.toArray 34)).alloc (.cells q.toArray 31)) w.heap.size l s v o p q f := by
  have a := fun (W : World) (ob : Obj) => (Mods.refl (fun _ => False) W).alloc ob
  obtain ⟨w1, e1⟩ : ∃ V, w.alloc (.cells #[.int .i64 l, v] 26) = V := ⟨_, rfl⟩
  have r1 := World.alloc_heap_new w (.cells #[.int .i64 l, v] 26)
  have s1 : w1.heap.size = w.heap.size + 1 := by rw [← e1]; simp
  rw [e1] at r1 ⊢
  obtain ⟨w2, e2⟩ : ∃ V, w1.alloc (.cells #[.int .i64 s] 3) = V := ⟨_, rfl⟩
  have r2 := World.alloc_heap_new w1 (.cells #[.int .i64 s] 3)
  have s2 : w2.heap.size = w.heap.size + 2 := by rw [← e2]; simp; omega
  have n2 := a w1 (.cells #[.int .i64 s] 3)
  rw [e2] at r2 n2 ⊢
  obtain ⟨w3, e3⟩ : ∃ V, w2.alloc (.cells o.toArray 26) = V := ⟨_, rfl⟩
  have r3 := World.alloc_heap_new w2 (.cells o.toArray 26)
  have s3 : w3.heap.size = w.heap.size + 3 := by rw [← e3]; simp; omega
  have n3 := a w2 (.cells o.toArray 26)
  rw [e3] at r3 n3 ⊢
  obtain ⟨w4, e4⟩ : ∃ V, w3.alloc (.cells p.toArray 31) = V := ⟨_, rfl⟩
  have r4 := World.alloc_heap_new w3 (.cells p.toArray 31)
  have s4 : w4.heap.size = w.heap.size + 4 := by rw [← e4]; simp; omega
  have n4 := a w3 (.cells p.toArray 31)
  rw [e4] at r4 n4 ⊢
  obtain ⟨w5, e5⟩ : ∃ V, w4.alloc (.cells f.toArray 34) = V := ⟨_, rfl⟩
  have r5 := World.alloc_heap_new w4 (.cells f.toArray 34)
  have s5 : w5.heap.size = w.heap.size + 5 := by rw [← e5]; simp; omega
  have n5 := a w4 (.cells f.toArray 34)
  rw [e5] at r5 n5 ⊢
  have r6 := World.alloc_heap_new w5 (.cells q.toArray 31)
  have n6 := a w5 (.cells q.toArray 31)
  rw [s1] at r2
  rw [s2] at r3
  rw [s3] at r4
  rw [s4] at r5
  rw [s5] at r6
  exact ⟨n6.heap (n5.heap (n4.heap (n3.heap (n2.heap r1 id) id) id) id) id, n6.boxed (n5.boxed (n4.boxed (n3.boxed r2 id) id) id) id, n6.heap (n5.heap (n4.heap r3 id) id) id, n6.heap (n5.heap r4 id) id, n6.heap r5 id, r6⟩
/-- The first stores: o and the priority. -/
theorem UpR.first {W : World} {B : Nat} {l s : Int} {v : Value} {a b c d a' b' c' d' : Value} {q f : List Value} (h : UpR W B l s v [a, b] [c, d] q f) :
    UpR ((((W.setCell ⟨B + 2, 0, none⟩ a').setCell ⟨B + 2, 1, none⟩ b').setCell ⟨B + 3, 0, none⟩ c').setCell ⟨B + 3, 1, none⟩ d') B l s v [a', b'] [c', d'] q f ∧
      Mods (fun x => x = B + 2 ∨ x = B + 3) W ((((W.setCell ⟨B + 2, 0, none⟩ a').setCell ⟨B + 2, 1, none⟩ b').setCell ⟨B + 3, 0, none⟩ c').setCell ⟨B + 3, 1, none⟩ d') := by
  have hM1 := (setMods W (B + 2) 0 a').trans (setMods _ (B + 2) 1 b')
  have o2 := setCell_heap (i := 1) (setCell_heap (i := 0) h.ho a') b'
  simp only [List.setIfInBounds_toArray, List.set_cons_succ, List.set_cons_zero] at o2
  have hr1 := hM1.heap h.hr (by omega)
  obtain ⟨W1, hW1⟩ : ∃ V, (W.setCell ⟨B + 2, 0, none⟩ a').setCell ⟨B + 2, 1, none⟩ b' = V := ⟨_, rfl⟩
  rw [hW1] at hM1 o2 hr1 ⊢
  have hM2 := (setMods W1 (B + 3) 0 c').trans (setMods _ (B + 3) 1 d')
  have r2 := setCell_heap (i := 1) (setCell_heap (i := 0) hr1 c') d'
  simp only [List.setIfInBounds_toArray, List.set_cons_succ, List.set_cons_zero] at r2
  have hM : Mods (fun x => x = B + 2 ∨ x = B + 3) W _ := (hM1.mono fun x hx => .inl hx).trans (hM2.mono fun x hx => .inr hx)
  exact ⟨⟨hM.heap h.hp (by omega), hM.boxed h.hs (by omega), hM2.heap o2 (by omega), r2, hM.heap h.hf (by omega), hM.heap h.hq (by omega)⟩, hM⟩
/-- The last four. -/
def lastN (l : List WP) : List WP := l.drop (l.length - 4)
/-- What comes of an update: what waits, what it was, the priority, the fault (of all?, its code). -/
def updP (l : Int) (d : List WP) (s : Int) (r : Option (Nat × Bool)) : List WP × Nat × (Nat × Bool) × (Bool × Nat) :=
  if rightP l d = false then (d, 0, (3, false), (false, 0))
  else if s < 1 ∨ s % 2 = 0 then (d, 0, (3, false), (true, 1))
  else match r with
    | none => (d, 0, (3, false), (false, 0))
    | some q => if l < s ∧ withinP l s = false then (d, 0, (3, false), (false, 0)) else if s ≤ l then (d, 2, q, (false, 0)) else (lastN ((d.filter fun x => !decide (x.s = s)) ++ [⟨s, q.1, q.2⟩]), 1, q, (false, 0))
def updE (l : Int) (v : Value) (r : List WP × Nat × (Nat × Bool) × (Bool × Nat)) : Ending := .returned (.tuple #[.agg #[.int .i64 l, v], .int .u8 r.2.1, .agg #[.int .u8 r.2.2.1.1, .bool r.2.2.1.2], .agg (faV r.2.2.2.1 r.2.2.2.2).toArray])
end Go.Proofs.YtkiiameibdhdfaaGreatDoor
/- Update (the program). -/
namespace Go.Proofs.YtkiiameibdhdfaaGreatDoor
open Go.RowKit Go.Shelf Go.Cs
attribute [local go_sem] Oper.semAt_some
set_option linter.unusedVariables false
set_option linter.unusedSimpArgs false
/-- The priority that a text tells. -/
def readP (T : ByteArray) : Option (Nat × Bool) := (Bare.parseD (bl T)).map fun d => ((Bare.urgOf d).toNat, Bare.incOf d)
theorem urg_bounds (d : List Bare.Mem) : 0 ≤ Bare.urgOf d ∧ Bare.urgOf d ≤ 7 := by
  unfold Bare.urgOf
  split
  · split
    · rename_i h; exact ⟨h.2.1, h.2.2⟩
    · decide
  · decide
theorem read_p (T : ByteArray) (w : World) (hs : T.size ≤ 1000000) (hT : Tab w) :
    Calls Tryz.prog 38 #[.string T] w fun e w' => e = .returned (.tuple #[.agg #[.int .u8 ((readP T).getD (3, false)).1, .bool ((readP T).getD (3, false)).2], .bool (readP T).isSome]) ∧ New w w' :=
  (read_u T w hs hT).mono fun e w' ⟨he, hN⟩ => by
    refine ⟨?_, hN⟩
    rw [he]
    unfold readP prV
    cases Bare.parseD (bl T) with
    | none => rfl
    | some d =>
      have := (urg_bounds d).1
      simp only [Option.map_some, Option.getD_some, Option.isSome_some]
      rw [Int.toNat_of_nonneg this]
end Go.Proofs.YtkiiameibdhdfaaGreatDoor
/- What comes of an update keeps the bounds, plainly. -/
namespace Go.Proofs.YtkiiameibdhdfaaGreatDoor
open Go.RowKit Go.Shelf Go.Cs
set_option linter.unusedVariables false
set_option linter.unusedSimpArgs false
theorem right_facts {l : Int} {d : List WP} (h : rightP l d = true) : 0 ≤ l ∧ l < 2147483648 ∧ d.length ≤ 4 ∧ (d.map (·.s)).Nodup ∧ ∀ x ∈ d, (0 < x.s ∧ x.s < 2147483648 ∧ x.s % 2 = 1) ∧ l < x.s ∧ x.s - l ≤ 16 ∧ x.u ≤ 7 := by
  unfold rightP at h
  simp only [Bool.and_eq_true, Bool.or_eq_true, decide_eq_true_eq, List.all_eq_true] at h
  obtain ⟨h1, h2, h3, h4⟩ := h
  have hl : 0 ≤ l ∧ l < 2147483648 := by
    rcases h1 with rfl | h1
    · decide
    · have := odd_facts h1; omega
  have hn := (kN_all d d.length (Nat.le_refl _)).1 h3
  rw [List.take_length] at hn
  refine ⟨hl.1, hl.2, h2, hn, fun x hx => ?_⟩
  have := h4 x hx
  unfold okW withinP at this
  simp only [Bool.and_eq_true, decide_eq_true_eq] at this
  exact ⟨odd_facts this.1.1, this.1.2.1, this.1.2.2, this.2⟩
theorem uniq_s : ∀ {d : List WP}, (d.map (·.s)).Nodup → ∀ {x y : WP}, x ∈ d → y ∈ d → x.s = y.s → x = y
  | [], _, x, y, hx, _, _ => by cases hx
  | a :: d, h, x, y, hx, hy, e => by
    rw [List.map_cons, List.nodup_cons] at h
    rcases List.mem_cons.1 hx with e1 | h1 <;> rcases List.mem_cons.1 hy with e2 | h2
    · rw [e1, e2]
    · exact (h.1 (List.mem_map.2 ⟨y, h2, by rw [← e, e1]⟩)).elim
    · exact (h.1 (List.mem_map.2 ⟨x, h1, by rw [e, e2]⟩)).elim
    · exact uniq_s h.2 h1 h2 e
theorem wait_own {l : Int} {d : List WP} (h : rightP l d = true) {x : WP} (hx : x ∈ d) : waitP l d x.s = some x := by
  obtain ⟨-, -, -, hn, -⟩ := right_facts h
  unfold waitP
  rw [if_pos h]
  cases hf : d.reverse.find? (fun y => decide (y.s = x.s)) with
  | none =>
    have := List.find?_eq_none.1 hf x (List.mem_reverse.2 hx)
    simp at this
  | some y =>
    have h1 := List.mem_of_find?_eq_some hf
    have h2 := List.find?_some hf
    rw [uniq_s hn (List.mem_reverse.1 h1) hx (by simpa using h2)]
theorem filter_ne_len : ∀ {d : List WP} (s : Int), (d.map (·.s)).Nodup → d.length ≤ (d.filter fun x => !decide (x.s = s)).length + 1
  | [], _, _ => by simp
  | a :: d, s, h => by
    rw [List.map_cons, List.nodup_cons] at h
    rw [List.filter_cons]
    by_cases e : a.s = s
    · rw [if_neg (by simp [e])]
      have : d.filter (fun x => !decide (x.s = s)) = d := List.filter_eq_self.2 (fun x hx => by
        have : x.s ≠ s := fun e2 => h.1 (List.mem_map.2 ⟨x, hx, by rw [e2, e]⟩)
        simp [this])
      rw [this]; simp
    · rw [if_pos (by simp [e])]
      have := filter_ne_len s h.2
      simp only [List.length_cons]
      omega
/-- What an update leaves. -/
theorem upd_bound {l s : Int} {d : List WP} (h : rightP l d = true) (r : Option (Nat × Bool)) :
    (updP l d s r).1.length ≤ 4 ∧ (∀ x ∈ (updP l d s r).1, l < x.s ∧ x.s ≤ l + 16 ∧ (x.s ≠ s → waitP l d x.s = some x)) ∧ ((updP l d s r).2.1 ≠ 1 → (updP l d s r).1 = d) ∧
      ((updP l d s r).2.1 = 1 → ∃ L, (updP l d s r).1 = L ++ [⟨s, (updP l d s r).2.2.1.1, (updP l d s r).2.2.1.2⟩] ∧ (L.length + 1 = 4 ∨ d.length ≤ L.length + 1)) := by
  obtain ⟨h0, h1, h2, h3, h4⟩ := right_facts h
  have hold : d.length ≤ 4 ∧ (∀ x ∈ d, l < x.s ∧ x.s ≤ l + 16 ∧ (x.s ≠ s → waitP l d x.s = some x)) := ⟨h2, fun x hx => ⟨(h4 x hx).2.1, by have := (h4 x hx).2.2.1; omega, fun _ => wait_own h hx⟩⟩
  unfold updP
  rw [if_neg (by rw [h]; decide)]
  split
  · exact ⟨hold.1, hold.2, fun _ => rfl, fun e => by cases e⟩
  · cases r with
    | none => exact ⟨hold.1, hold.2, fun _ => rfl, fun e => by cases e⟩
    | some q =>
      simp only
      split
      · exact ⟨hold.1, hold.2, fun _ => rfl, fun e => by cases e⟩
      · rename_i hw
        split
        · exact ⟨hold.1, hold.2, fun _ => rfl, fun e => by cases e⟩
        · rename_i hsl
          have hls : l < s := by omega
          have hwi : withinP l s = true := by
            cases hb : withinP l s with
            | true => rfl
            | false => exact absurd ⟨hls, hb⟩ hw
          unfold withinP at hwi
          simp only [Bool.and_eq_true, decide_eq_true_eq] at hwi
          obtain ⟨f, hf⟩ : ∃ f, d.filter (fun x => !decide (x.s = s)) = f := ⟨_, rfl⟩
          have hfl : f.length ≤ d.length := by rw [← hf]; exact List.length_filter_le _ _
          have hfn := filter_ne_len s h3
          rw [hf] at hfn
          have hfm : ∀ x ∈ f, x ∈ d := fun x hx => by rw [← hf] at hx; exact (List.mem_filter.1 hx).1
          simp only [hf]
          have hL : lastN (f ++ [(⟨s, q.1, q.2⟩ : WP)]) = f.drop (f.length + 1 - 4) ++ [⟨s, q.1, q.2⟩] := by
            unfold lastN
            rw [List.length_append, List.drop_append_of_le_length (by simp <;> omega)]
            rfl
          rw [hL]
          refine ⟨by simp; omega, fun x hx => ?_, fun e => absurd rfl e, fun _ => ⟨_, rfl, by simp; omega⟩⟩
          rcases List.mem_append.1 hx with hx | hx
          · exact hold.2 x (hfm x (List.mem_of_mem_drop hx))
          · rw [List.mem_singleton] at hx
            subst hx
            exact ⟨hls, by have := hwi.2.2; show s ≤ l + 16; omega, fun e => absurd rfl e⟩
end Go.Proofs.YtkiiameibdhdfaaGreatDoor
