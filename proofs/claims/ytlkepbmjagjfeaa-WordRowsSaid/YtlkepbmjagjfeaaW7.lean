/- What the document says of two slots. -/
import Derived.Test.YtlkepbmjagjfeaaW6
namespace Go.Proofs.Ytlkepbmjagjfeaa
open Go.RowKit Go.Shelf Go.Cs
attribute [local go_sem] Oper.semAt_some
theorem k_push1 (w : World) : Calls Try.prog 8 #[.int .u64 0, .int .i64 2, .int .i64 3] w fun e w' => e = .returned (.tuple #[.int .u64 1152921504606847066, .bool true]) ∧ New w w' := by
  have h := push_any 0 2 3 (by decide) (by decide) (by decide) (by decide) (by decide) w
  rwa [show pushF 0 2 3 = (1152921504606847066, true) by decide +kernel] at h
theorem k_push2 (w : World) : Calls Try.prog 8 #[.int .u64 1152921504606847066, .int .i64 5, .int .i64 1] w fun e w' => e = .returned (.tuple #[.int .u64 2305843009213705549, .bool true]) ∧ New w w' := by
  have h := push_any 1152921504606847066 5 1 (by decide) (by decide) (by decide) (by decide) (by decide) w
  rwa [show pushF 1152921504606847066 5 1 = (2305843009213705549, true) by decide +kernel] at h
theorem k_push3 (w : World) : Calls Try.prog 8 #[.int .u64 2305843009213705549, .int .i64 2, .int .i64 0] w fun e w' => e = .returned (.tuple #[.int .u64 2305843009213705549, .bool false]) ∧ New w w' := by
  have h := push_any 2305843009213705549 2 0 (by decide) (by decide) (by decide) (by decide) (by decide) w
  rwa [show pushF 2305843009213705549 2 0 = (2305843009213705549, false) by decide +kernel] at h
theorem k_best1 (w : World) : Calls Try.prog 10 #[.int .u64 2305843009213705549] w fun e w' => e = .returned (.tuple #[.int .u64 1152921504606847066, .int .i64 5, .bool true]) ∧ New w w' := by
  have h := best_any 2305843009213705549 (by decide) w
  rwa [show bestF 2305843009213705549 = (1152921504606847066, 5, true) by decide +kernel] at h
theorem k_best2 (w : World) : Calls Try.prog 10 #[.int .u64 0] w fun e w' => e = .returned (.tuple #[.int .u64 0, .int .i64 0, .bool false]) ∧ New w w' := by
  have h := best_any 0 (by decide) w
  rwa [show bestF 0 = (0, 0, false) by decide +kernel] at h
theorem k_turn (w : World) : Calls Try.prog 11 #[.int .u64 2305843009213705549, .int .i64 2, .int .i64 0] w fun e w' => e = .returned (.tuple #[.int .u64 2305843009213703874, .bool true]) ∧ New w w' := by
  have h := turn_any 2305843009213705549 2 0 (by decide) (by decide) (by decide) (by decide) (by decide) w
  rwa [show turnF 2305843009213705549 2 0 = (2305843009213703874, true) by decide +kernel] at h
theorem k_out (w : World) : Calls Try.prog 12 #[.int .u64 2305843009213705549, .int .i64 5] w fun e w' => e = .returned (.tuple #[.int .u64 1152921504606847066, .bool true]) ∧ New w w' := by
  have h := out_any 2305843009213705549 5 (by decide) w
  rwa [show outF 2305843009213705549 5 = (1152921504606847066, true) by decide +kernel] at h
theorem k_at (w : World) : Calls Try.prog 19 #[.int .u64 2305843009213703874, .int .i64 0] w fun e w' => e = .returned (.tuple #[.int .i64 2, .int .i64 0, .bool true]) ∧ New w w' := by
  have h := at_any' 2305843009213703874 0 (by decide) w
  rwa [show atF 2305843009213703874 0 = (2, 0, true) by decide +kernel] at h
theorem k_find (w : World) : Calls Try.prog 20 #[.int .u64 2305843009213705549, .int .i64 2] w fun e w' => e = .returned (.tuple #[.int .i64 1, .bool true]) ∧ New w w' := by
  have h := find_any 2305843009213705549 2 (by decide) w
  rwa [show findK 2305843009213705549 2 = some 1 by decide +kernel] at h
theorem k_many (w : World) : Calls Try.prog 17 #[.int .u64 2305843009213705549] w fun e w' => e = .returned (.int .i64 2) ∧ New w w' := by
  have h := many_any 2305843009213705549 (by decide) w
  rwa [show manyN 2305843009213705549 = 2 by decide +kernel] at h
theorem k_right (w : World) : Calls Try.prog 18 #[.int .u64 2305843009213705549] w fun e w' => e = .returned (.bool true) ∧ New w w' := by
  have h := right_any 2305843009213705549 (by decide) w
  rwa [show rightB 2305843009213705549 = true by decide +kernel] at h
theorem k_wrong (w : World) : Calls Try.prog 18 #[.int .u64 1] w fun e w' => e = .returned (.bool false) ∧ New w w' := by
  have h := right_any 1 (by decide) w
  rwa [show rightB 1 = false by decide +kernel] at h
def RowsK (w : World) (e : Ending) (w' : World) : Prop := ∃ v0 v1 v2 v3 v4 v5 v6 v7, e = .returned (.agg #[v0, v1, v2, v3, v4, v5, v6, v7]) ∧ (∀ u, u < 8 → ReadsI .i64 w' ([v0, v1, v2, v3, v4, v5, v6, v7].getD u undef) (rowsF 2305843009213705549 u)) ∧ New w w'
theorem k_rows (w : World) : Calls Try.prog 15 #[.int .u64 2305843009213705549] w (RowsK w) := by
  refine (rows_any 2305843009213705549 (by decide) w).mono fun e w' h => ?_
  obtain ⟨v, rfl, ⟨vs, rfl, hl, hr⟩, hN⟩ := h
  match vs, hl with
  | [v0, v1, v2, v3, v4, v5, v6, v7], _ => exact ⟨v0, v1, v2, v3, v4, v5, v6, v7, rfl, fun u hu => .ofOwns (hr u hu), hN⟩
theorem k_of (v0 v1 v2 v3 v4 v5 v6 v7 : Value) (w : World) (h : ∀ u, u < 8 → ReadsI .i64 w ([v0, v1, v2, v3, v4, v5, v6, v7].getD u undef) (rowsF 2305843009213705549 u)) :
    Calls Try.prog 16 #[.agg #[v0, v1, v2, v3, v4, v5, v6, v7]] w fun e w' => e = .returned (.tuple #[.int .u64 2305843009213705549, .bool true]) ∧ New w w' := by
  have h := of_any [v0, v1, v2, v3, v4, v5, v6, v7] rfl (rowsF 2305843009213705549) (fun u s hs => by
    have e : rowsF 2305843009213705549 u = rowsX 2305843009213705549 2 u := by unfold rowsF; rw [show rightB 2305843009213705549 = true by decide +kernel]; rfl
    rw [e, rowsX, List.mem_map] at hs
    obtain ⟨j, _, rfl⟩ := hs
    omega) w h
  rwa [show ofF (rowsF 2305843009213705549) = (2305843009213705549, true) by decide +kernel] at h
set_option maxRecDepth 1000000 in
set_option maxHeartbeats 4000000 in
theorem wakes_any (w : World) : Calls Try.prog 6 #[] w fun e w' => e = .returned (.bool true) ∧ New w w' := by
  go_enter Try.func6, Try.ntmps6
  go_wp2_with fail
  refine (k_push1 _).mono ?_
  rintro e w1 ⟨rfl, h1⟩
  go_wp2_with fail
  refine (k_push2 _).mono ?_
  rintro e w2 ⟨rfl, h2⟩
  go_wp2_with fail
  refine (k_push3 _).mono ?_
  rintro e w3 ⟨rfl, h3⟩
  go_wp2_with fail
  refine (k_best1 _).mono ?_
  rintro e w4 ⟨rfl, h4⟩
  go_wp2_with fail
  refine (k_best2 _).mono ?_
  rintro e w5 ⟨rfl, h5⟩
  go_wp2_with fail
  refine (k_turn _).mono ?_
  rintro e w6 ⟨rfl, h6⟩
  go_wp2_with fail
  refine (k_out _).mono ?_
  rintro e w7 ⟨rfl, h7⟩
  go_wp2_with fail
  refine (k_at _).mono ?_
  rintro e w8 ⟨rfl, h8⟩
  go_wp2_with fail
  refine (k_find _).mono ?_
  rintro e w9 ⟨rfl, h9⟩
  have hN := (((((((h1.trans h2).trans h3).trans h4).trans h5).trans h6).trans h7).trans h8).trans h9
  clear h1 h2 h3 h4 h5 h6 h7 h8 h9
  go_wp2_with fail
  refine (k_rows _).mono ?_
  rintro e w10 ⟨v0, v1, v2, v3, v4, v5, v6, v7, rfl, hr, h10⟩
  have hN := hN.trans h10
  clear h10
  have Hr := Lib.hid hr
  clear hr
  have hone : ∀ v ∈ [v0, v1, v2, v3, v4, v5, v6, v7], v.oneCell' = true := by
    intro v hv
    simp only [List.mem_cons, List.not_mem_nil, or_false] at hv
    rcases hv with rfl | rfl | rfl | rfl | rfl | rfl | rfl | rfl
    · exact (Hr.out 0 (by decide)).one
    · exact (Hr.out 1 (by decide)).one
    · exact (Hr.out 2 (by decide)).one
    · exact (Hr.out 3 (by decide)).one
    · exact (Hr.out 4 (by decide)).one
    · exact (Hr.out 5 (by decide)).one
    · exact (Hr.out 6 (by decide)).one
    · exact (Hr.out 7 (by decide)).one
  go_wp2_with (refine op_skip rfl (run_store_new 26 (.tmp 22) (.tmp 72) rfl 26 [.slice none 0 0, .slice none 0 0, .slice none 0 0, .slice none 0 0, .slice none 0 0, .slice none 0 0, .slice none 0 0, .slice none 0 0] [v0, v1, v2, v3, v4, v5, v6, v7] rfl rfl info26 rfl hone) ?_)
  obtain ⟨B, hB⟩ : ∃ B, w10.heap.size = B := ⟨_, rfl⟩
  obtain ⟨W, hW⟩ : ∃ W, w10.alloc (.cells #[v0, v1, v2, v3, v4, v5, v6, v7] 26) = W := ⟨_, rfl⟩
  have hh : W.heap[B]? = some (.cells #[v0, v1, v2, v3, v4, v5, v6, v7] 26 (0, 0)) := by rw [← hW, ← hB]; exact World.alloc_heap_new w10 _
  have hNW : New w10 W := by rw [← hW]; exact (Mods.refl _ _).alloc _
  have Hr' := Lib.hid (fun u hu => (Hr.out u hu).new hNW)
  rw [hW, hB]
  have hN := hN.trans hNW
  clear hNW hW hB Hr
  obtain ⟨_, ao3, cap3, h3, _⟩ := Hr'.out 3 (by decide)
  obtain ⟨_, ao1, cap1, h1, _⟩ := Hr'.out 1 (by decide)
  rw [show (rowsF 2305843009213705549 3).length = 1 by decide +kernel] at h3
  rw [show (rowsF 2305843009213705549 1).length = 1 by decide +kernel] at h1
  simp at h3 h1
  subst h3 h1
  go_wp2_with (refine op_value rfl (run_load_row 26 (.tmp 22) rfl B rfl 26 _ (0, 0) _ hh Try.underlying26 rfl info26) ?_)
  refine (k_of _ _ _ _ _ _ _ _ _ Hr'.out).mono ?_
  rintro e w12 ⟨rfl, h12⟩
  have hN := hN.trans h12
  have hh := h12.heap hh id
  have hc3 : w12.cell? ⟨B, 3, none⟩ = some (.slice ao3 1 cap3) := cell_of_row w12 B 3 _ 26 _ hh
  have hc1 : w12.cell? ⟨B, 1, none⟩ = some (.slice ao1 1 cap1) := cell_of_row w12 B 1 _ 26 _ hh
  clear h12 hh Hr' hone
  go_wp2_with fail
  refine (k_many _).mono ?_
  rintro e w13 ⟨rfl, h13⟩
  have hN := hN.trans h13
  clear h13 hc3 hc1
  go_wp2_with fail
  refine (k_right _).mono ?_
  rintro e w14 ⟨rfl, h14⟩
  have hN := hN.trans h14
  clear h14
  go_wp2_with fail
  refine (k_wrong _).mono ?_
  rintro e w15 ⟨rfl, h15⟩
  have hN := hN.trans h15
  clear h15
  go_wp2_with fail
  go_ret
  exact ⟨rfl, hN⟩
end Go.Proofs.Ytlkepbmjagjfeaa
