/- What the document tells of two threads, walked: as far as the machines. -/
import Derived.Test.YtkjloeefcaadlaaP30
set_option linter.unusedSimpArgs false
set_option linter.unusedVariables false
namespace Go.Proofs.Ytkjloeefcaadlaa
open Go.RowKit Go.Shelf Go.Cs
attribute [local go_sem] Oper.semAt_some
def wlC : List Value := [.int .u8 1, .int .i64 3, .int .i64 2, .int .u8 2, .int .i64 0, .int .i64 0]
theorem wl_reads {W : World} {b : Nat} (h : W.heap[b]? = some (.cells wlC.toArray 93 (0, 0))) : ReadsE W (.slice (some ⟨b, 0, none⟩) 2 2) wl := by
  refine ⟨by decide, _, 2, rfl, fun i hi => ⟨b, 0, rfl, fun j v hv => ?_⟩⟩
  have : i = 0 ∨ i = 1 := by have : i < 2 := hi; omega
  rw [cell_of_row _ _ _ _ _ _ h]
  rcases this with rfl | rfl
  · match j, hv with
    | 0, hv => exact hv
    | 1, hv => exact hv
    | 2, hv => exact hv
  · match j, hv with
    | 0, hv => exact hv
    | 1, hv => exact hv
    | 2, hv => exact hv
theorem MBM.new {W W' : World} {M : Nat} {m : Ma} (h : MBM W M m) (hN : New W W') : MBM W' M m := h.mods hN id fun _ f => f.elim
theorem many_wl : ∀ k, k ≤ [wl, wl].length → manyTo [wl, wl] k ≤ 4000000000000000000 := by
  intro k hk
  have : k = 0 ∨ k = 1 ∨ k = 2 := by have : k ≤ 2 := hk; omega
  rcases this with rfl | rfl | rfl <;> decide
theorem ints_read {W : World} {b : Nat} {xs : List Int} (h : W.heap[b]? = some (.cells (xs.map (Value.int .i64)).toArray 3 (0, 0))) (hl : xs.length ≤ 9223372036854775807) : ReadsI .i64 W (.slice (some ⟨b, 0, none⟩) xs.length xs.length) xs := by
  refine ⟨hl, _, xs.length, rfl, fun i hi => ⟨b, 0, rfl, ?_⟩⟩
  rw [cell_of_row _ _ _ _ _ _ h]
  simp [List.getD, hi]
set_option maxRecDepth 100000 in
set_option maxHeartbeats 8000000 in
theorem wakes_any (w : World) : Calls Try.prog 47 #[] w fun e w' => e = .returned (.bool true) ∧ New w w' := by
  have HNew := Lib.hid new_S
  have HRun := Lib.hid run_S
  have HStep := Lib.hid step_S
  go_enter Try.func47, Try.ntmps47
  go_wp2_with fail
  have hL0 := World.alloc_heap_new w (.cells wlC.toArray 93)
  have hNa : New (w.alloc (.cells wlC.toArray 93)) ((w.alloc (.cells wlC.toArray 93)).alloc (.cells #[.slice (some ⟨w.heap.size, 0, none⟩) 2 2, .slice (some ⟨w.heap.size, 0, none⟩) 2 2] 85)) := (Mods.refl _ _).alloc _
  have hLL := World.alloc_heap_new (w.alloc (.cells wlC.toArray 93)) (.cells #[.slice (some ⟨w.heap.size, 0, none⟩) 2 2, .slice (some ⟨w.heap.size, 0, none⟩) 2 2] 85)
  rw [World.size_alloc] at hLL
  have hL := hNa.heap hL0 id
  have hN : New w ((w.alloc (.cells wlC.toArray 93)).alloc (.cells #[.slice (some ⟨w.heap.size, 0, none⟩) 2 2, .slice (some ⟨w.heap.size, 0, none⟩) 2 2] 85)) := ((Mods.refl _ _).alloc _).trans hNa
  obtain ⟨W0, hW0⟩ : ∃ W, (w.alloc (.cells wlC.toArray 93)).alloc (.cells #[.slice (some ⟨w.heap.size, 0, none⟩) 2 2, .slice (some ⟨w.heap.size, 0, none⟩) 2 2] 85) = W := ⟨_, rfl⟩
  have hW0' : (w.alloc (.cells #[.int .u8 1, .int .i64 3, .int .i64 2, .int .u8 2, .int .i64 0, .int .i64 0] 93)).alloc (.cells #[.slice (some ⟨w.heap.size, 0, none⟩) 2 2, .slice (some ⟨w.heap.size, 0, none⟩) 2 2] 85) = W0 := hW0
  obtain ⟨LB, hLB⟩ : ∃ LB, w.heap.size = LB := ⟨_, rfl⟩
  rw [hW0] at hL hLL hN
  rw [hW0']
  rw [hLB] at hL hLL ⊢
  have hwLB : w.heap.size ≤ LB := by omega
  clear hW0 hW0' hNa hL0 hLB
  have hRL : ReadsLs W0 (.slice (some ⟨LB + 1, 0, none⟩) 2 2) [wl, wl] := ⟨by decide, _, 2, rfl, fun i hi => ⟨LB + 1, 0, .slice (some ⟨LB, 0, none⟩) 2 2, rfl, by
    have : i = 0 ∨ i = 1 := by have : i < 2 := hi; omega
    rw [cell_of_row _ _ _ _ _ _ hLL]
    rcases this with rfl | rfl <;> rfl, by
    have : i = 0 ∨ i = 1 := by have : i < 2 := hi; omega
    rcases this with rfl | rfl <;> exact wl_reads hL⟩⟩
  clear hLL
  refine (HNew.out 0 _ [wl, wl] W0 (by decide) hRL many_wl).mono ?_
  rintro e w1 ⟨v', rfl, hR, hN1⟩
  rw [wk_ok] at hR ⊢
  rw [if_pos rfl] at hR
  obtain ⟨tv, hh, lv, rfl, hR⟩ := hR
  replace hR : MaR w1 wm0 tv hh lv := hR
  rw [show newM 0 [wl, wl] = wm0 from rfl]
  have hL1 := hN1.heap hL id
  have hNw := hN.trans hN1
  have hone := maV_oneR hR
  have hNb : New w1 (w1.alloc (.cells (maV wm0 tv hh).toArray 77)) := (Mods.refl _ _).alloc _
  have hX := World.alloc_heap_new w1 (.cells (maV wm0 tv hh).toArray 77)
  clear hRL hL hN hN1
  go_upto_region 3 with (refine op_skip rfl (run_store_new 77 (.tmp 2) (.tmp 21) rfl 77 [.int .u64 0, .int .i64 0, .slice none 0 0, .slice none 0 0] (maV wm0 tv hh) rfl rfl info77 rfl hone) ?_)
  have hM0 : MBM (w1.alloc (.cells (maV wm0 tv hh).toArray 77)) w1.heap.size wm0 := ⟨tv, hh, lv, hX, hR.new hNb⟩
  have hL2 := hNb.heap hL1 id
  have hN2 := hNw.trans hNb
  obtain ⟨W1, hW1⟩ : ∃ W, w1.alloc (.cells (maV wm0 tv hh).toArray 77) = W := ⟨_, rfl⟩
  obtain ⟨M0, hM0'⟩ : ∃ M, w1.heap.size = M := ⟨_, rfl⟩
  rw [hW1] at hM0 hL2 hN2 ⊢
  rw [hM0'] at hM0 ⊢
  clear hW1 hM0' hX hNb hR hone hL1 hNw
  obtain ⟨tv, hh, lv, hB, hR⟩ := hM0
  have hB' : W1.heap[M0]? = some (.cells (maV wm0 tv hh).toArray 77 (0, 0)) := hB
  have hl77 : (Try.prog.info? 77).map (·.size) = some (maV wm0 tv hh).toArray.size := info77
  have hP := World.alloc_heap_new W1 (.cells ([0, 1, 0, 1, 1, 1].map (Value.int .i64)).toArray 3)
  have hNp : New W1 (W1.alloc (.cells ([0, 1, 0, 1, 1, 1].map (Value.int .i64)).toArray 3)) := (Mods.refl _ _).alloc _
  go_wp2_with (refine op_value rfl (run_load_row 77 (.tmp 2) rfl M0 rfl 77 (maV wm0 tv hh).toArray (0, 0) _ hB' Try.underlying77 rfl hl77) ?_)
  obtain ⟨Wp, hWp⟩ : ∃ W, W1.alloc (.cells ([0, 1, 0, 1, 1, 1].map (Value.int .i64)).toArray 3) = W := ⟨_, rfl⟩
  have hWp' : W1.alloc (.cells #[.int .i64 0, .int .i64 1, .int .i64 0, .int .i64 1, .int .i64 1, .int .i64 1] 3) = Wp := hWp
  rw [hWp] at hP hNp
  rw [hWp']
  refine (HRun.out _ _ wm0 [0, 1, 0, 1, 1, 1] Wp ⟨tv, hh, lv, rfl, hR.new hNp⟩ (ints_read hP (by decide)) wm0_in.1 (by decide +kernel)).mono ?_
  rintro e w2 ⟨v1, rfl, ⟨tv1, hh1, lv1, rfl, hR1⟩, hN1⟩
  replace hR1 : MaR w2 wm1 tv1 hh1 lv1 := hR1
  rw [show (runM DS rightB wm0 [0, 1, 0, 1, 1, 1]).1 = wm1 from rfl]
  rw [wk_n]
  have hM0 : MBM W1 M0 wm0 := ⟨tv, hh, lv, hB, hR⟩
  have hM0 := (hM0.new hNp).new hN1
  have hL1 := hN1.heap (hNp.heap hL2 id) id
  have hNw := (hN2.trans hNp).trans hN1
  have hone := maV_oneR hR1
  have hNb : New w2 (w2.alloc (.cells (maV wm1 tv1 hh1).toArray 77)) := (Mods.refl _ _).alloc _
  have hX := World.alloc_heap_new w2 (.cells (maV wm1 tv1 hh1).toArray 77)
  clear hP hNp hWp hWp' hN1 hB' hl77 hL2 hN2 hB hR
  go_upto_region 4 with (refine op_skip rfl (run_store_new 77 (.tmp 4) (.tmp 27) rfl 77 [.int .u64 0, .int .i64 0, .slice none 0 0, .slice none 0 0] (maV wm1 tv1 hh1) rfl rfl info77 rfl hone) ?_)
  have hM1 : MBM (w2.alloc (.cells (maV wm1 tv1 hh1).toArray 77)) w2.heap.size wm1 := ⟨tv1, hh1, lv1, hX, hR1.new hNb⟩
  have hM0 := hM0.new hNb
  have hL2 := hNb.heap hL1 id
  have hN2 := hNw.trans hNb
  obtain ⟨W2, hWW⟩ : ∃ W, w2.alloc (.cells (maV wm1 tv1 hh1).toArray 77) = W := ⟨_, rfl⟩
  obtain ⟨M1, hMM⟩ : ∃ M, w2.heap.size = M := ⟨_, rfl⟩
  rw [hWW] at hM1 hL2 hN2 hM0 ⊢
  rw [hMM] at hM1 ⊢
  clear hWW hMM hX hNb hR1 hone hL1 hNw
  obtain ⟨tv, hh, lv, hB, hR⟩ := hM1
  have hB' : W2.heap[M1]? = some (.cells (maV wm1 tv hh).toArray 77 (0, 0)) := hB
  have hl77 : (Try.prog.info? 77).map (·.size) = some (maV wm1 tv hh).toArray.size := info77
  have hP := World.alloc_heap_new W2 (.cells ([0, 0, 1, 1, 1, 1].map (Value.int .i64)).toArray 3)
  have hNp : New W2 (W2.alloc (.cells ([0, 0, 1, 1, 1, 1].map (Value.int .i64)).toArray 3)) := (Mods.refl _ _).alloc _
  go_wp2_with (refine op_value rfl (run_load_row 77 (.tmp 4) rfl M1 rfl 77 (maV wm1 tv hh).toArray (0, 0) _ hB' Try.underlying77 rfl hl77) ?_)
  obtain ⟨Wp, hWp⟩ : ∃ W, W2.alloc (.cells ([0, 0, 1, 1, 1, 1].map (Value.int .i64)).toArray 3) = W := ⟨_, rfl⟩
  have hWp' : W2.alloc (.cells #[.int .i64 0, .int .i64 0, .int .i64 1, .int .i64 1, .int .i64 1, .int .i64 1] 3) = Wp := hWp
  rw [hWp] at hP hNp
  rw [hWp']
  refine (HRun.out _ _ wm1 [0, 0, 1, 1, 1, 1] Wp ⟨tv, hh, lv, rfl, hR.new hNp⟩ (ints_read hP (by decide)) wm1_in.1 (by decide +kernel)).mono ?_
  rintro e w2 ⟨v1, rfl, ⟨tv1, hh1, lv1, rfl, hR1⟩, hN1⟩
  replace hR1 : MaR w2 wm2 tv1 hh1 lv1 := hR1
  rw [show (runM DS rightB wm1 [0, 0, 1, 1, 1, 1]).1 = wm2 from rfl]
  obtain ⟨n2, hn2⟩ : ∃ n2, (runM DS rightB wm1 [0, 0, 1, 1, 1, 1]).2 = n2 := ⟨_, rfl⟩
  rw [hn2]
  clear hn2
  have hM1 : MBM W2 M1 wm1 := ⟨tv, hh, lv, hB, hR⟩
  have hM0 := (hM0.new hNp).new hN1
  have hM1 := (hM1.new hNp).new hN1
  have hL1 := hN1.heap (hNp.heap hL2 id) id
  have hNw := (hN2.trans hNp).trans hN1
  have hone := maV_oneR hR1
  have hNb : New w2 (w2.alloc (.cells (maV wm2 tv1 hh1).toArray 77)) := (Mods.refl _ _).alloc _
  have hX := World.alloc_heap_new w2 (.cells (maV wm2 tv1 hh1).toArray 77)
  clear hP hNp hWp hWp' hN1 hB' hl77 hL2 hN2 hB hR
  go_upto_region 5 with (refine op_skip rfl (run_store_new 77 (.tmp 6) (.tmp 33) rfl 77 [.int .u64 0, .int .i64 0, .slice none 0 0, .slice none 0 0] (maV wm2 tv1 hh1) rfl rfl info77 rfl hone) ?_)
  have hM2 : MBM (w2.alloc (.cells (maV wm2 tv1 hh1).toArray 77)) w2.heap.size wm2 := ⟨tv1, hh1, lv1, hX, hR1.new hNb⟩
  have hM0 := hM0.new hNb
  have hM1 := hM1.new hNb
  have hL2 := hNb.heap hL1 id
  have hN2 := hNw.trans hNb
  obtain ⟨W3, hWW⟩ : ∃ W, w2.alloc (.cells (maV wm2 tv1 hh1).toArray 77) = W := ⟨_, rfl⟩
  obtain ⟨M2, hMM⟩ : ∃ M, w2.heap.size = M := ⟨_, rfl⟩
  rw [hWW] at hM2 hL2 hN2 hM0 hM1 ⊢
  rw [hMM] at hM2 ⊢
  clear hWW hMM hX hNb hR1 hone hL1 hNw
  obtain ⟨tv, hh, lv, hB, hR⟩ := hM0
  have hB' : W3.heap[M0]? = some (.cells (maV wm0 tv hh).toArray 77 (0, 0)) := hB
  have hl77 : (Try.prog.info? 77).map (·.size) = some (maV wm0 tv hh).toArray.size := info77
  go_wp2_with (refine op_value rfl (run_load_row 77 (.tmp 2) rfl M0 rfl 77 (maV wm0 tv hh).toArray (0, 0) _ hB' Try.underlying77 rfl hl77) ?_)
  refine (HStep.out _ wm0 2 W3 ⟨tv, hh, lv, rfl, hR⟩ wm0_in.1 (by decide +kernel)).mono ?_
  rintro e w2 ⟨v1, rfl, ⟨tv1, hh1, lv1, rfl, hR1⟩, hN1⟩
  rw [wk_step]
  obtain ⟨m3, hm3⟩ : ∃ m3, (stepM DS rightB wm0 2).1 = m3 := ⟨_, rfl⟩
  rw [hm3] at hR1 ⊢
  have hM1' := hM1.new hN1
  have hM2' := hM2.new hN1
  have hL1 := hN1.heap hL2 id
  have hNw := hN2.trans hN1
  have hone := maV_oneR hR1
  have hNb : New w2 (w2.alloc (.cells (maV m3 tv1 hh1).toArray 77)) := (Mods.refl _ _).alloc _
  clear hN1 hB' hl77 hL2 hN2 hB hR hM1 hM2 hm3
  go_upto_region 6 with (refine op_skip rfl (run_store_new 77 (.tmp 8) (.tmp 38) rfl 77 [.int .u64 0, .int .i64 0, .slice none 0 0, .slice none 0 0] (maV m3 tv1 hh1) rfl rfl info77 rfl hone) ?_)
  have hM1 := hM1'.new hNb
  have hM2 := hM2'.new hNb
  have hL2 := hNb.heap hL1 id
  have hN2 := hNw.trans hNb
  obtain ⟨W4, hWW⟩ : ∃ W, w2.alloc (.cells (maV m3 tv1 hh1).toArray 77) = W := ⟨_, rfl⟩
  obtain ⟨M3, hMM⟩ : ∃ M, w2.heap.size = M := ⟨_, rfl⟩
  rw [hWW] at hM1 hM2 hL2 hN2 ⊢
  rw [hMM] at ⊢
  clear hWW hMM hNb hR1 hone hL1 hNw hM1' hM2'
  obtain ⟨t1, h1, l1, hB1, hR1⟩ := hM1
  obtain ⟨t2, h2, l2, hB2, hR2⟩ := hM2
  obtain ⟨⟨a1, c1, rfl⟩, ⟨b1, d1, rfl⟩⟩ := hR1.slices
  obtain ⟨⟨a2, c2, rfl⟩, ⟨b2, d2, rfl⟩⟩ := hR2.slices
  have hdeed : W4.rangeAt LB 3 (⟨2, 0, 0⟩ : Dn).cs := fun j v hv => by
    rw [cell_of_row _ _ _ _ _ _ hL2]
    match j, hv with
    | 0, hv => exact hv
    | 1, hv => exact hv
    | 2, hv => exact hv
  have HD := Lib.hid (does_S wm1.word 2 0 0 wm1_in.1.word (by decide) (by decide) (by decide) (by decide))
  rw [show doesS wm1.word 2 0 0 = (0, 3, true) from wk_does] at HD
  refine piece (fun a a' W' => ∃ A, a' = (a.put (some 41) (.pointer (some ⟨M1, 0, none⟩)) |>.put (some 42) (.int .u64 (wm1.word : Nat)) |>.put (some 43) (.slice (some ⟨LB, 0, none⟩) 2 2) |>.put (some 44) (.pointer (some ⟨LB, 3, none⟩)) |>.put (some 45) (.agg (⟨2, 0, 0⟩ : Dn).cs.toArray) |>.put (some 46) (ansV 0 3 true) |>.put (some 40) (ansV 0 3 true) |>.put (some 47) (.int .u64 0) |>.put (some 48) (.agg #[.int .i64 3, .bool true]) |>.put (some 10) (.int .u64 0) |>.put (some 11) (.pointer (some ⟨A, 0, none⟩))) ∧ W'.heap[A]? = some (.cells #[.int .i64 3, .bool true] 89 (0, 0)) ∧ New W4 W') ?_ ?_
  · refine wp_region_held (S := fun W => New W4 W) (by kernel_rfl) ?_
    have hS : New W4 W4.drew := (Mods.refl _ W4).drew
    show wpAnyH _ _ _ _ _ _ _ _ W4.drew
    obtain ⟨Wd, hWd⟩ : ∃ Wd, W4.drew = Wd := ⟨_, rfl⟩
    rw [hWd] at hS ⊢
    clear hWd
    refine anyH_take 0 (some 41) (.pointer (some ⟨M1, 0, none⟩)) rfl rfl (by kernel_rfl) (by kernel_rfl) (by kernel_rfl) (fun _ _ _ h => h.elim) (.inl ⟨by rfl, fun W hW => by go_simp⟩) hS ?_
    simp only [Act.put, List.setIfInBounds_toArray, List.set_cons_succ, List.set_cons_zero]
    refine anyH_take 1 (some 42) (.int .u64 (wm1.word : Nat)) rfl rfl (by kernel_rfl) (by kernel_rfl) (by kernel_rfl) (fun _ _ _ h => h.elim) (.inl ⟨by rfl, fun W hW => by have := (hB1.new hW).c0; go_simp⟩) hS ?_
    simp only [Act.put, List.setIfInBounds_toArray, List.set_cons_succ, List.set_cons_zero]
    refine anyH_take 2 (some 43) (.slice (some ⟨LB, 0, none⟩) 2 2) rfl rfl (by kernel_rfl) (by kernel_rfl) (by kernel_rfl) (fun _ _ _ h => h.elim) (.inl ⟨by rfl, fun W hW => by go_simp⟩) hS ?_
    simp only [Act.put, List.setIfInBounds_toArray, List.set_cons_succ, List.set_cons_zero]
    refine anyH_take 3 (some 44) (.pointer (some ⟨LB, 3, none⟩)) rfl rfl (by kernel_rfl) (by kernel_rfl) (by kernel_rfl) (fun _ _ _ h => h.elim) (.inl ⟨by rfl, fun W hW => by go_simp⟩) hS ?_
    simp only [Act.put, List.setIfInBounds_toArray, List.set_cons_succ, List.set_cons_zero]
    refine anyH_take 4 (some 45) (.agg (⟨2, 0, 0⟩ : Dn).cs.toArray) rfl rfl (by kernel_rfl) (by kernel_rfl) (by kernel_rfl) (fun _ _ _ h => h.elim) (.inl ⟨by rfl, fun W hW => run_load_mid 93 (.tmp 44) rfl LB 3 rfl (⟨2, 0, 0⟩ : Dn).cs _ (fun j v hv => hW.cell (hdeed j v hv) id) Try.underlying93 rfl info93⟩) hS ?_
    simp only [Act.put, List.setIfInBounds_toArray, List.set_cons_succ, List.set_cons_zero]
    refine wpAnyH_all (rs := [5, 9]) (by kernel_rfl) (by simp) ?_
    simp only [List.mem_cons, List.not_mem_nil, or_false, forall_eq_or_imp, forall_eq]
    refine ⟨?_, ?_⟩
    · refine opH_call (some 46) rfl (by rfl) rfl 93 #[.int .u64 (wm1.word : Nat), .agg (⟨2, 0, 0⟩ : Dn).cs.toArray] (by go_simp) ((HD.out _).mono ?_)
      rintro e Wc ⟨rfl, hN1⟩
      refine ⟨_, rfl, hS.trans hN1, ?_⟩
      simp only [Act.put, List.setIfInBounds_toArray, List.set_cons_succ, List.set_cons_zero]
      replace hS := hS.trans hN1
      clear hN1
      refine anyH_take 6 (some 40) (ansV 0 3 true) rfl rfl (by kernel_rfl) (by kernel_rfl) (by kernel_rfl) (fun _ _ _ h => h.elim) (.inl ⟨by rfl, fun W hW => by go_simp⟩) hS ?_
      simp only [Act.put, List.setIfInBounds_toArray, List.set_cons_succ, List.set_cons_zero]
      refine anyH_take 7 (some 47) (.int .u64 0) rfl rfl (by kernel_rfl) (by kernel_rfl) (by kernel_rfl) (fun _ _ _ h => h.elim) (.inl ⟨by rfl, fun W hW => by unfold ansV; go_simp⟩) hS ?_
      simp only [Act.put, List.setIfInBounds_toArray, List.set_cons_succ, List.set_cons_zero]
      refine anyH_take 8 (some 48) (.agg #[.int .i64 3, .bool true]) rfl rfl (by kernel_rfl) (by kernel_rfl) (by kernel_rfl) (fun _ _ _ h => h.elim) (.inl ⟨by rfl, fun W hW => by unfold ansV; go_simp⟩) hS ?_
      simp only [Act.put, List.setIfInBounds_toArray, List.set_cons_succ, List.set_cons_zero]
      refine wpAnyH_all (rs := [9]) (by kernel_rfl) (by simp) ?_
      simp only [List.mem_cons, List.not_mem_nil, or_false, forall_eq_or_imp, forall_eq]
      refine opH_value (some 11) (v := .pointer (some ⟨Wc.heap.size, 0, none⟩)) (w' := Wc.alloc (.cells #[.int .i64 0, .bool false] 89)) rfl (by rfl) rfl (by go_simp) ?_
      refine ⟨hS.trans ((Mods.refl _ _).alloc _), ?_⟩
      simp only [Act.put, List.setIfInBounds_toArray, List.set_cons_succ, List.set_cons_zero]
      have hA := World.alloc_heap_new Wc (.cells #[.int .i64 0, .bool false] 89)
      have hAl : W4.heap.size ≤ Wc.heap.size := hS.size
      replace hS := hS.trans ((Mods.refl _ _).alloc (.cells #[.int .i64 0, .bool false] 89))
      obtain ⟨Wa, hWa⟩ : ∃ W, Wc.alloc (.cells #[.int .i64 0, .bool false] 89) = W := ⟨_, rfl⟩
      obtain ⟨A, hAA⟩ : ∃ A, Wc.heap.size = A := ⟨_, rfl⟩
      rw [hWa] at hA hS ⊢
      rw [hAA] at hA hAl ⊢
      clear hWa hAA
      refine anyH_take 10 (some 10) (.int .u64 0) rfl rfl (by kernel_rfl) (by kernel_rfl) (by kernel_rfl) (fun _ _ _ h => h.elim) (.inl ⟨by rfl, fun W hW => by go_simp⟩) hS ?_
      simp only [Act.put, List.setIfInBounds_toArray, List.set_cons_succ, List.set_cons_zero]
      refine wpAnyH_all (rs := [11]) (by kernel_rfl) (by simp) ?_
      simp only [List.mem_cons, List.not_mem_nil, or_false, forall_eq_or_imp, forall_eq]
      refine opH_skip none rfl (by rfl) rfl (run_store_row 89 (.tmp 11) (.tmp 48) rfl A rfl 89 [.int .i64 0, .bool false] [.int .i64 3, .bool true] rfl hA info89 rfl (by simp [Value.oneCell'])) ?_
      have hA' := setRow_heap Wa A _ [.int .i64 3, .bool true].toArray 89 (0, 0) hA
      refine ⟨hS.setRow hAl _, ?_⟩
      simp only [Act.put, List.setIfInBounds_toArray, List.set_cons_succ, List.set_cons_zero]
      replace hS := hS.setRow hAl [.int .i64 3, .bool true].toArray
      refine wpAnyH_done (by kernel_rfl) ?_ _
      exact ⟨A, rfl, hA', hS⟩
    · refine opH_value (some 11) (v := .pointer (some ⟨Wd.heap.size, 0, none⟩)) (w' := Wd.alloc (.cells #[.int .i64 0, .bool false] 89)) rfl (by rfl) rfl (by go_simp) ?_
      refine ⟨hS.trans ((Mods.refl _ _).alloc _), ?_⟩
      simp only [Act.put, List.setIfInBounds_toArray, List.set_cons_succ, List.set_cons_zero]
      have hA := World.alloc_heap_new Wd (.cells #[.int .i64 0, .bool false] 89)
      have hAl : W4.heap.size ≤ Wd.heap.size := hS.size
      replace hS := hS.trans ((Mods.refl _ _).alloc (.cells #[.int .i64 0, .bool false] 89))
      obtain ⟨Wa, hWa⟩ : ∃ W, Wd.alloc (.cells #[.int .i64 0, .bool false] 89) = W := ⟨_, rfl⟩
      obtain ⟨A, hAA⟩ : ∃ A, Wd.heap.size = A := ⟨_, rfl⟩
      rw [hWa] at hA hS ⊢
      rw [hAA] at hA hAl ⊢
      clear hWa hAA
      refine wpAnyH_all (rs := [5]) (by kernel_rfl) (by simp) ?_
      simp only [List.mem_cons, List.not_mem_nil, or_false, forall_eq_or_imp, forall_eq]
      refine opH_call (some 46) rfl (by rfl) rfl 93 #[.int .u64 (wm1.word : Nat), .agg (⟨2, 0, 0⟩ : Dn).cs.toArray] (by go_simp) ((HD.out _).mono ?_)
      rintro e Wc ⟨rfl, hN1⟩
      refine ⟨_, rfl, hS.trans hN1, ?_⟩
      simp only [Act.put, List.setIfInBounds_toArray, List.set_cons_succ, List.set_cons_zero]
      replace hA := hN1.heap hA id
      replace hS := hS.trans hN1
      clear hN1
      refine anyH_take 6 (some 40) (ansV 0 3 true) rfl rfl (by kernel_rfl) (by kernel_rfl) (by kernel_rfl) (fun _ _ _ h => h.elim) (.inl ⟨by rfl, fun W hW => by go_simp⟩) hS ?_
      simp only [Act.put, List.setIfInBounds_toArray, List.set_cons_succ, List.set_cons_zero]
      refine anyH_take 7 (some 47) (.int .u64 0) rfl rfl (by kernel_rfl) (by kernel_rfl) (by kernel_rfl) (fun _ _ _ h => h.elim) (.inl ⟨by rfl, fun W hW => by unfold ansV; go_simp⟩) hS ?_
      simp only [Act.put, List.setIfInBounds_toArray, List.set_cons_succ, List.set_cons_zero]
      refine anyH_take 8 (some 48) (.agg #[.int .i64 3, .bool true]) rfl rfl (by kernel_rfl) (by kernel_rfl) (by kernel_rfl) (fun _ _ _ h => h.elim) (.inl ⟨by rfl, fun W hW => by unfold ansV; go_simp⟩) hS ?_
      simp only [Act.put, List.setIfInBounds_toArray, List.set_cons_succ, List.set_cons_zero]
      refine anyH_take 10 (some 10) (.int .u64 0) rfl rfl (by kernel_rfl) (by kernel_rfl) (by kernel_rfl) (fun _ _ _ h => h.elim) (.inl ⟨by rfl, fun W hW => by go_simp⟩) hS ?_
      simp only [Act.put, List.setIfInBounds_toArray, List.set_cons_succ, List.set_cons_zero]
      refine wpAnyH_all (rs := [11]) (by kernel_rfl) (by simp) ?_
      simp only [List.mem_cons, List.not_mem_nil, or_false, forall_eq_or_imp, forall_eq]
      refine opH_skip none rfl (by rfl) rfl (run_store_row 89 (.tmp 11) (.tmp 48) rfl A rfl 89 [.int .i64 0, .bool false] [.int .i64 3, .bool true] rfl hA info89 rfl (by simp [Value.oneCell'])) ?_
      have hA' := setRow_heap Wc A _ [.int .i64 3, .bool true].toArray 89 (0, 0) hA
      refine ⟨hS.setRow hAl _, ?_⟩
      simp only [Act.put, List.setIfInBounds_toArray, List.set_cons_succ, List.set_cons_zero]
      replace hS := hS.setRow hAl [.int .i64 3, .bool true].toArray
      refine wpAnyH_done (by kernel_rfl) ?_ _
      exact ⟨A, rfl, hA', hS⟩
  · rintro a' W5 ⟨A, rfl, hA, hN5⟩
    simp only [Act.put, List.setIfInBounds_toArray, List.set_cons_succ, List.set_cons_zero]
    replace hB1 := hB1.new hN5
    replace hB2 := hB2.new hN5
    replace hR1 := hR1.new hN5
    replace hR2 := hR2.new hN5
    replace hN2 := hN2.trans hN5
    have hH1 := hR1.hist
    rw [wk_len.1, wk_len.2.2.1, wk_len.2.2.2] at hB1
    rw [wk_len.1, wk_len.2.2.1] at hR1
    rw [wk_len.2.1] at hB2
    rw [wk_len.2.1] at hR2
    obtain ⟨g1, o1, cc, hv1, hm0⟩ := hR1.moment (k := 0) (by rw [wk_len.1]; decide)
    obtain ⟨g1', o1', cc', hv1', hm1⟩ := hR1.moment (k := 1) (by rw [wk_len.1]; decide)
    rw [wk_len.1] at hv1 hv1'
    cases hv1
    cases hv1'
    have c13 := hB1.c3
    have c12 := hB1.c2
    have c23 := hB2.c3
    clear hL2 hdeed HD hN5
    go_upto_region 9 with fail
    have hown : (W5.alloc (.cells #[] 95)).ownsRow W5.heap.size 95 8 (.slice (some ⟨W5.heap.size, 0, none⟩) 0 0) 0 [] :=
      ⟨rfl, .inr ⟨W5.heap.size, 0, #[], rfl, Nat.le_refl _, World.alloc_heap_new W5 _, Nat.le_refl _, by unfold maxLen; omega, rfl, rfl⟩⟩
    have hNc : New W5 (W5.alloc (.cells #[] 95)) := (Mods.refl _ _).alloc _
    have hcl := (ReadsF.cells (by decide) (mosF_len _) (hH1.new hNc)).2 ⟨g1, o1, none⟩ rfl
    have hfl := flatF_len (mosF_len wm1.hist) wm1.hist.length
    have hfo := mosF_one wm1.hist
    rw [wk_len.1] at hcl hfl hfo
    obtain ⟨i95, hi95, hz0, hz1, hz2⟩ := info_parts info95'
    have c13' := (hB1.new hNc).c3
    go_wp2_with (at_builtin; refine wpList_append_own _ rfl _ _ 75 rfl W5.heap.size 95 i95 _ 8 64 Try.underlying75 hi95 hz0 hz1 hz2 rfl (by decide) _ _ _ rfl hown ⟨g1, o1, none⟩ 2 d1 (flatF 2 (mosF wm1.hist)) rfl hfl hcl hfo ?c3 ?c4 ?c5 ?_)
    case c3 => unfold maxLen; omega
    case c4 => omega
    case c5 => simp
    intro v' W6 hown' hgrow _
    have hN6 : New W5 W6 := hNc.grown hgrow (by intro q hq; cases hq; exact .inl (Nat.le_refl _))
    obtain ⟨g, gc, rfl⟩ : ∃ g gc, v' = .slice (some ⟨g, 0, none⟩) 2 gc := by
      rcases hown'.2 with ⟨_, h⟩ | ⟨g, gc, _, e, _⟩
      · cases h
      · exact ⟨g, gc, e⟩
    have hg5 := (hown'.lt g rfl).1
    have x6 : W6.cell? ⟨g, 6, none⟩ = some (.int .i64 (wm1.hist.getD 0 .no).slot) := by
      rw [World.ownsRow.cellAt hown' 6 (by decide), flatF_at (sz := 8) (by decide) (mosF_len _), if_pos (by decide)]
      rfl
    have x7 : W6.cell? ⟨g, 7, none⟩ = some (.bool (wm1.hist.getD 0 .no).ok) := by
      rw [World.ownsRow.cellAt hown' 7 (by decide), flatF_at (sz := 8) (by decide) (mosF_len _), if_pos (by decide)]
      rfl
    have f6 := World.ownsRow.frozenAt hown' 6
    have f7 := World.ownsRow.frozenAt hown' 7
    have hs1 := own_set (mosF_len _) hown' (i := 0) (r := 6) (by decide) (by decide) (.int .i64 0)
    have hs2 := own_set (set_len (mosF_len _)) hs1 (i := 0) (r := 7) (by decide) (by decide) (.bool false)
    have hlb : wbad.length = 2 := by unfold wbad; rw [List.length_set]; exact wk_len.1
    have hsb := own_mos (H := wbad) hs2 hlb (fun k hk => by
      have : k = 0 ∨ k = 1 := by omega
      unfold wbad mosF
      rcases this with rfl | rfl
      · rw [getD_set (l := wm1.hist), if_pos (show 0 = 0 ∧ 0 < wm1.hist.length from ⟨rfl, by rw [wk_len.1]; decide⟩)]
        rfl
      · rw [getD_set (l := wm1.hist), if_neg (show ¬ (0 = 1 ∧ 1 < wm1.hist.length) from fun e => absurd e.1 (by decide))]
        rfl)
    rw [Nat.zero_mul, Nat.zero_add, Nat.zero_add] at hsb
    have hN7 : New W5 ((W6.setCell ⟨g, 6, none⟩ (.int .i64 0)).setCell ⟨g, 7, none⟩ (.bool false)) := (hN6.setCell (p := ⟨g, 6, none⟩) (.inl hg5) _).setCell (p := ⟨g, 7, none⟩) (.inl hg5) _
    have hbd := ReadsF.ofOwns (by decide) (mosF_len _) (by rw [hlb]; decide) hsb
    have HB := Lib.hid (And.intro hN7 hbd)
    clear hs1 hs2 hsb hN7 hbd hown' hgrow hown hcl hfl hfo hi95 hz0 hz1 hz2 hNc c13 c12 c23 c13' hN6
    go_upto_region 11 with fail
    obtain ⟨hN7, hbd⟩ := HB.out
    obtain ⟨W7, hW7⟩ : ∃ W, (W6.setCell ⟨g, 6, none⟩ (.int .i64 0)).setCell ⟨g, 7, none⟩ (.bool false) = W := ⟨_, rfl⟩
    rw [hW7] at hN7 hbd ⊢
    replace hbd : ReadsF W7 (.slice (some ⟨g, 0, none⟩) 2 gc) wbad.length 8 (mosF wbad) := by rw [hlb] at hbd ⊢; exact hbd
    replace hB1 := hB1.new hN7
    replace hB2 := hB2.new hN7
    replace hR1 := hR1.new hN7
    replace hR2 := hR2.new hN7
    replace hA := hN7.heap hA id
    have hNw := Lib.hid (hN2.trans hN7)
    have m05 : W7.cell? ⟨g1, o1 + 5, none⟩ = some (.int .i64 3) := by have := hN7.cell (hm0 5 _ rfl) id; rw [wk_h0.1] at this; simpa using this
    have m07 : W7.cell? ⟨g1, o1 + 7, none⟩ = some (.bool true) := by have := hN7.cell (hm0 7 _ rfl) id; rw [wk_h0.2.1] at this; simpa using this
    have m15 : W7.cell? ⟨g1, o1 + 13, none⟩ = some (.int .i64 6) := by have := hN7.cell (hm1 5 _ rfl) id; rw [wk_h0.2.2.1] at this; simpa using this
    have m17 : W7.cell? ⟨g1, o1 + 15, none⟩ = some (.bool false) := by have := hN7.cell (hm1 7 _ rfl) id; rw [wk_h0.2.2.2] at this; simpa using this
    have hM2 : ReadsM W7 (.agg #[.int .u64 (wm2.word : Nat), .int .i64 wm2.clock, .slice a2 wm2.ths.length c2, .slice b2 4 d2]) wm2 := ⟨_, _, l2, rfl, hR2⟩
    have hM1 : ReadsM W7 (.agg #[.int .u64 (wm1.word : Nat), .int .i64 6, .slice a1 2 c1, .slice (some ⟨g1, o1, none⟩) 2 d1]) wm1 := ⟨_, _, l1, by unfold maV; rw [wk_len.2.2.2], hR1⟩
    have HRt : Hid (∀ W, New W7 W → Calls Try.prog 94 #[.agg #[.int .u64 (wm2.word : Nat), .int .i64 wm2.clock, .slice a2 wm2.ths.length c2, .slice b2 4 d2]] W fun e w' => e = .returned (.bool true) ∧ New W w') := Lib.hid (fun W hW => by have := right_S _ wm2 W (hM2.new hW) wm2_in.1.word; rw [wk_right] at this; exact this)
    have HL2 : Hid (∀ W, New W7 W → Calls Try.prog 52 #[.int .u64 0, .slice b2 4 d2, .int .u64 (wm2.word : Nat)] W fun e w' => e = .returned (.bool true) ∧ New W w') := Lib.hid (fun W hW => by have := linear_S 0 wm2.word _ wm2.hist W (hR2.hist.new hW) (by decide) wm2_in.2; rw [wk_lin2] at this; exact this)
    have HL1 : Hid (∀ W, New W7 W → Calls Try.prog 52 #[.int .u64 0, .slice (some ⟨g1, o1, none⟩) 2 d1, .int .u64 (wm1.word : Nat)] W fun e w' => e = .returned (.bool true) ∧ New W w') := Lib.hid (fun W hW => by have := linear_S 0 wm1.word _ wm1.hist W (hR1.hist.new hW) (by decide) wm1_in.2; rw [wk_lin1] at this; exact this)
    have HLb : Hid (∀ W, New W7 W → Calls Try.prog 52 #[.int .u64 0, .slice (some ⟨g, 0, none⟩) 2 gc, .int .u64 (wm1.word : Nat)] W fun e w' => e = .returned (.bool false) ∧ New W w') := Lib.hid (fun W hW => by have := linear_S 0 wm1.word _ wbad W (hbd.new hW) (by decide) wbad_in; rw [wk_bad] at this; exact this)
    have HOw : Hid (∀ W, New W7 W → Calls Try.prog 96 #[.agg #[.int .u64 (wm2.word : Nat), .int .i64 wm2.clock, .slice a2 wm2.ths.length c2, .slice b2 4 d2]] W fun e w' => ∃ v', e = .returned v' ∧ ReadsM w' v' wm2 ∧ New W w') := Lib.hid (fun W hW => (own_any _ wm2 W (hM2.new hW)).mono fun e w' ⟨_, _, _, he, ho, hn⟩ => ⟨_, he, ⟨_, _, _, rfl, ho.reads⟩, hn⟩)
    have HS1 : Hid (∀ W v, ReadsM W v wm2 → New W7 W → Calls Try.prog 95 #[v, .agg #[.int .u64 (wm2.word : Nat), .int .i64 wm2.clock, .slice a2 wm2.ths.length c2, .slice b2 4 d2]] W fun e w' => e = .returned (.bool true) ∧ New W w') := Lib.hid (fun W v hv hW => by have := same_S v _ wm2 wm2 W hv (hM2.new hW); rw [wk_same.1] at this; exact this)
    have HS2 : Hid (∀ W, New W7 W → Calls Try.prog 95 #[.agg #[.int .u64 (wm2.word : Nat), .int .i64 wm2.clock, .slice a2 wm2.ths.length c2, .slice b2 4 d2], .agg #[.int .u64 (wm1.word : Nat), .int .i64 6, .slice a1 2 c1, .slice (some ⟨g1, o1, none⟩) 2 d1]] W fun e w' => e = .returned (.bool false) ∧ New W w') := Lib.hid (fun W hW => by have := same_S _ _ wm2 wm1 W (hM2.new hW) (hM1.new hW); rw [wk_same.2] at this; exact this)
    clear hM1 hM2 hR1 hR2 hbd hm0 hm1 hW7 hN7 hN2 hH1 x6 x7 f6 f7
    refine piece (fun a a' W' => (∃ v6 : Value, a'.tmps.getD 0 undef = .bool true ∧ a'.defers = a.defers) ∧ New W7 W') ?_ ?_
    · refine wp_region_held (S := fun W => New W7 W) (by kernel_rfl) ?_
      have hS : New W7 W7.drew := (Mods.refl _ W7).drew
      show wpAnyH _ _ _ _ _ _ _ _ W7.drew
      obtain ⟨Wd, hWd⟩ : ∃ Wd, W7.drew = Wd := ⟨_, rfl⟩
      rw [hWd] at hS ⊢
      clear hWd
      refine anyH_take 0 (some 73) (.bool true) rfl rfl ns11 q11_0.1 q11_0.2 (fun _ _ _ h => h.elim) (.inl ⟨by rfl, fun W hW => by go_simp⟩) hS ?_
      simp only [Act.put, List.setIfInBounds_toArray, List.set_cons_succ, List.set_cons_zero]
      refine anyH_take 1 (some 74) (.bool true) rfl rfl ns11 q11_1.1 q11_1.2 (fun _ _ _ h => h.elim) (.inl ⟨by rfl, fun W hW => by go_simp⟩) hS ?_
      simp only [Act.put, List.setIfInBounds_toArray, List.set_cons_succ, List.set_cons_zero]
      refine anyH_take 2 (some 75) (.int .i64 6) rfl rfl ns11 q11_2.1 q11_2.2 (fun _ _ _ h => h.elim) (.inl ⟨by rfl, fun W hW => by go_simp⟩) hS ?_
      simp only [Act.put, List.setIfInBounds_toArray, List.set_cons_succ, List.set_cons_zero]
      refine anyH_take 3 (some 76) (.bool true) rfl rfl ns11 q11_3.1 q11_3.2 (fun _ _ _ h => h.elim) (.inl ⟨by rfl, fun W hW => by go_simp⟩) hS ?_
      simp only [Act.put, List.setIfInBounds_toArray, List.set_cons_succ, List.set_cons_zero]
      refine anyH_take 4 (some 77) (.bool true) rfl rfl ns11 q11_4.1 q11_4.2 (fun _ _ _ h => h.elim) (.inl ⟨by rfl, fun W hW => by go_simp⟩) hS ?_
      simp only [Act.put, List.setIfInBounds_toArray, List.set_cons_succ, List.set_cons_zero]
      refine anyH_take 5 (some 78) (.bool true) rfl rfl ns11 q11_5.1 q11_5.2 (fun _ _ _ h => h.elim) (.inl ⟨by rfl, fun W hW => by go_simp⟩) hS ?_
      simp only [Act.put, List.setIfInBounds_toArray, List.set_cons_succ, List.set_cons_zero]
      refine anyH_take 6 (some 79) (.pointer (some ⟨M1, 1, none⟩)) rfl rfl ns11 q11_6.1 q11_6.2 (fun _ _ _ h => h.elim) (.inl ⟨by rfl, fun W hW => by go_simp⟩) hS ?_
      simp only [Act.put, List.setIfInBounds_toArray, List.set_cons_succ, List.set_cons_zero]
      refine anyH_take 7 (some 80) (.int .i64 6) rfl rfl ns11 q11_7.1 q11_7.2 (fun _ _ _ h => h.elim) (.inl ⟨by rfl, fun W hW => by have := (hB1.new hW).c1; go_simp⟩) hS ?_
      simp only [Act.put, List.setIfInBounds_toArray, List.set_cons_succ, List.set_cons_zero]
      refine anyH_take 8 (some 81) (.bool true) rfl rfl ns11 q11_8.1 q11_8.2 (fun _ _ _ h => h.elim) (.inl ⟨by rfl, fun W hW => by go_simp⟩) hS ?_
      simp only [Act.put, List.setIfInBounds_toArray, List.set_cons_succ, List.set_cons_zero]
      refine anyH_take 9 (some 82) (.bool true) rfl rfl ns11 q11_9.1 q11_9.2 (fun _ _ _ h => h.elim) (.inl ⟨by rfl, fun W hW => by go_simp⟩) hS ?_
      simp only [Act.put, List.setIfInBounds_toArray, List.set_cons_succ, List.set_cons_zero]
      refine anyH_take 10 (some 83) (.bool true) rfl rfl ns11 q11_10.1 q11_10.2 (fun _ _ _ h => h.elim) (.inl ⟨by rfl, fun W hW => by go_simp⟩) hS ?_
      simp only [Act.put, List.setIfInBounds_toArray, List.set_cons_succ, List.set_cons_zero]
      refine anyH_take 11 (some 84) (.pointer (some ⟨M1, 3, none⟩)) rfl rfl ns11 q11_11.1 q11_11.2 (fun _ _ _ h => h.elim) (.inl ⟨by rfl, fun W hW => by go_simp⟩) hS ?_
      simp only [Act.put, List.setIfInBounds_toArray, List.set_cons_succ, List.set_cons_zero]
      refine anyH_take 12 (some 85) (.slice (some ⟨g1, o1, none⟩) 2 d1) rfl rfl ns11 q11_12.1 q11_12.2 (fun _ _ _ h => h.elim) (.inl ⟨by rfl, fun W hW => by have := (hB1.new hW).c3; go_simp⟩) hS ?_
      simp only [Act.put, List.setIfInBounds_toArray, List.set_cons_succ, List.set_cons_zero]
      refine anyH_take 13 (some 86) (.pointer (some ⟨g1, o1, none⟩)) rfl rfl ns11 q11_13.1 q11_13.2 (fun _ _ _ h => h.elim) (.inl ⟨by rfl, fun W hW => by go_simp⟩) hS ?_
      simp only [Act.put, List.setIfInBounds_toArray, List.set_cons_succ, List.set_cons_zero]
      refine anyH_take 14 (some 87) (.pointer (some ⟨g1, o1 + 5, none⟩)) rfl rfl ns11 q11_14.1 q11_14.2 (fun _ _ _ h => h.elim) (.inl ⟨by rfl, fun W hW => by go_simp⟩) hS ?_
      simp only [Act.put, List.setIfInBounds_toArray, List.set_cons_succ, List.set_cons_zero]
      refine anyH_take 15 (some 88) (.int .i64 3) rfl rfl ns11 q11_15.1 q11_15.2 (fun _ _ _ h => h.elim) (.inl ⟨by rfl, fun W hW => by have := hW.cell m05 id; go_simp⟩) hS ?_
      simp only [Act.put, List.setIfInBounds_toArray, List.set_cons_succ, List.set_cons_zero]
      refine anyH_take 16 (some 89) (.bool true) rfl rfl ns11 q11_16.1 q11_16.2 (fun _ _ _ h => h.elim) (.inl ⟨by rfl, fun W hW => by go_simp⟩) hS ?_
      simp only [Act.put, List.setIfInBounds_toArray, List.set_cons_succ, List.set_cons_zero]
      refine anyH_take 17 (some 90) (.bool true) rfl rfl ns11 q11_17.1 q11_17.2 (fun _ _ _ h => h.elim) (.inl ⟨by rfl, fun W hW => by go_simp⟩) hS ?_
      simp only [Act.put, List.setIfInBounds_toArray, List.set_cons_succ, List.set_cons_zero]
      refine anyH_take 18 (some 91) (.bool true) rfl rfl ns11 q11_18.1 q11_18.2 (fun _ _ _ h => h.elim) (.inl ⟨by rfl, fun W hW => by go_simp⟩) hS ?_
      simp only [Act.put, List.setIfInBounds_toArray, List.set_cons_succ, List.set_cons_zero]
      refine anyH_take 19 (some 92) (.pointer (some ⟨M1, 3, none⟩)) rfl rfl ns11 q11_19.1 q11_19.2 (fun _ _ _ h => h.elim) (.inl ⟨by rfl, fun W hW => by go_simp⟩) hS ?_
      simp only [Act.put, List.setIfInBounds_toArray, List.set_cons_succ, List.set_cons_zero]
      refine anyH_take 20 (some 93) (.slice (some ⟨g1, o1, none⟩) 2 d1) rfl rfl ns11 q11_20.1 q11_20.2 (fun _ _ _ h => h.elim) (.inl ⟨by rfl, fun W hW => by have := (hB1.new hW).c3; go_simp⟩) hS ?_
      simp only [Act.put, List.setIfInBounds_toArray, List.set_cons_succ, List.set_cons_zero]
      refine anyH_take 21 (some 94) (.pointer (some ⟨g1, o1, none⟩)) rfl rfl ns11 q11_21.1 q11_21.2 (fun _ _ _ h => h.elim) (.inl ⟨by rfl, fun W hW => by go_simp⟩) hS ?_
      simp only [Act.put, List.setIfInBounds_toArray, List.set_cons_succ, List.set_cons_zero]
      refine anyH_take 22 (some 95) (.pointer (some ⟨g1, o1 + 6, none⟩)) rfl rfl ns11 q11_22.1 q11_22.2 (fun _ _ _ h => h.elim) (.inl ⟨by rfl, fun W hW => by go_simp⟩) hS ?_
      simp only [Act.put, List.setIfInBounds_toArray, List.set_cons_succ, List.set_cons_zero]
      refine anyH_take 23 (some 96) (.pointer (some ⟨g1, o1 + 7, none⟩)) rfl rfl ns11 q11_23.1 q11_23.2 (fun _ _ _ h => h.elim) (.inl ⟨by rfl, fun W hW => by go_simp⟩) hS ?_
      simp only [Act.put, List.setIfInBounds_toArray, List.set_cons_succ, List.set_cons_zero]
      refine anyH_take 24 (some 97) (.bool true) rfl rfl ns11 q11_24.1 q11_24.2 (fun _ _ _ h => h.elim) (.inl ⟨by rfl, fun W hW => by have := hW.cell m07 id; go_simp⟩) hS ?_
      simp only [Act.put, List.setIfInBounds_toArray, List.set_cons_succ, List.set_cons_zero]
      refine anyH_take 25 (some 98) (.bool true) rfl rfl ns11 q11_25.1 q11_25.2 (fun _ _ _ h => h.elim) (.inl ⟨by rfl, fun W hW => by go_simp⟩) hS ?_
      simp only [Act.put, List.setIfInBounds_toArray, List.set_cons_succ, List.set_cons_zero]
      refine anyH_take 26 (some 99) (.bool true) rfl rfl ns11 q11_26.1 q11_26.2 (fun _ _ _ h => h.elim) (.inl ⟨by rfl, fun W hW => by go_simp⟩) hS ?_
      simp only [Act.put, List.setIfInBounds_toArray, List.set_cons_succ, List.set_cons_zero]
      refine anyH_take 27 (some 100) (.pointer (some ⟨M1, 3, none⟩)) rfl rfl ns11 q11_27.1 q11_27.2 (fun _ _ _ h => h.elim) (.inl ⟨by rfl, fun W hW => by go_simp⟩) hS ?_
      simp only [Act.put, List.setIfInBounds_toArray, List.set_cons_succ, List.set_cons_zero]
      refine anyH_take 28 (some 101) (.slice (some ⟨g1, o1, none⟩) 2 d1) rfl rfl ns11 q11_28.1 q11_28.2 (fun _ _ _ h => h.elim) (.inl ⟨by rfl, fun W hW => by have := (hB1.new hW).c3; go_simp⟩) hS ?_
      simp only [Act.put, List.setIfInBounds_toArray, List.set_cons_succ, List.set_cons_zero]
      refine anyH_take 29 (some 102) (.pointer (some ⟨g1, o1 + 8, none⟩)) rfl rfl ns11 q11_29.1 q11_29.2 (fun _ _ _ h => h.elim) (.inl ⟨by rfl, fun W hW => by go_simp⟩) hS ?_
      simp only [Act.put, List.setIfInBounds_toArray, List.set_cons_succ, List.set_cons_zero]
      refine anyH_take 30 (some 103) (.pointer (some ⟨g1, o1 + 13, none⟩)) rfl rfl ns11 q11_30.1 q11_30.2 (fun _ _ _ h => h.elim) (.inl ⟨by rfl, fun W hW => by go_simp⟩) hS ?_
      simp only [Act.put, List.setIfInBounds_toArray, List.set_cons_succ, List.set_cons_zero]
      refine anyH_take 31 (some 104) (.int .i64 6) rfl rfl ns11 q11_31.1 q11_31.2 (fun _ _ _ h => h.elim) (.inl ⟨by rfl, fun W hW => by have := hW.cell m15 id; go_simp⟩) hS ?_
      simp only [Act.put, List.setIfInBounds_toArray, List.set_cons_succ, List.set_cons_zero]
      refine anyH_take 32 (some 105) (.bool true) rfl rfl ns11 q11_32.1 q11_32.2 (fun _ _ _ h => h.elim) (.inl ⟨by rfl, fun W hW => by go_simp⟩) hS ?_
      simp only [Act.put, List.setIfInBounds_toArray, List.set_cons_succ, List.set_cons_zero]
      refine anyH_take 33 (some 106) (.bool true) rfl rfl ns11 q11_33.1 q11_33.2 (fun _ _ _ h => h.elim) (.inl ⟨by rfl, fun W hW => by go_simp⟩) hS ?_
      simp only [Act.put, List.setIfInBounds_toArray, List.set_cons_succ, List.set_cons_zero]
      refine anyH_take 34 (some 107) (.bool true) rfl rfl ns11 q11_34.1 q11_34.2 (fun _ _ _ h => h.elim) (.inl ⟨by rfl, fun W hW => by go_simp⟩) hS ?_
      simp only [Act.put, List.setIfInBounds_toArray, List.set_cons_succ, List.set_cons_zero]
      refine anyH_take 35 (some 108) (.pointer (some ⟨M1, 3, none⟩)) rfl rfl ns11 q11_35.1 q11_35.2 (fun _ _ _ h => h.elim) (.inl ⟨by rfl, fun W hW => by go_simp⟩) hS ?_
      simp only [Act.put, List.setIfInBounds_toArray, List.set_cons_succ, List.set_cons_zero]
      refine anyH_take 36 (some 109) (.slice (some ⟨g1, o1, none⟩) 2 d1) rfl rfl ns11 q11_36.1 q11_36.2 (fun _ _ _ h => h.elim) (.inl ⟨by rfl, fun W hW => by have := (hB1.new hW).c3; go_simp⟩) hS ?_
      simp only [Act.put, List.setIfInBounds_toArray, List.set_cons_succ, List.set_cons_zero]
      refine anyH_take 37 (some 110) (.pointer (some ⟨g1, o1 + 8, none⟩)) rfl rfl ns11 q11_37.1 q11_37.2 (fun _ _ _ h => h.elim) (.inl ⟨by rfl, fun W hW => by go_simp⟩) hS ?_
      simp only [Act.put, List.setIfInBounds_toArray, List.set_cons_succ, List.set_cons_zero]
      refine anyH_take 38 (some 111) (.pointer (some ⟨g1, o1 + 14, none⟩)) rfl rfl ns11 q11_38.1 q11_38.2 (fun _ _ _ h => h.elim) (.inl ⟨by rfl, fun W hW => by go_simp⟩) hS ?_
      simp only [Act.put, List.setIfInBounds_toArray, List.set_cons_succ, List.set_cons_zero]
      refine anyH_take 39 (some 112) (.pointer (some ⟨g1, o1 + 15, none⟩)) rfl rfl ns11 q11_39.1 q11_39.2 (fun _ _ _ h => h.elim) (.inl ⟨by rfl, fun W hW => by go_simp⟩) hS ?_
      simp only [Act.put, List.setIfInBounds_toArray, List.set_cons_succ, List.set_cons_zero]
      refine anyH_take 40 (some 113) (.bool false) rfl rfl ns11 q11_40.1 q11_40.2 (fun _ _ _ h => h.elim) (.inl ⟨by rfl, fun W hW => by have := hW.cell m17 id; go_simp⟩) hS ?_
      simp only [Act.put, List.setIfInBounds_toArray, List.set_cons_succ, List.set_cons_zero]
      refine anyH_take 41 (some 114) (.bool true) rfl rfl ns11 q11_41.1 q11_41.2 (fun _ _ _ h => h.elim) (.inl ⟨by rfl, fun W hW => by go_simp⟩) hS ?_
      simp only [Act.put, List.setIfInBounds_toArray, List.set_cons_succ, List.set_cons_zero]
      refine anyH_take 42 (some 115) (.bool true) rfl rfl ns11 q11_42.1 q11_42.2 (fun _ _ _ h => h.elim) (.inl ⟨by rfl, fun W hW => by go_simp⟩) hS ?_
      simp only [Act.put, List.setIfInBounds_toArray, List.set_cons_succ, List.set_cons_zero]
      refine anyH_take 43 (some 116) (.bool true) rfl rfl ns11 q11_43.1 q11_43.2 (fun _ _ _ h => h.elim) (.inl ⟨by rfl, fun W hW => by go_simp⟩) hS ?_
      simp only [Act.put, List.setIfInBounds_toArray, List.set_cons_succ, List.set_cons_zero]
      refine anyH_take 44 (some 117) (.int .u64 0) rfl rfl ns11 q11_44.1 q11_44.2 (fun _ _ _ h => h.elim) (.inl ⟨by rfl, fun W hW => by go_simp⟩) hS ?_
      simp only [Act.put, List.setIfInBounds_toArray, List.set_cons_succ, List.set_cons_zero]
      refine anyH_take 45 (some 118) (.bool true) rfl rfl ns11 q11_45.1 q11_45.2 (fun _ _ _ h => h.elim) (.inl ⟨by rfl, fun W hW => by go_simp⟩) hS ?_
      simp only [Act.put, List.setIfInBounds_toArray, List.set_cons_succ, List.set_cons_zero]
      refine anyH_take 46 (some 119) (.bool true) rfl rfl ns11 q11_46.1 q11_46.2 (fun _ _ _ h => h.elim) (.inl ⟨by rfl, fun W hW => by go_simp⟩) hS ?_
      simp only [Act.put, List.setIfInBounds_toArray, List.set_cons_succ, List.set_cons_zero]
      refine anyH_take 47 (some 120) (.bool true) rfl rfl ns11 q11_47.1 q11_47.2 (fun _ _ _ h => h.elim) (.inl ⟨by rfl, fun W hW => by go_simp⟩) hS ?_
      simp only [Act.put, List.setIfInBounds_toArray, List.set_cons_succ, List.set_cons_zero]
      refine anyH_take 48 (some 121) (.agg #[.int .i64 3, .bool true]) rfl rfl ns11 q11_48.1 q11_48.2 (fun _ _ _ h => h.elim) (.inl ⟨by rfl, fun W hW => run_load_row 89 (.tmp 11) rfl A rfl 89 #[.int .i64 3, .bool true] (0, 0) _ (hW.heap hA id) Try.underlying89 rfl info89⟩) hS ?_
      simp only [Act.put, List.setIfInBounds_toArray, List.set_cons_succ, List.set_cons_zero]
      refine anyH_take 49 (some 122) (.agg #[.int .i64 3, .bool true]) rfl rfl ns11 q11_49.1 q11_49.2 (fun _ _ _ h => h.elim) (.inl ⟨by rfl, fun W hW => by go_simp⟩) hS ?_
      simp only [Act.put, List.setIfInBounds_toArray, List.set_cons_succ, List.set_cons_zero]
      refine anyH_take 50 (some 123) (.bool true) rfl rfl ns11 q11_50.1 q11_50.2 (fun _ _ _ h => h.elim) (.inl ⟨by rfl, fun W hW => run_eql_answer' (.tmp 121) (.tmp 122) rfl 3 3 true true rfl rfl rfl⟩) hS ?_
      simp only [Act.put, List.setIfInBounds_toArray, List.set_cons_succ, List.set_cons_zero]
      refine anyH_take 51 (some 124) (.bool true) rfl rfl ns11 q11_51.1 q11_51.2 (fun _ _ _ h => h.elim) (.inl ⟨by rfl, fun W hW => by go_simp⟩) hS ?_
      simp only [Act.put, List.setIfInBounds_toArray, List.set_cons_succ, List.set_cons_zero]
      refine anyH_take 52 (some 125) (.bool true) rfl rfl ns11 q11_52.1 q11_52.2 (fun _ _ _ h => h.elim) (.inl ⟨by rfl, fun W hW => by go_simp⟩) hS ?_
      simp only [Act.put, List.setIfInBounds_toArray, List.set_cons_succ, List.set_cons_zero]
      refine anyH_take 53 (some 126) (.bool false) rfl rfl ns11 q11_53.1 q11_53.2 (fun _ _ _ h => h.elim) (.inl ⟨by rfl, fun W hW => by go_simp⟩) hS ?_
      simp only [Act.put, List.setIfInBounds_toArray, List.set_cons_succ, List.set_cons_zero]
      refine anyH_take 54 (some 127) (.bool true) rfl rfl ns11 q11_54.1 q11_54.2 (fun _ _ _ h => h.elim) (.inl ⟨by rfl, fun W hW => by go_simp⟩) hS ?_
      simp only [Act.put, List.setIfInBounds_toArray, List.set_cons_succ, List.set_cons_zero]
      refine anyH_take 55 (some 128) (.bool true) rfl rfl ns11 q11_55.1 q11_55.2 (fun _ _ _ h => h.elim) (.inl ⟨by rfl, fun W hW => by go_simp⟩) hS ?_
      simp only [Act.put, List.setIfInBounds_toArray, List.set_cons_succ, List.set_cons_zero]
      refine anyH_take 56 (some 129) (.bool true) rfl rfl ns11 q11_56.1 q11_56.2 (fun _ _ _ h => h.elim) (.inl ⟨by rfl, fun W hW => by go_simp⟩) hS ?_
      simp only [Act.put, List.setIfInBounds_toArray, List.set_cons_succ, List.set_cons_zero]
      refine anyH_take 57 (some 130) (.agg #[.int .u64 (wm2.word : Nat), .int .i64 wm2.clock, .slice a2 wm2.ths.length c2, .slice b2 4 d2]) rfl rfl ns11 q11_57.1 q11_57.2 (fun _ _ _ h => h.elim) (.inl ⟨by rfl, fun W hW => run_load_row 77 (.tmp 6) rfl M2 rfl 77 #[.int .u64 (wm2.word : Nat), .int .i64 wm2.clock, .slice a2 wm2.ths.length c2, .slice b2 4 d2] (0, 0) _ (hW.heap hB2 id) Try.underlying77 rfl info77⟩) hS ?_
      simp only [Act.put, List.setIfInBounds_toArray, List.set_cons_succ, List.set_cons_zero]
      refine wpAnyH_all (rs := [58]) q11_58 (by simp) ?_
      simp only [List.mem_cons, List.not_mem_nil, or_false, forall_eq_or_imp, forall_eq]
      refine opH_call (some 131) rfl (by rfl) rfl 94 #[.agg #[.int .u64 (wm2.word : Nat), .int .i64 wm2.clock, .slice a2 wm2.ths.length c2, .slice b2 4 d2]] (by go_simp) ((HRt.out _ hS).mono ?_)
      rintro e Wc ⟨rfl, hN1⟩
      refine ⟨_, rfl, hS.trans hN1, ?_⟩
      simp only [Act.put, List.setIfInBounds_toArray, List.set_cons_succ, List.set_cons_zero]
      replace hS := hS.trans hN1
      clear hN1
      refine anyH_take 59 (some 132) (.bool true) rfl rfl ns11 q11_59.1 q11_59.2 (fun _ _ _ h => h.elim) (.inl ⟨by rfl, fun W hW => by go_simp⟩) hS ?_
      simp only [Act.put, List.setIfInBounds_toArray, List.set_cons_succ, List.set_cons_zero]
      refine anyH_take 60 (some 133) (.bool true) rfl rfl ns11 q11_60.1 q11_60.2 (fun _ _ _ h => h.elim) (.inl ⟨by rfl, fun W hW => by go_simp⟩) hS ?_
      simp only [Act.put, List.setIfInBounds_toArray, List.set_cons_succ, List.set_cons_zero]
      refine anyH_take 61 (some 134) (.pointer (some ⟨M2, 3, none⟩)) rfl rfl ns11 q11_61.1 q11_61.2 (fun _ _ _ h => h.elim) (.inl ⟨by rfl, fun W hW => by go_simp⟩) hS ?_
      simp only [Act.put, List.setIfInBounds_toArray, List.set_cons_succ, List.set_cons_zero]
      refine anyH_take 62 (some 135) (.slice b2 4 d2) rfl rfl ns11 q11_62.1 q11_62.2 (fun _ _ _ h => h.elim) (.inl ⟨by rfl, fun W hW => by have := (hB2.new hW).c3; go_simp⟩) hS ?_
      simp only [Act.put, List.setIfInBounds_toArray, List.set_cons_succ, List.set_cons_zero]
      refine anyH_take 63 (some 136) (.pointer (some ⟨M2, 0, none⟩)) rfl rfl ns11 q11_63.1 q11_63.2 (fun _ _ _ h => h.elim) (.inl ⟨by rfl, fun W hW => by go_simp⟩) hS ?_
      simp only [Act.put, List.setIfInBounds_toArray, List.set_cons_succ, List.set_cons_zero]
      refine anyH_take 64 (some 137) (.int .u64 (wm2.word : Nat)) rfl rfl ns11 q11_64.1 q11_64.2 (fun _ _ _ h => h.elim) (.inl ⟨by rfl, fun W hW => by have := (hB2.new hW).c0; go_simp⟩) hS ?_
      simp only [Act.put, List.setIfInBounds_toArray, List.set_cons_succ, List.set_cons_zero]
      refine wpAnyH_all (rs := [65]) q11_65 (by simp) ?_
      simp only [List.mem_cons, List.not_mem_nil, or_false, forall_eq_or_imp, forall_eq]
      refine opH_call (some 138) rfl (by rfl) rfl 52 #[.int .u64 0, .slice b2 4 d2, .int .u64 (wm2.word : Nat)] (by go_simp) ((HL2.out _ hS).mono ?_)
      rintro e Wc ⟨rfl, hN1⟩
      refine ⟨_, rfl, hS.trans hN1, ?_⟩
      simp only [Act.put, List.setIfInBounds_toArray, List.set_cons_succ, List.set_cons_zero]
      replace hS := hS.trans hN1
      clear hN1
      refine anyH_take 66 (some 139) (.bool true) rfl rfl ns11 q11_66.1 q11_66.2 (fun _ _ _ h => h.elim) (.inl ⟨by rfl, fun W hW => by go_simp⟩) hS ?_
      simp only [Act.put, List.setIfInBounds_toArray, List.set_cons_succ, List.set_cons_zero]
      refine anyH_take 67 (some 140) (.bool true) rfl rfl ns11 q11_67.1 q11_67.2 (fun _ _ _ h => h.elim) (.inl ⟨by rfl, fun W hW => by go_simp⟩) hS ?_
      simp only [Act.put, List.setIfInBounds_toArray, List.set_cons_succ, List.set_cons_zero]
      refine anyH_take 68 (some 141) (.pointer (some ⟨M1, 3, none⟩)) rfl rfl ns11 q11_68.1 q11_68.2 (fun _ _ _ h => h.elim) (.inl ⟨by rfl, fun W hW => by go_simp⟩) hS ?_
      simp only [Act.put, List.setIfInBounds_toArray, List.set_cons_succ, List.set_cons_zero]
      refine anyH_take 69 (some 142) (.slice (some ⟨g1, o1, none⟩) 2 d1) rfl rfl ns11 q11_69.1 q11_69.2 (fun _ _ _ h => h.elim) (.inl ⟨by rfl, fun W hW => by have := (hB1.new hW).c3; go_simp⟩) hS ?_
      simp only [Act.put, List.setIfInBounds_toArray, List.set_cons_succ, List.set_cons_zero]
      refine anyH_take 70 (some 143) (.pointer (some ⟨M1, 0, none⟩)) rfl rfl ns11 q11_70.1 q11_70.2 (fun _ _ _ h => h.elim) (.inl ⟨by rfl, fun W hW => by go_simp⟩) hS ?_
      simp only [Act.put, List.setIfInBounds_toArray, List.set_cons_succ, List.set_cons_zero]
      refine anyH_take 71 (some 144) (.int .u64 (wm1.word : Nat)) rfl rfl ns11 q11_71.1 q11_71.2 (fun _ _ _ h => h.elim) (.inl ⟨by rfl, fun W hW => by have := (hB1.new hW).c0; go_simp⟩) hS ?_
      simp only [Act.put, List.setIfInBounds_toArray, List.set_cons_succ, List.set_cons_zero]
      refine wpAnyH_all (rs := [72]) q11_72 (by simp) ?_
      simp only [List.mem_cons, List.not_mem_nil, or_false, forall_eq_or_imp, forall_eq]
      refine opH_call (some 145) rfl (by rfl) rfl 52 #[.int .u64 0, .slice (some ⟨g1, o1, none⟩) 2 d1, .int .u64 (wm1.word : Nat)] (by go_simp) ((HL1.out _ hS).mono ?_)
      rintro e Wc ⟨rfl, hN1⟩
      refine ⟨_, rfl, hS.trans hN1, ?_⟩
      simp only [Act.put, List.setIfInBounds_toArray, List.set_cons_succ, List.set_cons_zero]
      replace hS := hS.trans hN1
      clear hN1
      refine anyH_take 73 (some 146) (.bool true) rfl rfl ns11 q11_73.1 q11_73.2 (fun _ _ _ h => h.elim) (.inl ⟨by rfl, fun W hW => by go_simp⟩) hS ?_
      simp only [Act.put, List.setIfInBounds_toArray, List.set_cons_succ, List.set_cons_zero]
      refine anyH_take 74 (some 147) (.bool true) rfl rfl ns11 q11_74.1 q11_74.2 (fun _ _ _ h => h.elim) (.inl ⟨by rfl, fun W hW => by go_simp⟩) hS ?_
      simp only [Act.put, List.setIfInBounds_toArray, List.set_cons_succ, List.set_cons_zero]
      refine anyH_take 75 (some 148) (.slice (some ⟨g, 0, none⟩) 2 gc) rfl rfl ns11 q11_75.1 q11_75.2 (fun _ _ _ h => h.elim) (.inl ⟨by rfl, fun W hW => by go_simp⟩) hS ?_
      simp only [Act.put, List.setIfInBounds_toArray, List.set_cons_succ, List.set_cons_zero]
      refine anyH_take 76 (some 149) (.pointer (some ⟨M1, 0, none⟩)) rfl rfl ns11 q11_76.1 q11_76.2 (fun _ _ _ h => h.elim) (.inl ⟨by rfl, fun W hW => by go_simp⟩) hS ?_
      simp only [Act.put, List.setIfInBounds_toArray, List.set_cons_succ, List.set_cons_zero]
      refine anyH_take 77 (some 150) (.int .u64 (wm1.word : Nat)) rfl rfl ns11 q11_77.1 q11_77.2 (fun _ _ _ h => h.elim) (.inl ⟨by rfl, fun W hW => by have := (hB1.new hW).c0; go_simp⟩) hS ?_
      simp only [Act.put, List.setIfInBounds_toArray, List.set_cons_succ, List.set_cons_zero]
      refine wpAnyH_all (rs := [78]) q11_78 (by simp) ?_
      simp only [List.mem_cons, List.not_mem_nil, or_false, forall_eq_or_imp, forall_eq]
      refine opH_call (some 151) rfl (by rfl) rfl 52 #[.int .u64 0, .slice (some ⟨g, 0, none⟩) 2 gc, .int .u64 (wm1.word : Nat)] (by go_simp) ((HLb.out _ hS).mono ?_)
      rintro e Wc ⟨rfl, hN1⟩
      refine ⟨_, rfl, hS.trans hN1, ?_⟩
      simp only [Act.put, List.setIfInBounds_toArray, List.set_cons_succ, List.set_cons_zero]
      replace hS := hS.trans hN1
      clear hN1
      refine anyH_take 79 (some 152) (.bool true) rfl rfl ns11 q11_79.1 q11_79.2 (fun _ _ _ h => h.elim) (.inl ⟨by rfl, fun W hW => by go_simp⟩) hS ?_
      simp only [Act.put, List.setIfInBounds_toArray, List.set_cons_succ, List.set_cons_zero]
      refine anyH_take 80 (some 153) (.bool true) rfl rfl ns11 q11_80.1 q11_80.2 (fun _ _ _ h => h.elim) (.inl ⟨by rfl, fun W hW => by go_simp⟩) hS ?_
      simp only [Act.put, List.setIfInBounds_toArray, List.set_cons_succ, List.set_cons_zero]
      refine anyH_take 81 (some 154) (.bool true) rfl rfl ns11 q11_81.1 q11_81.2 (fun _ _ _ h => h.elim) (.inl ⟨by rfl, fun W hW => by go_simp⟩) hS ?_
      simp only [Act.put, List.setIfInBounds_toArray, List.set_cons_succ, List.set_cons_zero]
      refine anyH_take 82 (some 155) (.agg #[.int .u64 (wm2.word : Nat), .int .i64 wm2.clock, .slice a2 wm2.ths.length c2, .slice b2 4 d2]) rfl rfl ns11 q11_82.1 q11_82.2 (fun _ _ _ h => h.elim) (.inl ⟨by rfl, fun W hW => run_load_row 77 (.tmp 6) rfl M2 rfl 77 #[.int .u64 (wm2.word : Nat), .int .i64 wm2.clock, .slice a2 wm2.ths.length c2, .slice b2 4 d2] (0, 0) _ (hW.heap hB2 id) Try.underlying77 rfl info77⟩) hS ?_
      simp only [Act.put, List.setIfInBounds_toArray, List.set_cons_succ, List.set_cons_zero]
      refine anyH_take 84 (some 157) (.agg #[.int .u64 (wm2.word : Nat), .int .i64 wm2.clock, .slice a2 wm2.ths.length c2, .slice b2 4 d2]) rfl rfl ns11 q11_83.1 q11_83.2 (fun _ _ _ h => h.elim) (.inl ⟨by rfl, fun W hW => run_load_row 77 (.tmp 6) rfl M2 rfl 77 #[.int .u64 (wm2.word : Nat), .int .i64 wm2.clock, .slice a2 wm2.ths.length c2, .slice b2 4 d2] (0, 0) _ (hW.heap hB2 id) Try.underlying77 rfl info77⟩) hS ?_
      simp only [Act.put, List.setIfInBounds_toArray, List.set_cons_succ, List.set_cons_zero]
      refine wpAnyH_all (rs := [83]) q11_84 (by simp) ?_
      simp only [List.mem_cons, List.not_mem_nil, or_false, forall_eq_or_imp, forall_eq]
      refine opH_call (some 156) rfl (by rfl) rfl 96 #[.agg #[.int .u64 (wm2.word : Nat), .int .i64 wm2.clock, .slice a2 wm2.ths.length c2, .slice b2 4 d2]] (by go_simp) ((HOw.out _ hS).mono ?_)
      rintro e Wc ⟨v6, rfl, hv6, hN1⟩
      refine ⟨_, rfl, hS.trans hN1, ?_⟩
      simp only [Act.put, List.setIfInBounds_toArray, List.set_cons_succ, List.set_cons_zero]
      replace hS := hS.trans hN1
      clear hN1
      refine wpAnyH_all (rs := [85]) q11_85 (by simp) ?_
      simp only [List.mem_cons, List.not_mem_nil, or_false, forall_eq_or_imp, forall_eq]
      refine opH_call (some 158) rfl (by rfl) rfl 95 #[v6, .agg #[.int .u64 (wm2.word : Nat), .int .i64 wm2.clock, .slice a2 wm2.ths.length c2, .slice b2 4 d2]] (by go_simp) ((HS1.out _ _ hv6 hS).mono ?_)
      rintro e Wc ⟨rfl, hN1⟩
      refine ⟨_, rfl, hS.trans hN1, ?_⟩
      simp only [Act.put, List.setIfInBounds_toArray, List.set_cons_succ, List.set_cons_zero]
      replace hS := hS.trans hN1
      clear hN1
      refine anyH_take 86 (some 159) (.bool true) rfl rfl ns11 q11_86.1 q11_86.2 (fun _ _ _ h => h.elim) (.inl ⟨by rfl, fun W hW => by go_simp⟩) hS ?_
      simp only [Act.put, List.setIfInBounds_toArray, List.set_cons_succ, List.set_cons_zero]
      refine anyH_take 87 (some 160) (.bool true) rfl rfl ns11 q11_87.1 q11_87.2 (fun _ _ _ h => h.elim) (.inl ⟨by rfl, fun W hW => by go_simp⟩) hS ?_
      simp only [Act.put, List.setIfInBounds_toArray, List.set_cons_succ, List.set_cons_zero]
      refine anyH_take 88 (some 161) (.agg #[.int .u64 (wm2.word : Nat), .int .i64 wm2.clock, .slice a2 wm2.ths.length c2, .slice b2 4 d2]) rfl rfl ns11 q11_88.1 q11_88.2 (fun _ _ _ h => h.elim) (.inl ⟨by rfl, fun W hW => run_load_row 77 (.tmp 6) rfl M2 rfl 77 #[.int .u64 (wm2.word : Nat), .int .i64 wm2.clock, .slice a2 wm2.ths.length c2, .slice b2 4 d2] (0, 0) _ (hW.heap hB2 id) Try.underlying77 rfl info77⟩) hS ?_
      simp only [Act.put, List.setIfInBounds_toArray, List.set_cons_succ, List.set_cons_zero]
      refine anyH_take 89 (some 162) (.agg #[.int .u64 (wm1.word : Nat), .int .i64 6, .slice a1 2 c1, .slice (some ⟨g1, o1, none⟩) 2 d1]) rfl rfl ns11 q11_89.1 q11_89.2 (fun _ _ _ h => h.elim) (.inl ⟨by rfl, fun W hW => run_load_row 77 (.tmp 4) rfl M1 rfl 77 #[.int .u64 (wm1.word : Nat), .int .i64 6, .slice a1 2 c1, .slice (some ⟨g1, o1, none⟩) 2 d1] (0, 0) _ (hW.heap hB1 id) Try.underlying77 rfl info77⟩) hS ?_
      simp only [Act.put, List.setIfInBounds_toArray, List.set_cons_succ, List.set_cons_zero]
      refine wpAnyH_all (rs := [90]) q11_90 (by simp) ?_
      simp only [List.mem_cons, List.not_mem_nil, or_false, forall_eq_or_imp, forall_eq]
      refine opH_call (some 163) rfl (by rfl) rfl 95 #[.agg #[.int .u64 (wm2.word : Nat), .int .i64 wm2.clock, .slice a2 wm2.ths.length c2, .slice b2 4 d2], .agg #[.int .u64 (wm1.word : Nat), .int .i64 6, .slice a1 2 c1, .slice (some ⟨g1, o1, none⟩) 2 d1]] (by go_simp) ((HS2.out _ hS).mono ?_)
      rintro e Wc ⟨rfl, hN1⟩
      refine ⟨_, rfl, hS.trans hN1, ?_⟩
      simp only [Act.put, List.setIfInBounds_toArray, List.set_cons_succ, List.set_cons_zero]
      replace hS := hS.trans hN1
      clear hN1
      refine anyH_take 91 (some 164) (.bool true) rfl rfl ns11 q11_91.1 q11_91.2 (fun _ _ _ h => h.elim) (.inl ⟨by rfl, fun W hW => by go_simp⟩) hS ?_
      simp only [Act.put, List.setIfInBounds_toArray, List.set_cons_succ, List.set_cons_zero]
      refine anyH_take 92 (some 165) (.bool true) rfl rfl ns11 q11_92.1 q11_92.2 (fun _ _ _ h => h.elim) (.inl ⟨by rfl, fun W hW => by go_simp⟩) hS ?_
      simp only [Act.put, List.setIfInBounds_toArray, List.set_cons_succ, List.set_cons_zero]
      refine anyH_take 93 (some 0) (.bool true) rfl rfl ns11 q11_93.1 q11_93.2 (fun _ _ _ h => h.elim) (.inl ⟨by rfl, fun W hW => by go_simp⟩) hS ?_
      simp only [Act.put, List.setIfInBounds_toArray, List.set_cons_succ, List.set_cons_zero]
      refine wpAnyH_done q11_94 ?_ _
      exact ⟨⟨undef, rfl, rfl⟩, hS⟩
    · rintro a' W' ⟨⟨_, hr0, hdf⟩, hN⟩
      have Hr0 := Lib.hid hr0
      have Hdf := Lib.hid hdf
      have HN := Lib.hid (hNw.out.trans hN)
      clear hr0 hdf hN HRt HL2 HL1 HLb HOw HS1 HS2 hB1 hB2 hA m05 m07 m15 m17
      go_wp2_with fail
      refine bodyPost_ret (results_tmp rfl _ _ _) (by simpa using Hdf.out) ?_
      exact ⟨by rw [Hr0.out], HN.out⟩
end Go.Proofs.Ytkjloeefcaadlaa
