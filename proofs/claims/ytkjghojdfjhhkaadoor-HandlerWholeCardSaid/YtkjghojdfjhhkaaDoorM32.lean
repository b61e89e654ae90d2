/- The handler's wakes: true. -/
import Derived.Test.YtkjghojdfjhhkaaDoorM31
import Derived.Test.YtkjghojdfjhhkaaDoorM29
import Derived.Lib.SlBytesConst
import Derived.Test.YtkjghojdfjhhkaaDoorM26
import Derived.Test.YtkjghojdfjhhkaaDoorM23
import Derived.Test.YtkjghojdfjhhkaaDoorM28
import Derived.Test.YtkjghojdfjhhkaaDoorM16
set_option linter.unusedSimpArgs false
set_option linter.unusedVariables false
namespace Go.Proofs.YtkjghojdfjhhkaaDoor
open Go.RowKit Go.Shelf Go.Cs
attribute [local go_sem] Oper.semAt_some
set_option linter.unusedVariables false
set_option linter.unusedSimpArgs false
theorem hello_B (w : World) : RdB (w.alloc (.cells #[.int .u8 104, .int .u8 101, .int .u8 108, .int .u8 108, .int .u8 111] 5 (5, 6))) (.slice (some ⟨w.heap.size, 0, none⟩) 5 5) [104, 101, 108, 108, 111] := by
  refine ⟨⟨by decide, some ⟨w.heap.size, 0, none⟩, 5, rfl, fun i hi => ⟨w.heap.size, 0, rfl, ?_⟩⟩, fun ao n cap e => by cases e; exact ⟨Nat.le_refl _, fun h => by cases h⟩⟩
  have hr := World.alloc_heap_new w (.cells #[.int .u8 104, .int .u8 101, .int .u8 108, .int .u8 108, .int .u8 111] 5 (5, 6))
  have hi : i < 5 := hi
  rw [Nat.zero_add]
  have hc : i = 0 ∨ i = 1 ∨ i = 2 ∨ i = 3 ∨ i = 4 := by omega
  rcases hc with rfl | rfl | rfl | rfl | rfl <;> exact cell_of_row _ _ _ _ _ _ hr
theorem nilB (w : World) : RdB w (.slice none 0 0) [] := (OwB.none 0 w).reads
set_option maxHeartbeats 8000000 in
set_option maxRecDepth 100000 in
theorem wakesH_any (w : World) (hT : Tab w) : Calls Tryd.prog 14 #[] w fun e w' => e = .returned (.bool true) ∧ New w w' := by
  have HT := Lib.hid hT
  clear hT
  have hN0 : New w w := Mods.refl _ _
  have R2 := OwB.none 0 w
  go_enter Tryd.func14, Tryd.ntmps14
  go_upto_region 2 with fail
  have rB := World.alloc_heap_new w (.cells #[.int .i64 1, .int .u8 1, .int .i64 3, .int .i64 0, .int .i64 0, .bool false, .bool false, .slice none 0 0, .int .u8 0, .bool false, .int .i64 (-1)] 24)
  have hA : New w (w.alloc (.cells #[.int .i64 1, .int .u8 1, .int .i64 3, .int .i64 0, .int .i64 0, .bool false, .bool false, .slice none 0 0, .int .u8 0, .bool false, .int .i64 (-1)] 24)) := (Mods.refl _ _).alloc _
  obtain ⟨W1, hWn⟩ : ∃ V, w.alloc (.cells #[.int .i64 1, .int .u8 1, .int .i64 3, .int .i64 0, .int .i64 0, .bool false, .bool false, .slice none 0 0, .int .u8 0, .bool false, .int .i64 (-1)] 24) = V := ⟨_, rfl⟩
  rw [hWn] at rB hA ⊢
  obtain ⟨Bs, hBn⟩ : ∃ V, w.heap.size = V := ⟨_, rfl⟩
  rw [hBn] at rB ⊢
  clear hWn hBn
  have VS : Va W1 Bs kS := ⟨_, rB, R2.new hA⟩
  clear rB R2
  have hN1 := hN0.trans hA
  clear hA hN0
  obtain ⟨ov, r, R⟩ := VS
  have HC := write_S _ (.slice none 0 0) kS [] W1 ⟨_, rfl, R.reads⟩ (nilB _) (by decide) (by decide)
  simp only [kw1] at HC
  have HC := Lib.hid HC
  go_wp2_with (refine op_value rfl (run_load_row 24 (.tmp 1) rfl Bs rfl 24 _ (0, 0) _ r Tryd.underlying24 rfl info24) ?_)
  refine HC.out.mono ?_
  rintro e W2 ⟨v', rfl, ⟨ov2, rfl, O2⟩, hk⟩
  clear HC
  have VS : Va W1 Bs kS := ⟨ov, r, R⟩
  clear r R
  have R2 := O2.mono (Nat.zero_le _)
  clear O2
  replace VS := VS.new hk
  have hN2 := hN1.trans hk
  clear hk hN1
  obtain ⟨o1, c1, rfl⟩ := R2.slice
  rw [show (St.cs kS (.slice o1 (St.out kS).length c1)).toArray = #[.int .i64 1, .int .u8 1, .int .i64 3, .int .i64 0, .int .i64 0, .bool false, .bool false, .slice o1 0 c1, .int .u8 0, .bool false, .int .i64 (-1)] from rfl]
  go_upto_region 3 with fail
  have rB := World.alloc_heap_new W2 (.cells #[.int .i64 1, .int .u8 1, .int .i64 3, .int .i64 0, .int .i64 0, .bool false, .bool false, .slice o1 0 c1, .int .u8 0, .bool false, .int .i64 (-1)] 24)
  have hA : New W2 (W2.alloc (.cells #[.int .i64 1, .int .u8 1, .int .i64 3, .int .i64 0, .int .i64 0, .bool false, .bool false, .slice o1 0 c1, .int .u8 0, .bool false, .int .i64 (-1)] 24)) := (Mods.refl _ _).alloc _
  obtain ⟨W3, hWn⟩ : ∃ V, W2.alloc (.cells #[.int .i64 1, .int .u8 1, .int .i64 3, .int .i64 0, .int .i64 0, .bool false, .bool false, .slice o1 0 c1, .int .u8 0, .bool false, .int .i64 (-1)] 24) = V := ⟨_, rfl⟩
  rw [hWn] at rB hA ⊢
  obtain ⟨Bx2, hBn⟩ : ∃ V, W2.heap.size = V := ⟨_, rfl⟩
  rw [hBn] at rB ⊢
  clear hWn hBn
  clear rB R2
  replace VS := VS.new hA
  have hN3 := hN2.trans hA
  clear hA hN2
  obtain ⟨ov, r, R⟩ := VS
  have HC := answer_S _ (.slice none 0 0) kS 200 [] W3 ⟨_, rfl, R.reads⟩ (by decide) (by decide) (by decide) (ReadsL.nil _ _ _) (fun p hp => by cases hp) (fun ao n cap e => by cases e; exact ⟨Nat.le_refl _, fun _ => rfl⟩) (HT.out.new hN3) (by decide)
  simp only [ka1, AnsS] at HC
  have HC := Lib.hid HC
  go_wp2_with (refine op_value rfl (run_load_row 24 (.tmp 1) rfl Bs rfl 24 _ (0, 0) _ r Tryd.underlying24 rfl info24) ?_)
  refine HC.out.mono ?_
  rintro e W4 ⟨v', l', rfl, ⟨ov2, rfl, O2⟩, hl, hcap, hk⟩
  clear HC
  have VS : Va W3 Bs kS := ⟨ov, r, R⟩
  clear r R
  have R2 := O2.mono (Nat.zero_le _)
  clear O2
  obtain ⟨la, lc, rfl⟩ := hl.1.slice
  rw [show kL.length = 1 from rfl]
  clear hl hcap
  replace VS := VS.new hk
  have hN4 := hN3.trans hk
  clear hk hN3
  obtain ⟨o2, c2, rfl⟩ := R2.slice
  rw [show (St.cs kA (.slice o2 (St.out kA).length c2)).toArray = #[.int .i64 1, .int .u8 1, .int .i64 3, .int .i64 0, .int .i64 0, .bool true, .bool false, .slice o2 0 c2, .int .u8 0, .bool false, .int .i64 (-1)] from rfl]
  go_upto_region 4 with fail
  have rB := World.alloc_heap_new W4 (.cells #[.int .i64 1, .int .u8 1, .int .i64 3, .int .i64 0, .int .i64 0, .bool true, .bool false, .slice o2 0 c2, .int .u8 0, .bool false, .int .i64 (-1)] 24)
  have hA : New W4 (W4.alloc (.cells #[.int .i64 1, .int .u8 1, .int .i64 3, .int .i64 0, .int .i64 0, .bool true, .bool false, .slice o2 0 c2, .int .u8 0, .bool false, .int .i64 (-1)] 24)) := (Mods.refl _ _).alloc _
  obtain ⟨W5, hWn⟩ : ∃ V, W4.alloc (.cells #[.int .i64 1, .int .u8 1, .int .i64 3, .int .i64 0, .int .i64 0, .bool true, .bool false, .slice o2 0 c2, .int .u8 0, .bool false, .int .i64 (-1)] 24) = V := ⟨_, rfl⟩
  rw [hWn] at rB hA ⊢
  obtain ⟨Ba, hBn⟩ : ∃ V, W4.heap.size = V := ⟨_, rfl⟩
  rw [hBn] at rB ⊢
  clear hWn hBn
  have VA : Va W5 Ba kA := ⟨_, rB, R2.new hA⟩
  clear rB R2
  replace VS := VS.new hA
  have hN5 := hN4.trans hA
  clear hA hN4
  obtain ⟨ov, r, R⟩ := VA
  have HC := answer_S _ (.slice none 0 0) kA 200 [] W5 ⟨_, rfl, R.reads⟩ (by decide) (by decide) (by decide) (ReadsL.nil _ _ _) (fun p hp => by cases hp) (fun ao n cap e => by cases e; exact ⟨Nat.le_refl _, fun _ => rfl⟩) (HT.out.new hN5) (by decide)
  simp only [ka2, AnsS] at HC
  have HC := Lib.hid HC
  go_wp2_with (refine op_value rfl (run_load_row 24 (.tmp 4) rfl Ba rfl 24 _ (0, 0) _ r Tryd.underlying24 rfl info24) ?_)
  refine HC.out.mono ?_
  rintro e W6 ⟨v', l', rfl, ⟨ov2, rfl, O2⟩, hl, hcap, hk⟩
  clear HC
  have VA : Va W5 Ba kA := ⟨ov, r, R⟩
  clear r R
  have R2 := O2.mono (Nat.zero_le _)
  clear O2
  clear hl hcap
  replace VS := VS.new hk
  replace VA := VA.new hk
  have hN6 := hN5.trans hk
  clear hk hN5
  obtain ⟨o3, c3, rfl⟩ := R2.slice
  rw [show (St.cs kA (.slice o3 (St.out kA).length c3)).toArray = #[.int .i64 1, .int .u8 1, .int .i64 3, .int .i64 0, .int .i64 0, .bool true, .bool false, .slice o3 0 c3, .int .u8 0, .bool false, .int .i64 (-1)] from rfl]
  go_upto_region 5 with fail
  have rB := World.alloc_heap_new W6 (.cells #[.int .i64 1, .int .u8 1, .int .i64 3, .int .i64 0, .int .i64 0, .bool true, .bool false, .slice o3 0 c3, .int .u8 0, .bool false, .int .i64 (-1)] 24)
  have hA : New W6 (W6.alloc (.cells #[.int .i64 1, .int .u8 1, .int .i64 3, .int .i64 0, .int .i64 0, .bool true, .bool false, .slice o3 0 c3, .int .u8 0, .bool false, .int .i64 (-1)] 24)) := (Mods.refl _ _).alloc _
  obtain ⟨W7, hWn⟩ : ∃ V, W6.alloc (.cells #[.int .i64 1, .int .u8 1, .int .i64 3, .int .i64 0, .int .i64 0, .bool true, .bool false, .slice o3 0 c3, .int .u8 0, .bool false, .int .i64 (-1)] 24) = V := ⟨_, rfl⟩
  rw [hWn] at rB hA ⊢
  obtain ⟨Bx4, hBn⟩ : ∃ V, W6.heap.size = V := ⟨_, rfl⟩
  rw [hBn] at rB ⊢
  clear hWn hBn
  clear rB R2
  replace VS := VS.new hA
  replace VA := VA.new hA
  have hN7 := hN6.trans hA
  clear hA hN6
  obtain ⟨ov, r, R⟩ := VS
  have HC := answer_S _ (.slice none 0 0) kS 99 [] W7 ⟨_, rfl, R.reads⟩ (by decide) (by decide) (by decide) (ReadsL.nil _ _ _) (fun p hp => by cases hp) (fun ao n cap e => by cases e; exact ⟨Nat.le_refl _, fun _ => rfl⟩) (HT.out.new hN7) (by decide)
  simp only [ka3, AnsS] at HC
  have HC := Lib.hid HC
  go_wp2_with (refine op_value rfl (run_load_row 24 (.tmp 1) rfl Bs rfl 24 _ (0, 0) _ r Tryd.underlying24 rfl info24) ?_)
  refine HC.out.mono ?_
  rintro e W8 ⟨v', l', rfl, ⟨ov2, rfl, O2⟩, hl, hcap, hk⟩
  clear HC
  have VS : Va W7 Bs kS := ⟨ov, r, R⟩
  clear r R
  have R2 := O2.mono (Nat.zero_le _)
  clear O2
  clear hl hcap
  replace VS := VS.new hk
  replace VA := VA.new hk
  have hN8 := hN7.trans hk
  clear hk hN7
  obtain ⟨o4, c4, rfl⟩ := R2.slice
  rw [show (St.cs kS (.slice o4 (St.out kS).length c4)).toArray = #[.int .i64 1, .int .u8 1, .int .i64 3, .int .i64 0, .int .i64 0, .bool false, .bool false, .slice o4 0 c4, .int .u8 0, .bool false, .int .i64 (-1)] from rfl]
  go_upto_region 6 with fail
  have rB := World.alloc_heap_new W8 (.cells #[.int .i64 1, .int .u8 1, .int .i64 3, .int .i64 0, .int .i64 0, .bool false, .bool false, .slice o4 0 c4, .int .u8 0, .bool false, .int .i64 (-1)] 24)
  have hA : New W8 (W8.alloc (.cells #[.int .i64 1, .int .u8 1, .int .i64 3, .int .i64 0, .int .i64 0, .bool false, .bool false, .slice o4 0 c4, .int .u8 0, .bool false, .int .i64 (-1)] 24)) := (Mods.refl _ _).alloc _
  obtain ⟨W9, hWn⟩ : ∃ V, W8.alloc (.cells #[.int .i64 1, .int .u8 1, .int .i64 3, .int .i64 0, .int .i64 0, .bool false, .bool false, .slice o4 0 c4, .int .u8 0, .bool false, .int .i64 (-1)] 24) = V := ⟨_, rfl⟩
  rw [hWn] at rB hA ⊢
  obtain ⟨Bx5, hBn⟩ : ∃ V, W8.heap.size = V := ⟨_, rfl⟩
  rw [hBn] at rB ⊢
  clear hWn hBn
  clear rB R2
  replace VS := VS.new hA
  replace VA := VA.new hA
  have hN9 := hN8.trans hA
  clear hA hN8
  obtain ⟨ov, r, R⟩ := VA
  have hA : New W9 (W9.alloc (.cells #[.int .u8 104, .int .u8 101, .int .u8 108, .int .u8 108, .int .u8 111] 5 (5, 6))) := (Mods.refl _ _).alloc _
  have HC := write_S _ _ kA _ (W9.alloc (.cells #[.int .u8 104, .int .u8 101, .int .u8 108, .int .u8 108, .int .u8 111] 5 (5, 6))) ⟨_, rfl, (R.new hA).reads⟩ (hello_B W9) (by decide) (by decide)
  simp only [kw2] at HC
  have HC := Lib.hid HC
  have kc := fun w => Lib.run_convert_bytes_const (P := Tryd.prog) w 22 5 #[.int .u8 104, .int .u8 101, .int .u8 108, .int .u8 108, .int .u8 111] 5 5 Tryd.underlying22 Tryd.underlying5
  go_wp2_with (refine op_value rfl (run_load_row 24 (.tmp 4) rfl Ba rfl 24 _ (0, 0) _ r Tryd.underlying24 rfl info24) ?_)
  refine HC.out.mono ?_
  rintro e W10 ⟨v', rfl, ⟨ov2, rfl, O2⟩, hk⟩
  clear HC
  have VA : Va W9 Ba kA := ⟨ov, r, R⟩
  clear r R
  have R2 := O2.mono (Nat.zero_le _)
  clear O2
  replace hk := hA.trans hk
  clear hA
  replace VS := VS.new hk
  replace VA := VA.new hk
  have hN10 := hN9.trans hk
  clear hk hN9
  obtain ⟨o5, c5, rfl⟩ := R2.slice
  rw [show (St.cs kB (.slice o5 (St.out kB).length c5)).toArray = #[.int .i64 1, .int .u8 1, .int .i64 3, .int .i64 0, .int .i64 0, .bool true, .bool false, .slice o5 5 c5, .int .u8 0, .bool false, .int .i64 (-1)] from rfl]
  go_upto_region 7 with fail
  have rB := World.alloc_heap_new W10 (.cells #[.int .i64 1, .int .u8 1, .int .i64 3, .int .i64 0, .int .i64 0, .bool true, .bool false, .slice o5 5 c5, .int .u8 0, .bool false, .int .i64 (-1)] 24)
  have hA : New W10 (W10.alloc (.cells #[.int .i64 1, .int .u8 1, .int .i64 3, .int .i64 0, .int .i64 0, .bool true, .bool false, .slice o5 5 c5, .int .u8 0, .bool false, .int .i64 (-1)] 24)) := (Mods.refl _ _).alloc _
  obtain ⟨W11, hWn⟩ : ∃ V, W10.alloc (.cells #[.int .i64 1, .int .u8 1, .int .i64 3, .int .i64 0, .int .i64 0, .bool true, .bool false, .slice o5 5 c5, .int .u8 0, .bool false, .int .i64 (-1)] 24) = V := ⟨_, rfl⟩
  rw [hWn] at rB hA ⊢
  obtain ⟨Bb, hBn⟩ : ∃ V, W10.heap.size = V := ⟨_, rfl⟩
  rw [hBn] at rB ⊢
  clear hWn hBn
  have VB : Va W11 Bb kB := ⟨_, rB, R2.new hA⟩
  clear rB R2
  replace VS := VS.new hA
  replace VA := VA.new hA
  have hN11 := hN10.trans hA
  clear hA hN10
  obtain ⟨ov, r, R⟩ := VB
  have HC := end_S _ kB W11 ⟨_, rfl, R.reads⟩ (by decide)
  simp only [ke1] at HC
  have HC := Lib.hid HC
  go_wp2_with (refine op_value rfl (run_load_row 24 (.tmp 13) rfl Bb rfl 24 _ (0, 0) _ r Tryd.underlying24 rfl info24) ?_)
  refine HC.out.mono ?_
  rintro e W12 ⟨v', rfl, ⟨ov2, rfl, O2⟩, hk⟩
  clear HC
  have VB : Va W11 Bb kB := ⟨ov, r, R⟩
  clear r R
  have R2 := O2.mono (Nat.zero_le _)
  clear O2
  replace VS := VS.new hk
  replace VA := VA.new hk
  replace VB := VB.new hk
  have hN12 := hN11.trans hk
  clear hk hN11
  obtain ⟨o6, c6, rfl⟩ := R2.slice
  rw [show (St.cs kC (.slice o6 (St.out kC).length c6)).toArray = #[.int .i64 1, .int .u8 1, .int .i64 3, .int .i64 0, .int .i64 0, .bool true, .bool true, .slice o6 5 c6, .int .u8 0, .bool false, .int .i64 (-1)] from rfl]
  go_upto_region 8 with fail
  have rB := World.alloc_heap_new W12 (.cells #[.int .i64 1, .int .u8 1, .int .i64 3, .int .i64 0, .int .i64 0, .bool true, .bool true, .slice o6 5 c6, .int .u8 0, .bool false, .int .i64 (-1)] 24)
  have hA : New W12 (W12.alloc (.cells #[.int .i64 1, .int .u8 1, .int .i64 3, .int .i64 0, .int .i64 0, .bool true, .bool true, .slice o6 5 c6, .int .u8 0, .bool false, .int .i64 (-1)] 24)) := (Mods.refl _ _).alloc _
  obtain ⟨W13, hWn⟩ : ∃ V, W12.alloc (.cells #[.int .i64 1, .int .u8 1, .int .i64 3, .int .i64 0, .int .i64 0, .bool true, .bool true, .slice o6 5 c6, .int .u8 0, .bool false, .int .i64 (-1)] 24) = V := ⟨_, rfl⟩
  rw [hWn] at rB hA ⊢
  obtain ⟨Bc, hBn⟩ : ∃ V, W12.heap.size = V := ⟨_, rfl⟩
  rw [hBn] at rB ⊢
  clear hWn hBn
  have VC : Va W13 Bc kC := ⟨_, rB, R2.new hA⟩
  clear rB R2
  replace VS := VS.new hA
  replace VA := VA.new hA
  replace VB := VB.new hA
  have hN13 := hN12.trans hA
  clear hA hN12
  obtain ⟨ov, r, R⟩ := VC
  have HC := end_S _ kC W13 ⟨_, rfl, R.reads⟩ (by decide)
  simp only [ke2] at HC
  have HC := Lib.hid HC
  go_wp2_with (refine op_value rfl (run_load_row 24 (.tmp 15) rfl Bc rfl 24 _ (0, 0) _ r Tryd.underlying24 rfl info24) ?_)
  refine HC.out.mono ?_
  rintro e W14 ⟨v', rfl, ⟨ov2, rfl, O2⟩, hk⟩
  clear HC
  have VC : Va W13 Bc kC := ⟨ov, r, R⟩
  clear r R
  have R2 := O2.mono (Nat.zero_le _)
  clear O2
  replace VS := VS.new hk
  replace VA := VA.new hk
  replace VB := VB.new hk
  replace VC := VC.new hk
  have hN14 := hN13.trans hk
  clear hk hN13
  obtain ⟨o7, c7, rfl⟩ := R2.slice
  rw [show (St.cs kC (.slice o7 (St.out kC).length c7)).toArray = #[.int .i64 1, .int .u8 1, .int .i64 3, .int .i64 0, .int .i64 0, .bool true, .bool true, .slice o7 5 c7, .int .u8 0, .bool false, .int .i64 (-1)] from rfl]
  go_upto_region 9 with fail
  have rB := World.alloc_heap_new W14 (.cells #[.int .i64 1, .int .u8 1, .int .i64 3, .int .i64 0, .int .i64 0, .bool true, .bool true, .slice o7 5 c7, .int .u8 0, .bool false, .int .i64 (-1)] 24)
  have hA : New W14 (W14.alloc (.cells #[.int .i64 1, .int .u8 1, .int .i64 3, .int .i64 0, .int .i64 0, .bool true, .bool true, .slice o7 5 c7, .int .u8 0, .bool false, .int .i64 (-1)] 24)) := (Mods.refl _ _).alloc _
  obtain ⟨W15, hWn⟩ : ∃ V, W14.alloc (.cells #[.int .i64 1, .int .u8 1, .int .i64 3, .int .i64 0, .int .i64 0, .bool true, .bool true, .slice o7 5 c7, .int .u8 0, .bool false, .int .i64 (-1)] 24) = V := ⟨_, rfl⟩
  rw [hWn] at rB hA ⊢
  obtain ⟨Bx8, hBn⟩ : ∃ V, W14.heap.size = V := ⟨_, rfl⟩
  rw [hBn] at rB ⊢
  clear hWn hBn
  clear rB R2
  replace VS := VS.new hA
  replace VA := VA.new hA
  replace VB := VB.new hA
  replace VC := VC.new hA
  have hN15 := hN14.trans hA
  clear hA hN14
  obtain ⟨ov, r, R⟩ := VC
  have HC := take_S _ kC 99 16384 16384 W15 ⟨_, rfl, R.reads⟩ (by decide) ⟨by decide, by decide⟩ ⟨by decide, by decide⟩ ⟨by decide, by decide⟩ ⟨by decide, by decide⟩
  simp only [kt1, TakeP] at HC
  have HC := Lib.hid HC
  go_wp2_with (refine op_value rfl (run_load_row 24 (.tmp 15) rfl Bc rfl 24 _ (0, 0) _ r Tryd.underlying24 rfl info24) ?_)
  refine HC.out.mono ?_
  rintro e W16 ⟨v', xv, rfl, ⟨ov2, rfl, O2⟩, ho, hk⟩
  clear HC
  have VC : Va W15 Bc kC := ⟨ov, r, R⟩
  clear r R
  have R2 := O2.mono (Nat.zero_le _)
  clear O2
  have HX := ho.mono (Nat.zero_le _)
  clear ho
  replace VS := VS.new hk
  replace VA := VA.new hk
  replace VB := VB.new hk
  replace VC := VC.new hk
  have hN16 := hN15.trans hk
  clear hk hN15
  obtain ⟨o8, c8, rfl⟩ := R2.slice
  rw [show (St.cs kD0 (.slice o8 (St.out kD0).length c8)).toArray = #[.int .i64 1, .int .u8 1, .int .i64 0, .int .i64 0, .int .i64 0, .bool true, .bool true, .slice o8 2 c8, .int .u8 0, .bool false, .int .i64 (-1)] from rfl]
  go_upto_region 10 with fail
  have rB := World.alloc_heap_new W16 (.cells #[.int .i64 1, .int .u8 1, .int .i64 0, .int .i64 0, .int .i64 0, .bool true, .bool true, .slice o8 2 c8, .int .u8 0, .bool false, .int .i64 (-1)] 24)
  have hA : New W16 (W16.alloc (.cells #[.int .i64 1, .int .u8 1, .int .i64 0, .int .i64 0, .int .i64 0, .bool true, .bool true, .slice o8 2 c8, .int .u8 0, .bool false, .int .i64 (-1)] 24)) := (Mods.refl _ _).alloc _
  obtain ⟨W17, hWn⟩ : ∃ V, W16.alloc (.cells #[.int .i64 1, .int .u8 1, .int .i64 0, .int .i64 0, .int .i64 0, .bool true, .bool true, .slice o8 2 c8, .int .u8 0, .bool false, .int .i64 (-1)] 24) = V := ⟨_, rfl⟩
  rw [hWn] at rB hA ⊢
  obtain ⟨Bd, hBn⟩ : ∃ V, W16.heap.size = V := ⟨_, rfl⟩
  have hBd0 : w.heap.size ≤ W16.heap.size := hN16.size
  rw [hBn] at rB hBd0 ⊢
  clear hWn hBn
  have hBd : w.heap.size ≤ Bd := hBd0
  clear hBd0
  have VD : Va W17 Bd kD0 := ⟨_, rB, R2.new hA⟩
  clear rB R2
  replace VS := VS.new hA
  replace VA := VA.new hA
  replace VB := VB.new hA
  replace VC := VC.new hA
  replace HX := HX.new hA
  have hN17 := hN16.trans hA
  clear hA hN16
  obtain ⟨ov, r, R⟩ := VD
  have HC := Lib.hid (send_S _ kD0 99 W17 ⟨_, rfl, R.reads⟩ ⟨by decide, by decide⟩ ⟨by decide, by decide⟩)
  rw [ks1] at HC
  go_wp2_with (refine op_value rfl (run_load_row 24 (.tmp 19) rfl Bd rfl 24 _ (0, 0) _ r Tryd.underlying24 rfl info24) ?_)
  refine HC.out.mono ?_
  rintro e W18 ⟨rfl, hk⟩
  clear HC
  have VD : Va W17 Bd kD0 := ⟨ov, r, R⟩
  clear r R
  replace VD := VD.new hk
  replace VS := VS.new hk
  replace VA := VA.new hk
  replace VB := VB.new hk
  replace VC := VC.new hk
  replace HX := HX.new hk
  have hN18 := hN17.trans hk
  clear hk hN17
  obtain ⟨ov, r, R⟩ := VD
  obtain ⟨o99, c99, rfl⟩ := R.slice
  rw [show (St.out kD0).length = 2 from rfl] at r R
  have r' : W18.heap[Bd]? = some (.cells #[.int .i64 1, .int .u8 1, .int .i64 0, .int .i64 0, .int .i64 0, .bool true, .bool true, .slice o99 2 c99, .int .u8 0, .bool false, .int .i64 (-1)] 24 (0, 0)) := r
  have q2 : W18.cell? ⟨Bd, 2, none⟩ = some (.int .i64 0) := cell_of_row _ _ 2 _ _ _ r'
  have fz := frozen_row (i := 2) r'
  go_upto_region 12 with fail
  have hk : New w (W18.setCell ⟨Bd, 2, none⟩ (.int .i64 9)) := hN18.setCell (.inl hBd) _
  replace VS := VS.keep (u := .int .i64 9) r (by decide)
  replace VA := VA.keep (u := .int .i64 9) r (by decide)
  replace VC := VC.keep (u := .int .i64 9) r (by decide)
  replace HX := owB_set (i := 2) (u := .int .i64 9) HX r (by decide)
  have VD := Va.set r R
  clear r r' R q2 fz hN18
  obtain ⟨W19, hWn⟩ : ∃ V, W18.setCell ⟨Bd, 2, none⟩ (.int .i64 9) = V := ⟨_, rfl⟩
  rw [hWn] at hk VS VA VC VD HX ⊢
  clear hWn
  have hN19 := hk
  clear hk
  obtain ⟨ov, r, R⟩ := VD
  have HC := take_S _ kD 99 16384 16384 W19 ⟨_, rfl, R.reads⟩ (by decide) ⟨by decide, by decide⟩ ⟨by decide, by decide⟩ ⟨by decide, by decide⟩ ⟨by decide, by decide⟩
  simp only [kt2, TakeP] at HC
  have HC := Lib.hid HC
  go_wp2_with (refine op_value rfl (run_load_row 24 (.tmp 19) rfl Bd rfl 24 _ (0, 0) _ r Tryd.underlying24 rfl info24) ?_)
  refine HC.out.mono ?_
  rintro e W20 ⟨v', yv, rfl, ⟨ov2, rfl, O2⟩, ho, hk⟩
  clear HC
  have VD : Va W19 Bd kD := ⟨ov, r, R⟩
  clear r R
  have R2 := O2.mono (Nat.zero_le _)
  clear O2
  have HY := ho.mono (Nat.zero_le _)
  clear ho
  replace VS := VS.new hk
  replace VA := VA.new hk
  replace VC := VC.new hk
  replace VD := VD.new hk
  replace HX := HX.new hk
  have hN20 := hN19.trans hk
  clear hk hN19
  obtain ⟨o9, c9, rfl⟩ := R2.slice
  rw [show (St.cs kO (.slice o9 (St.out kO).length c9)).toArray = #[.int .i64 1, .int .u8 3, .int .i64 7, .int .i64 0, .int .i64 0, .bool true, .bool false, .slice o9 0 c9, .int .u8 0, .bool false, .int .i64 (-1)] from rfl]
  go_upto_region 13 with fail
  have rB := World.alloc_heap_new W20 (.cells #[.int .i64 1, .int .u8 3, .int .i64 7, .int .i64 0, .int .i64 0, .bool true, .bool false, .slice o9 0 c9, .int .u8 0, .bool false, .int .i64 (-1)] 24)
  have hA : New W20 (W20.alloc (.cells #[.int .i64 1, .int .u8 3, .int .i64 7, .int .i64 0, .int .i64 0, .bool true, .bool false, .slice o9 0 c9, .int .u8 0, .bool false, .int .i64 (-1)] 24)) := (Mods.refl _ _).alloc _
  obtain ⟨W21, hWn⟩ : ∃ V, W20.alloc (.cells #[.int .i64 1, .int .u8 3, .int .i64 7, .int .i64 0, .int .i64 0, .bool true, .bool false, .slice o9 0 c9, .int .u8 0, .bool false, .int .i64 (-1)] 24) = V := ⟨_, rfl⟩
  rw [hWn] at rB hA ⊢
  obtain ⟨Bo, hBn⟩ : ∃ V, W20.heap.size = V := ⟨_, rfl⟩
  rw [hBn] at rB ⊢
  clear hWn hBn
  have VO : Va W21 Bo kO := ⟨_, rB, R2.new hA⟩
  clear rB R2
  replace VS := VS.new hA
  replace VA := VA.new hA
  replace VC := VC.new hA
  replace VD := VD.new hA
  replace HX := HX.new hA
  replace HY := HY.new hA
  have hN21 := hN20.trans hA
  clear hA hN20
  obtain ⟨ov, r, R⟩ := VO
  have HC := reset_S _ kO W21 ⟨_, rfl, R.reads⟩ (by decide)
  simp only [kr1] at HC
  have HC := Lib.hid HC
  go_wp2_with (refine op_value rfl (run_load_row 24 (.tmp 24) rfl Bo rfl 24 _ (0, 0) _ r Tryd.underlying24 rfl info24) ?_)
  refine HC.out.mono ?_
  rintro e W22 ⟨v', rfl, ⟨ov2, rfl, O2⟩, hk⟩
  clear HC
  have VO : Va W21 Bo kO := ⟨ov, r, R⟩
  clear r R
  have R2 := O2.mono (Nat.zero_le _)
  clear O2
  replace VS := VS.new hk
  replace VA := VA.new hk
  replace VC := VC.new hk
  replace VD := VD.new hk
  replace HX := HX.new hk
  replace HY := HY.new hk
  replace VO := VO.new hk
  have hN22 := hN21.trans hk
  clear hk hN21
  obtain ⟨o10, c10, rfl⟩ := R2.slice
  rw [show (St.cs kR (.slice o10 (St.out kR).length c10)).toArray = #[.int .i64 1, .int .u8 5, .int .i64 7, .int .i64 0, .int .i64 0, .bool true, .bool false, .slice o10 0 c10, .int .u8 0, .bool false, .int .i64 (-1)] from rfl]
  go_upto_region 14 with fail
  have rB := World.alloc_heap_new W22 (.cells #[.int .i64 1, .int .u8 5, .int .i64 7, .int .i64 0, .int .i64 0, .bool true, .bool false, .slice o10 0 c10, .int .u8 0, .bool false, .int .i64 (-1)] 24)
  have hA : New W22 (W22.alloc (.cells #[.int .i64 1, .int .u8 5, .int .i64 7, .int .i64 0, .int .i64 0, .bool true, .bool false, .slice o10 0 c10, .int .u8 0, .bool false, .int .i64 (-1)] 24)) := (Mods.refl _ _).alloc _
  obtain ⟨W23, hWn⟩ : ∃ V, W22.alloc (.cells #[.int .i64 1, .int .u8 5, .int .i64 7, .int .i64 0, .int .i64 0, .bool true, .bool false, .slice o10 0 c10, .int .u8 0, .bool false, .int .i64 (-1)] 24) = V := ⟨_, rfl⟩
  rw [hWn] at rB hA ⊢
  obtain ⟨Br, hBn⟩ : ∃ V, W22.heap.size = V := ⟨_, rfl⟩
  rw [hBn] at rB ⊢
  clear hWn hBn
  have VR : Va W23 Br kR := ⟨_, rB, R2.new hA⟩
  clear rB R2
  replace VS := VS.new hA
  replace VA := VA.new hA
  replace VC := VC.new hA
  replace VD := VD.new hA
  replace HX := HX.new hA
  replace HY := HY.new hA
  replace VO := VO.new hA
  have hN23 := hN22.trans hA
  clear hA hN22
  obtain ⟨ov, r, R⟩ := VR
  have HC := reset_S _ kR W23 ⟨_, rfl, R.reads⟩ (by decide)
  simp only [kr2] at HC
  have HC := Lib.hid HC
  go_wp2_with (refine op_value rfl (run_load_row 24 (.tmp 28) rfl Br rfl 24 _ (0, 0) _ r Tryd.underlying24 rfl info24) ?_)
  refine HC.out.mono ?_
  rintro e W24 ⟨v', rfl, ⟨ov2, rfl, O2⟩, hk⟩
  clear HC
  have VR : Va W23 Br kR := ⟨ov, r, R⟩
  clear r R
  have R2 := O2.mono (Nat.zero_le _)
  clear O2
  replace VS := VS.new hk
  replace VA := VA.new hk
  replace VC := VC.new hk
  replace VD := VD.new hk
  replace HX := HX.new hk
  replace HY := HY.new hk
  replace VO := VO.new hk
  replace VR := VR.new hk
  have hN24 := hN23.trans hk
  clear hk hN23
  obtain ⟨o11, c11, rfl⟩ := R2.slice
  rw [show (St.cs kR (.slice o11 (St.out kR).length c11)).toArray = #[.int .i64 1, .int .u8 5, .int .i64 7, .int .i64 0, .int .i64 0, .bool true, .bool false, .slice o11 0 c11, .int .u8 0, .bool false, .int .i64 (-1)] from rfl]
  go_upto_region 15 with fail
  have rB := World.alloc_heap_new W24 (.cells #[.int .i64 1, .int .u8 5, .int .i64 7, .int .i64 0, .int .i64 0, .bool true, .bool false, .slice o11 0 c11, .int .u8 0, .bool false, .int .i64 (-1)] 24)
  have hA : New W24 (W24.alloc (.cells #[.int .i64 1, .int .u8 5, .int .i64 7, .int .i64 0, .int .i64 0, .bool true, .bool false, .slice o11 0 c11, .int .u8 0, .bool false, .int .i64 (-1)] 24)) := (Mods.refl _ _).alloc _
  obtain ⟨W25, hWn⟩ : ∃ V, W24.alloc (.cells #[.int .i64 1, .int .u8 5, .int .i64 7, .int .i64 0, .int .i64 0, .bool true, .bool false, .slice o11 0 c11, .int .u8 0, .bool false, .int .i64 (-1)] 24) = V := ⟨_, rfl⟩
  rw [hWn] at rB hA ⊢
  obtain ⟨Bx9, hBn⟩ : ∃ V, W24.heap.size = V := ⟨_, rfl⟩
  rw [hBn] at rB ⊢
  clear hWn hBn
  clear rB R2
  replace VS := VS.new hA
  replace VA := VA.new hA
  replace VC := VC.new hA
  replace VD := VD.new hA
  replace HX := HX.new hA
  replace HY := HY.new hA
  replace VO := VO.new hA
  replace VR := VR.new hA
  have hN25 := hN24.trans hA
  clear hA hN24
  have hx := HX.reads
  have hy := HY.reads
  clear HX HY
  refine piece (fun _ a' W' => (a'.tmps.size = 220 ∧ a'.defers = [] ∧ a'.tmps.getD 0 undef = .bool true) ∧ New W25 W') (chain14 _ rfl W25 rfl rfl rfl rfl rfl rfl rfl rfl rfl rfl rfl rfl rfl rfl rfl rfl rfl rfl rfl rfl rfl rfl rfl VS VA VC VD VO VR hx hy) ?_
  rintro ⟨t, d⟩ Wz ⟨⟨hs, hd, hq⟩, hk⟩
  simp only at hs hd hq
  subst hd
  obtain ⟨u, rfl⟩ := lit220 t hs
  have hq : u 0 = .bool true := hq
  rw [hq]
  clear hq hs
  have hN := hN25.trans hk
  go_wp2_with fail
  go_ret
  exact ⟨rfl, hN⟩
end Go.Proofs.YtkjghojdfjhhkaaDoor
/- HandlerSends, walked. -/
namespace Go.Proofs.YtkjghojdfjhhkaaDoor
open Go.RowKit Go.Shelf Go.Cs
attribute [local go_sem] Oper.semAt_some
set_option linter.unusedVariables false
set_option linter.unusedSimpArgs false
theorem lit140 (t : Array Value) (h : t.size = 140) : ∃ u : Nat → Value, t = (u 0 :: u 1 :: u 2 :: u 3 :: u 4 :: u 5 :: u 6 :: u 7 :: u 8 :: u 9 :: u 10 :: u 11 :: u 12 :: u 13 :: u 14 :: u 15 :: u 16 :: u 17 :: u 18 :: u 19 :: u 20 :: u 21 :: u 22 :: u 23 :: u 24 :: u 25 :: u 26 :: u 27 :: u 28 :: u 29 :: u 30 :: u 31 :: u 32 :: u 33 :: u 34 :: u 35 :: u 36 :: u 37 :: u 38 :: u 39 :: u 40 :: u 41 :: u 42 :: u 43 :: u 44 :: u 45 :: u 46 :: u 47 :: u 48 :: u 49 :: u 50 :: u 51 :: u 52 :: u 53 :: u 54 :: u 55 :: u 56 :: u 57 :: u 58 :: u 59 :: u 60 :: u 61 :: u 62 :: u 63 :: u 64 :: u 65 :: u 66 :: u 67 :: u 68 :: u 69 :: u 70 :: u 71 :: u 72 :: u 73 :: u 74 :: u 75 :: u 76 :: u 77 :: u 78 :: u 79 :: u 80 :: u 81 :: u 82 :: u 83 :: u 84 :: u 85 :: u 86 :: u 87 :: u 88 :: u 89 :: u 90 :: u 91 :: u 92 :: u 93 :: u 94 :: u 95 :: u 96 :: u 97 :: u 98 :: u 99 :: u 100 :: u 101 :: u 102 :: u 103 :: u 104 :: u 105 :: u 106 :: u 107 :: u 108 :: u 109 :: u 110 :: u 111 :: u 112 :: u 113 :: u 114 :: u 115 :: u 116 :: u 117 :: u 118 :: u 119 :: u 120 :: u 121 :: u 122 :: u 123 :: u 124 :: u 125 :: u 126 :: u 127 :: u 128 :: u 129 :: u 130 :: u 131 :: u 132 :: u 133 :: u 134 :: u 135 :: u 136 :: u 137 :: u 138 :: u 139 :: ([] : List Value)).toArray := ⟨fun i => t.getD i undef, range_lit t 140 h⟩
theorem canZ_pos (x : Int) : decide (0 < canZ x) = (decide (0 < x) && decide (x ≤ 2147483647)) := by
  unfold canZ
  by_cases h : 0 ≤ x ∧ x ≤ 2147483647
  · rw [if_pos h]; simp [h.2]
  · rw [if_neg h]
    have : (decide (0 < x) && decide (x ≤ 2147483647)) = false := by simp; omega
    rw [this]
    rfl
noncomputable def reg5_4 : Code := ((Tryd.f5.body.bind (regionOf 4)).getD .skip)
set_option maxHeartbeats 4000000 in
set_option maxRecDepth 100000 in
theorem ours5 (t : Array Value) (hs : t.size = 140) (w : World) {B : Nat} {s : St} {oa : Option Addr} {oc : Nat} {c f k : Int} {is : Bool}
    (hq1 : t.getD 1 undef = .int .i64 c)
    (hq2 : t.getD 2 undef = .int .i64 f)
    (hq3 : t.getD 3 undef = .int .i64 k)
    (hq4 : t.getD 4 undef = .pointer (some ⟨B, 0, none⟩))
    (hq9 : t.getD 9 undef = .bool is)
    (r : w.heap[B]? = some (.cells (St.cs s (.slice oa s.out.length oc)).toArray 24 (0, 0))) :
    reg5_4.wp Tryd.prog (Only fun a' W' => (a'.tmps.size = 140 ∧ a'.defers = [] ∧ a'.tmps.getD 1 undef = .int .i64 c ∧ a'.tmps.getD 2 undef = .int .i64 f ∧ a'.tmps.getD 3 undef = .int .i64 k ∧ a'.tmps.getD 4 undef = .pointer (some ⟨B, 0, none⟩) ∧ a'.tmps.getD 9 undef = .bool is ∧ a'.tmps.getD 10 undef = .bool (oursB s)) ∧ New w W') ⟨t, []⟩ w := by
  conv => arg 2; whnf
  obtain ⟨u, rfl⟩ := lit140 t hs
  have hq1 : u 1 = .int .i64 c := hq1
  have hq2 : u 2 = .int .i64 f := hq2
  have hq3 : u 3 = .int .i64 k := hq3
  have hq4 : u 4 = .pointer (some ⟨B, 0, none⟩) := hq4
  have hq9 : u 9 = .bool is := hq9
  rw [hq1, hq2, hq3, hq4, hq9]
  clear hq1 hq2 hq3 hq4 hq9 hs
  have k1 : w.cell? ⟨B, 1, none⟩ = some (.int .u8 s.state) := cell_of_row _ _ 1 _ _ _ r
  have HB : Hid (oursB s = (decide (s.state = 1) || decide (s.state = 2))) := Lib.hid rfl
  obtain ⟨ob, hob⟩ : ∃ x, oursB s = x := ⟨_, rfl⟩
  rw [hob] at HB ⊢
  obtain ⟨z, hz⟩ : ∃ z, s.state = z := ⟨_, rfl⟩
  rw [hz] at HB k1
  clear hz hob r
  obtain ⟨d1, h1⟩ : ∃ x, decide (z = 1) = x := ⟨_, rfl⟩
  obtain ⟨d2, h2⟩ : ∃ x, decide (z = 2) = x := ⟨_, rfl⟩
  have h1' : (z == 1) = d1 := h1
  have h2' : (z == 2) = d2 := h2
  rw [h1, h2] at HB
  have hN := Mods.refl (fun _ => False) w
  cases d1
  all_goals
    go_wp2_with fail
    exact ⟨⟨rfl, rfl, rfl, rfl, rfl, rfl, rfl, congrArg Value.bool (by rw [HB.out]; rfl)⟩, hN⟩
noncomputable def reg5_5 : Code := ((Tryd.f5.body.bind (regionOf 5)).getD .skip)
set_option maxHeartbeats 4000000 in
set_option maxRecDepth 100000 in
theorem want5 (t : Array Value) (hs : t.size = 140) (w : World) {B : Nat} {s : St} {oa : Option Addr} {oc : Nat} {c f k : Int} {is : Bool}
    (hq1 : t.getD 1 undef = .int .i64 c)
    (hq2 : t.getD 2 undef = .int .i64 f)
    (hq3 : t.getD 3 undef = .int .i64 k)
    (hq4 : t.getD 4 undef = .pointer (some ⟨B, 0, none⟩))
    (hq9 : t.getD 9 undef = .bool is)
    (hq10 : t.getD 10 undef = .bool (oursB s))
    (r : w.heap[B]? = some (.cells (St.cs s (.slice oa s.out.length oc)).toArray 24 (0, 0))) :
    reg5_5.wp Tryd.prog (Only fun a' W' => (a'.tmps.size = 140 ∧ a'.defers = [] ∧ a'.tmps.getD 1 undef = .int .i64 c ∧ a'.tmps.getD 2 undef = .int .i64 f ∧ a'.tmps.getD 3 undef = .int .i64 k ∧ a'.tmps.getD 4 undef = .pointer (some ⟨B, 0, none⟩) ∧ a'.tmps.getD 9 undef = .bool is ∧ a'.tmps.getD 11 undef = .bool (sendB s c)) ∧ New w W') ⟨t, []⟩ w := by
  conv => arg 2; whnf
  obtain ⟨u, rfl⟩ := lit140 t hs
  have hq1 : u 1 = .int .i64 c := hq1
  have hq2 : u 2 = .int .i64 f := hq2
  have hq3 : u 3 = .int .i64 k := hq3
  have hq4 : u 4 = .pointer (some ⟨B, 0, none⟩) := hq4
  have hq9 : u 9 = .bool is := hq9
  have hq10 : u 10 = .bool (oursB s) := hq10
  rw [hq1, hq2, hq3, hq4, hq9, hq10]
  clear hq1 hq2 hq3 hq4 hq9 hq10 hs
  have k2 : w.cell? ⟨B, 2, none⟩ = some (.int .i64 s.send) := cell_of_row _ _ 2 _ _ _ r
  have k5 : w.cell? ⟨B, 5, none⟩ = some (.bool s.ans) := cell_of_row _ _ 5 _ _ _ r
  have k6 : w.cell? ⟨B, 6, none⟩ = some (.bool s.ends) := cell_of_row _ _ 6 _ _ _ r
  have k7 : w.cell? ⟨B, 7, none⟩ = some (.slice oa s.out.length oc) := cell_of_row _ _ 7 _ _ _ r
  have HB : Hid (sendB s c = (oursB s && (s.ans && (if s.out.length = 0 then s.ends else decide (0 < canZ s.send) && decide (0 < canZ c))))) := Lib.hid rfl
  rw [canZ_pos, canZ_pos] at HB
  obtain ⟨q, hq⟩ : ∃ x, sendB s c = x := ⟨_, rfl⟩
  rw [hq] at HB ⊢
  obtain ⟨ob, hob⟩ : ∃ x, oursB s = x := ⟨_, rfl⟩
  rw [hob] at HB ⊢
  obtain ⟨an, han⟩ : ∃ x, s.ans = x := ⟨_, rfl⟩
  obtain ⟨en, hen⟩ : ∃ x, s.ends = x := ⟨_, rfl⟩
  obtain ⟨on, hon⟩ : ∃ x, s.out.length = x := ⟨_, rfl⟩
  obtain ⟨sn, hsn⟩ : ∃ x, s.send = x := ⟨_, rfl⟩
  rw [han, hen, hon, hsn] at HB
  rw [han] at k5
  rw [hen] at k6
  rw [hon] at k7
  rw [hsn] at k2
  clear hq hob han hen hon hsn r
  obtain ⟨a1, e1⟩ : ∃ x, decide (0 < sn) = x := ⟨_, rfl⟩
  obtain ⟨a2, e2⟩ : ∃ x, decide (sn ≤ 2147483647) = x := ⟨_, rfl⟩
  obtain ⟨b1, e3⟩ : ∃ x, decide (0 < c) = x := ⟨_, rfl⟩
  obtain ⟨b2, e4⟩ : ∃ x, decide (c ≤ 2147483647) = x := ⟨_, rfl⟩
  rw [e1, e2, e3, e4] at HB
  have hN := Mods.refl (fun _ => False) w
  cases ob with
  | false =>
    go_wp2_with fail
    exact ⟨⟨rfl, rfl, rfl, rfl, rfl, rfl, rfl, congrArg Value.bool (by rw [HB.out]; rfl)⟩, hN⟩
  | true =>
  cases an with
  | false =>
    go_wp2_with fail
    exact ⟨⟨rfl, rfl, rfl, rfl, rfl, rfl, rfl, congrArg Value.bool (by rw [HB.out]; rfl)⟩, hN⟩
  | true =>
  by_cases h0 : on = 0
  · rw [if_pos h0] at HB
    have g1 : ((on : Int) == 0) = true := decide_eq_true (by omega)
    have g2 : decide ((0 : Int) < (on : Int)) = false := decide_eq_false (by omega)
    cases en
    all_goals
      go_wp2_with fail
      exact ⟨⟨rfl, rfl, rfl, rfl, rfl, rfl, rfl, congrArg Value.bool (by rw [HB.out]; rfl)⟩, hN⟩
  · rw [if_neg h0] at HB
    have g1 : ((on : Int) == 0) = false := decide_eq_false (by omega)
    have g2 : decide ((0 : Int) < (on : Int)) = true := decide_eq_true (by omega)
    cases a1 with
    | false =>
      go_wp2_with fail
      exact ⟨⟨rfl, rfl, rfl, rfl, rfl, rfl, rfl, congrArg Value.bool (by rw [HB.out]; rfl)⟩, hN⟩
    | true =>
    cases a2 with
    | false =>
      go_wp2_with fail
      exact ⟨⟨rfl, rfl, rfl, rfl, rfl, rfl, rfl, congrArg Value.bool (by rw [HB.out]; rfl)⟩, hN⟩
    | true =>
    cases b1
    all_goals
      go_wp2_with fail
      exact ⟨⟨rfl, rfl, rfl, rfl, rfl, rfl, rfl, congrArg Value.bool (by rw [HB.out]; rfl)⟩, hN⟩
noncomputable def reg5_9 : Code := ((Tryd.f5.body.bind (regionOf 9)).getD .skip)
set_option maxHeartbeats 4000000 in
set_option maxRecDepth 100000 in
theorem went5 (t : Array Value) (hs : t.size = 140) (w : World) {B C : Nat} {s : St} {oa da : Option Addr} {on oc dn dc : Nat} {c f k : Int} {q en : Bool}
    (hq1 : t.getD 1 undef = .int .i64 c)
    (hq2 : t.getD 2 undef = .int .i64 f)
    (hq3 : t.getD 3 undef = .int .i64 k)
    (hq4 : t.getD 4 undef = .pointer (some ⟨B, 0, none⟩))
    (hq9 : t.getD 9 undef = .bool q)
    (hq12 : t.getD 12 undef = .pointer (some ⟨C, 0, none⟩))
    (hq13 : t.getD 13 undef = .slice da dn dc)
    (hq14 : t.getD 14 undef = .bool en)
    (hq15 : t.getD 15 undef = .bool (q && (decide (on = 0) || (decide (0 < f) && decide (0 < k)))))
    (r : w.heap[B]? = some (.cells (St.cs s (.slice oa on oc)).toArray 24 (0, 0))) :
    reg5_9.wp Tryd.prog (Only fun a' W' => (a'.tmps.size = 140 ∧ a'.defers = [] ∧ a'.tmps.getD 4 undef = .pointer (some ⟨B, 0, none⟩) ∧ a'.tmps.getD 12 undef = .pointer (some ⟨C, 0, none⟩) ∧ a'.tmps.getD 13 undef = .slice da dn dc ∧ a'.tmps.getD 14 undef = .bool en ∧ a'.tmps.getD 15 undef = .bool (q && (decide (on = 0) || (decide (0 < f) && decide (0 < k)))) ∧ a'.tmps.getD 98 undef = .bool false) ∧ New w W') ⟨t, []⟩ w := by
  conv => arg 2; whnf
  obtain ⟨u, rfl⟩ := lit140 t hs
  have hq1 : u 1 = .int .i64 c := hq1
  have hq2 : u 2 = .int .i64 f := hq2
  have hq3 : u 3 = .int .i64 k := hq3
  have hq4 : u 4 = .pointer (some ⟨B, 0, none⟩) := hq4
  have hq9 : u 9 = .bool q := hq9
  have hq12 : u 12 = .pointer (some ⟨C, 0, none⟩) := hq12
  have hq13 : u 13 = .slice da dn dc := hq13
  have hq14 : u 14 = .bool en := hq14
  have hq15 : u 15 = .bool (q && (decide (on = 0) || (decide (0 < f) && decide (0 < k)))) := hq15
  rw [hq1, hq2, hq3, hq4, hq9, hq12, hq13, hq14, hq15]
  clear hq1 hq2 hq3 hq4 hq9 hq12 hq13 hq14 hq15 hs
  have k7 : w.cell? ⟨B, 7, none⟩ = some (.slice oa on oc) := cell_of_row _ _ 7 _ _ _ r
  obtain ⟨a1, e1⟩ : ∃ x, decide (0 < f) = x := ⟨_, rfl⟩
  obtain ⟨a2, e2⟩ : ∃ x, decide (0 < k) = x := ⟨_, rfl⟩
  rw [e1, e2]
  have hN := Mods.refl (fun _ => False) w
  clear r
  cases q with
  | false =>
    go_wp2_with fail
    exact ⟨⟨rfl, rfl, rfl, rfl, rfl, rfl, rfl, rfl⟩, hN⟩
  | true =>
  by_cases h0 : on = 0
  · have g1 : ((on : Int) == 0) = true := decide_eq_true (by omega)
    rw [decide_eq_true h0]
    go_wp2_with fail
    exact ⟨⟨rfl, rfl, rfl, rfl, rfl, rfl, rfl, rfl⟩, hN⟩
  · have g1 : ((on : Int) == 0) = false := decide_eq_false (by omega)
    rw [decide_eq_false h0]
    cases a1 <;> cases a2
    all_goals
      go_wp2_with fail
      exact ⟨⟨rfl, rfl, rfl, rfl, rfl, rfl, rfl, rfl⟩, hN⟩
noncomputable def reg5_13 : Code := ((Tryd.f5.body.bind (regionOf 13)).getD .skip)
set_option maxHeartbeats 4000000 in
set_option maxRecDepth 100000 in
theorem gone5 (t : Array Value) (hs : t.size = 140) (w : World) {B C : Nat} {s p : St} {oa pa da : Option Addr} {on oc pn pc dn dc : Nat} {en : Bool}
    (hq4 : t.getD 4 undef = .pointer (some ⟨B, 0, none⟩))
    (hq12 : t.getD 12 undef = .pointer (some ⟨C, 0, none⟩))
    (hq13 : t.getD 13 undef = .slice da dn dc)
    (hq14 : t.getD 14 undef = .bool en)
    (r : w.heap[B]? = some (.cells (St.cs s (.slice oa on oc)).toArray 24 (0, 0))) (r2 : w.heap[C]? = some (.cells (St.cs p (.slice pa pn pc)).toArray 24 (0, 0))) (hW : ∀ W, New w W → Calls Tryd.prog 14 #[] W fun e w' => e = .returned (.bool true) ∧ New W w') (hsum : dn + pn = on) (hb : on ≤ 3000) (hd : dn = 0 → en = true) (he : en = (s.ends && decide (pn = 0))) :
    reg5_13.wp Tryd.prog (Only fun a' W' => (a'.tmps.size = 140 ∧ a'.defers = [] ∧ a'.tmps.getD 8 undef = .bool true) ∧ New w W') ⟨t, []⟩ w := by
  conv => arg 2; whnf
  obtain ⟨u, rfl⟩ := lit140 t hs
  have hq4 : u 4 = .pointer (some ⟨B, 0, none⟩) := hq4
  have hq12 : u 12 = .pointer (some ⟨C, 0, none⟩) := hq12
  have hq13 : u 13 = .slice da dn dc := hq13
  have hq14 : u 14 = .bool en := hq14
  rw [hq4, hq12, hq13, hq14]
  clear hq4 hq12 hq13 hq14 hs
  have k6 : w.cell? ⟨B, 6, none⟩ = some (.bool s.ends) := cell_of_row _ _ 6 _ _ _ r
  have k7 : w.cell? ⟨B, 7, none⟩ = some (.slice oa on oc) := cell_of_row _ _ 7 _ _ _ r
  have j7 : w.cell? ⟨C, 7, none⟩ = some (.slice pa pn pc) := cell_of_row _ _ 7 _ _ _ r2
  obtain ⟨se, hse⟩ : ∃ x, s.ends = x := ⟨_, rfl⟩
  rw [hse] at k6 he
  have g0 : (dn : Int) + (pn : Int) = (on : Int) := by omega
  have gb : (dn : Int) + (pn : Int) ≤ 3000 := by omega
  clear hsum hb
  have hN := Mods.refl (fun _ => False) w
  have HW := Lib.hid hW
  have HD := Lib.hid hd
  have HE := Lib.hid he
  clear hW hd he r r2 hse
  obtain ⟨zp, ezp⟩ : ∃ x, decide (pn = 0) = x := ⟨_, rfl⟩
  rw [ezp] at HE
  have g2 : ((pn : Int) == 0) = zp := by rw [← ezp]; exact decide_eq_decide.2 (by omega)
  clear ezp
  by_cases h0 : dn = 0
  · subst h0
    have g1 : decide ((0 : Int) < ((0 : Nat) : Int)) = false := rfl
    obtain rfl : pn = on := by omega
    have g4 : (pn : Int) ≤ 3000 := by omega
    clear g0 gb
    obtain rfl : en = true := HD.out rfl
    cases se with
    | false => cases HE.out
    | true =>
    cases zp with
    | false => cases HE.out
    | true =>
      go_wp2_with fail
      refine (HW.out _ hN).mono ?_
      rintro e w1 ⟨rfl, hk⟩
      go_wp2_with fail
      exact ⟨⟨rfl, rfl, rfl⟩, hN.trans hk⟩
  · have g1 : decide ((0 : Int) < (dn : Int)) = true := decide_eq_true (by omega)
    cases se with
    | false =>
      obtain rfl : en = false := HE.out
      go_wp2_with fail
      refine (HW.out _ hN).mono ?_
      rintro e w1 ⟨rfl, hk⟩
      go_wp2_with fail
      exact ⟨⟨rfl, rfl, rfl⟩, hN.trans hk⟩
    | true =>
      obtain rfl : en = zp := HE.out
      cases en
      all_goals
        go_wp2_with fail
        refine (HW.out _ hN).mono ?_
        rintro e w1 ⟨rfl, hk⟩
        go_wp2_with fail
        exact ⟨⟨rfl, rfl, rfl⟩, hN.trans hk⟩
end Go.Proofs.YtkjghojdfjhhkaaDoor
/- What goes out, plainly. -/
namespace Go.Proofs.YtkjghojdfjhhkaaDoor
open Go.RowKit Go.Cs
theorem takeS_sends (s : St) (c f k : Int) : ∃ (o : St) (l : List Int) (en ok : Bool), takeS s c f k = (o, l, en, ok) ∧
    ok = (sendB s c && (decide (s.out.length = 0) || (decide (0 < f) && decide (0 < k)))) ∧ (ok = false → o = s) ∧
    (ok = true → l.length + o.out.length = s.out.length ∧ (l.length = 0 → en = true) ∧ en = (s.ends && decide (o.out.length = 0))) := by
  unfold takeS
  obtain ⟨n, hn⟩ : ∃ n, (cutZ s.send c f k s.out.length).toNat = n := ⟨_, rfl⟩
  simp only [hn]
  have hle : n ≤ s.out.length := by unfold cutZ at hn; omega
  have hz : sendB s c = true → s.out.length ≠ 0 → (n = 0 ↔ ¬ (0 < f ∧ 0 < k)) := by
    intro hs h0
    unfold sendB at hs
    rw [if_neg h0] at hs
    simp only [Bool.and_eq_true, decide_eq_true_eq] at hs
    unfold cutZ at hn
    omega
  by_cases ht : (sendB s c && !(decide (0 < s.out.length) && decide (n = 0))) = true
  · rw [if_pos ht]
    simp only [Bool.and_eq_true, Bool.not_eq_true', Bool.and_eq_false_iff, decide_eq_false_iff_not] at ht
    obtain ⟨hs, h0⟩ := ht
    refine ⟨_, _, _, _, rfl, ?_, (by intro hf; cases hf), fun _ => ⟨?_, fun hl => ?_, ?_⟩⟩
    · rw [hs]
      by_cases h1 : s.out.length = 0
      · rw [decide_eq_true h1]; rfl
      · have := hz hs h1
        have h2 : 0 < f ∧ 0 < k := by
          rcases h0 with h0 | h0
          · omega
          · exact Decidable.of_not_not fun hh => h0 (this.2 hh)
        rw [decide_eq_true h2.1, decide_eq_true h2.2]
        simp
    · split <;> simp <;> omega
    · have hl0 : n = 0 := by simp only [List.length_take] at hl; omega
      have h1 : s.out.length = 0 := by
        rcases h0 with h0 | h0
        · omega
        · exact absurd hl0 h0
      unfold sendB at hs
      rw [if_pos h1] at hs
      simp only [Bool.and_eq_true] at hs
      rw [hs.2.2, decide_eq_true (by simp; omega)]
      rfl
    · split <;> rfl
  · rw [if_neg ht]
    refine ⟨_, _, _, _, rfl, ?_, fun _ => rfl, (by intro hf; cases hf)⟩
    cases hs : sendB s c with
    | false => rfl
    | true =>
      rw [hs] at ht
      have h1 : s.out.length ≠ 0 ∧ n = 0 := by
        rcases Decidable.em (s.out.length ≠ 0 ∧ n = 0) with hh | hh
        · exact hh
        · refine absurd ?_ ht
          by_cases h2 : n = 0
          · have h3 : s.out.length = 0 := Decidable.of_not_not fun h => hh ⟨h, h2⟩
            rw [h3]; rfl
          · rw [decide_eq_false h2]; simp
      have := (hz hs h1.1).1 h1.2
      rw [decide_eq_false h1.1]
      by_cases hf : 0 < f
      · rw [decide_eq_false (show ¬ 0 < k from fun hk => this ⟨hf, hk⟩)]; simp
      · rw [decide_eq_false hf]; rfl
end Go.Proofs.YtkjghojdfjhhkaaDoor
/- HandlerSends, walked. -/
namespace Go.Proofs.YtkjghojdfjhhkaaDoor
open Go.RowKit Go.Shelf Go.Cs
attribute [local go_sem] Oper.semAt_some
set_option linter.unusedVariables false
set_option linter.unusedSimpArgs false
set_option maxHeartbeats 4000000 in
set_option maxRecDepth 100000 in
theorem sends_law (v : Value) (s : St) (c f k : Int) (w : World) (h : RdS w v s) (hok : s.Ok) (hc : I64 c) (hf : I64 f) (hk : I64 k) (hT : Tab w) :
    Calls Tryd.prog 5 #[v, .int .i64 c, .int .i64 f, .int .i64 k] w fun e w' => e = .returned (.bool true) ∧ New w w' := by
  obtain ⟨ov, rfl, hr⟩ := h
  obtain ⟨oa, oc, rfl⟩ := hr.slice
  have HW := Lib.hid (fun W (hN : New w W) => wakesH_any W (hT.new hN))
  obtain ⟨hIn, hsend, -, -, -, -⟩ := hok
  have HR := Lib.hid hr
  have HS := Lib.hid hsend
  have HC := Lib.hid hc
  have HF := Lib.hid hf
  have HK := Lib.hid hk
  have HI := Lib.hid hIn
  clear hr hsend hc hf hk hIn hT
  obtain ⟨W1, B, hW, hBB, rB, hN1⟩ := one_row w #[.int .i64 s.id, .int .u8 s.state, .int .i64 s.send, .int .i64 s.recv, .int .i64 s.owed, .bool s.ans, .bool s.ends, .slice oa s.out.length oc, .int .u8 s.urg, .bool s.inc, .int .i64 s.slot] 24
  unfold St.cs
  go_enter Tryd.func5, Tryd.ntmps5
  go_upto_region 1 with fail
  clear hW hBB
  go_wp2_with (refine op_value rfl (run_load_row 24 (.tmp 4) rfl B rfl 24 _ (0, 0) _ rB Tryd.underlying24 rfl info24) ?_)
  refine (great_S s _ _ s.out.length oa oc rfl).mono ?_
  rintro e W2 ⟨rfl, hk⟩
  have rB := hk.heap rB id
  have hN2 := hN1.trans hk
  clear hk hN1
  obtain ⟨g, hg⟩ : ∃ x, decide (3000 < s.out.length) = x := ⟨_, rfl⟩
  rw [hg]
  cases g with
  | true =>
    clear hg
    go_wp2_with fail
    refine (HW.out _ hN2).mono ?_
    rintro e W3 ⟨rfl, hk⟩
    have hN3 := hN2.trans hk
    go_wp2_with fail
    go_ret
    exact ⟨rfl, hN3⟩
  | false =>
  have Hl : Hid (s.out.length ≤ 3000) := Lib.hid (by have := of_decide_eq_false hg; omega)
  clear hg
  go_wp2_with (refine op_value rfl (run_load_row 24 (.tmp 4) rfl B rfl 24 _ (0, 0) _ rB Tryd.underlying24 rfl info24) ?_)
  refine (send_S _ s c W2 ⟨_, rfl, HR.out.new hN2⟩ HS.out HC.out).mono ?_
  rintro e W3 ⟨rfl, hk⟩
  have rB := hk.heap rB id
  have hN3 := hN2.trans hk
  clear hk hN2
  go_upto_region 4 with fail
  refine piece (fun _ a' W' => (a'.tmps.size = 140 ∧ a'.defers = [] ∧ a'.tmps.getD 1 undef = .int .i64 c ∧ a'.tmps.getD 2 undef = .int .i64 f ∧ a'.tmps.getD 3 undef = .int .i64 k ∧ a'.tmps.getD 4 undef = .pointer (some ⟨B, 0, none⟩) ∧ a'.tmps.getD 9 undef = .bool (sendB s c) ∧ a'.tmps.getD 10 undef = .bool (oursB s)) ∧ New W3 W') (ours5 _ rfl W3 (s := s) (oa := oa) (oc := oc) rfl rfl rfl rfl rfl rB) ?_
  rintro ⟨z, dfs⟩ W4 ⟨⟨hs, hd, hq1, hq2, hq3, hq4, hq9, hq10⟩, hk⟩
  simp only at hs hd hq1 hq2 hq3 hq4 hq9 hq10
  subst hd
  obtain ⟨u, rfl⟩ := lit140 z hs
  have hp1 : u 1 = .int .i64 c := hq1
  have hp2 : u 2 = .int .i64 f := hq2
  have hp3 : u 3 = .int .i64 k := hq3
  have hp4 : u 4 = .pointer (some ⟨B, 0, none⟩) := hq4
  have hp9 : u 9 = .bool (sendB s c) := hq9
  have hp10 : u 10 = .bool (oursB s) := hq10
  rw [hp1, hp2, hp3, hp4, hp9, hp10]
  clear hp1 hq1 hp2 hq2 hp3 hq3 hp4 hq4 hp9 hq9 hp10 hq10 hs
  have rB := hk.heap rB id
  have hN4 := hN3.trans hk
  clear hk hN3
  go_upto_region 5 with fail
  refine piece (fun _ a' W' => (a'.tmps.size = 140 ∧ a'.defers = [] ∧ a'.tmps.getD 1 undef = .int .i64 c ∧ a'.tmps.getD 2 undef = .int .i64 f ∧ a'.tmps.getD 3 undef = .int .i64 k ∧ a'.tmps.getD 4 undef = .pointer (some ⟨B, 0, none⟩) ∧ a'.tmps.getD 9 undef = .bool (sendB s c) ∧ a'.tmps.getD 11 undef = .bool (sendB s c)) ∧ New W4 W') (want5 _ rfl W4 (s := s) (oa := oa) (oc := oc) rfl rfl rfl rfl rfl rfl rB) ?_
  rintro ⟨z, dfs⟩ W5 ⟨⟨hs, hd, hq1, hq2, hq3, hq4, hq9, hq11⟩, hk⟩
  simp only at hs hd hq1 hq2 hq3 hq4 hq9 hq11
  subst hd
  obtain ⟨u, rfl⟩ := lit140 z hs
  have hp1 : u 1 = .int .i64 c := hq1
  have hp2 : u 2 = .int .i64 f := hq2
  have hp3 : u 3 = .int .i64 k := hq3
  have hp4 : u 4 = .pointer (some ⟨B, 0, none⟩) := hq4
  have hp9 : u 9 = .bool (sendB s c) := hq9
  have hp11 : u 11 = .bool (sendB s c) := hq11
  rw [hp1, hp2, hp3, hp4, hp9, hp11]
  clear hp1 hq1 hp2 hq2 hp3 hq3 hp4 hq4 hp9 hq9 hp11 hq11 hs
  have rB := hk.heap rB id
  have hN5 := hN4.trans hk
  clear hk hN4
  obtain ⟨so, dd, ben, bok, hT, hok, hoff, hon⟩ := takeS_sends s c f k
  obtain ⟨q, hq⟩ : ∃ x, sendB s c = x := ⟨_, rfl⟩
  rw [hq] at hok ⊢
  have hqq : (q != q) = false := by cases q <;> rfl
  have Hok := Lib.hid hok
  have Hoff := Lib.hid hoff
  have Hon := Lib.hid hon
  clear hq hok hoff hon
  have HTK := take_S _ s c f k W5 ⟨_, rfl, HR.out.new hN5⟩ (Nat.le_trans Hl.out (by decide)) HS.out HC.out HF.out HK.out
  rw [hT] at HTK
  have HTK := Lib.hid HTK
  clear hT
  go_wp2_with (refine op_value rfl (run_load_row 24 (.tmp 4) rfl B rfl 24 _ (0, 0) _ rB Tryd.underlying24 rfl info24) ?_)
  refine HTK.out.mono ?_
  rintro e W6 ⟨v', d', rfl, ⟨ox, rfl, hO⟩, hD, hk⟩
  clear HTK
  have rB := hk.heap rB id
  have hN6 := hN5.trans hk
  clear hk hN5
  obtain ⟨pa, pc, rfl⟩ := hO.slice
  obtain ⟨da, dc, rfl⟩ := hD.slice
  simp only []
  obtain ⟨W7, C, hW, hCC, rC, hk⟩ := one_row W6 #[.int .i64 so.id, .int .u8 so.state, .int .i64 so.send, .int .i64 so.recv, .int .i64 so.owed, .bool so.ans, .bool so.ends, .slice pa so.out.length pc, .int .u8 so.urg, .bool so.inc, .int .i64 so.slot] 24
  have rB := hk.heap rB id
  have hO := hO.new hk
  have hN7 := hN6.trans hk
  clear hk
  unfold St.cs
  go_upto_region 9 with fail
  clear hW hCC
  rw [Hok.out]
  refine piece (fun _ a' W' => (a'.tmps.size = 140 ∧ a'.defers = [] ∧ a'.tmps.getD 4 undef = .pointer (some ⟨B, 0, none⟩) ∧ a'.tmps.getD 12 undef = .pointer (some ⟨C, 0, none⟩) ∧ a'.tmps.getD 13 undef = .slice da dd.length dc ∧ a'.tmps.getD 14 undef = .bool ben ∧ a'.tmps.getD 15 undef = .bool (q && (decide (s.out.length = 0) || (decide (0 < f) && decide (0 < k)))) ∧ a'.tmps.getD 98 undef = .bool false) ∧ New W7 W') (went5 _ rfl W7 (s := s) (oa := oa) (oc := oc) rfl rfl rfl rfl rfl rfl rfl rfl rfl rB) ?_
  rintro ⟨z, dfs⟩ W8 ⟨⟨hs, hd, hq4, hq12, hq13, hq14, hq15, hq98⟩, hk⟩
  simp only at hs hd hq4 hq12 hq13 hq14 hq15 hq98
  subst hd
  obtain ⟨u, rfl⟩ := lit140 z hs
  have hp4 : u 4 = .pointer (some ⟨B, 0, none⟩) := hq4
  have hp12 : u 12 = .pointer (some ⟨C, 0, none⟩) := hq12
  have hp13 : u 13 = .slice da dd.length dc := hq13
  have hp14 : u 14 = .bool ben := hq14
  have hp15 : u 15 = .bool (q && (decide (s.out.length = 0) || (decide (0 < f) && decide (0 < k)))) := hq15
  have hp98 : u 98 = .bool false := hq98
  rw [hp4, hp12, hp13, hp14, hp15, hp98]
  clear hp4 hq4 hp12 hq12 hp13 hq13 hp14 hq14 hp15 hq15 hp98 hq98 hs
  rw [← Hok.out]
  have rB := hk.heap rB id
  have rC := hk.heap rC id
  have hO := hO.new hk
  have hN8 := hN7.trans hk
  clear hk hN7 hN6
  cases bok with
  | false =>
    obtain rfl := Hoff.out rfl
    have hIn := HI.out
    have HSM := Lib.hid (same_R _ _ so so W8 ⟨_, rfl, hO.reads⟩ ⟨_, rfl, HR.out.new hN8⟩ hIn hIn)
    clear hIn
    rw [show decide (so = so) = true from decide_eq_true rfl] at HSM
    go_wp2_with (first | (refine op_value rfl (run_load_row 24 (.tmp 12) rfl C rfl 24 _ (0, 0) _ rC Tryd.underlying24 rfl info24) ?_) | (refine op_value rfl (run_load_row 24 (.tmp 4) rfl B rfl 24 _ (0, 0) _ rB Tryd.underlying24 rfl info24) ?_))
    refine HSM.out.mono ?_
    rintro e W9 ⟨rfl, hk⟩
    have hN9 := hN8.trans hk
    go_wp2_with fail
    refine (HW.out _ hN9).mono ?_
    rintro e W10 ⟨rfl, hk2⟩
    have hN10 := hN9.trans hk2
    go_wp2_with fail
    go_ret
    exact ⟨rfl, hN10⟩
  | true =>
  obtain ⟨g1, g2, g3⟩ := Hon.out rfl
  have G1 := Lib.hid g1
  have G2 := Lib.hid g2
  have G3 := Lib.hid g3
  clear g1 g2 g3
  go_upto_region 13 with fail
  refine piece (fun _ a' W' => (a'.tmps.size = 140 ∧ a'.defers = [] ∧ a'.tmps.getD 8 undef = .bool true) ∧ New W8 W') (gone5 _ rfl W8 (s := s) (p := so) (oa := oa) (oc := oc) (pa := pa) (pc := pc) rfl rfl rfl rfl rB rC (fun W hN => HW.out W (hN8.trans hN)) G1.out Hl.out G2.out G3.out) ?_
  rintro ⟨z, dfs⟩ W9 ⟨⟨hs, hd, hq8⟩, hk⟩
  simp only at hs hd hq8
  subst hd
  obtain ⟨u, rfl⟩ := lit140 z hs
  have hp8 : u 8 = .bool true := hq8
  rw [hp8]
  clear hp8 hq8 hs
  have hN9 := hN8.trans hk
  go_wp2_with fail
  go_ret
  exact ⟨rfl, hN9⟩
end Go.Proofs.YtkjghojdfjhhkaaDoor
