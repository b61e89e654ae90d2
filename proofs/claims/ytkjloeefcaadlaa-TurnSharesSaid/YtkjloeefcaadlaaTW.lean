/- What a turn's law asks at each call: wakes. -/
import Derived.Test.YtkjloeefcaadlaaTU8
import Derived.Test.YtkjloeefcaadlaaTEQ
namespace Go.Proofs.Ytkjloeefcaadlaa
open Go.RowKit Go.Shelf Go.Cs
attribute [local go_sem] Oper.semAt_some
def xA : Nat := enc [(1, 3)]
def xB : Nat := enc [(1, 3), (2, 3)]
def xO : Nat := enc [(2, 3)]
def xC : Nat := enc [(2, 3), (1, 3)]
def xT : Nat := enc [(2, 3), (1, 5)]
def hd : Nat → Int := upd nobody 3 1
theorem hd_off : upd hd 3 (-1) = nobody := upd_same rfl
theorem in8_nobody : In8 nobody := fun _ _ => ⟨by simp [nobody], by simp [nobody]⟩
theorem in8_hd : In8 hd := in8_nobody.upd 3 (by decide) (by decide)
theorem in8_zero : In8 zeroH := fun _ _ => ⟨by simp [zeroH], by simp [zeroH]⟩
theorem e1 : pushT 0 nobody 1 3 = (xA, true) := by decide +kernel
theorem e2 : pushT xA nobody 2 3 = (xB, true) := by decide +kernel
theorem e3 : pushT xB nobody 2 4 = (xB, false) := by decide +kernel
theorem e4 : beginT xB nobody = (⟨xO, nobody⟩, 1, 3, true) := by
  have h1 : nextT xB nobody = some (1, 3) := by decide +kernel
  have h2 : ofT xB nobody 1 = some (1, 3) := by decide +kernel
  have h3 : (outF xB 1).1 = xO := by decide +kernel
  have h4 := outT_word h2 (show nobody 3 ≠ 1 by decide)
  rw [h3] at h4
  exact beginT_some h1 h4
theorem n1 : numB 1 = true := by decide
theorem n3 : numB 3 = true := by decide
theorem o1 : ofT xO nobody 1 = none := by decide +kernel
theorem r1 : rightT xO nobody = true := by decide +kernel
theorem e5 : overT xO nobody 1 3 true true = (⟨xC, nobody⟩, true) := overT_push o1 n1 n3 r1 rfl (by decide +kernel)
theorem e6 : overT xO nobody 1 3 false true = (⟨xO, hd⟩, true) := overT_hold o1 n1 n3 r1 (by decide) rfl
theorem e7 : overT xO nobody 1 3 true false = (⟨xO, nobody⟩, true) := overT_idle o1 n1 n3 r1
theorem e8 : nextT xC nobody = some (2, 3) := by decide +kernel
theorem e9 : nextT xO hd = some (1, 3) := by decide +kernel
theorem e10 : nextT xO nobody = some (2, 3) := by decide +kernel
theorem o2 : ofT xO hd 1 = some (1, 3) := by decide +kernel
theorem e13 : outT xO hd 1 = (⟨xO, nobody⟩, true) := by
  have := outT_held o2 (show hd 3 = 1 from rfl)
  rwa [show upd hd ((1, 3) : Int × Nat).2 (-1) = nobody from hd_off] at this
theorem e11 : turnT xO hd 1 5 = (⟨xT, nobody⟩, true) := by
  have hp : pushT xO nobody 1 5 = (xT, true) := by decide +kernel
  have hc : ¬ (((3 : Nat) : Int) = 5 ∨ numB 5 = false) := by decide
  simp only [turnT, o2, e13, hp, if_neg hc]
theorem e12 : ofT xT nobody 1 = some (1, 5) := by decide +kernel
theorem e14 : beginT 0 nobody = (⟨0, nobody⟩, 0, 0, false) := beginT_none (by decide +kernel)
theorem m1 : manyT xO hd = 2 := by decide +kernel
theorem m2 : manyT xO nobody = 1 := by decide +kernel
theorem r2 : rightT xO hd = true := by decide +kernel
theorem r3 : rightT 0 zeroH = false := by decide +kernel
theorem lA : xA < 18446744073709551616 := by decide +kernel
theorem lB : xB < 18446744073709551616 := by decide +kernel
theorem lO : xO < 18446744073709551616 := by decide +kernel
theorem lC : xC < 18446744073709551616 := by decide +kernel
theorem lT : xT < 18446744073709551616 := by decide +kernel
theorem eqO : (xO == xO && heldEq nobody nobody) = true := by rw [heldEq_self]; simp
set_option maxRecDepth 100000 in
set_option maxHeartbeats 4000000 in
theorem wakes_t (w : World) : Calls Try.prog 34 #[] w fun e w' => e = .returned (.bool true) ∧ New w w' := by
  have hC0 := fun w => (new_t) w
  have HC0 := Lib.hid hC0
  have hC1 := fun w => (push_t 0 nobody 1 3 (by decide) in8_nobody (by decide) (by decide) (by decide) (by decide)) w
  rw [e1] at hC1
  unfold RetRT at hC1
  have HC1 := Lib.hid hC1
  have hC2 := fun w => (push_t xA nobody 2 3 lA in8_nobody (by decide) (by decide) (by decide) (by decide)) w
  rw [e2] at hC2
  unfold RetRT at hC2
  have HC2 := Lib.hid hC2
  have hC3 := fun w => (push_t xB nobody 2 4 lB in8_nobody (by decide) (by decide) (by decide) (by decide)) w
  rw [e3] at hC3
  unfold RetRT at hC3
  have HC3 := Lib.hid hC3
  have hC4 := fun w => (begin_t xB nobody lB in8_nobody) w
  rw [e4] at hC4
  have HC4 := Lib.hid hC4
  have hC5 := fun w => (over_t xO nobody 1 3 true true lO in8_nobody (by decide) (by decide) (by decide) (by decide)) w
  rw [e5] at hC5
  unfold RetRT at hC5
  have HC5 := Lib.hid hC5
  have hC6 := fun w => (over_t xO nobody 1 3 false true lO in8_nobody (by decide) (by decide) (by decide) (by decide)) w
  rw [e6] at hC6
  unfold RetRT at hC6
  have HC6 := Lib.hid hC6
  have hC7 := fun w => (over_t xO nobody 1 3 true false lO in8_nobody (by decide) (by decide) (by decide) (by decide)) w
  rw [e7] at hC7
  unfold RetRT at hC7
  have HC7 := Lib.hid hC7
  have hC8 := fun w => (next_t xC nobody lC in8_nobody) w
  rw [e8] at hC8
  simp only [tripT, Option.map_some, Option.getD_some, Option.isSome_some] at hC8
  have HC8 := Lib.hid hC8
  have hC9 := fun w => (next_t xO hd lO in8_hd) w
  rw [e9] at hC9
  simp only [tripT, Option.map_some, Option.getD_some, Option.isSome_some] at hC9
  have HC9 := Lib.hid hC9
  have hC10 := fun w => (next_t xO nobody lO in8_nobody) w
  rw [e10] at hC10
  simp only [tripT, Option.map_some, Option.getD_some, Option.isSome_some] at hC10
  have HC10 := Lib.hid hC10
  have hC11 := fun w => (turn_t xO hd 1 5 lO in8_hd (by decide) (by decide) (by decide) (by decide)) w
  rw [e11] at hC11
  unfold RetRT at hC11
  have HC11 := Lib.hid hC11
  have hC12 := fun w => (of_t xT nobody 1 lT in8_nobody) w
  rw [e12] at hC12
  simp only [pairO, Option.map_some, Option.getD_some, Option.isSome_some] at hC12
  have HC12 := Lib.hid hC12
  have hC13 := fun w => (out_t xO hd 1 lO in8_hd) w
  rw [e13] at hC13
  unfold RetRT at hC13
  have HC13 := Lib.hid hC13
  have hC14 := fun w => (new_t) w
  have HC14 := Lib.hid hC14
  have hC15 := fun w => (begin_t 0 nobody (by decide) in8_nobody) w
  rw [e14] at hC15
  have HC15 := Lib.hid hC15
  have hC16 := fun w => (many_t xO hd lO in8_hd) w
  rw [m1] at hC16
  have HC16 := Lib.hid hC16
  have hC17 := fun w => (many_t xO nobody lO in8_nobody) w
  rw [m2] at hC17
  have HC17 := Lib.hid hC17
  have hC18 := fun w => (right_t xO hd lO in8_hd) w
  rw [r2] at hC18
  have HC18 := Lib.hid hC18
  have hC19 := fun w => (right_t 0 zeroH (by decide) in8_zero) w
  rw [r3] at hC19
  have HC19 := Lib.hid hC19
  clear hC0 hC1 hC2 hC3 hC4 hC5 hC6 hC7 hC8 hC9 hC10 hC11 hC12 hC13 hC14 hC15 hC16 hC17 hC18 hC19
  have hEO := eqO
  go_enter Try.func34, Try.ntmps34
  go_wp2_with fail
  refine (HC0.out _).mono ?_
  rintro e w0 ⟨rfl, hN0⟩
  go_wp2_with fail
  refine (HC1.out _).mono ?_
  rintro e w1 ⟨rfl, hM⟩
  have hN1 := hN0.trans hM
  clear hM hN0  HC1
  obtain ⟨hv1, hNa⟩ := ratN hN1 xA nobody
  go_wp2_with (first | (refine op_skip rfl (run_store_new 51 (.tmp 1) (.tmp 39) rfl 51 (rc 0 zeroH) (rc xA nobody) rfl rfl (infoL _ _) rfl (rc_one _ _)) ?_) | (refine op_value rfl (run_load_row 51 (.tmp 1) rfl w1.heap.size rfl 51 (rc xA nobody).toArray (0, 0) _ hv1 Try.underlying51 rfl (infoR _ _)) ?_))
  obtain ⟨W, hW⟩ : ∃ W, (w1.alloc (.cells (rc xA nobody).toArray 51)) = W := ⟨_, rfl⟩
  obtain ⟨B1, hB⟩ : ∃ B, w1.heap.size = B := ⟨_, rfl⟩
  rw [hW] at hNa hv1  ⊢
  rw [hB] at hv1 ⊢
  clear hW hB hN1
  refine (HC2.out _).mono ?_
  rintro e w2 ⟨rfl, hM⟩
  have hN2 := hNa.trans hM
  clear hM hNa hv1 HC2
  obtain ⟨hv3, hNa⟩ := ratN hN2 xB nobody
  go_wp2_with (first | (refine op_skip rfl (run_store_new 51 (.tmp 3) (.tmp 44) rfl 51 (rc 0 zeroH) (rc xB nobody) rfl rfl (infoL _ _) rfl (rc_one _ _)) ?_) | (refine op_value rfl (run_load_row 51 (.tmp 3) rfl w2.heap.size rfl 51 (rc xB nobody).toArray (0, 0) _ hv3 Try.underlying51 rfl (infoR _ _)) ?_))
  obtain ⟨W, hW⟩ : ∃ W, (w2.alloc (.cells (rc xB nobody).toArray 51)) = W := ⟨_, rfl⟩
  obtain ⟨B3, hB⟩ : ∃ B, w2.heap.size = B := ⟨_, rfl⟩
  rw [hW] at hNa hv3  ⊢
  rw [hB] at hv3 ⊢
  clear hW hB hN2
  refine (HC3.out _).mono ?_
  rintro e w3 ⟨rfl, hM⟩
  have hz3 := hv3.new hM
  have hN3 := hNa.trans hM
  clear hM hNa hv3 HC3
  have hv3 := hz3
  clear hz3
  obtain ⟨hv5, hNa⟩ := ratN hN3 xB nobody
  have hw3 := hv3.old (.cells (rc xB nobody).toArray 51)
  clear hv3
  go_wp2_with (first | (refine op_skip rfl (run_store_new 51 (.tmp 5) (.tmp 49) rfl 51 (rc 0 zeroH) (rc xB nobody) rfl rfl (infoL _ _) rfl (rc_one _ _)) ?_) | (refine op_value rfl (run_load_row 51 (.tmp 3) rfl B3 rfl 51 (rc xB nobody).toArray (0, 0) _ hw3 Try.underlying51 rfl (infoR _ _)) ?_))
  obtain ⟨W, hW⟩ : ∃ W, (w3.alloc (.cells (rc xB nobody).toArray 51)) = W := ⟨_, rfl⟩
  obtain ⟨B5, hB⟩ : ∃ B, w3.heap.size = B := ⟨_, rfl⟩
  rw [hW] at hNa hv5 hw3 ⊢
  rw [hB] at hv5 ⊢
  clear hW hB hN3
  refine (HC4.out _).mono ?_
  rintro e w4 ⟨rfl, hM⟩
  have hN4 := hNa.trans hM
  clear hM hNa hw3 hv5 HC4
  obtain ⟨hv7, hNa⟩ := ratN hN4 xO nobody
  go_wp2_with (first | (refine op_skip rfl (run_store_new 51 (.tmp 7) (.tmp 54) rfl 51 (rc 0 zeroH) (rc xO nobody) rfl rfl (infoL _ _) rfl (rc_one _ _)) ?_) | (refine op_value rfl (run_load_row 51 (.tmp 7) rfl w4.heap.size rfl 51 (rc xO nobody).toArray (0, 0) _ hv7 Try.underlying51 rfl (infoR _ _)) ?_))
  obtain ⟨W, hW⟩ : ∃ W, (w4.alloc (.cells (rc xO nobody).toArray 51)) = W := ⟨_, rfl⟩
  obtain ⟨B7, hB⟩ : ∃ B, w4.heap.size = B := ⟨_, rfl⟩
  rw [hW] at hNa hv7  ⊢
  rw [hB] at hv7 ⊢
  clear hW hB hN4
  refine (HC5.out _).mono ?_
  rintro e w5 ⟨rfl, hM⟩
  have hz7 := hv7.new hM
  have hN5 := hNa.trans hM
  clear hM hNa hv7 HC5
  have hv7 := hz7
  clear hz7
  obtain ⟨hv11, hNa⟩ := ratN hN5 xC nobody
  have hw7 := hv7.old (.cells (rc xC nobody).toArray 51)
  clear hv7
  go_wp2_with (first | (refine op_skip rfl (run_store_new 51 (.tmp 11) (.tmp 63) rfl 51 (rc 0 zeroH) (rc xC nobody) rfl rfl (infoL _ _) rfl (rc_one _ _)) ?_) | (refine op_value rfl (run_load_row 51 (.tmp 7) rfl B7 rfl 51 (rc xO nobody).toArray (0, 0) _ hw7 Try.underlying51 rfl (infoR _ _)) ?_))
  obtain ⟨W, hW⟩ : ∃ W, (w5.alloc (.cells (rc xC nobody).toArray 51)) = W := ⟨_, rfl⟩
  obtain ⟨B11, hB⟩ : ∃ B, w5.heap.size = B := ⟨_, rfl⟩
  rw [hW] at hNa hv11 hw7 ⊢
  rw [hB] at hv11 ⊢
  clear hW hB hN5
  refine (HC6.out _).mono ?_
  rintro e w6 ⟨rfl, hM⟩
  have hz7 := hw7.new hM
  have hz11 := hv11.new hM
  have hN6 := hNa.trans hM
  clear hM hNa hw7 hv11 HC6
  have hv7 := hz7
  clear hz7
  have hv11 := hz11
  clear hz11
  obtain ⟨hv13, hNa⟩ := ratN hN6 xO hd
  have hw7 := hv7.old (.cells (rc xO hd).toArray 51)
  have hw11 := hv11.old (.cells (rc xO hd).toArray 51)
  clear hv7 hv11
  go_wp2_with (first | (refine op_skip rfl (run_store_new 51 (.tmp 13) (.tmp 70) rfl 51 (rc 0 zeroH) (rc xO hd) rfl rfl (infoL _ _) rfl (rc_one _ _)) ?_) | (refine op_value rfl (run_load_row 51 (.tmp 7) rfl B7 rfl 51 (rc xO nobody).toArray (0, 0) _ hw7 Try.underlying51 rfl (infoR _ _)) ?_))
  obtain ⟨W, hW⟩ : ∃ W, (w6.alloc (.cells (rc xO hd).toArray 51)) = W := ⟨_, rfl⟩
  obtain ⟨B13, hB⟩ : ∃ B, w6.heap.size = B := ⟨_, rfl⟩
  rw [hW] at hNa hv13 hw7 hw11 ⊢
  rw [hB] at hv13 ⊢
  clear hW hB hN6
  refine (HC7.out _).mono ?_
  rintro e w7 ⟨rfl, hM⟩
  have hz11 := hw11.new hM
  have hz13 := hv13.new hM
  have hN7 := hNa.trans hM
  clear hM hNa hw7 hw11 hv13 HC7
  have hv11 := hz11
  clear hz11
  have hv13 := hz13
  clear hz13
  obtain ⟨hv15, hNa⟩ := ratN hN7 xO nobody
  have hw11 := hv11.old (.cells (rc xO nobody).toArray 51)
  have hw13 := hv13.old (.cells (rc xO nobody).toArray 51)
  clear hv11 hv13
  go_wp2_with (first | (refine op_skip rfl (run_store_new 51 (.tmp 15) (.tmp 77) rfl 51 (rc 0 zeroH) (rc xO nobody) rfl rfl (infoL _ _) rfl (rc_one _ _)) ?_) | (refine op_value rfl (run_load_row 51 (.tmp 11) rfl B11 rfl 51 (rc xC nobody).toArray (0, 0) _ hw11 Try.underlying51 rfl (infoR _ _)) ?_))
  obtain ⟨W, hW⟩ : ∃ W, (w7.alloc (.cells (rc xO nobody).toArray 51)) = W := ⟨_, rfl⟩
  obtain ⟨B15, hB⟩ : ∃ B, w7.heap.size = B := ⟨_, rfl⟩
  rw [hW] at hNa hv15 hw11 hw13 ⊢
  rw [hB] at hv15 ⊢
  clear hW hB hN7
  refine (HC8.out _).mono ?_
  rintro e w8 ⟨rfl, hM⟩
  have hz13 := hw13.new hM
  have hz15 := hv15.new hM
  have hN8 := hNa.trans hM
  clear hM hNa hw11 hw13 hv15 HC8
  have hv13 := hz13
  clear hz13
  have hv15 := hz15
  clear hz15
  go_wp2_with (first | (refine op_value rfl (run_load_row 51 (.tmp 13) rfl B13 rfl 51 (rc xO hd).toArray (0, 0) _ hv13 Try.underlying51 rfl (infoR _ _)) ?_))
  refine (HC9.out _).mono ?_
  rintro e w9 ⟨rfl, hM⟩
  have hz13 := hv13.new hM
  have hz15 := hv15.new hM
  have hN9 := hN8.trans hM
  clear hM hN8 hv13 hv15 HC9
  have hv13 := hz13
  clear hz13
  have hv15 := hz15
  clear hz15
  go_wp2_with (first | (refine op_value rfl (run_load_row 51 (.tmp 15) rfl B15 rfl 51 (rc xO nobody).toArray (0, 0) _ hv15 Try.underlying51 rfl (infoR _ _)) ?_))
  refine (HC10.out _).mono ?_
  rintro e w10 ⟨rfl, hM⟩
  have hz13 := hv13.new hM
  have hz15 := hv15.new hM
  have hN10 := hN9.trans hM
  clear hM hN9 hv13 hv15 HC10
  have hv13 := hz13
  clear hz13
  have hv15 := hz15
  clear hz15
  go_wp2_with (first | (refine op_value rfl (run_load_row 51 (.tmp 13) rfl B13 rfl 51 (rc xO hd).toArray (0, 0) _ hv13 Try.underlying51 rfl (infoR _ _)) ?_))
  refine (HC11.out _).mono ?_
  rintro e w11 ⟨rfl, hM⟩
  have hz13 := hv13.new hM
  have hz15 := hv15.new hM
  have hN11 := hN10.trans hM
  clear hM hN10 hv13 hv15 HC11
  have hv13 := hz13
  clear hz13
  have hv15 := hz15
  clear hz15
  obtain ⟨hv26, hNa⟩ := ratN hN11 xT nobody
  have hw13 := hv13.old (.cells (rc xT nobody).toArray 51)
  have hw15 := hv15.old (.cells (rc xT nobody).toArray 51)
  clear hv13 hv15
  go_wp2_with (first | (refine op_skip rfl (run_store_new 51 (.tmp 26) (.tmp 100) rfl 51 (rc 0 zeroH) (rc xT nobody) rfl rfl (infoL _ _) rfl (rc_one _ _)) ?_) | (refine op_value rfl (run_load_row 51 (.tmp 26) rfl w11.heap.size rfl 51 (rc xT nobody).toArray (0, 0) _ hv26 Try.underlying51 rfl (infoR _ _)) ?_))
  obtain ⟨W, hW⟩ : ∃ W, (w11.alloc (.cells (rc xT nobody).toArray 51)) = W := ⟨_, rfl⟩
  obtain ⟨B26, hB⟩ : ∃ B, w11.heap.size = B := ⟨_, rfl⟩
  rw [hW] at hNa hv26 hw13 hw15 ⊢
  rw [hB] at hv26 ⊢
  clear hW hB hN11
  refine (HC12.out _).mono ?_
  rintro e w12 ⟨rfl, hM⟩
  have hz13 := hw13.new hM
  have hz15 := hw15.new hM
  have hz26 := hv26.new hM
  have hN12 := hNa.trans hM
  clear hM hNa hw13 hw15 hv26 HC12
  have hv13 := hz13
  clear hz13
  have hv15 := hz15
  clear hz15
  have hv26 := hz26
  clear hz26
  go_wp2_with (first | (refine op_value rfl (run_load_row 51 (.tmp 13) rfl B13 rfl 51 (rc xO hd).toArray (0, 0) _ hv13 Try.underlying51 rfl (infoR _ _)) ?_))
  refine (HC13.out _).mono ?_
  rintro e w13 ⟨rfl, hM⟩
  have hz13 := hv13.new hM
  have hz15 := hv15.new hM
  have hz26 := hv26.new hM
  have hN13 := hN12.trans hM
  clear hM hN12 hv13 hv15 hv26 HC13
  have hv13 := hz13
  clear hz13
  have hv15 := hz15
  clear hz15
  have hv26 := hz26
  clear hz26
  obtain ⟨hv30, hNa⟩ := ratN hN13 xO nobody
  have hw13 := hv13.old (.cells (rc xO nobody).toArray 51)
  have hw15 := hv15.old (.cells (rc xO nobody).toArray 51)
  have hw26 := hv26.old (.cells (rc xO nobody).toArray 51)
  clear hv13 hv15 hv26
  go_wp2_with (first | (refine op_skip rfl (run_store_new 51 (.tmp 30) (.tmp 110) rfl 51 (rc 0 zeroH) (rc xO nobody) rfl rfl (infoL _ _) rfl (rc_one _ _)) ?_))
  obtain ⟨W, hW⟩ : ∃ W, (w13.alloc (.cells (rc xO nobody).toArray 51)) = W := ⟨_, rfl⟩
  obtain ⟨B30, hB⟩ : ∃ B, w13.heap.size = B := ⟨_, rfl⟩
  rw [hW] at hNa hv30 hw13 hw15 hw26 ⊢
  rw [hB] at hv30 ⊢
  clear hW hB hN13
  refine (HC14.out _).mono ?_
  rintro e w14 ⟨rfl, hM⟩
  have hz13 := hw13.new hM
  have hz15 := hw15.new hM
  have hz26 := hw26.new hM
  have hz30 := hv30.new hM
  have hN14 := hNa.trans hM
  clear hM hNa hw13 hw15 hw26 hv30 HC14
  have hv13 := hz13
  clear hz13
  have hv15 := hz15
  clear hz15
  have hv26 := hz26
  clear hz26
  have hv30 := hz30
  clear hz30
  go_wp2_with fail
  refine (HC15.out _).mono ?_
  rintro e w15 ⟨rfl, hM⟩
  have hz13 := hv13.new hM
  have hz15 := hv15.new hM
  have hz26 := hv26.new hM
  have hz30 := hv30.new hM
  have hN15 := hN14.trans hM
  clear hM hN14 hv13 hv15 hv26 hv30 HC15
  have hv13 := hz13
  clear hz13
  have hv15 := hz15
  clear hz15
  have hv26 := hz26
  clear hz26
  have hv30 := hz30
  clear hz30
  obtain ⟨hv32, hNa⟩ := ratN hN15 0 nobody
  have hw13 := hv13.old (.cells (rc 0 nobody).toArray 51)
  have hw15 := hv15.old (.cells (rc 0 nobody).toArray 51)
  have hw26 := hv26.old (.cells (rc 0 nobody).toArray 51)
  have hw30 := hv30.old (.cells (rc 0 nobody).toArray 51)
  clear hv13 hv15 hv26 hv30
  go_wp2_with (first | (refine op_skip rfl (run_store_new 51 (.tmp 32) (.tmp 115) rfl 51 (rc 0 zeroH) (rc 0 nobody) rfl rfl (infoL _ _) rfl (rc_one _ _)) ?_) | (refine op_value rfl (run_load_row 51 (.tmp 30) rfl B30 rfl 51 (rc xO nobody).toArray (0, 0) _ hw30 Try.underlying51 rfl (infoR _ _)) ?_) | (refine op_value_g rfl (run_load_row 51 (.tmp 30) rfl B30 rfl 51 (rc xO nobody).toArray (0, 0) _ hw30 Try.underlying51 rfl (infoR _ _)) ?_) | (refine op_value rfl (run_load_row 51 (.tmp 15) rfl B15 rfl 51 (rc xO nobody).toArray (0, 0) _ hw15 Try.underlying51 rfl (infoR _ _)) ?_) | (refine op_value_g rfl (run_load_row 51 (.tmp 15) rfl B15 rfl 51 (rc xO nobody).toArray (0, 0) _ hw15 Try.underlying51 rfl (infoR _ _)) ?_) | (refine op_value rfl (run_load_row 51 (.tmp 13) rfl B13 rfl 51 (rc xO hd).toArray (0, 0) _ hw13 Try.underlying51 rfl (infoR _ _)) ?_) | (refine op_value_g rfl (run_load_row 51 (.tmp 13) rfl B13 rfl 51 (rc xO hd).toArray (0, 0) _ hw13 Try.underlying51 rfl (infoR _ _)) ?_) | (refine op_value_g rfl (run_eql_rdy (.tmp 177) (.tmp 178) rfl xO xO nobody nobody rfl rfl) ?_))
  obtain ⟨W, hW⟩ : ∃ W, (w15.alloc (.cells (rc 0 nobody).toArray 51)) = W := ⟨_, rfl⟩
  obtain ⟨B32, hB⟩ : ∃ B, w15.heap.size = B := ⟨_, rfl⟩
  rw [hW] at hNa hv32 hw13 hw15 hw26 hw30 ⊢
  rw [hB] at hv32 ⊢
  clear hW hB hN15
  refine (HC16.out _).mono ?_
  rintro e w16 ⟨rfl, hM⟩
  have hz13 := hw13.new hM
  have hz15 := hw15.new hM
  have hz26 := hw26.new hM
  have hN16 := hNa.trans hM
  clear hM hNa hw13 hw15 hw26 hw30 hv32 HC16
  have hv13 := hz13
  clear hz13
  have hv15 := hz15
  clear hz15
  have hv26 := hz26
  clear hz26
  go_wp2_with (first | (refine op_value rfl (run_load_row 51 (.tmp 15) rfl B15 rfl 51 (rc xO nobody).toArray (0, 0) _ hv15 Try.underlying51 rfl (infoR _ _)) ?_) | (refine op_value_g rfl (run_load_row 51 (.tmp 15) rfl B15 rfl 51 (rc xO nobody).toArray (0, 0) _ hv15 Try.underlying51 rfl (infoR _ _)) ?_))
  refine (HC17.out _).mono ?_
  rintro e w17 ⟨rfl, hM⟩
  have hz13 := hv13.new hM
  have hz26 := hv26.new hM
  have hN17 := hN16.trans hM
  clear hM hN16 hv13 hv15 hv26 HC17
  have hv13 := hz13
  clear hz13
  have hv26 := hz26
  clear hz26
  go_wp2_with (first | (refine op_value rfl (run_load_row 51 (.tmp 13) rfl B13 rfl 51 (rc xO hd).toArray (0, 0) _ hv13 Try.underlying51 rfl (infoR _ _)) ?_) | (refine op_value_g rfl (run_load_row 51 (.tmp 13) rfl B13 rfl 51 (rc xO hd).toArray (0, 0) _ hv13 Try.underlying51 rfl (infoR _ _)) ?_))
  refine (HC18.out _).mono ?_
  rintro e w18 ⟨rfl, hM⟩
  have hz13 := hv13.new hM
  have hz26 := hv26.new hM
  have hN18 := hN17.trans hM
  clear hM hN17 hv13 hv26 HC18
  have hv13 := hz13
  clear hz13
  have hv26 := hz26
  clear hz26
  go_wp2_with fail
  refine (HC19.out _).mono ?_
  rintro e w19 ⟨rfl, hM⟩
  have hz13 := hv13.new hM
  have hz26 := hv26.new hM
  have hN19 := hN18.trans hM
  clear hM hN18 hv13 hv26 HC19
  have hv13 := hz13
  clear hz13
  have hv26 := hz26
  clear hz26
  have c13 : w19.cell? ⟨B13, 4, none⟩ = some (.int .i64 1) := hv13.at (u := 3) (by decide)
  have c26 : w19.cell? ⟨B26, 4, none⟩ = some (.int .i64 (-1)) := hv26.at (u := 3) (by decide)
  go_wp2_with fail
  go_ret
  exact ⟨rfl, hN19⟩
end Go.Proofs.Ytkjloeefcaadlaa
