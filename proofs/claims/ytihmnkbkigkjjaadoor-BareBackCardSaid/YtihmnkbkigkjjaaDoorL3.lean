/- BareBack, walked. -/
import Derived.Test.YtihmnkbkigkjjaaDoorL4
namespace Go.Proofs.YtihmnkbkigkjjaaDoor
open Go.RowKit Go.Shelf Go.Cs
attribute [local go_sem] Oper.semAt_some
set_option linter.unusedVariables false
set_option linter.unusedSimpArgs false
/-- An item that came in: its kind is a byte's number. -/
structure ItOk (b : Bare.It) : Prop where
  kind : 0 ≤ b.kind
  text : b.text.length ≤ 9223372036854775807
/-- What may stand behind an item. -/
def behB (t : ByteArray) : Bool := decide (t.size = 0) || (decide (gb t 0 = 44) || (decide (gb t 0 = 59) || (decide (gb t 0 = 32) || (decide (gb t 0 = 41) || decide (gb t 0 = 40)))))
theorem beh_back {t : ByteArray} (h : behB t = true) : ∀ c, (bl t).head? = some c → c = 44 ∨ c = 59 ∨ c = 32 ∨ c = 41 ∨ c = 40 ∨ c = 9 := by
  intro c hc
  by_cases h0 : t.size = 0
  · have : bl t = [] := List.length_eq_zero_iff.1 (by rw [bl_len]; exact h0)
    rw [this] at hc
    cases hc
  · have hh := head_drop t 0 (by omega)
    rw [List.drop_zero, hc] at hh
    obtain rfl : c = gb t 0 := Option.some.inj hh
    unfold behB at h
    rw [decide_eq_false h0] at h
    simp only [Bool.false_or, Bool.or_eq_true, decide_eq_true_eq] at h
    rcases h with h | h | h | h | h
    · exact .inl h
    · exact .inr (.inl h)
    · exact .inr (.inr (.inl h))
    · exact .inr (.inr (.inr (.inl h)))
    · exact .inr (.inr (.inr (.inr (.inl h))))
set_option maxHeartbeats 4000000 in
set_option maxRecDepth 100000 in
theorem back_law (b : Bare.It) (t : ByteArray) (w : World) (hb : ItOk b) (ht : t.size ≤ 9223372036854775807) (hT : Tab w) :
    Calls Tryd.prog 3 #[bv b, .string t] w fun e w' => e = .returned (.bool true) ∧ New w w' := by
  have HW := Lib.hid (fun W (hN : New w W) => wakes_any W (hT.new hN))
  obtain ⟨hN, hr⟩ := box_row w b
  by_cases hgreat : 3000 < b.text.length ∨ 300 < t.size
  · have hd : Hid (decide ((3000 : Int) < ((tx b.text).size : Int)) = true ∨ (decide ((3000 : Int) < ((tx b.text).size : Int)) = false ∧ decide ((300 : Int) < (t.size : Int)) = true)) := Lib.hid (by
      rw [tx_size]
      simp only [decide_eq_false_iff_not, decide_eq_true_eq]
      omega)
    have hz : (tx b.text).size ≤ 9223372036854775807 := by rw [tx_size]; exact hb.text
    clear hgreat hb
    obtain ⟨k, n, bt, y⟩ := b
    unfold bv bcs at *
    simp only at hN hr hd hz ⊢
    obtain ⟨x, hx⟩ : ∃ x, tx bt = x := ⟨_, rfl⟩
    rw [hx] at hN hr hd hz ⊢
    clear hx
    rcases hd.out with d1 | ⟨d1, d2⟩
    all_goals
      go_enter Tryd.func3, Tryd.ntmps3
      go_upto_region 1 with fail
      obtain ⟨V, hV⟩ : ∃ V, w.alloc (.cells #[.int .u8 k, .int .i64 n, .string x, .bool y] 23) = V := ⟨_, rfl⟩
      rw [hV] at hN hr ⊢
      obtain ⟨B, hB⟩ : ∃ B, w.heap.size = B := ⟨_, rfl⟩
      rw [hB] at hr ⊢
      clear hV hB
      obtain ⟨⟨c0, c1, c2, c3⟩, -⟩ := row_facts hr
      go_wp2_with fail
      refine (HW.out _ hN).mono ?_
      rintro e w1 ⟨rfl, hN1⟩
      go_wp2_with fail
      go_ret
      exact ⟨rfl, hN.trans hN1⟩
  have hbl : b.text.length ≤ 3000 := by omega
  have hts : t.size ≤ 300 := by omega
  have hk0 := hb.kind
  have hd1 : decide ((3000 : Int) < ((tx b.text).size : Int)) = false := decide_eq_false (by rw [tx_size]; omega)
  have hd2 : decide ((300 : Int) < (t.size : Int)) = false := decide_eq_false (by omega)
  have hz : (tx b.text).size ≤ 3000 := by rw [tx_size]; exact hbl
  have HP := Lib.hid (fun W (hN : New w W) => print_any b hk0 (by omega) W (hT.new hN))
  have HRi := Lib.hid (fun W => right_any b hk0 (by omega) W)
  clear hgreat hb ht
  cases hri : Bare.rightI b with
  | false =>
    rw [hri] at HRi
    rw [Bare.print_none.2 hri] at HP
    unfold printV at HP
    simp only at HP
    clear hri hk0 hbl
    obtain ⟨k, n, bt, y⟩ := b
    unfold bv bcs at *
    simp only at hN hr hd1 hz HP HRi ⊢
    obtain ⟨x, hx⟩ : ∃ x, tx bt = x := ⟨_, rfl⟩
    rw [hx] at hN hr hd1 hz HP HRi ⊢
    clear hx
    go_enter Tryd.func3, Tryd.ntmps3
    go_upto_region 1 with fail
    obtain ⟨V, hV⟩ : ∃ V, w.alloc (.cells #[.int .u8 k, .int .i64 n, .string x, .bool y] 23) = V := ⟨_, rfl⟩
    rw [hV] at hN hr ⊢
    obtain ⟨B, hB⟩ : ∃ B, w.heap.size = B := ⟨_, rfl⟩
    rw [hB] at hr ⊢
    clear hV hB
    obtain ⟨⟨c0, c1, c2, c3⟩, -⟩ := row_facts hr
    go_wp2_with fail
    refine (HP.out _ hN).mono ?_
    rintro e w1 ⟨rfl, hN1⟩
    have hN := hN.trans hN1
    have hr := hN1.heap hr id
    clear c0 c1 c2 c3
    obtain ⟨⟨c0, c1, c2, c3⟩, -⟩ := row_facts hr
    go_wp2_with fail
    refine (HRi.out _).mono ?_
    rintro e w2 ⟨rfl, hN2⟩
    have hN := hN.trans hN2
    go_wp2_with fail
    refine (HW.out _ hN).mono ?_
    rintro e w3 ⟨rfl, hN3⟩
    go_wp2_with fail
    go_ret
    exact ⟨rfl, hN.trans hN3⟩
  | true =>
    rw [hri] at HRi
    obtain ⟨tl, hpr, hp0⟩ := Bare.back hri [] (fun c hc => by cases hc)
    have hll := print_len hpr
    rw [hpr] at HP
    unfold printV at HP
    simp only at HP
    have hle : decide ((0 : Int) < (t.size : Int)) = !decide (t.size = 0) := by rw [← decide_not]; exact decide_eq_decide.2 (by omega)
    cases hbh : behB t with
    | false =>
      have h0 : t.size ≠ 0 := by
        intro h
        unfold behB at hbh
        rw [decide_eq_true h] at hbh
        cases hbh
      rw [decide_eq_false h0] at hle
      have hle : decide ((0 : Int) < (t.size : Int)) = true := hle
      have hix : ∀ W, (Instr.index 9 (.string t) (.int .i64 0)).run Tryd.prog W = .ok (.int .u8 ((gb t 0).toNat : Nat)) W := run_idx t 0 (by omega)
      unfold behB at hbh
      rw [decide_eq_false h0] at hbh
      obtain ⟨c, hc⟩ : ∃ c, (gb t 0).toNat = c := ⟨_, rfl⟩
      simp only [Bool.or_eq_false_iff, decide_eq_false_iff_not] at hbh
      obtain ⟨-, b44, b59, b32, b41, b40⟩ := hbh
      have t44 := (byte_test (gb t 0) 44 (by decide) c hc).2
      rw [show UInt8.ofNat 44 = 44 from rfl, decide_eq_false b44] at t44
      have t44 : ((c : Int) != 44) = true := t44
      have t59 := (byte_test (gb t 0) 59 (by decide) c hc).2
      rw [show UInt8.ofNat 59 = 59 from rfl, decide_eq_false b59] at t59
      have t59 : ((c : Int) != 59) = true := t59
      have t32 := (byte_test (gb t 0) 32 (by decide) c hc).2
      rw [show UInt8.ofNat 32 = 32 from rfl, decide_eq_false b32] at t32
      have t32 : ((c : Int) != 32) = true := t32
      have t41 := (byte_test (gb t 0) 41 (by decide) c hc).2
      rw [show UInt8.ofNat 41 = 41 from rfl, decide_eq_false b41] at t41
      have t41 : ((c : Int) != 41) = true := t41
      have t40 := (byte_test (gb t 0) 40 (by decide) c hc).2
      rw [show UInt8.ofNat 40 = 40 from rfl, decide_eq_false b40] at t40
      have t40 : ((c : Int) != 40) = true := t40
      rw [hc] at hix
      clear b44 b59 b32 b41 b40 hc hri hk0 hbl hp0 hpr hll
      obtain ⟨k, n, bt, y⟩ := b
      unfold bv bcs at *
      simp only at hN hr hd1 hz HP HRi ⊢
      obtain ⟨x, hx⟩ : ∃ x, tx bt = x := ⟨_, rfl⟩
      rw [hx] at hN hr hd1 hz HP HRi ⊢
      obtain ⟨tt, htt⟩ : ∃ x, tx tl = x := ⟨_, rfl⟩
      rw [htt] at HP
      clear hx htt
      go_enter Tryd.func3, Tryd.ntmps3
      go_upto_region 1 with fail
      obtain ⟨V, hV⟩ : ∃ V, w.alloc (.cells #[.int .u8 k, .int .i64 n, .string x, .bool y] 23) = V := ⟨_, rfl⟩
      rw [hV] at hN hr ⊢
      obtain ⟨B, hB⟩ : ∃ B, w.heap.size = B := ⟨_, rfl⟩
      rw [hB] at hr ⊢
      clear hV hB
      obtain ⟨⟨c0, c1, c2, c3⟩, -⟩ := row_facts hr
      go_wp2_with fail
      refine (HP.out _ hN).mono ?_
      rintro e w1 ⟨rfl, hN1⟩
      have hN := hN.trans hN1
      have hr := hN1.heap hr id
      clear c0 c1 c2 c3
      obtain ⟨⟨c0, c1, c2, c3⟩, -⟩ := row_facts hr
      go_wp2_with fail
      refine (HRi.out _).mono ?_
      rintro e w2 ⟨rfl, hN2⟩
      have hN := hN.trans hN2
      go_wp2_with fail
      refine (HW.out _ hN).mono ?_
      rintro e w3 ⟨rfl, hN3⟩
      go_wp2_with fail
      go_ret
      exact ⟨rfl, hN.trans hN3⟩
    | true =>
      obtain ⟨tl', hpr', hpp⟩ := Bare.back hri (bl t) (beh_back hbh)
      obtain rfl : tl = tl' := by rw [hpr] at hpr'; exact Option.some.inj hpr'
      have HQ := Lib.hid (fun W (hN : New w W) => (parse_read (tx tl ++ t) W (by rw [ByteArray.size_append, tx_size]; omega) (hT.new hN)).mono fun e w' h => by rw [cat_bl, bl_tx, bl_tx, hpp] at h; exact readV_some h)
      have heq := fun W => binop_item b b W
      rw [decide_eq_true rfl] at heq
      have htz : (tx tl).size ≤ 7000 := by rw [tx_size]; omega
      have hcase : t.size = 0 ∨ (t.size ≠ 0 ∧ gb t 0 = 44) ∨ (t.size ≠ 0 ∧ gb t 0 ≠ 44 ∧ gb t 0 = 59) ∨ (t.size ≠ 0 ∧ gb t 0 ≠ 44 ∧ gb t 0 ≠ 59 ∧ gb t 0 = 32) ∨ (t.size ≠ 0 ∧ gb t 0 ≠ 44 ∧ gb t 0 ≠ 59 ∧ gb t 0 ≠ 32 ∧ gb t 0 = 41) ∨ (t.size ≠ 0 ∧ gb t 0 ≠ 44 ∧ gb t 0 ≠ 59 ∧ gb t 0 ≠ 32 ∧ gb t 0 ≠ 41 ∧ gb t 0 = 40) := by
        unfold behB at hbh
        simp only [Bool.or_eq_true, decide_eq_true_eq] at hbh
        by_cases h0 : t.size = 0
        · exact .inl h0
        by_cases h1 : gb t 0 = 44
        · exact .inr (.inl ⟨h0, h1⟩)
        by_cases h2 : gb t 0 = 59
        · exact .inr (.inr (.inl ⟨h0, h1, h2⟩))
        by_cases h3 : gb t 0 = 32
        · exact .inr (.inr (.inr (.inl ⟨h0, h1, h2, h3⟩)))
        by_cases h4 : gb t 0 = 41
        · exact .inr (.inr (.inr (.inr (.inl ⟨h0, h1, h2, h3, h4⟩))))
        · exact .inr (.inr (.inr (.inr (.inr ⟨h0, h1, h2, h3, h4, by rcases hbh with h | h | h | h | h | h; exact absurd h h0; exact absurd h h1; exact absurd h h2; exact absurd h h3; exact absurd h h4; exact h⟩))))
      have htq : (t.toList == t.toList) = true := by simp
      obtain ⟨c, hc⟩ : ∃ c, (gb t 0).toNat = c := ⟨_, rfl⟩
      have t44 := (byte_test (gb t 0) 44 (by decide) c hc).2
      rw [show UInt8.ofNat 44 = 44 from rfl] at t44
      have t44 : ((c : Int) != 44) = !decide (gb t 0 = 44) := t44
      have t59 := (byte_test (gb t 0) 59 (by decide) c hc).2
      rw [show UInt8.ofNat 59 = 59 from rfl] at t59
      have t59 : ((c : Int) != 59) = !decide (gb t 0 = 59) := t59
      have t32 := (byte_test (gb t 0) 32 (by decide) c hc).2
      rw [show UInt8.ofNat 32 = 32 from rfl] at t32
      have t32 : ((c : Int) != 32) = !decide (gb t 0 = 32) := t32
      have t41 := (byte_test (gb t 0) 41 (by decide) c hc).2
      rw [show UInt8.ofNat 41 = 41 from rfl] at t41
      have t41 : ((c : Int) != 41) = !decide (gb t 0 = 41) := t41
      have t40 := (byte_test (gb t 0) 40 (by decide) c hc).2
      rw [show UInt8.ofNat 40 = 40 from rfl] at t40
      have t40 : ((c : Int) != 40) = !decide (gb t 0 = 40) := t40
      have hix : t.size ≠ 0 → ∀ W, (Instr.index 9 (.string t) (.int .i64 0)).run Tryd.prog W = .ok (.int .u8 (c : Nat)) W := fun h W => by rw [← hc]; exact run_idx t 0 (by omega) W
      clear hc hri hk0 hbl hp0 hpr hpr' hll hpp hbh
      unfold bv bcs at HQ heq
      obtain ⟨k, n, bt, y⟩ := b
      unfold bv bcs at *
      simp only at hN hr hd1 hz HP HRi HQ heq ⊢
      obtain ⟨x, hx⟩ : ∃ x, tx bt = x := ⟨_, rfl⟩
      rw [hx] at hN hr hd1 hz HP HRi HQ heq ⊢
      obtain ⟨tt, htt⟩ : ∃ x, tx tl = x := ⟨_, rfl⟩
      rw [htt] at HP HQ htz
      rw [tx_bl] at HQ
      clear hx htt
      rcases hcase with h0 | ⟨h0, h1⟩ | ⟨h0, h1, h2⟩ | ⟨h0, h1, h2, h3⟩ | ⟨h0, h1, h2, h3, h4⟩ | ⟨h0, h1, h2, h3, h4, h5⟩
      · rw [decide_eq_true h0] at hle
        have hle : decide ((0 : Int) < (t.size : Int)) = false := hle
        have hle0 : ¬ 0 < t.size := by omega
        clear hix t44 t59 t32 t41 t40 h0
        go_enter Tryd.func3, Tryd.ntmps3
        go_upto_region 1 with fail
        obtain ⟨V, hV⟩ : ∃ V, w.alloc (.cells #[.int .u8 k, .int .i64 n, .string x, .bool y] 23) = V := ⟨_, rfl⟩
        rw [hV] at hN hr ⊢
        obtain ⟨B, hB⟩ : ∃ B, w.heap.size = B := ⟨_, rfl⟩
        rw [hB] at hr ⊢
        clear hV hB
        obtain ⟨⟨c0, c1, c2, c3⟩, -⟩ := row_facts hr
        go_wp2_with fail
        refine (HP.out _ hN).mono ?_
        rintro e w1 ⟨rfl, hN1⟩
        have hN := hN.trans hN1
        have hr := hN1.heap hr id
        clear c0 c1 c2 c3
        obtain ⟨⟨c0, c1, c2, c3⟩, -⟩ := row_facts hr
        go_upto_region 8 with (go_at_call 9; refine (HRi.out _).mono ?_; rintro e w2 ⟨rfl, hN2⟩)
        have hN := hN.trans hN2
        have hr := hN2.heap hr id
        clear c0 c1 c2 c3
        go_wp2_with fail
        refine (HQ.out _ hN).mono ?_
        rintro e w3 ⟨rfl, hN3⟩
        have hN := hN.trans hN3
        have hr := hN3.heap hr id
        go_upto_region 11 with fail
        have hA : New w3 (w3.alloc (.cells #[.int .u8 k, .int .i64 n, .string x, .bool y] 23)) := (Mods.refl (fun _ => False) w3).alloc _
        have r7 := World.alloc_heap_new w3 (.cells #[.int .u8 k, .int .i64 n, .string x, .bool y] 23)
        have hr := hA.heap hr id
        obtain ⟨V7, hV⟩ : ∃ V, w3.alloc (.cells #[.int .u8 k, .int .i64 n, .string x, .bool y] 23) = V := ⟨_, rfl⟩
        obtain ⟨B7, hB⟩ : ∃ B, w3.heap.size = B := ⟨_, rfl⟩
        rw [hV] at hA hr r7 ⊢
        rw [hB] at r7 ⊢
        clear hV hB
        have hN := hN.trans hA
        obtain ⟨⟨c0, c1, c2, c3⟩, -⟩ := row_facts hr
        obtain ⟨⟨g0, g1, g2, g3⟩, -⟩ := row_facts r7
        go_wp2_with fail
        refine (HW.out _ hN).mono ?_
        rintro e w5 ⟨rfl, hN5⟩
        go_wp2_with fail
        go_ret
        exact ⟨rfl, hN.trans hN5⟩
      · rw [decide_eq_false h0] at hle
        have hle : decide ((0 : Int) < (t.size : Int)) = true := hle
        have hix := hix h0
        rw [decide_eq_true h1] at t44
        have t44 : ((c : Int) != 44) = false := t44
        clear t59 t32 t41 t40 h1
        go_enter Tryd.func3, Tryd.ntmps3
        go_upto_region 1 with fail
        obtain ⟨V, hV⟩ : ∃ V, w.alloc (.cells #[.int .u8 k, .int .i64 n, .string x, .bool y] 23) = V := ⟨_, rfl⟩
        rw [hV] at hN hr ⊢
        obtain ⟨B, hB⟩ : ∃ B, w.heap.size = B := ⟨_, rfl⟩
        rw [hB] at hr ⊢
        clear hV hB
        obtain ⟨⟨c0, c1, c2, c3⟩, -⟩ := row_facts hr
        go_wp2_with fail
        refine (HP.out _ hN).mono ?_
        rintro e w1 ⟨rfl, hN1⟩
        have hN := hN.trans hN1
        have hr := hN1.heap hr id
        clear c0 c1 c2 c3
        obtain ⟨⟨c0, c1, c2, c3⟩, -⟩ := row_facts hr
        go_upto_region 8 with (go_at_call 9; refine (HRi.out _).mono ?_; rintro e w2 ⟨rfl, hN2⟩)
        have hN := hN.trans hN2
        have hr := hN2.heap hr id
        clear c0 c1 c2 c3
        go_wp2_with fail
        refine (HQ.out _ hN).mono ?_
        rintro e w3 ⟨rfl, hN3⟩
        have hN := hN.trans hN3
        have hr := hN3.heap hr id
        go_upto_region 11 with fail
        have hA : New w3 (w3.alloc (.cells #[.int .u8 k, .int .i64 n, .string x, .bool y] 23)) := (Mods.refl (fun _ => False) w3).alloc _
        have r7 := World.alloc_heap_new w3 (.cells #[.int .u8 k, .int .i64 n, .string x, .bool y] 23)
        have hr := hA.heap hr id
        obtain ⟨V7, hV⟩ : ∃ V, w3.alloc (.cells #[.int .u8 k, .int .i64 n, .string x, .bool y] 23) = V := ⟨_, rfl⟩
        obtain ⟨B7, hB⟩ : ∃ B, w3.heap.size = B := ⟨_, rfl⟩
        rw [hV] at hA hr r7 ⊢
        rw [hB] at r7 ⊢
        clear hV hB
        have hN := hN.trans hA
        obtain ⟨⟨c0, c1, c2, c3⟩, -⟩ := row_facts hr
        obtain ⟨⟨g0, g1, g2, g3⟩, -⟩ := row_facts r7
        go_wp2_with fail
        refine (HW.out _ hN).mono ?_
        rintro e w5 ⟨rfl, hN5⟩
        go_wp2_with fail
        go_ret
        exact ⟨rfl, hN.trans hN5⟩
      · rw [decide_eq_false h0] at hle
        have hle : decide ((0 : Int) < (t.size : Int)) = true := hle
        have hix := hix h0
        rw [decide_eq_false h1] at t44
        have t44 : ((c : Int) != 44) = true := t44
        rw [decide_eq_true h2] at t59
        have t59 : ((c : Int) != 59) = false := t59
        clear t32 t41 t40 h1 h2
        go_enter Tryd.func3, Tryd.ntmps3
        go_upto_region 1 with fail
        obtain ⟨V, hV⟩ : ∃ V, w.alloc (.cells #[.int .u8 k, .int .i64 n, .string x, .bool y] 23) = V := ⟨_, rfl⟩
        rw [hV] at hN hr ⊢
        obtain ⟨B, hB⟩ : ∃ B, w.heap.size = B := ⟨_, rfl⟩
        rw [hB] at hr ⊢
        clear hV hB
        obtain ⟨⟨c0, c1, c2, c3⟩, -⟩ := row_facts hr
        go_wp2_with fail
        refine (HP.out _ hN).mono ?_
        rintro e w1 ⟨rfl, hN1⟩
        have hN := hN.trans hN1
        have hr := hN1.heap hr id
        clear c0 c1 c2 c3
        obtain ⟨⟨c0, c1, c2, c3⟩, -⟩ := row_facts hr
        go_upto_region 8 with (go_at_call 9; refine (HRi.out _).mono ?_; rintro e w2 ⟨rfl, hN2⟩)
        have hN := hN.trans hN2
        have hr := hN2.heap hr id
        clear c0 c1 c2 c3
        go_wp2_with fail
        refine (HQ.out _ hN).mono ?_
        rintro e w3 ⟨rfl, hN3⟩
        have hN := hN.trans hN3
        have hr := hN3.heap hr id
        go_upto_region 11 with fail
        have hA : New w3 (w3.alloc (.cells #[.int .u8 k, .int .i64 n, .string x, .bool y] 23)) := (Mods.refl (fun _ => False) w3).alloc _
        have r7 := World.alloc_heap_new w3 (.cells #[.int .u8 k, .int .i64 n, .string x, .bool y] 23)
        have hr := hA.heap hr id
        obtain ⟨V7, hV⟩ : ∃ V, w3.alloc (.cells #[.int .u8 k, .int .i64 n, .string x, .bool y] 23) = V := ⟨_, rfl⟩
        obtain ⟨B7, hB⟩ : ∃ B, w3.heap.size = B := ⟨_, rfl⟩
        rw [hV] at hA hr r7 ⊢
        rw [hB] at r7 ⊢
        clear hV hB
        have hN := hN.trans hA
        obtain ⟨⟨c0, c1, c2, c3⟩, -⟩ := row_facts hr
        obtain ⟨⟨g0, g1, g2, g3⟩, -⟩ := row_facts r7
        go_wp2_with fail
        refine (HW.out _ hN).mono ?_
        rintro e w5 ⟨rfl, hN5⟩
        go_wp2_with fail
        go_ret
        exact ⟨rfl, hN.trans hN5⟩
      · rw [decide_eq_false h0] at hle
        have hle : decide ((0 : Int) < (t.size : Int)) = true := hle
        have hix := hix h0
        rw [decide_eq_false h1] at t44
        have t44 : ((c : Int) != 44) = true := t44
        rw [decide_eq_false h2] at t59
        have t59 : ((c : Int) != 59) = true := t59
        rw [decide_eq_true h3] at t32
        have t32 : ((c : Int) != 32) = false := t32
        clear t41 t40 h1 h2 h3
        go_enter Tryd.func3, Tryd.ntmps3
        go_upto_region 1 with fail
        obtain ⟨V, hV⟩ : ∃ V, w.alloc (.cells #[.int .u8 k, .int .i64 n, .string x, .bool y] 23) = V := ⟨_, rfl⟩
        rw [hV] at hN hr ⊢
        obtain ⟨B, hB⟩ : ∃ B, w.heap.size = B := ⟨_, rfl⟩
        rw [hB] at hr ⊢
        clear hV hB
        obtain ⟨⟨c0, c1, c2, c3⟩, -⟩ := row_facts hr
        go_wp2_with fail
        refine (HP.out _ hN).mono ?_
        rintro e w1 ⟨rfl, hN1⟩
        have hN := hN.trans hN1
        have hr := hN1.heap hr id
        clear c0 c1 c2 c3
        obtain ⟨⟨c0, c1, c2, c3⟩, -⟩ := row_facts hr
        go_upto_region 8 with (go_at_call 9; refine (HRi.out _).mono ?_; rintro e w2 ⟨rfl, hN2⟩)
        have hN := hN.trans hN2
        have hr := hN2.heap hr id
        clear c0 c1 c2 c3
        go_wp2_with fail
        refine (HQ.out _ hN).mono ?_
        rintro e w3 ⟨rfl, hN3⟩
        have hN := hN.trans hN3
        have hr := hN3.heap hr id
        go_upto_region 11 with fail
        have hA : New w3 (w3.alloc (.cells #[.int .u8 k, .int .i64 n, .string x, .bool y] 23)) := (Mods.refl (fun _ => False) w3).alloc _
        have r7 := World.alloc_heap_new w3 (.cells #[.int .u8 k, .int .i64 n, .string x, .bool y] 23)
        have hr := hA.heap hr id
        obtain ⟨V7, hV⟩ : ∃ V, w3.alloc (.cells #[.int .u8 k, .int .i64 n, .string x, .bool y] 23) = V := ⟨_, rfl⟩
        obtain ⟨B7, hB⟩ : ∃ B, w3.heap.size = B := ⟨_, rfl⟩
        rw [hV] at hA hr r7 ⊢
        rw [hB] at r7 ⊢
        clear hV hB
        have hN := hN.trans hA
        obtain ⟨⟨c0, c1, c2, c3⟩, -⟩ := row_facts hr
        obtain ⟨⟨g0, g1, g2, g3⟩, -⟩ := row_facts r7
        go_wp2_with fail
        refine (HW.out _ hN).mono ?_
        rintro e w5 ⟨rfl, hN5⟩
        go_wp2_with fail
        go_ret
        exact ⟨rfl, hN.trans hN5⟩
      · rw [decide_eq_false h0] at hle
        have hle : decide ((0 : Int) < (t.size : Int)) = true := hle
        have hix := hix h0
        rw [decide_eq_false h1] at t44
        have t44 : ((c : Int) != 44) = true := t44
        rw [decide_eq_false h2] at t59
        have t59 : ((c : Int) != 59) = true := t59
        rw [decide_eq_false h3] at t32
        have t32 : ((c : Int) != 32) = true := t32
        rw [decide_eq_true h4] at t41
        have t41 : ((c : Int) != 41) = false := t41
        clear t40 h1 h2 h3 h4
        go_enter Tryd.func3, Tryd.ntmps3
        go_upto_region 1 with fail
        obtain ⟨V, hV⟩ : ∃ V, w.alloc (.cells #[.int .u8 k, .int .i64 n, .string x, .bool y] 23) = V := ⟨_, rfl⟩
        rw [hV] at hN hr ⊢
        obtain ⟨B, hB⟩ : ∃ B, w.heap.size = B := ⟨_, rfl⟩
        rw [hB] at hr ⊢
        clear hV hB
        obtain ⟨⟨c0, c1, c2, c3⟩, -⟩ := row_facts hr
        go_wp2_with fail
        refine (HP.out _ hN).mono ?_
        rintro e w1 ⟨rfl, hN1⟩
        have hN := hN.trans hN1
        have hr := hN1.heap hr id
        clear c0 c1 c2 c3
        obtain ⟨⟨c0, c1, c2, c3⟩, -⟩ := row_facts hr
        go_upto_region 8 with (go_at_call 9; refine (HRi.out _).mono ?_; rintro e w2 ⟨rfl, hN2⟩)
        have hN := hN.trans hN2
        have hr := hN2.heap hr id
        clear c0 c1 c2 c3
        go_wp2_with fail
        refine (HQ.out _ hN).mono ?_
        rintro e w3 ⟨rfl, hN3⟩
        have hN := hN.trans hN3
        have hr := hN3.heap hr id
        go_upto_region 11 with fail
        have hA : New w3 (w3.alloc (.cells #[.int .u8 k, .int .i64 n, .string x, .bool y] 23)) := (Mods.refl (fun _ => False) w3).alloc _
        have r7 := World.alloc_heap_new w3 (.cells #[.int .u8 k, .int .i64 n, .string x, .bool y] 23)
        have hr := hA.heap hr id
        obtain ⟨V7, hV⟩ : ∃ V, w3.alloc (.cells #[.int .u8 k, .int .i64 n, .string x, .bool y] 23) = V := ⟨_, rfl⟩
        obtain ⟨B7, hB⟩ : ∃ B, w3.heap.size = B := ⟨_, rfl⟩
        rw [hV] at hA hr r7 ⊢
        rw [hB] at r7 ⊢
        clear hV hB
        have hN := hN.trans hA
        obtain ⟨⟨c0, c1, c2, c3⟩, -⟩ := row_facts hr
        obtain ⟨⟨g0, g1, g2, g3⟩, -⟩ := row_facts r7
        go_wp2_with fail
        refine (HW.out _ hN).mono ?_
        rintro e w5 ⟨rfl, hN5⟩
        go_wp2_with fail
        go_ret
        exact ⟨rfl, hN.trans hN5⟩
      · rw [decide_eq_false h0] at hle
        have hle : decide ((0 : Int) < (t.size : Int)) = true := hle
        have hix := hix h0
        rw [decide_eq_false h1] at t44
        have t44 : ((c : Int) != 44) = true := t44
        rw [decide_eq_false h2] at t59
        have t59 : ((c : Int) != 59) = true := t59
        rw [decide_eq_false h3] at t32
        have t32 : ((c : Int) != 32) = true := t32
        rw [decide_eq_false h4] at t41
        have t41 : ((c : Int) != 41) = true := t41
        rw [decide_eq_true h5] at t40
        have t40 : ((c : Int) != 40) = false := t40
        clear  h1 h2 h3 h4 h5
        go_enter Tryd.func3, Tryd.ntmps3
        go_upto_region 1 with fail
        obtain ⟨V, hV⟩ : ∃ V, w.alloc (.cells #[.int .u8 k, .int .i64 n, .string x, .bool y] 23) = V := ⟨_, rfl⟩
        rw [hV] at hN hr ⊢
        obtain ⟨B, hB⟩ : ∃ B, w.heap.size = B := ⟨_, rfl⟩
        rw [hB] at hr ⊢
        clear hV hB
        obtain ⟨⟨c0, c1, c2, c3⟩, -⟩ := row_facts hr
        go_wp2_with fail
        refine (HP.out _ hN).mono ?_
        rintro e w1 ⟨rfl, hN1⟩
        have hN := hN.trans hN1
        have hr := hN1.heap hr id
        clear c0 c1 c2 c3
        obtain ⟨⟨c0, c1, c2, c3⟩, -⟩ := row_facts hr
        go_upto_region 8 with (go_at_call 9; refine (HRi.out _).mono ?_; rintro e w2 ⟨rfl, hN2⟩)
        have hN := hN.trans hN2
        have hr := hN2.heap hr id
        clear c0 c1 c2 c3
        go_wp2_with fail
        refine (HQ.out _ hN).mono ?_
        rintro e w3 ⟨rfl, hN3⟩
        have hN := hN.trans hN3
        have hr := hN3.heap hr id
        go_upto_region 11 with fail
        have hA : New w3 (w3.alloc (.cells #[.int .u8 k, .int .i64 n, .string x, .bool y] 23)) := (Mods.refl (fun _ => False) w3).alloc _
        have r7 := World.alloc_heap_new w3 (.cells #[.int .u8 k, .int .i64 n, .string x, .bool y] 23)
        have hr := hA.heap hr id
        obtain ⟨V7, hV⟩ : ∃ V, w3.alloc (.cells #[.int .u8 k, .int .i64 n, .string x, .bool y] 23) = V := ⟨_, rfl⟩
        obtain ⟨B7, hB⟩ : ∃ B, w3.heap.size = B := ⟨_, rfl⟩
        rw [hV] at hA hr r7 ⊢
        rw [hB] at r7 ⊢
        clear hV hB
        have hN := hN.trans hA
        obtain ⟨⟨c0, c1, c2, c3⟩, -⟩ := row_facts hr
        obtain ⟨⟨g0, g1, g2, g3⟩, -⟩ := row_facts r7
        go_wp2_with fail
        refine (HW.out _ hN).mono ?_
        rintro e w5 ⟨rfl, hN5⟩
        go_wp2_with fail
        go_ret
        exact ⟨rfl, hN.trans hN5⟩
end Go.Proofs.YtihmnkbkigkjjaaDoor
