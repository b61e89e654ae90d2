/- An item is read (the program). -/
import Derived.Test.YtihmnkbkigkjjaaDoorZ9
import Derived.Test.YtihmnkbkigkjjaaDoorZ6
namespace Go.Proofs.YtihmnkbkigkjjaaDoor
open Go.RowKit Go.Shelf Go.Cs
attribute [local go_sem] Oper.semAt_some
set_option linter.unusedVariables false
set_option linter.unusedSimpArgs false
theorem readP_open (r : Option (Bare.It × Bare.Bs)) : ∃ (k n : Int) (t : ByteArray) (y : Bool) (x : ByteArray) (ec : Int), ∀ w e w', ReadP r w e w' ↔ (e = .returned (.tuple #[.agg #[.int .u8 k, .int .i64 n, .string t, .bool y], .string x, .int .i64 ec]) ∧ New w w') := by
  cases r with
  | none => exact ⟨0, 0, ⟨#[]⟩, false, ⟨#[]⟩, 120, fun w e w' => Iff.rfl⟩
  | some p => exact ⟨p.1.kind, p.1.int, tx p.1.text, p.1.yes, tx p.2, 0, fun w e w' => Iff.rfl⟩
theorem parseI_at (s : ByteArray) (h : 0 < s.size) : Bare.parseI (bl s) = (if Bare.digB (gb s 0) || decide (gb s 0 = 45) then Bare.number (bl s)
    else if Bare.letB (gb s 0) || decide (gb s 0 = 42) then some (⟨4, 0, (bl s).takeWhile Bare.inTok, false⟩, (bl s).drop ((bl s).takeWhile Bare.inTok).length)
    else if gb s 0 = 34 then Bare.quoted [] ((bl s).drop 1)
    else if gb s 0 = 58 then Bare.packed ((bl s).drop 1)
    else if gb s 0 = 63 then ansR (bl s)
    else none) := by
  have hdr : bl s = gb s 0 :: (bl s).drop 1 := by
    have := gb_get s 0 h
    obtain ⟨h1, h2⟩ := List.getElem?_eq_some_iff.1 this
    conv => lhs; rw [← List.drop_zero (l := bl s), List.drop_eq_getElem_cons h1, h2]
  have e45 : (gb s 0 == 45) = decide (gb s 0 = 45) := by rw [Bool.eq_iff_iff, beq_iff_eq, decide_eq_true_eq]
  have e42 : (gb s 0 == 42) = decide (gb s 0 = 42) := by rw [Bool.eq_iff_iff, beq_iff_eq, decide_eq_true_eq]
  obtain ⟨c, hc⟩ : ∃ c, gb s 0 = c := ⟨_, rfl⟩
  obtain ⟨r, hr⟩ : ∃ r, (bl s).drop 1 = r := ⟨_, rfl⟩
  rw [hc, hr] at hdr
  rw [hc] at e45 e42
  rw [hc, hr, hdr, Bare.parseI_cons]
  unfold Bare.headTok
  rw [e45, e42]
  congr 1
  congr 1
  congr 1
  congr 1
  congr 1
  unfold ansR
  cases r <;> rfl
set_option maxHeartbeats 4000000 in
set_option maxRecDepth 100000 in
theorem parse_read (s : ByteArray) (w : World) (hs : s.size ≤ 1000000) (hT : Tab w) :
    Calls Tryd.prog 10 #[.string s] w (ReadP (Bare.parseI (bl s)) w) := by
  obtain ⟨hN, hr⟩ := no_row w
  have hem := empty_toList s
  by_cases h0 : s.size = 0
  · have e : Bare.parseI (bl s) = none := by
      have : bl s = [] := List.length_eq_zero_iff.1 (by rw [bl_len]; exact h0)
      rw [this]; rfl
    rw [e]
    rw [decide_eq_true h0] at hem
    unfold ReadP bv bcs noIt
    simp only
    clear h0 e
    go_enter Tryd.func10, Tryd.ntmps10
    go_upto_region 1 with fail
    obtain ⟨W, hW⟩ : ∃ W, w.alloc (.cells #[.int .u8 0, .int .i64 0, .string ⟨#[]⟩, .bool false] 23) = W := ⟨_, rfl⟩
    rw [hW] at hN hr ⊢
    obtain ⟨B, hB⟩ : ∃ B, w.heap.size = B := ⟨_, rfl⟩
    have hBw : w.heap.size ≤ B := by omega
    rw [hB] at hr ⊢
    clear hW hB
    obtain ⟨⟨c0, c1, c2, c3⟩, f0, f1, f2, f3⟩ := row_facts hr
    go_wp2_with fail
    obtain ⟨hN2, hr2⟩ := set4 hN hBw hr (.int .u8 0) (.int .i64 0) (.string ⟨#[]⟩) (.bool false)
    obtain ⟨W2, hW2⟩ : ∃ W2, ((((W.setCell ⟨B, 0, none⟩ (.int .u8 0)).setCell ⟨B, 1, none⟩ (.int .i64 0)).setCell ⟨B, 2, none⟩ (.string ⟨#[]⟩)).setCell ⟨B, 3, none⟩ (.bool false)) = W2 := ⟨_, rfl⟩
    rw [hW2] at hN2 hr2 ⊢
    exact read_end (by kernel_rfl) rfl rfl rfl hr2 ⟨rfl, hN2⟩
  rw [decide_eq_false h0] at hem
  rw [parseI_at s (by omega)]
  have hix0 : ∀ W, (Instr.index 9 (.string s) (.int .i64 0)).run Tryd.prog W = .ok (.int .u8 ((gb s 0).toNat : Nat)) W := run_idx s 0 (by omega)
  have HD := Lib.hid (fun W => (digit_p (gb s 0) W).mono fun e w' h => show e = _ ∧ W = w' from ⟨h.1, h.2.symm⟩)
  have HL := Lib.hid (fun W => (letter_p (gb s 0) W).mono fun e w' h => show e = _ ∧ W = w' from ⟨h.1, h.2.symm⟩)
  have HNum := Lib.hid (fun W => number_read s W hs (by omega))
  have HTok := Lib.hid (fun W => token_read s W hs)
  have HQuo := Lib.hid (fun W => quoted_read s W hs (by omega))
  have HPac := Lib.hid (fun W (hN : New w W) => packed_read s W hs (by omega) (hT.new hN))
  have HAns := Lib.hid (fun W => answer_read s W hs)
  obtain ⟨n, hn⟩ : ∃ n, (gb s 0).toNat = n := ⟨_, rfl⟩
  have t45 := (byte_test (gb s 0) 45 (by decide) n hn).1
  rw [show UInt8.ofNat 45 = 45 from rfl] at t45
  have t45 : ((n : Int) == 45) = decide (gb s 0 = 45) := t45
  have t42 := (byte_test (gb s 0) 42 (by decide) n hn).1
  rw [show UInt8.ofNat 42 = 42 from rfl] at t42
  have t42 : ((n : Int) == 42) = decide (gb s 0 = 42) := t42
  have t34 := (byte_test (gb s 0) 34 (by decide) n hn).1
  rw [show UInt8.ofNat 34 = 34 from rfl] at t34
  have t34 : ((n : Int) == 34) = decide (gb s 0 = 34) := t34
  have t58 := (byte_test (gb s 0) 58 (by decide) n hn).1
  rw [show UInt8.ofNat 58 = 58 from rfl] at t58
  have t58 : ((n : Int) == 58) = decide (gb s 0 = 58) := t58
  have t63 := (byte_test (gb s 0) 63 (by decide) n hn).1
  rw [show UInt8.ofNat 63 = 63 from rfl] at t63
  have t63 : ((n : Int) == 63) = decide (gb s 0 = 63) := t63
  rw [hn] at hix0 HD HL
  clear hn h0
  obtain ⟨D, hD⟩ : ∃ x, Bare.digB (gb s 0) = x := ⟨_, rfl⟩
  obtain ⟨L, hL⟩ : ∃ x, Bare.letB (gb s 0) = x := ⟨_, rfl⟩
  rw [hD] at HD ⊢
  rw [hL] at HL ⊢
  clear hD hL
  obtain ⟨x45, hx45⟩ : ∃ x, decide (gb s 0 = 45) = x := ⟨_, rfl⟩
  rw [hx45] at t45 ⊢
  clear hx45
  obtain ⟨x42, hx42⟩ : ∃ x, decide (gb s 0 = 42) = x := ⟨_, rfl⟩
  rw [hx42] at t42 ⊢
  clear hx42
  cases D with
  | true =>
    rw [Bool.true_or, if_pos rfl]
    obtain ⟨k, nn, tt, y, x, ec, hv⟩ := readP_open (Bare.number (bl s))
    refine Calls.mono (R := fun e w' => e = .returned (.tuple #[.agg #[.int .u8 k, .int .i64 nn, .string tt, .bool y], .string x, .int .i64 ec]) ∧ New w w') ?_ fun e w' h => (hv w e w').2 h
    have HX := Lib.hid (fun W (hN : New w W) => (HNum.out W).mono fun e w' h => (hv W e w').1 h)
    clear hv HNum HTok HQuo HPac HAns
    go_enter Tryd.func10, Tryd.ntmps10
    go_upto_region 1 with fail
    obtain ⟨W, hW⟩ : ∃ W, w.alloc (.cells #[.int .u8 0, .int .i64 0, .string ⟨#[]⟩, .bool false] 23) = W := ⟨_, rfl⟩
    rw [hW] at hN hr ⊢
    obtain ⟨B, hB⟩ : ∃ B, w.heap.size = B := ⟨_, rfl⟩
    have hBw : w.heap.size ≤ B := by omega
    rw [hB] at hr ⊢
    clear hW hB
    obtain ⟨⟨c0, c1, c2, c3⟩, f0, f1, f2, f3⟩ := row_facts hr
    clear c0 c1 c2 c3 f0 f1 f2 f3
    go_upto_region 6 with (first | (go_at_call 18; refine (HD.out _).mono ?_; rintro e w' ⟨rfl, rfl⟩) | (go_at_call 20; refine (HL.out _).mono ?_; rintro e w' ⟨rfl, rfl⟩))
    go_wp2_with fail
    refine (HX.out _ hN).mono ?_
    rintro e w1 ⟨rfl, hN1⟩
    have hN := hN.trans hN1
    have hr := hN1.heap hr id
    obtain ⟨⟨c0, c1, c2, c3⟩, f0, f1, f2, f3⟩ := row_facts hr
    go_wp2_with fail
    obtain ⟨hN2, hr2⟩ := set4 hN hBw hr (.int .u8 k) (.int .i64 nn) (.string tt) (.bool y)
    obtain ⟨W2, hW2⟩ : ∃ W2, ((((w1.setCell ⟨B, 0, none⟩ (.int .u8 k)).setCell ⟨B, 1, none⟩ (.int .i64 nn)).setCell ⟨B, 2, none⟩ (.string tt)).setCell ⟨B, 3, none⟩ (.bool y)) = W2 := ⟨_, rfl⟩
    rw [hW2] at hN2 hr2 ⊢
    exact read_end (by kernel_rfl) rfl rfl rfl hr2 ⟨rfl, hN2⟩
  | false =>
    rw [Bool.false_or]
    cases x45 with
    | true =>
      rw [if_pos rfl]
      obtain ⟨k, nn, tt, y, x, ec, hv⟩ := readP_open (Bare.number (bl s))
      refine Calls.mono (R := fun e w' => e = .returned (.tuple #[.agg #[.int .u8 k, .int .i64 nn, .string tt, .bool y], .string x, .int .i64 ec]) ∧ New w w') ?_ fun e w' h => (hv w e w').2 h
      have HX := Lib.hid (fun W (hN : New w W) => (HNum.out W).mono fun e w' h => (hv W e w').1 h)
      clear hv HNum HTok HQuo HPac HAns
      go_enter Tryd.func10, Tryd.ntmps10
      go_upto_region 1 with fail
      obtain ⟨W, hW⟩ : ∃ W, w.alloc (.cells #[.int .u8 0, .int .i64 0, .string ⟨#[]⟩, .bool false] 23) = W := ⟨_, rfl⟩
      rw [hW] at hN hr ⊢
      obtain ⟨B, hB⟩ : ∃ B, w.heap.size = B := ⟨_, rfl⟩
      have hBw : w.heap.size ≤ B := by omega
      rw [hB] at hr ⊢
      clear hW hB
      obtain ⟨⟨c0, c1, c2, c3⟩, f0, f1, f2, f3⟩ := row_facts hr
      clear c0 c1 c2 c3 f0 f1 f2 f3
      go_upto_region 6 with (first | (go_at_call 18; refine (HD.out _).mono ?_; rintro e w' ⟨rfl, rfl⟩) | (go_at_call 20; refine (HL.out _).mono ?_; rintro e w' ⟨rfl, rfl⟩))
      go_wp2_with fail
      refine (HX.out _ hN).mono ?_
      rintro e w1 ⟨rfl, hN1⟩
      have hN := hN.trans hN1
      have hr := hN1.heap hr id
      obtain ⟨⟨c0, c1, c2, c3⟩, f0, f1, f2, f3⟩ := row_facts hr
      go_wp2_with fail
      obtain ⟨hN2, hr2⟩ := set4 hN hBw hr (.int .u8 k) (.int .i64 nn) (.string tt) (.bool y)
      obtain ⟨W2, hW2⟩ : ∃ W2, ((((w1.setCell ⟨B, 0, none⟩ (.int .u8 k)).setCell ⟨B, 1, none⟩ (.int .i64 nn)).setCell ⟨B, 2, none⟩ (.string tt)).setCell ⟨B, 3, none⟩ (.bool y)) = W2 := ⟨_, rfl⟩
      rw [hW2] at hN2 hr2 ⊢
      exact read_end (by kernel_rfl) rfl rfl rfl hr2 ⟨rfl, hN2⟩
    | false =>
      rw [if_neg (by decide)]
      cases L with
      | true =>
        rw [Bool.true_or, if_pos rfl]
        obtain ⟨k, nn, tt, y, x, ec, hv⟩ := readP_open (some (⟨4, 0, (bl s).takeWhile Bare.inTok, false⟩, (bl s).drop ((bl s).takeWhile Bare.inTok).length))
        refine Calls.mono (R := fun e w' => e = .returned (.tuple #[.agg #[.int .u8 k, .int .i64 nn, .string tt, .bool y], .string x, .int .i64 ec]) ∧ New w w') ?_ fun e w' h => (hv w e w').2 h
        have HX := Lib.hid (fun W (hN : New w W) => (HTok.out W).mono fun e w' h => (hv W e w').1 h)
        clear hv HNum HTok HQuo HPac HAns
        go_enter Tryd.func10, Tryd.ntmps10
        go_upto_region 1 with fail
        obtain ⟨W, hW⟩ : ∃ W, w.alloc (.cells #[.int .u8 0, .int .i64 0, .string ⟨#[]⟩, .bool false] 23) = W := ⟨_, rfl⟩
        rw [hW] at hN hr ⊢
        obtain ⟨B, hB⟩ : ∃ B, w.heap.size = B := ⟨_, rfl⟩
        have hBw : w.heap.size ≤ B := by omega
        rw [hB] at hr ⊢
        clear hW hB
        obtain ⟨⟨c0, c1, c2, c3⟩, f0, f1, f2, f3⟩ := row_facts hr
        clear c0 c1 c2 c3 f0 f1 f2 f3
        go_upto_region 9 with (first | (go_at_call 18; refine (HD.out _).mono ?_; rintro e w' ⟨rfl, rfl⟩) | (go_at_call 20; refine (HL.out _).mono ?_; rintro e w' ⟨rfl, rfl⟩))
        go_wp2_with fail
        refine (HX.out _ hN).mono ?_
        rintro e w1 ⟨rfl, hN1⟩
        have hN := hN.trans hN1
        have hr := hN1.heap hr id
        obtain ⟨⟨c0, c1, c2, c3⟩, f0, f1, f2, f3⟩ := row_facts hr
        go_wp2_with fail
        obtain ⟨hN2, hr2⟩ := set4 hN hBw hr (.int .u8 k) (.int .i64 nn) (.string tt) (.bool y)
        obtain ⟨W2, hW2⟩ : ∃ W2, ((((w1.setCell ⟨B, 0, none⟩ (.int .u8 k)).setCell ⟨B, 1, none⟩ (.int .i64 nn)).setCell ⟨B, 2, none⟩ (.string tt)).setCell ⟨B, 3, none⟩ (.bool y)) = W2 := ⟨_, rfl⟩
        rw [hW2] at hN2 hr2 ⊢
        exact read_end (by kernel_rfl) rfl rfl rfl hr2 ⟨rfl, hN2⟩
      | false =>
        rw [Bool.false_or]
        cases x42 with
        | true =>
          rw [if_pos rfl]
          obtain ⟨k, nn, tt, y, x, ec, hv⟩ := readP_open (some (⟨4, 0, (bl s).takeWhile Bare.inTok, false⟩, (bl s).drop ((bl s).takeWhile Bare.inTok).length))
          refine Calls.mono (R := fun e w' => e = .returned (.tuple #[.agg #[.int .u8 k, .int .i64 nn, .string tt, .bool y], .string x, .int .i64 ec]) ∧ New w w') ?_ fun e w' h => (hv w e w').2 h
          have HX := Lib.hid (fun W (hN : New w W) => (HTok.out W).mono fun e w' h => (hv W e w').1 h)
          clear hv HNum HTok HQuo HPac HAns
          go_enter Tryd.func10, Tryd.ntmps10
          go_upto_region 1 with fail
          obtain ⟨W, hW⟩ : ∃ W, w.alloc (.cells #[.int .u8 0, .int .i64 0, .string ⟨#[]⟩, .bool false] 23) = W := ⟨_, rfl⟩
          rw [hW] at hN hr ⊢
          obtain ⟨B, hB⟩ : ∃ B, w.heap.size = B := ⟨_, rfl⟩
          have hBw : w.heap.size ≤ B := by omega
          rw [hB] at hr ⊢
          clear hW hB
          obtain ⟨⟨c0, c1, c2, c3⟩, f0, f1, f2, f3⟩ := row_facts hr
          clear c0 c1 c2 c3 f0 f1 f2 f3
          go_upto_region 9 with (first | (go_at_call 18; refine (HD.out _).mono ?_; rintro e w' ⟨rfl, rfl⟩) | (go_at_call 20; refine (HL.out _).mono ?_; rintro e w' ⟨rfl, rfl⟩))
          go_wp2_with fail
          refine (HX.out _ hN).mono ?_
          rintro e w1 ⟨rfl, hN1⟩
          have hN := hN.trans hN1
          have hr := hN1.heap hr id
          obtain ⟨⟨c0, c1, c2, c3⟩, f0, f1, f2, f3⟩ := row_facts hr
          go_wp2_with fail
          obtain ⟨hN2, hr2⟩ := set4 hN hBw hr (.int .u8 k) (.int .i64 nn) (.string tt) (.bool y)
          obtain ⟨W2, hW2⟩ : ∃ W2, ((((w1.setCell ⟨B, 0, none⟩ (.int .u8 k)).setCell ⟨B, 1, none⟩ (.int .i64 nn)).setCell ⟨B, 2, none⟩ (.string tt)).setCell ⟨B, 3, none⟩ (.bool y)) = W2 := ⟨_, rfl⟩
          rw [hW2] at hN2 hr2 ⊢
          exact read_end (by kernel_rfl) rfl rfl rfl hr2 ⟨rfl, hN2⟩
        | false =>
          rw [if_neg (by decide)]
          by_cases h34 : gb s 0 = 34
          · rw [if_pos h34]
            rw [decide_eq_true h34] at t34
            clear h34 t58 t63
            obtain ⟨k, nn, tt, y, x, ec, hv⟩ := readP_open (Bare.quoted [] ((bl s).drop 1))
            refine Calls.mono (R := fun e w' => e = .returned (.tuple #[.agg #[.int .u8 k, .int .i64 nn, .string tt, .bool y], .string x, .int .i64 ec]) ∧ New w w') ?_ fun e w' h => (hv w e w').2 h
            have HX := Lib.hid (fun W (hN : New w W) => (HQuo.out W).mono fun e w' h => (hv W e w').1 h)
            clear hv HNum HTok HQuo HPac HAns
            go_enter Tryd.func10, Tryd.ntmps10
            go_upto_region 1 with fail
            obtain ⟨W, hW⟩ : ∃ W, w.alloc (.cells #[.int .u8 0, .int .i64 0, .string ⟨#[]⟩, .bool false] 23) = W := ⟨_, rfl⟩
            rw [hW] at hN hr ⊢
            obtain ⟨B, hB⟩ : ∃ B, w.heap.size = B := ⟨_, rfl⟩
            have hBw : w.heap.size ≤ B := by omega
            rw [hB] at hr ⊢
            clear hW hB
            obtain ⟨⟨c0, c1, c2, c3⟩, f0, f1, f2, f3⟩ := row_facts hr
            clear c0 c1 c2 c3 f0 f1 f2 f3
            go_upto_region 11 with (first | (go_at_call 18; refine (HD.out _).mono ?_; rintro e w' ⟨rfl, rfl⟩) | (go_at_call 20; refine (HL.out _).mono ?_; rintro e w' ⟨rfl, rfl⟩))
            go_wp2_with fail
            refine (HX.out _ hN).mono ?_
            rintro e w1 ⟨rfl, hN1⟩
            have hN := hN.trans hN1
            have hr := hN1.heap hr id
            obtain ⟨⟨c0, c1, c2, c3⟩, f0, f1, f2, f3⟩ := row_facts hr
            go_wp2_with fail
            obtain ⟨hN2, hr2⟩ := set4 hN hBw hr (.int .u8 k) (.int .i64 nn) (.string tt) (.bool y)
            obtain ⟨W2, hW2⟩ : ∃ W2, ((((w1.setCell ⟨B, 0, none⟩ (.int .u8 k)).setCell ⟨B, 1, none⟩ (.int .i64 nn)).setCell ⟨B, 2, none⟩ (.string tt)).setCell ⟨B, 3, none⟩ (.bool y)) = W2 := ⟨_, rfl⟩
            rw [hW2] at hN2 hr2 ⊢
            exact read_end (by kernel_rfl) rfl rfl rfl hr2 ⟨rfl, hN2⟩
          rw [if_neg h34]
          rw [decide_eq_false h34] at t34
          by_cases h58 : gb s 0 = 58
          · rw [if_pos h58]
            rw [decide_eq_true h58] at t58
            clear h58 t63 h34
            obtain ⟨k, nn, tt, y, x, ec, hv⟩ := readP_open (Bare.packed ((bl s).drop 1))
            refine Calls.mono (R := fun e w' => e = .returned (.tuple #[.agg #[.int .u8 k, .int .i64 nn, .string tt, .bool y], .string x, .int .i64 ec]) ∧ New w w') ?_ fun e w' h => (hv w e w').2 h
            have HX := Lib.hid (fun W (hN : New w W) => (HPac.out W hN).mono fun e w' h => (hv W e w').1 h)
            clear hv HNum HTok HQuo HPac HAns
            go_enter Tryd.func10, Tryd.ntmps10
            go_upto_region 1 with fail
            obtain ⟨W, hW⟩ : ∃ W, w.alloc (.cells #[.int .u8 0, .int .i64 0, .string ⟨#[]⟩, .bool false] 23) = W := ⟨_, rfl⟩
            rw [hW] at hN hr ⊢
            obtain ⟨B, hB⟩ : ∃ B, w.heap.size = B := ⟨_, rfl⟩
            have hBw : w.heap.size ≤ B := by omega
            rw [hB] at hr ⊢
            clear hW hB
            obtain ⟨⟨c0, c1, c2, c3⟩, f0, f1, f2, f3⟩ := row_facts hr
            clear c0 c1 c2 c3 f0 f1 f2 f3
            go_upto_region 13 with (first | (go_at_call 18; refine (HD.out _).mono ?_; rintro e w' ⟨rfl, rfl⟩) | (go_at_call 20; refine (HL.out _).mono ?_; rintro e w' ⟨rfl, rfl⟩))
            go_wp2_with fail
            refine (HX.out _ hN).mono ?_
            rintro e w1 ⟨rfl, hN1⟩
            have hN := hN.trans hN1
            have hr := hN1.heap hr id
            obtain ⟨⟨c0, c1, c2, c3⟩, f0, f1, f2, f3⟩ := row_facts hr
            go_wp2_with fail
            obtain ⟨hN2, hr2⟩ := set4 hN hBw hr (.int .u8 k) (.int .i64 nn) (.string tt) (.bool y)
            obtain ⟨W2, hW2⟩ : ∃ W2, ((((w1.setCell ⟨B, 0, none⟩ (.int .u8 k)).setCell ⟨B, 1, none⟩ (.int .i64 nn)).setCell ⟨B, 2, none⟩ (.string tt)).setCell ⟨B, 3, none⟩ (.bool y)) = W2 := ⟨_, rfl⟩
            rw [hW2] at hN2 hr2 ⊢
            exact read_end (by kernel_rfl) rfl rfl rfl hr2 ⟨rfl, hN2⟩
          rw [if_neg h58]
          rw [decide_eq_false h58] at t58
          by_cases h63 : gb s 0 = 63
          · rw [if_pos h63]
            rw [decide_eq_true h63] at t63
            clear h63 h34 h58
            obtain ⟨k, nn, tt, y, x, ec, hv⟩ := readP_open (ansR (bl s))
            refine Calls.mono (R := fun e w' => e = .returned (.tuple #[.agg #[.int .u8 k, .int .i64 nn, .string tt, .bool y], .string x, .int .i64 ec]) ∧ New w w') ?_ fun e w' h => (hv w e w').2 h
            have HX := Lib.hid (fun W (hN : New w W) => (HAns.out W).mono fun e w' h => (hv W e w').1 h)
            clear hv HNum HTok HQuo HPac HAns
            go_enter Tryd.func10, Tryd.ntmps10
            go_upto_region 1 with fail
            obtain ⟨W, hW⟩ : ∃ W, w.alloc (.cells #[.int .u8 0, .int .i64 0, .string ⟨#[]⟩, .bool false] 23) = W := ⟨_, rfl⟩
            rw [hW] at hN hr ⊢
            obtain ⟨B, hB⟩ : ∃ B, w.heap.size = B := ⟨_, rfl⟩
            have hBw : w.heap.size ≤ B := by omega
            rw [hB] at hr ⊢
            clear hW hB
            obtain ⟨⟨c0, c1, c2, c3⟩, f0, f1, f2, f3⟩ := row_facts hr
            clear c0 c1 c2 c3 f0 f1 f2 f3
            go_upto_region 15 with (first | (go_at_call 18; refine (HD.out _).mono ?_; rintro e w' ⟨rfl, rfl⟩) | (go_at_call 20; refine (HL.out _).mono ?_; rintro e w' ⟨rfl, rfl⟩))
            go_wp2_with fail
            refine (HX.out _ hN).mono ?_
            rintro e w1 ⟨rfl, hN1⟩
            have hN := hN.trans hN1
            have hr := hN1.heap hr id
            obtain ⟨⟨c0, c1, c2, c3⟩, f0, f1, f2, f3⟩ := row_facts hr
            go_wp2_with fail
            obtain ⟨hN2, hr2⟩ := set4 hN hBw hr (.int .u8 k) (.int .i64 nn) (.string tt) (.bool y)
            obtain ⟨W2, hW2⟩ : ∃ W2, ((((w1.setCell ⟨B, 0, none⟩ (.int .u8 k)).setCell ⟨B, 1, none⟩ (.int .i64 nn)).setCell ⟨B, 2, none⟩ (.string tt)).setCell ⟨B, 3, none⟩ (.bool y)) = W2 := ⟨_, rfl⟩
            rw [hW2] at hN2 hr2 ⊢
            exact read_end (by kernel_rfl) rfl rfl rfl hr2 ⟨rfl, hN2⟩
          rw [if_neg h63]
          rw [decide_eq_false h63] at t63
          unfold ReadP bv bcs noIt
          simp only
          clear h63 h34 h58 HNum HTok HQuo HPac HAns
          go_enter Tryd.func10, Tryd.ntmps10
          go_upto_region 1 with fail
          obtain ⟨W, hW⟩ : ∃ W, w.alloc (.cells #[.int .u8 0, .int .i64 0, .string ⟨#[]⟩, .bool false] 23) = W := ⟨_, rfl⟩
          rw [hW] at hN hr ⊢
          obtain ⟨B, hB⟩ : ∃ B, w.heap.size = B := ⟨_, rfl⟩
          have hBw : w.heap.size ≤ B := by omega
          rw [hB] at hr ⊢
          clear hW hB
          obtain ⟨⟨c0, c1, c2, c3⟩, f0, f1, f2, f3⟩ := row_facts hr
          go_wp2_with (first | (go_at_call 18; refine (HD.out _).mono ?_; rintro e w' ⟨rfl, rfl⟩) | (go_at_call 20; refine (HL.out _).mono ?_; rintro e w' ⟨rfl, rfl⟩))
          obtain ⟨hN2, hr2⟩ := set4 hN hBw hr (.int .u8 0) (.int .i64 0) (.string ⟨#[]⟩) (.bool false)
          obtain ⟨W2, hW2⟩ : ∃ W2, ((((W.setCell ⟨B, 0, none⟩ (.int .u8 0)).setCell ⟨B, 1, none⟩ (.int .i64 0)).setCell ⟨B, 2, none⟩ (.string ⟨#[]⟩)).setCell ⟨B, 3, none⟩ (.bool false)) = W2 := ⟨_, rfl⟩
          rw [hW2] at hN2 hr2 ⊢
          exact read_end (by kernel_rfl) rfl rfl rfl hr2 ⟨rfl, hN2⟩
end Go.Proofs.YtihmnkbkigkjjaaDoor
