/- An item is read (the program). -/
import Derived.Test.YtkiiameibdhdfaaGreatDoorD09
import Derived.Test.YtkiiameibdhdfaaGreatDoorD10
import Derived.Test.YtkiiameibdhdfaaGreatDoorD05
import Derived.Test.YtkiiameibdhdfaaGreatDoorD08
import Derived.Test.YtkiiameibdhdfaaGreatDoorD07
import Derived.BigRegion
set_option linter.unusedSimpArgs false
set_option linter.unusedVariables false
namespace Go.Proofs.YtkiiameibdhdfaaGreatDoor
open Go.RowKit Go.Shelf Go.Cs
attribute [local go_sem] Oper.semAt_some
set_option linter.unusedVariables false
set_option linter.unusedSimpArgs false
theorem readP_open (r : Option (Bare.It × Bare.Bs)) : ∃ (k n : Int) (t : ByteArray) (y : Bool) (x : ByteArray) (ec : Int), ∀ w e w', ReadP r w e w' ↔ (e = .returned (.tuple #[.agg #[.int .u8 k, .int .i64 n, .string t, .bool y], .string x, .int .i64 ec]) ∧ New w w') := by
  cases r with
  | none => exact ⟨0, 0, ⟨#[]⟩, false, ⟨#[]⟩, 120, fun w e w' => Iff.rfl⟩
  | some p => exact ⟨p.1.kind, p.1.int, tx p.1.text, p.1.yes, tx p.2, 0, fun w e w' => Iff.rfl⟩
theorem parseI_at (s : ByteArray) (h : 0 < s.size) : Bare.parseI (bl s) = (if Bare.digB (gb s 0) || decide (gb s 0 = 45) then Bare.number (bl s)
    else if Bare.letB (gb s 0) || decide (gb s 0 = 42) then some (⟨4, 0, (bl s).takeWhile Bare.inTok, false⟩, (bl s).drop ((bl s).takeWhile Bare.inTok).length)
    else if gb s 0 = 34 then Bare.quoted [] ((bl s).drop 1)
    else if gb s 0 = 58 then Bare.packed ((bl s).drop 1)
    else if gb s 0 = 63 then ansR (bl s)
    else none) := by
  have hdr : bl s = gb s 0 :: (bl s).drop 1 := by
    have := gb_get s 0 h
    obtain ⟨h1, h2⟩ := List.getElem?_eq_some_iff.1 this
    conv => lhs; rw [← List.drop_zero (l := bl s), List.drop_eq_getElem_cons h1, h2]
  have e45 : (gb s 0 == 45) = decide (gb s 0 = 45) := by rw [Bool.eq_iff_iff, beq_iff_eq, decide_eq_true_eq]
  have e42 : (gb s 0 == 42) = decide (gb s 0 = 42) := by rw [Bool.eq_iff_iff, beq_iff_eq, decide_eq_true_eq]
  obtain ⟨c, hc⟩ : ∃ c, gb s 0 = c := ⟨_, rfl⟩
  obtain ⟨r, hr⟩ : ∃ r, (bl s).drop 1 = r := ⟨_, rfl⟩
  rw [hc, hr] at hdr
  rw [hc] at e45 e42
  rw [hc, hr, hdr, Bare.parseI_cons]
  unfold Bare.headTok
  rw [e45, e42]
  congr 1
  congr 1
  congr 1
  congr 1
  congr 1
  unfold ansR
  cases r <;> rfl
set_option maxHeartbeats 4000000 in
set_option maxRecDepth 100000 in
theorem parse_read (s : ByteArray) (w : World) (hs : s.size ≤ 1000000) (hT : Tab w) :
    Calls Tryz.prog 199 #[.string s] w (ReadP (Bare.parseI (bl s)) w) := by
  obtain ⟨hN, hr⟩ := no_row w
  have hem := empty_toList s
  by_cases h0 : s.size = 0
  · have e : Bare.parseI (bl s) = none := by
      have : bl s = [] := List.length_eq_zero_iff.1 (by rw [bl_len]; exact h0)
      rw [this]; rfl
    rw [e]
    rw [decide_eq_true h0] at hem
    unfold ReadP bv bcs noIt
    simp only
    clear h0 e
    go_enter Tryz.func199, Tryz.ntmps199
    go_upto_region 1 with fail
    obtain ⟨W, hW⟩ : ∃ W, w.alloc (.cells #[.int .u8 0, .int .i64 0, .string ⟨#[]⟩, .bool false] 66) = W := ⟨_, rfl⟩
    rw [hW] at hN hr ⊢
    obtain ⟨B, hB⟩ : ∃ B, w.heap.size = B := ⟨_, rfl⟩
    have hBw : w.heap.size ≤ B := by omega
    rw [hB] at hr ⊢
    clear hW hB
    obtain ⟨⟨c0, c1, c2, c3⟩, f0, f1, f2, f3⟩ := row_facts hr
    go_wp2_with fail
    obtain ⟨hN2, hr2⟩ := set4 hN hBw hr (.int .u8 0) (.int .i64 0) (.string ⟨#[]⟩) (.bool false)
    obtain ⟨W2, hW2⟩ : ∃ W2, ((((W.setCell ⟨B, 0, none⟩ (.int .u8 0)).setCell ⟨B, 1, none⟩ (.int .i64 0)).setCell ⟨B, 2, none⟩ (.string ⟨#[]⟩)).setCell ⟨B, 3, none⟩ (.bool false)) = W2 := ⟨_, rfl⟩
    rw [hW2] at hN2 hr2 ⊢
    exact read_end (by kernel_rfl) rfl rfl rfl hr2 ⟨rfl, hN2⟩
  rw [decide_eq_false h0] at hem
  rw [parseI_at s (by omega)]
  have hix0 : ∀ W, (Instr.index 9 (.string s) (.int .i64 0)).run Tryz.prog W = .ok (.int .u8 ((gb s 0).toNat : Nat)) W := run_idx s 0 (by omega)
  have HD := Lib.hid (fun W => (digit_p (gb s 0) W).mono fun e w' h => show e = _ ∧ W = w' from ⟨h.1, h.2.symm⟩)
  have HL := Lib.hid (fun W => (letter_p (gb s 0) W).mono fun e w' h => show e = _ ∧ W = w' from ⟨h.1, h.2.symm⟩)
  have HNum := Lib.hid (fun W => number_read s W hs (by omega))
  have HTok := Lib.hid (fun W => token_read s W hs)
  have HQuo := Lib.hid (fun W => quoted_read s W hs (by omega))
  have HPac := Lib.hid (fun W (hN : New w W) => packed_read s W hs (by omega) (hT.new hN))
  have HAns := Lib.hid (fun W => answer_read s W hs)
  obtain ⟨n, hn⟩ : ∃ n, (gb s 0).toNat = n := ⟨_, rfl⟩
  have t45 := (byte_test (gb s 0) 45 (by decide) n hn).1
  rw [show UInt8.ofNat 45 = 45 from rfl] at t45
  have t45 : ((n : Int) == 45) = decide (gb s 0 = 45) := t45
  have t42 := (byte_test (gb s 0) 42 (by decide) n hn).1
  rw [show UInt8.ofNat 42 = 42 from rfl] at t42
  have t42 : ((n : Int) == 42) = decide (gb s 0 = 42) := t42
  have t34 := (byte_test (gb s 0) 34 (by decide) n hn).1
  rw [show UInt8.ofNat 34 = 34 from rfl] at t34
  have t34 : ((n : Int) == 34) = decide (gb s 0 = 34) := t34
  have t58 := (byte_test (gb s 0) 58 (by decide) n hn).1
  rw [show UInt8.ofNat 58 = 58 from rfl] at t58
  have t58 : ((n : Int) == 58) = decide (gb s 0 = 58) := t58
  have t63 := (byte_test (gb s 0) 63 (by decide) n hn).1
  rw [show UInt8.ofNat 63 = 63 from rfl] at t63
  have t63 : ((n : Int) == 63) = decide (gb s 0 = 63) := t63
  rw [hn] at hix0 HD HL
  clear hn h0
  obtain ⟨D, hD⟩ : ∃ x, Bare.digB (gb s 0) = x := ⟨_, rfl⟩
  obtain ⟨L, hL⟩ : ∃ x, Bare.letB (gb s 0) = x := ⟨_, rfl⟩
  rw [hD] at HD ⊢
  rw [hL] at HL ⊢
  clear hD hL
  obtain ⟨x45, hx45⟩ : ∃ x, decide (gb s 0 = 45) = x := ⟨_, rfl⟩
  rw [hx45] at t45 ⊢
  clear hx45
  obtain ⟨x42, hx42⟩ : ∃ x, decide (gb s 0 = 42) = x := ⟨_, rfl⟩
  rw [hx42] at t42 ⊢
  clear hx42
  cases D with
  | true =>
    rw [Bool.true_or, if_pos rfl]
    obtain ⟨k, nn, tt, y, x, ec, hv⟩ := readP_open (Bare.number (bl s))
    refine Calls.mono (R := fun e w' => e = .returned (.tuple #[.agg #[.int .u8 k, .int .i64 nn, .string tt, .bool y], .string x, .int .i64 ec]) ∧ New w w') ?_ fun e w' h => (hv w e w').2 h
    have HX := Lib.hid (fun W (hN : New w W) => (HNum.out W).mono fun e w' h => (hv W e w').1 h)
    clear hv HNum HTok HQuo HPac HAns
    go_enter Tryz.func199, Tryz.ntmps199
    go_upto_region 1 with fail
    obtain ⟨W, hW⟩ : ∃ W, w.alloc (.cells #[.int .u8 0, .int .i64 0, .string ⟨#[]⟩, .bool false] 66) = W := ⟨_, rfl⟩
    rw [hW] at hN hr ⊢
    obtain ⟨B, hB⟩ : ∃ B, w.heap.size = B := ⟨_, rfl⟩
    have hBw : w.heap.size ≤ B := by omega
    rw [hB] at hr ⊢
    clear hW hB
    obtain ⟨⟨c0, c1, c2, c3⟩, f0, f1, f2, f3⟩ := row_facts hr
    clear c0 c1 c2 c3 f0 f1 f2 f3
    go_upto_region 6 with (first | (go_at_call 176; refine (HD.out _).mono ?_; rintro e w' ⟨rfl, rfl⟩) | (go_at_call 175; refine (HL.out _).mono ?_; rintro e w' ⟨rfl, rfl⟩))
    go_wp2_with fail
    refine (HX.out _ hN).mono ?_
    rintro e w1 ⟨rfl, hN1⟩
    have hN := hN.trans hN1
    have hr := hN1.heap hr id
    obtain ⟨⟨c0, c1, c2, c3⟩, f0, f1, f2, f3⟩ := row_facts hr
    go_wp2_with fail
    obtain ⟨hN2, hr2⟩ := set4 hN hBw hr (.int .u8 k) (.int .i64 nn) (.string tt) (.bool y)
    obtain ⟨W2, hW2⟩ : ∃ W2, ((((w1.setCell ⟨B, 0, none⟩ (.int .u8 k)).setCell ⟨B, 1, none⟩ (.int .i64 nn)).setCell ⟨B, 2, none⟩ (.string tt)).setCell ⟨B, 3, none⟩ (.bool y)) = W2 := ⟨_, rfl⟩
    rw [hW2] at hN2 hr2 ⊢
    exact read_end (by kernel_rfl) rfl rfl rfl hr2 ⟨rfl, hN2⟩
  | false =>
    rw [Bool.false_or]
    cases x45 with
    | true =>
      rw [if_pos rfl]
      obtain ⟨k, nn, tt, y, x, ec, hv⟩ := readP_open (Bare.number (bl s))
      refine Calls.mono (R := fun e w' => e = .returned (.tuple #[.agg #[.int .u8 k, .int .i64 nn, .string tt, .bool y], .string x, .int .i64 ec]) ∧ New w w') ?_ fun e w' h => (hv w e w').2 h
      have HX := Lib.hid (fun W (hN : New w W) => (HNum.out W).mono fun e w' h => (hv W e w').1 h)
      clear hv HNum HTok HQuo HPac HAns
      go_enter Tryz.func199, Tryz.ntmps199
      go_upto_region 1 with fail
      obtain ⟨W, hW⟩ : ∃ W, w.alloc (.cells #[.int .u8 0, .int .i64 0, .string ⟨#[]⟩, .bool false] 66) = W := ⟨_, rfl⟩
      rw [hW] at hN hr ⊢
      obtain ⟨B, hB⟩ : ∃ B, w.heap.size = B := ⟨_, rfl⟩
      have hBw : w.heap.size ≤ B := by omega
      rw [hB] at hr ⊢
      clear hW hB
      obtain ⟨⟨c0, c1, c2, c3⟩, f0, f1, f2, f3⟩ := row_facts hr
      clear c0 c1 c2 c3 f0 f1 f2 f3
      go_upto_region 6 with (first | (go_at_call 176; refine (HD.out _).mono ?_; rintro e w' ⟨rfl, rfl⟩) | (go_at_call 175; refine (HL.out _).mono ?_; rintro e w' ⟨rfl, rfl⟩))
      go_wp2_with fail
      refine (HX.out _ hN).mono ?_
      rintro e w1 ⟨rfl, hN1⟩
      have hN := hN.trans hN1
      have hr := hN1.heap hr id
      obtain ⟨⟨c0, c1, c2, c3⟩, f0, f1, f2, f3⟩ := row_facts hr
      go_wp2_with fail
      obtain ⟨hN2, hr2⟩ := set4 hN hBw hr (.int .u8 k) (.int .i64 nn) (.string tt) (.bool y)
      obtain ⟨W2, hW2⟩ : ∃ W2, ((((w1.setCell ⟨B, 0, none⟩ (.int .u8 k)).setCell ⟨B, 1, none⟩ (.int .i64 nn)).setCell ⟨B, 2, none⟩ (.string tt)).setCell ⟨B, 3, none⟩ (.bool y)) = W2 := ⟨_, rfl⟩
      rw [hW2] at hN2 hr2 ⊢
      exact read_end (by kernel_rfl) rfl rfl rfl hr2 ⟨rfl, hN2⟩
    | false =>
      rw [if_neg (by decide)]
      cases L with
      | true =>
        rw [Bool.true_or, if_pos rfl]
        obtain ⟨k, nn, tt, y, x, ec, hv⟩ := readP_open (some (⟨4, 0, (bl s).takeWhile Bare.inTok, false⟩, (bl s).drop ((bl s).takeWhile Bare.inTok).length))
        refine Calls.mono (R := fun e w' => e = .returned (.tuple #[.agg #[.int .u8 k, .int .i64 nn, .string tt, .bool y], .string x, .int .i64 ec]) ∧ New w w') ?_ fun e w' h => (hv w e w').2 h
        have HX := Lib.hid (fun W (hN : New w W) => (HTok.out W).mono fun e w' h => (hv W e w').1 h)
        clear hv HNum HTok HQuo HPac HAns
        go_enter Tryz.func199, Tryz.ntmps199
        go_upto_region 1 with fail
        obtain ⟨W, hW⟩ : ∃ W, w.alloc (.cells #[.int .u8 0, .int .i64 0, .string ⟨#[]⟩, .bool false] 66) = W := ⟨_, rfl⟩
        rw [hW] at hN hr ⊢
        obtain ⟨B, hB⟩ : ∃ B, w.heap.size = B := ⟨_, rfl⟩
        have hBw : w.heap.size ≤ B := by omega
        rw [hB] at hr ⊢
        clear hW hB
        obtain ⟨⟨c0, c1, c2, c3⟩, f0, f1, f2, f3⟩ := row_facts hr
        clear c0 c1 c2 c3 f0 f1 f2 f3
        go_upto_region 9 with (first | (go_at_call 176; refine (HD.out _).mono ?_; rintro e w' ⟨rfl, rfl⟩) | (go_at_call 175; refine (HL.out _).mono ?_; rintro e w' ⟨rfl, rfl⟩))
        go_wp2_with fail
        refine (HX.out _ hN).mono ?_
        rintro e w1 ⟨rfl, hN1⟩
        have hN := hN.trans hN1
        have hr := hN1.heap hr id
        obtain ⟨⟨c0, c1, c2, c3⟩, f0, f1, f2, f3⟩ := row_facts hr
        go_wp2_with fail
        obtain ⟨hN2, hr2⟩ := set4 hN hBw hr (.int .u8 k) (.int .i64 nn) (.string tt) (.bool y)
        obtain ⟨W2, hW2⟩ : ∃ W2, ((((w1.setCell ⟨B, 0, none⟩ (.int .u8 k)).setCell ⟨B, 1, none⟩ (.int .i64 nn)).setCell ⟨B, 2, none⟩ (.string tt)).setCell ⟨B, 3, none⟩ (.bool y)) = W2 := ⟨_, rfl⟩
        rw [hW2] at hN2 hr2 ⊢
        exact read_end (by kernel_rfl) rfl rfl rfl hr2 ⟨rfl, hN2⟩
      | false =>
        rw [Bool.false_or]
        cases x42 with
        | true =>
          rw [if_pos rfl]
          obtain ⟨k, nn, tt, y, x, ec, hv⟩ := readP_open (some (⟨4, 0, (bl s).takeWhile Bare.inTok, false⟩, (bl s).drop ((bl s).takeWhile Bare.inTok).length))
          refine Calls.mono (R := fun e w' => e = .returned (.tuple #[.agg #[.int .u8 k, .int .i64 nn, .string tt, .bool y], .string x, .int .i64 ec]) ∧ New w w') ?_ fun e w' h => (hv w e w').2 h
          have HX := Lib.hid (fun W (hN : New w W) => (HTok.out W).mono fun e w' h => (hv W e w').1 h)
          clear hv HNum HTok HQuo HPac HAns
          go_enter Tryz.func199, Tryz.ntmps199
          go_upto_region 1 with fail
          obtain ⟨W, hW⟩ : ∃ W, w.alloc (.cells #[.int .u8 0, .int .i64 0, .string ⟨#[]⟩, .bool false] 66) = W := ⟨_, rfl⟩
          rw [hW] at hN hr ⊢
          obtain ⟨B, hB⟩ : ∃ B, w.heap.size = B := ⟨_, rfl⟩
          have hBw : w.heap.size ≤ B := by omega
          rw [hB] at hr ⊢
          clear hW hB
          obtain ⟨⟨c0, c1, c2, c3⟩, f0, f1, f2, f3⟩ := row_facts hr
          clear c0 c1 c2 c3 f0 f1 f2 f3
          go_upto_region 9 with (first | (go_at_call 176; refine (HD.out _).mono ?_; rintro e w' ⟨rfl, rfl⟩) | (go_at_call 175; refine (HL.out _).mono ?_; rintro e w' ⟨rfl, rfl⟩))
          go_wp2_with fail
          refine (HX.out _ hN).mono ?_
          rintro e w1 ⟨rfl, hN1⟩
          have hN := hN.trans hN1
          have hr := hN1.heap hr id
          obtain ⟨⟨c0, c1, c2, c3⟩, f0, f1, f2, f3⟩ := row_facts hr
          go_wp2_with fail
          obtain ⟨hN2, hr2⟩ := set4 hN hBw hr (.int .u8 k) (.int .i64 nn) (.string tt) (.bool y)
          obtain ⟨W2, hW2⟩ : ∃ W2, ((((w1.setCell ⟨B, 0, none⟩ (.int .u8 k)).setCell ⟨B, 1, none⟩ (.int .i64 nn)).setCell ⟨B, 2, none⟩ (.string tt)).setCell ⟨B, 3, none⟩ (.bool y)) = W2 := ⟨_, rfl⟩
          rw [hW2] at hN2 hr2 ⊢
          exact read_end (by kernel_rfl) rfl rfl rfl hr2 ⟨rfl, hN2⟩
        | false =>
          rw [if_neg (by decide)]
          by_cases h34 : gb s 0 = 34
          · rw [if_pos h34]
            rw [decide_eq_true h34] at t34
            clear h34 t58 t63
            obtain ⟨k, nn, tt, y, x, ec, hv⟩ := readP_open (Bare.quoted [] ((bl s).drop 1))
            refine Calls.mono (R := fun e w' => e = .returned (.tuple #[.agg #[.int .u8 k, .int .i64 nn, .string tt, .bool y], .string x, .int .i64 ec]) ∧ New w w') ?_ fun e w' h => (hv w e w').2 h
            have HX := Lib.hid (fun W (hN : New w W) => (HQuo.out W).mono fun e w' h => (hv W e w').1 h)
            clear hv HNum HTok HQuo HPac HAns
            go_enter Tryz.func199, Tryz.ntmps199
            go_upto_region 1 with fail
            obtain ⟨W, hW⟩ : ∃ W, w.alloc (.cells #[.int .u8 0, .int .i64 0, .string ⟨#[]⟩, .bool false] 66) = W := ⟨_, rfl⟩
            rw [hW] at hN hr ⊢
            obtain ⟨B, hB⟩ : ∃ B, w.heap.size = B := ⟨_, rfl⟩
            have hBw : w.heap.size ≤ B := by omega
            rw [hB] at hr ⊢
            clear hW hB
            obtain ⟨⟨c0, c1, c2, c3⟩, f0, f1, f2, f3⟩ := row_facts hr
            clear c0 c1 c2 c3 f0 f1 f2 f3
            go_upto_region 11 with (first | (go_at_call 176; refine (HD.out _).mono ?_; rintro e w' ⟨rfl, rfl⟩) | (go_at_call 175; refine (HL.out _).mono ?_; rintro e w' ⟨rfl, rfl⟩))
            go_wp2_with fail
            refine (HX.out _ hN).mono ?_
            rintro e w1 ⟨rfl, hN1⟩
            have hN := hN.trans hN1
            have hr := hN1.heap hr id
            obtain ⟨⟨c0, c1, c2, c3⟩, f0, f1, f2, f3⟩ := row_facts hr
            go_wp2_with fail
            obtain ⟨hN2, hr2⟩ := set4 hN hBw hr (.int .u8 k) (.int .i64 nn) (.string tt) (.bool y)
            obtain ⟨W2, hW2⟩ : ∃ W2, ((((w1.setCell ⟨B, 0, none⟩ (.int .u8 k)).setCell ⟨B, 1, none⟩ (.int .i64 nn)).setCell ⟨B, 2, none⟩ (.string tt)).setCell ⟨B, 3, none⟩ (.bool y)) = W2 := ⟨_, rfl⟩
            rw [hW2] at hN2 hr2 ⊢
            exact read_end (by kernel_rfl) rfl rfl rfl hr2 ⟨rfl, hN2⟩
          rw [if_neg h34]
          rw [decide_eq_false h34] at t34
          by_cases h58 : gb s 0 = 58
          · rw [if_pos h58]
            rw [decide_eq_true h58] at t58
            clear h58 t63 h34
            obtain ⟨k, nn, tt, y, x, ec, hv⟩ := readP_open (Bare.packed ((bl s).drop 1))
            refine Calls.mono (R := fun e w' => e = .returned (.tuple #[.agg #[.int .u8 k, .int .i64 nn, .string tt, .bool y], .string x, .int .i64 ec]) ∧ New w w') ?_ fun e w' h => (hv w e w').2 h
            have HX := Lib.hid (fun W (hN : New w W) => (HPac.out W hN).mono fun e w' h => (hv W e w').1 h)
            clear hv HNum HTok HQuo HPac HAns
            go_enter Tryz.func199, Tryz.ntmps199
            go_upto_region 1 with fail
            obtain ⟨W, hW⟩ : ∃ W, w.alloc (.cells #[.int .u8 0, .int .i64 0, .string ⟨#[]⟩, .bool false] 66) = W := ⟨_, rfl⟩
            rw [hW] at hN hr ⊢
            obtain ⟨B, hB⟩ : ∃ B, w.heap.size = B := ⟨_, rfl⟩
            have hBw : w.heap.size ≤ B := by omega
            rw [hB] at hr ⊢
            clear hW hB
            obtain ⟨⟨c0, c1, c2, c3⟩, f0, f1, f2, f3⟩ := row_facts hr
            clear c0 c1 c2 c3 f0 f1 f2 f3
            go_upto_region 13 with (first | (go_at_call 176; refine (HD.out _).mono ?_; rintro e w' ⟨rfl, rfl⟩) | (go_at_call 175; refine (HL.out _).mono ?_; rintro e w' ⟨rfl, rfl⟩))
            go_wp2_with fail
            refine (HX.out _ hN).mono ?_
            rintro e w1 ⟨rfl, hN1⟩
            have hN := hN.trans hN1
            have hr := hN1.heap hr id
            obtain ⟨⟨c0, c1, c2, c3⟩, f0, f1, f2, f3⟩ := row_facts hr
            go_wp2_with fail
            obtain ⟨hN2, hr2⟩ := set4 hN hBw hr (.int .u8 k) (.int .i64 nn) (.string tt) (.bool y)
            obtain ⟨W2, hW2⟩ : ∃ W2, ((((w1.setCell ⟨B, 0, none⟩ (.int .u8 k)).setCell ⟨B, 1, none⟩ (.int .i64 nn)).setCell ⟨B, 2, none⟩ (.string tt)).setCell ⟨B, 3, none⟩ (.bool y)) = W2 := ⟨_, rfl⟩
            rw [hW2] at hN2 hr2 ⊢
            exact read_end (by kernel_rfl) rfl rfl rfl hr2 ⟨rfl, hN2⟩
          rw [if_neg h58]
          rw [decide_eq_false h58] at t58
          by_cases h63 : gb s 0 = 63
          · rw [if_pos h63]
            rw [decide_eq_true h63] at t63
            clear h63 h34 h58
            obtain ⟨k, nn, tt, y, x, ec, hv⟩ := readP_open (ansR (bl s))
            refine Calls.mono (R := fun e w' => e = .returned (.tuple #[.agg #[.int .u8 k, .int .i64 nn, .string tt, .bool y], .string x, .int .i64 ec]) ∧ New w w') ?_ fun e w' h => (hv w e w').2 h
            have HX := Lib.hid (fun W (hN : New w W) => (HAns.out W).mono fun e w' h => (hv W e w').1 h)
            clear hv HNum HTok HQuo HPac HAns
            go_enter Tryz.func199, Tryz.ntmps199
            go_upto_region 1 with fail
            obtain ⟨W, hW⟩ : ∃ W, w.alloc (.cells #[.int .u8 0, .int .i64 0, .string ⟨#[]⟩, .bool false] 66) = W := ⟨_, rfl⟩
            rw [hW] at hN hr ⊢
            obtain ⟨B, hB⟩ : ∃ B, w.heap.size = B := ⟨_, rfl⟩
            have hBw : w.heap.size ≤ B := by omega
            rw [hB] at hr ⊢
            clear hW hB
            obtain ⟨⟨c0, c1, c2, c3⟩, f0, f1, f2, f3⟩ := row_facts hr
            clear c0 c1 c2 c3 f0 f1 f2 f3
            go_upto_region 15 with (first | (go_at_call 176; refine (HD.out _).mono ?_; rintro e w' ⟨rfl, rfl⟩) | (go_at_call 175; refine (HL.out _).mono ?_; rintro e w' ⟨rfl, rfl⟩))
            go_wp2_with fail
            refine (HX.out _ hN).mono ?_
            rintro e w1 ⟨rfl, hN1⟩
            have hN := hN.trans hN1
            have hr := hN1.heap hr id
            obtain ⟨⟨c0, c1, c2, c3⟩, f0, f1, f2, f3⟩ := row_facts hr
            go_wp2_with fail
            obtain ⟨hN2, hr2⟩ := set4 hN hBw hr (.int .u8 k) (.int .i64 nn) (.string tt) (.bool y)
            obtain ⟨W2, hW2⟩ : ∃ W2, ((((w1.setCell ⟨B, 0, none⟩ (.int .u8 k)).setCell ⟨B, 1, none⟩ (.int .i64 nn)).setCell ⟨B, 2, none⟩ (.string tt)).setCell ⟨B, 3, none⟩ (.bool y)) = W2 := ⟨_, rfl⟩
            rw [hW2] at hN2 hr2 ⊢
            exact read_end (by kernel_rfl) rfl rfl rfl hr2 ⟨rfl, hN2⟩
          rw [if_neg h63]
          rw [decide_eq_false h63] at t63
          unfold ReadP bv bcs noIt
          simp only
          clear h63 h34 h58 HNum HTok HQuo HPac HAns
          go_enter Tryz.func199, Tryz.ntmps199
          go_upto_region 1 with fail
          obtain ⟨W, hW⟩ : ∃ W, w.alloc (.cells #[.int .u8 0, .int .i64 0, .string ⟨#[]⟩, .bool false] 66) = W := ⟨_, rfl⟩
          rw [hW] at hN hr ⊢
          obtain ⟨B, hB⟩ : ∃ B, w.heap.size = B := ⟨_, rfl⟩
          have hBw : w.heap.size ≤ B := by omega
          rw [hB] at hr ⊢
          clear hW hB
          obtain ⟨⟨c0, c1, c2, c3⟩, f0, f1, f2, f3⟩ := row_facts hr
          go_wp2_with (first | (go_at_call 176; refine (HD.out _).mono ?_; rintro e w' ⟨rfl, rfl⟩) | (go_at_call 175; refine (HL.out _).mono ?_; rintro e w' ⟨rfl, rfl⟩))
          obtain ⟨hN2, hr2⟩ := set4 hN hBw hr (.int .u8 0) (.int .i64 0) (.string ⟨#[]⟩) (.bool false)
          obtain ⟨W2, hW2⟩ : ∃ W2, ((((W.setCell ⟨B, 0, none⟩ (.int .u8 0)).setCell ⟨B, 1, none⟩ (.int .i64 0)).setCell ⟨B, 2, none⟩ (.string ⟨#[]⟩)).setCell ⟨B, 3, none⟩ (.bool false)) = W2 := ⟨_, rfl⟩
          rw [hW2] at hN2 hr2 ⊢
          exact read_end (by kernel_rfl) rfl rfl rfl hr2 ⟨rfl, hN2⟩
end Go.Proofs.YtkiiameibdhdfaaGreatDoor
/- Whether two items are the same. -/
namespace Go.Proofs.YtkiiameibdhdfaaGreatDoor
open Go.RowKit Go.Shelf Go.Cs
attribute [local go_sem] Oper.semAt_some
set_option linter.unusedVariables false
set_option linter.unusedSimpArgs false
/-- Whether two items are the same. -/
theorem eq_item (d : Nat) (p q : Bare.It) (w : World) : (Op.equalIn (d + 2) 66 (bv p) (bv q)).run Tryz.prog w = .ok (decide (p = q)) w := by
  unfold bv bcs
  rw [show d + 2 = (d + 1) + 1 from rfl, run_equalIn_agg w (d + 1) 66 _ _ (by unfold Program.fieldsOf; rw [Tryz.underlying66]) (by kernel_rfl)]
  unfold Program.fieldsOf
  rw [Tryz.underlying66]
  have h0 := fun (k n : Int) (s : ByteArray) (y : Bool) w => partAt 5 _ Tryz.underlying5 rfl #[.int .u8 k, .int .i64 n, .string s, .bool y] 0 (.int .u8 k) w rfl
  have h1 := fun (k n : Int) (s : ByteArray) (y : Bool) w => partAt 3 _ Tryz.underlying3 rfl #[.int .u8 k, .int .i64 n, .string s, .bool y] 1 (.int .i64 n) w rfl
  have h2 := fun (k n : Int) (s : ByteArray) (y : Bool) w => partAt 9 _ Tryz.underlying9 rfl #[.int .u8 k, .int .i64 n, .string s, .bool y] 2 (.string s) w rfl
  have h3 := fun (k n : Int) (s : ByteArray) (y : Bool) w => partAt 4 _ Tryz.underlying4 rfl #[.int .u8 k, .int .i64 n, .string s, .bool y] 3 (.bool y) w rfl
  have e5 := fun w (a b : Int) => run_equalIn_int w d 5 .u8 .u8 a b Tryz.underlying5
  have e3 := fun w (a b : Int) => run_equalIn_int w d 3 .i64 .i64 a b Tryz.underlying3
  have e9 := fun w (a b : ByteArray) => run_equalIn_string w d 9 a b Tryz.underlying9
  have e4 := fun w (a b : Bool) => run_equalIn_bool w d 4 a b Tryz.underlying4
  have n1 : ("Kind" ≠ "_") = True := by simp
  have n2 : ("Int" ≠ "_") = True := by simp
  have n3 : ("Text" ≠ "_") = True := by simp
  have n4 : ("Yes" ≠ "_") = True := by simp
  obtain ⟨k, n, t, y⟩ := p
  obtain ⟨k', n', t', y'⟩ := q
  have et := eq_tx (tx t) (tx t')
  rw [bl_tx, bl_tx] at et
  simp only [Op.eqFields, n1, n2, n3, n4, if_true, Sem.run_bind, h0, e5, Result.andThen_ok]
  by_cases hk : k = k' <;> by_cases hn : n = n' <;> by_cases ht : t = t' <;> by_cases hy : y = y' <;> simp [hk, hn, ht, hy, Sem.run_bind, h1, h2, h3, e3, e9, e4, et]
theorem binop_item (p q : Bare.It) (w : World) : (binOp .eql 66 (bv p) (bv q)).run Tryz.prog w = .ok (.bool (decide (p = q))) w := by
  have h := eq_item 9998 p q w
  simp only [binOp]
  unfold bv at h ⊢
  simp [Op.equal, Op.maxDepth, h]
end Go.Proofs.YtkiiameibdhdfaaGreatDoor
/- What stands behind a key; parameters' text (the program). -/
namespace Go.Proofs.YtkiiameibdhdfaaGreatDoor
open Go.RowKit Go.Shelf Go.Cs
attribute [local go_sem] Oper.semAt_some
set_option linter.unusedVariables false
set_option linter.unusedSimpArgs false
theorem yes_any (w : World) : Calls Tryz.prog 98 #[] w fun e w' => e = .returned (bv Bare.yesI) ∧ New w w' := by
  unfold bv bcs Bare.yesI
  simp only
  go_enter Tryz.func98, Tryz.ntmps98
  go_wp2_with fail
  have hr := World.alloc_heap_new w (.cells #[.int .u8 6, .int .i64 0, .string ⟨#[]⟩, .bool true] 66)
  refine bodyPost_ret (v := .agg #[.int .u8 6, .int .i64 0, .string ⟨#[]⟩, .bool true]) (results_cell_row rfl _ _ w.heap.size 66 _ (0, 0) _ rfl hr Tryz.underlying66 rfl info_bare) rfl ?_
  exact ⟨rfl, (Mods.refl _ _).alloc _⟩
theorem item_cells {W : World} {B : Nat} {b : Bare.It} (hr : W.heap[B]? = some (.cells (bcs b).toArray 66 (0, 0))) : W.cell? ⟨B, 0, none⟩ = some (.int .u8 b.kind) ∧ W.cell? ⟨B, 1, none⟩ = some (.int .i64 b.int) ∧ W.cell? ⟨B, 2, none⟩ = some (.string (tx b.text)) ∧ W.cell? ⟨B, 3, none⟩ = some (.bool b.yes) :=
  ⟨cell_of_row _ _ 0 _ _ _ hr, cell_of_row _ _ 1 _ _ _ hr, cell_of_row _ _ 2 _ _ _ hr, cell_of_row _ _ 3 _ _ _ hr⟩
theorem esc_len : ∀ t : Bare.Bs, (Bare.esc t).length ≤ 2 * t.length
  | [] => by simp [Bare.esc]
  | c :: r => by
    have ih := esc_len r
    unfold Bare.esc
    split <;> simp <;> omega
theorem text_len (b : Bare.It) : (Bare.textI b).length ≤ 4 * b.text.length + 100 := by
  cases hr : Bare.rightI b with
  | false =>
    have : Bare.textI b = [] := by unfold Bare.textI Bare.printI; rw [if_pos hr]; rfl
    rw [this]; simp
  | true =>
    by_cases hk : b.kind = 1 ∨ b.kind = 2
    · have h := (Bare.text_back hr (x := []) (fun c hc => by cases hc)).1
      obtain ⟨-, u, hu, -, h17⟩ := Bare.may h
      rw [List.append_nil, List.append_nil] at hu
      have := h17 hk
      rw [hu]; omega
    · unfold Bare.textI Bare.printI
      rw [if_neg (by rw [hr]; decide), if_neg (fun e => hk (.inl e)), if_neg (fun e => hk (.inr e))]
      split
      · have := esc_len b.text
        simp; omega
      · split
        · have := Bare.sixes_len b.text
          simp; omega
        · split
          · simp
          · simp; omega
theorem valued_len (b : Bare.It) : (Bare.valued b).length ≤ 4 * b.text.length + 101 := by
  unfold Bare.valued
  have := text_len b
  split
  · simp
  · simp; omega
theorem printV_text (b : Bare.It) : ∃ z, printV (Bare.printI b) = .tuple #[.string (tx (Bare.textI b)), .int .i64 z] := by
  unfold printV Bare.textI
  cases Bare.printI b with
  | none => exact ⟨2, rfl⟩
  | some l => exact ⟨0, rfl⟩
set_option maxHeartbeats 2000000 in
set_option maxRecDepth 100000 in
theorem valued_any (b : Bare.It) (hs : 0 ≤ b.kind ∧ b.text.length ≤ 10000) (w : World) (hT : Tab w) :
    Calls Tryz.prog 59 #[bv b] w fun e w' => e = .returned (.string (tx (Bare.valued b))) ∧ New w w' := by
  obtain ⟨hN, hr⟩ := box_row w b
  have HP := Lib.hid (fun W (hW : New w W) => print_any b hs.1 hs.2 W (hT.new hW))
  have HY := Lib.hid yes_any
  have HE := Lib.hid (fun W => binop_item b Bare.yesI W)
  obtain ⟨r, hr0⟩ : ∃ r, Bare.valued b = r := ⟨_, rfl⟩
  have HR := Lib.hid hr0
  rw [hr0]
  obtain ⟨zc, ho⟩ := printV_text b
  rw [ho] at HP
  have htl := text_len b
  have hval : Hid (Bare.valued b = if b = Bare.yesI then [] else 61 :: Bare.textI b) := Lib.hid rfl
  obtain ⟨tt, htt⟩ : ∃ x, tx (Bare.textI b) = x := ⟨_, rfl⟩
  have Htt := Lib.hid htt
  have hts : tt.size ≤ 4 * b.text.length + 100 := by rw [← htt, tx_size]; exact htl
  rw [htt] at HP
  obtain ⟨e, he⟩ : ∃ e, decide (b = Bare.yesI) = e := ⟨_, rfl⟩
  have Hee := Lib.hid he
  rw [he] at HE
  unfold bv bcs at HP
  unfold bv bcs Bare.yesI at HY HE
  unfold bv
  unfold bcs at *
  obtain ⟨k, n, l, y⟩ := b
  simp only at HP HY HE hN hr hs hts ⊢
  obtain ⟨s, hse⟩ : ∃ s, tx l = s := ⟨_, rfl⟩
  rw [hse] at HP HE hN hr ⊢
  have Hr := Lib.hid hr
  clear hr0 ho he hse hT htl htt
  go_enter Tryz.func59, Tryz.ntmps59
  go_upto_region 1 with fail
  obtain ⟨W, hW⟩ : ∃ W, w.alloc (.cells #[.int .u8 k, .int .i64 n, .string s, .bool y] 66) = W := ⟨_, rfl⟩
  rw [hW] at hN hr Hr ⊢
  obtain ⟨B, hB⟩ : ∃ B, w.heap.size = B := ⟨_, rfl⟩
  rw [hB] at hr Hr ⊢
  obtain ⟨⟨c0, c1, c2, c3⟩, -⟩ := row_facts hr
  have hEl : ∀ W', (binOp .eql 66 (.agg #[.int .u8 k, .int .i64 n, .string s, .bool y]) (.agg #[.int .u8 6, .int .i64 0, .string ⟨#[]⟩, .bool true])).run Tryz.prog W' = .ok (.bool e) W' := HE.out
  clear hW hr hB
  go_region_with (refine (HY.out _).mono ?_; rintro e1 w1 ⟨rfl, hN1⟩; obtain ⟨⟨q0, q1, q2, q3⟩, -⟩ := row_facts (hN1.heap (show W.drew.heap[B]? = _ from Hr.out) id))
  all_goals
    have hNN := hN.trans ((Mods.refl (fun _ => False) W).drew.trans hN1)
    cases e with
    | true =>
      go_wp2_with fail
      go_ret
      refine ⟨?_, hNN⟩
      rw [← HR.out, hval.out, if_pos (of_decide_eq_true Hee.out)]
      rfl
    | false =>
      go_wp2_with fail
      refine (HP.out _ hNN).mono ?_
      rintro e2 w2 ⟨rfl, hN2⟩
      go_wp2_with fail
      go_ret
      refine ⟨?_, hNN.trans hN2⟩
      rw [← HR.out, hval.out, if_neg (of_decide_eq_false Hee.out)]
      show Ending.returned (.string (⟨#[61]⟩ ++ tt)) = _
      rw [← Htt.out, cat_bl]
      rfl
end Go.Proofs.YtkiiameibdhdfaaGreatDoor
/- A reader's steps: a byte, blanks, a key, a bare item (the program). -/
namespace Go.Proofs.YtkiiameibdhdfaaGreatDoor
open Go.RowKit Go.Shelf Go.Cs
attribute [local go_sem] Oper.semAt_some
set_option linter.unusedVariables false
set_option linter.unusedSimpArgs false
/-- A reader in memory. -/
def Rdr (W : World) (R : Nat) (s : Bare.Bs) (bad : Bool) : Prop := W.heap[R]? = some (.cells #[.string (tx s), .bool bad] 105 (0, 0))
abbrev ModR (R : Nat) (w w' : World) : Prop := Mods (fun b => b = R) w w'
theorem Rdr.facts {W : World} {R : Nat} {s : Bare.Bs} {bad : Bool} (h : Rdr W R s bad) : (W.cell? ⟨R, 0, none⟩ = some (.string (tx s)) ∧ W.cell? ⟨R, 1, none⟩ = some (.bool bad)) ∧ W.frozen? ⟨R, 0, none⟩ = false ∧ W.frozen? ⟨R, 1, none⟩ = false :=
  ⟨⟨cell_of_row _ _ 0 _ _ _ h, cell_of_row _ _ 1 _ _ _ h⟩, frozen_row (i := 0) h, frozen_row (i := 1) h⟩
theorem Rdr.new {W W' : World} {R : Nat} {s : Bare.Bs} {bad : Bool} (h : Rdr W R s bad) (hN : New W W') : Rdr W' R s bad := hN.heap h id
theorem Rdr.lt {W : World} {R : Nat} {s : Bare.Bs} {bad : Bool} (h : Rdr W R s bad) : R < W.heap.size := (Array.getElem?_eq_some_iff.1 h).1
theorem Rdr.set0 {W : World} {R : Nat} {s : Bare.Bs} {bad : Bool} (h : Rdr W R s bad) (s' : Bare.Bs) : Rdr (W.setCell ⟨R, 0, none⟩ (.string (tx s'))) R s' bad := setCell_heap h _
theorem Rdr.set1 {W : World} {R : Nat} {s : Bare.Bs} {bad : Bool} (h : Rdr W R s bad) (b : Bool) : Rdr (W.setCell ⟨R, 1, none⟩ (.bool b)) R s b := setCell_heap h _
theorem ModR.refl (R : Nat) (w : World) : ModR R w w := Mods.refl _ w
theorem ModR.set (W : World) (R o : Nat) (u : Value) : ModR R W (W.setCell ⟨R, o, none⟩ u) := setMods W R o u
theorem info_rdr : (Tryz.prog.info? 105).map (·.size) = some 2 := by kernel_rfl
theorem see_any (R : Nat) (s c : Bare.Bs) (bad : Bool) (w : World) (h : Rdr w R s bad) :
    Calls Tryz.prog 121 #[.pointer (some ⟨R, 0, none⟩), .string (tx c)] w fun e w' => e = .returned (.bool (Lib.hasPrefix s c)) ∧ Rdr w' R (Lib.trimPrefix s c) bad ∧ ModR R w w' := by
  obtain ⟨⟨c0, c1⟩, f0, f1⟩ := h.facts
  have HC := Lib.hid (Tryz.strings_CutPrefix (tx s) (tx c) w)
  obtain ⟨S, hS⟩ : ∃ x, tx s = x := ⟨_, rfl⟩
  obtain ⟨C, hC⟩ : ∃ x, tx c = x := ⟨_, rfl⟩
  obtain ⟨b, hb⟩ : ∃ x, Lib.hasPrefix s c = x := ⟨_, rfl⟩
  have e1 : Lib.hasPrefix (tx s).data.toList (tx c).data.toList = b := hb
  rw [e1] at HC
  have H := Lib.hid (h.set0 (Lib.trimPrefix s c))
  have e2 : (⟨(Lib.trimPrefix (tx s).data.toList (tx c).data.toList).toArray⟩ : ByteArray) = tx (Lib.trimPrefix s c) := rfl
  rw [e2] at HC
  obtain ⟨T, hT⟩ : ∃ x, tx (Lib.trimPrefix s c) = x := ⟨_, rfl⟩
  rw [hT] at HC H
  rw [hS] at c0 HC
  rw [hC] at HC ⊢
  rw [hb]
  clear e1 e2 hb hS hC hT h
  go_enter Tryz.func121, Tryz.ntmps121
  go_wp2_with fail
  refine HC.out.mono ?_
  rintro e w' ⟨rfl, rfl⟩
  go_wp2_with fail
  go_ret
  exact ⟨rfl, H.out, ModR.set _ _ _ _⟩
theorem infoA : (Tryz.prog.info? 165).map (fun i => (i.zero, i.size)) = some (some (.agg (Array.replicate 256 (.bool false))), 256) := by kernel_rfl
/-- strings.TrimLeft at a cutset of ASCII. -/
theorem trimLeft_any (s c : Bare.Bs) (hc : c.length ≤ 100) (ha : ∀ b ∈ c, b.toNat < 128) (w : World) :
    Calls Tryz.prog 164 #[.string (tx s), .string (tx c)] w fun e w' => e = .returned (.string (tx (Bare.skipB c s))) ∧ New w w' :=
  (Any.strings_TrimLeft_laid Tryz.lays161 infoA (tx s) (tx c) w (by rw [tx_size]; omega) (fun j b hb => ha b (List.mem_of_getElem? hb))).mono fun e w' ⟨he, hB⟩ => ⟨he, Mods.below hB (Nat.le_refl _)⟩
theorem skip_any (R : Nat) (s c : Bare.Bs) (bad : Bool) (w : World) (hc : c.length ≤ 100) (ha : ∀ b ∈ c, b.toNat < 128) (h : Rdr w R s bad) :
    Calls Tryz.prog 120 #[.pointer (some ⟨R, 0, none⟩), .string (tx c)] w fun e w' => (∃ v, e = .returned v) ∧ Rdr w' R (Bare.skipB c s) bad ∧ ModR R w w' := by
  obtain ⟨⟨c0, c1⟩, f0, f1⟩ := h.facts
  have HC := Lib.hid (trimLeft_any s c hc ha w)
  have Hr := Lib.hid h
  obtain ⟨S, hS⟩ : ∃ x, tx s = x := ⟨_, rfl⟩
  obtain ⟨C, hC⟩ : ∃ x, tx c = x := ⟨_, rfl⟩
  rw [hS] at c0 HC
  rw [hC] at HC ⊢
  clear h
  go_enter Tryz.func120, Tryz.ntmps120
  go_wp2_with fail
  refine HC.out.mono ?_
  rintro e w' ⟨rfl, hN⟩
  have H := Lib.hid ((Hr.out.new hN).set0 (Bare.skipB c s))
  obtain ⟨⟨d0, d1⟩, g0, g1⟩ := (Hr.out.new hN).facts
  obtain ⟨T, hT⟩ : ∃ x, tx (Bare.skipB c s) = x := ⟨_, rfl⟩
  rw [hT] at H ⊢
  rw [hS] at d0
  go_wp2_with fail
  go_end0
  exact ⟨⟨_, rfl⟩, H.out, (Mods.ofNew hN).trans (ModR.set _ _ _ _)⟩
/-- A key's length. -/
theorem keyOf_upto : ∀ (s : Bare.Bs) (n : Nat), n ≤ s.length → (∀ j, j < n → ∀ c, s[j]? = some c → keyAt j c = true) → (∀ c, s[n]? = some c → keyAt n c = false) → Bare.keyOf s = s.take n
  | [], n, hn, _, _ => by
    obtain rfl : n = 0 := by simpa using hn
    rfl
  | a :: r, 0, _, _, h2 => by
    have := h2 a rfl
    have e : Bare.smlB a = false := this
    simp [Bare.keyOf, e]
  | a :: r, n + 1, hn, h1, h2 => by
    have e : Bare.smlB a = true := h1 0 (by omega) a rfl
    have hw := Bare.while_at Bare.inKey r n (by simpa using hn) (fun j hj c hc => by
      have := h1 (j + 1) (by omega) c (by simpa using hc)
      simpa [keyAt] using this) (fun c hc => by
      have := h2 c (by simpa using hc)
      simpa [keyAt] using this)
    simp only [Bare.keyOf, e, if_true, List.take_succ_cons]
    have := Bare.takeWhile_take Bare.inKey r
    rw [hw] at this
    rw [this]
end Go.Proofs.YtkiiameibdhdfaaGreatDoor
/- A reader's key; a reader's bare item (the program). -/
namespace Go.Proofs.YtkiiameibdhdfaaGreatDoor
open Go.RowKit Go.Shelf Go.Cs
attribute [local go_sem] Oper.semAt_some
set_option linter.unusedVariables false
set_option linter.unusedSimpArgs false
set_option maxHeartbeats 4000000 in
set_option maxRecDepth 100000 in
theorem key_r (R : Nat) (s : Bare.Bs) (bad : Bool) (w : World) (hl : s.length ≤ 1000000) (h : Rdr w R s bad) :
    Calls Tryz.prog 160 #[.pointer (some ⟨R, 0, none⟩)] w fun e w' => e = .returned (.string (tx (Bare.keyOf s))) ∧ Rdr w' R (s.drop (Bare.keyOf s).length) (bad || (Bare.keyOf s).isEmpty) ∧ ModR R w w' := by
  obtain ⟨kq, hkq0⟩ : ∃ x, Bare.keyOf s = x := ⟨_, rfl⟩
  have HKq := Lib.hid hkq0
  rw [hkq0]
  clear hkq0
  have Hr := Lib.hid h
  have hS0 : (tx s).size = s.length := tx_size s
  obtain ⟨S, hS⟩ : ∃ x, tx s = x := ⟨_, rfl⟩
  have Hs : Hid (s = bl S) := Lib.hid (by rw [← hS])
  have HS := Lib.hid hS
  rw [hS] at hS0
  have hN0 : New w w := Mods.refl _ _
  have HKey : Hid (∀ n W, n < s.length → (∀ j, j < n → keyAt j (gb S j) = true) → Calls Tryz.prog 32 #[.string (tx (s.take (n + 1)))] W fun e w' => e = .returned (.bool (keyAt n (gb S n))) ∧ New W w') := Lib.hid fun n W hn hb => by
    refine (key_any (tx (s.take (n + 1))) W (by rw [tx_size, List.length_take]; omega)).mono fun e w' ⟨he, hN⟩ => ⟨?_, hN⟩
    rw [he, bl_tx]
    congr 2
    have hg : ∀ j, j < n + 1 → (s.take (n + 1))[j]? = some (gb S j) := fun j hj => by
      have := gb_get S j (by omega)
      rw [← Hs.out] at this
      rw [List.getElem?_take, if_pos hj]; exact this
    rw [Bool.eq_iff_iff, keyB_at]
    constructor
    · rintro ⟨-, h⟩
      exact h n _ (hg n (by omega))
    · intro h
      refine ⟨fun e => ?_, fun k c hk => ?_⟩
      · have := congrArg List.length e
        rw [List.length_take, List.length_nil] at this
        omega
      · have hk' : k < n + 1 := by
          have := (List.getElem?_eq_some_iff.1 hk).1
          rw [List.length_take] at this; omega
        rw [hg k hk'] at hk
        cases hk
        by_cases e : k = n
        · subst e; exact h
        · exact hb k (by omega)
  clear h
  go_enter Tryz.func160, Tryz.ntmps160
  go_wp2_with fail
  go_loopw [3] (fun t wr => ∃ n : Nat, n ≤ s.length ∧ t = .int .i64 n ∧ Hid (∀ j, j < n → keyAt j (gb S j) = true) ∧ New w wr) (fun t _ => s.length - (intOf t).toNat)
  case atStart => exact ⟨0, Nat.zero_le _, rfl, Lib.hid fun i hi => by omega, hN0⟩
  case round =>
    clear hN0
    obtain ⟨n, hn, rfl, hbef, hN⟩ := hrel
    have hrd := Lib.hid (Hr.out.new hN)
    obtain ⟨⟨c0, c1⟩, f0, f1⟩ := hrd.out.facts
    rw [HS.out] at c0
    by_cases hlt : n < s.length
    · have hkd : decide ((n : Int) < (S.size : Int)) = true := decide_eq_true (by omega)
      have hsl : ∀ W, (Instr.slice 9 (.string S) none (some (.int .i64 ((n : Int) + 1))) none).run Tryz.prog W = .ok (.string (tx (s.take (n + 1)))) W := fun W => by have := run_sl_h S (n + 1) (by omega) W; rwa [← Hs.out] at this
      have HK := Lib.hid (fun W => HKey.out n W hlt hbef.out)
      obtain ⟨P, hP⟩ : ∃ x, tx (s.take (n + 1)) = x := ⟨_, rfl⟩
      rw [hP] at hsl HK
      clear HKey hP
      cases hT : keyAt n (gb S n) with
      | true =>
        rw [hT] at HK
        have hh : Hid (∀ j, j < n + 1 → keyAt j (gb S j) = true) := Lib.hid fun i hi => by
          by_cases hik : i < n
          · exact hbef.out i hik
          · obtain rfl : i = n := by omega
            exact hT
        clear hbef hT
        go_wp2_with (go_at_call 32; refine (HK.out _).mono ?_; rintro e w' ⟨rfl, hN'⟩)
        go_roundw
        case rel => exact ⟨n + 1, by omega, by go_num, hh, hN.trans hN'⟩
        case measure => simp [intOf]; omega
      | false =>
        rw [hT] at HK
        have Hk := Lib.hid (keyOf_upto s n (by omega) (fun j hj c hc => by
          have e : (bl S)[j]? = some c := by rw [← Hs.out]; exact hc
          obtain ⟨_, rfl⟩ := get_gb e
          exact hbef.out j hj) (fun c hc => by
            have e : (bl S)[n]? = some c := by rw [← Hs.out]; exact hc
            obtain ⟨_, rfl⟩ := get_gb e
            exact hT))
        have hlen : (s.take n).length = n := by rw [List.length_take]; omega
        have hsl1 : ∀ W, (Instr.slice 9 (.string S) none (some (.int .i64 (n : Int))) none).run Tryz.prog W = .ok (.string (tx (s.take n))) W := fun W => by have := run_sl_h S n (by omega) W; rwa [← Hs.out] at this
        have hsl2 : ∀ W, (Instr.slice 9 (.string S) (some (.int .i64 (n : Int))) none none).run Tryz.prog W = .ok (.string (tx (s.drop n))) W := fun W => by have := run_sl_l S n (by omega) W; rwa [← Hs.out] at this
        have hz : ((n : Int) == 0) = decide (n = 0) := by
          rw [Bool.eq_iff_iff, beq_iff_eq, decide_eq_true_eq]; omega
        have hez : (s.take n).isEmpty = decide (n = 0) := by
          rw [Bool.eq_iff_iff, List.isEmpty_iff, decide_eq_true_eq, ← List.length_eq_zero_iff, hlen]
        have Hkq : Hid (kq = s.take n) := Lib.hid (by rw [← HKq.out, Hk.out])
        have Hez := Lib.hid hez
        have Hlen := Lib.hid hlen
        obtain ⟨z, hze⟩ : ∃ z, decide (n = 0) = z := ⟨_, rfl⟩
        have Hze := Lib.hid hze
        rw [hze] at hz
        obtain ⟨K, hK⟩ : ∃ x, tx (s.take n) = x := ⟨_, rfl⟩
        obtain ⟨D, hD⟩ : ∃ x, tx (s.drop n) = x := ⟨_, rfl⟩
        have HK' := Lib.hid hK
        rw [hK] at hsl1
        have HD := Lib.hid hD
        rw [hD] at hsl2
        clear hze hez hK hD hbef Hk hlen
        go_upto_region 5 with (go_at_call 32; refine (HK.out _).mono ?_; rintro e w' ⟨rfl, hN'⟩; have hrd := Lib.hid (hrd.out.new hN'); obtain ⟨⟨c0, c1⟩, f0, f1⟩ := hrd.out.facts; rw [HS.out] at c0)
        have H := Lib.hid (fun b => (hrd.out.set0 (s.drop n)).set1 b)
        rw [HD.out] at H
        cases bad
        all_goals go_region
        all_goals
          go_wp2_with fail
          go_ret
          rw [Hkq.out, Hlen.out, Hez.out, Hze.out, HK'.out]
          refine ⟨rfl, ?_, ((Mods.ofNew (hN.trans hN')).trans ((ModR.set _ _ _ _).trans (ModR.set _ _ _ _))).drew⟩
          exact H.out _
    · have hkd : decide ((n : Int) < (S.size : Int)) = false := decide_eq_false (by omega)
      have Hk := Lib.hid (keyOf_upto s n (by omega) (fun j hj c hc => by
        have e : (bl S)[j]? = some c := by rw [← Hs.out]; exact hc
        obtain ⟨_, rfl⟩ := get_gb e
        exact hbef.out j hj) (fun c hc => by
          have := (List.getElem?_eq_some_iff.1 hc).1; omega))
      have hlen : (s.take n).length = n := by rw [List.length_take]; omega
      have hsl1 : ∀ W, (Instr.slice 9 (.string S) none (some (.int .i64 (n : Int))) none).run Tryz.prog W = .ok (.string (tx (s.take n))) W := fun W => by have := run_sl_h S n (by omega) W; rwa [← Hs.out] at this
      have hsl2 : ∀ W, (Instr.slice 9 (.string S) (some (.int .i64 (n : Int))) none none).run Tryz.prog W = .ok (.string (tx (s.drop n))) W := fun W => by have := run_sl_l S n (by omega) W; rwa [← Hs.out] at this
      have hz : ((n : Int) == 0) = decide (n = 0) := by
        rw [Bool.eq_iff_iff, beq_iff_eq, decide_eq_true_eq]; omega
      have hez : (s.take n).isEmpty = decide (n = 0) := by
        rw [Bool.eq_iff_iff, List.isEmpty_iff, decide_eq_true_eq, ← List.length_eq_zero_iff, hlen]
      have Hkq : Hid (kq = s.take n) := Lib.hid (by rw [← HKq.out, Hk.out])
      have Hez := Lib.hid hez
      have Hlen := Lib.hid hlen
      obtain ⟨z, hze⟩ : ∃ z, decide (n = 0) = z := ⟨_, rfl⟩
      have Hze := Lib.hid hze
      rw [hze] at hz
      obtain ⟨K, hK⟩ : ∃ x, tx (s.take n) = x := ⟨_, rfl⟩
      have H := Lib.hid (fun b => (hrd.out.set0 (s.drop n)).set1 b)
      obtain ⟨D, hD⟩ : ∃ x, tx (s.drop n) = x := ⟨_, rfl⟩
      have HK' := Lib.hid hK
      rw [hK] at hsl1
      rw [hD] at hsl2 H
      clear hze hez hK hD hbef Hk hlen
      go_upto_region 5 with fail
      cases bad
      all_goals go_region
      all_goals
        go_wp2_with fail
        go_ret
        rw [Hkq.out, Hlen.out, Hez.out, Hze.out, HK'.out]
        refine ⟨rfl, ?_, ((Mods.ofNew hN).trans ((ModR.set _ _ _ _).trans (ModR.set _ _ _ _))).drew⟩
        exact H.out _

/-- What a reader's bare item tells. -/
def BareV (s : Bare.Bs) : Bare.It := match Bare.parseI s with | some (b, _) => b | none => noIt
def BareR (s : Bare.Bs) : Bare.Bs := match Bare.parseI s with | some (_, r) => r | none => []
set_option maxHeartbeats 4000000 in
set_option maxRecDepth 100000 in
theorem bare_r (R : Nat) (s : Bare.Bs) (bad : Bool) (w : World) (hl : s.length ≤ 1000000) (h : Rdr w R s bad) (hT : Tab w) :
    Calls Tryz.prog 181 #[.pointer (some ⟨R, 0, none⟩)] w fun e w' => e = .returned (bv (BareV s)) ∧ Rdr w' R (BareR s) (bad || (Bare.parseI s).isNone) ∧ ModR R w w' := by
  have hlt := h.lt
  obtain ⟨hN, hr⟩ := no_row w
  have HP := Lib.hid (fun W (hW : New w W) => parse_read (tx s) W (by rw [tx_size]; exact hl) (hT.new hW))
  unfold ReadP at HP
  rw [bl_tx] at HP
  have HP2 : Hid (∀ W, New w W → Calls Tryz.prog 199 #[.string (tx s)] W fun e w' => e = .returned (.tuple #[bv (BareV s), .string (tx (BareR s)), .int .i64 (if (Bare.parseI s).isNone then 120 else 0)]) ∧ New W w') := Lib.hid fun W hW => (HP.out W hW).mono fun e w' ⟨he, hn⟩ => ⟨by
    rw [he]; unfold BareV BareR
    cases Bare.parseI s with
    | none => rfl
    | some p => rfl, hn⟩
  clear HP
  obtain ⟨z, hz⟩ : ∃ x, (Bare.parseI s).isNone = x := ⟨_, rfl⟩
  obtain ⟨⟨k, n, t, y⟩, hb⟩ : ∃ x, BareV s = x := ⟨_, rfl⟩
  obtain ⟨rr, hrr⟩ : ∃ x, BareR s = x := ⟨_, rfl⟩
  rw [hz, hb, hrr] at HP2
  rw [hz, hb, hrr]
  unfold bv bcs at HP2 ⊢
  simp only at HP2 ⊢
  obtain ⟨T, hTt⟩ : ∃ x, tx t = x := ⟨_, rfl⟩
  obtain ⟨S, hS⟩ : ∃ x, tx s = x := ⟨_, rfl⟩
  obtain ⟨RR, hRR⟩ : ∃ x, tx rr = x := ⟨_, rfl⟩
  have HS := Lib.hid hS
  have HRR := Lib.hid hRR
  rw [hTt, hS, hRR] at HP2
  rw [hTt]
  obtain ⟨zi, hzi⟩ : ∃ zi : Int, (if z = true then (120 : Int) else 0) = zi := ⟨_, rfl⟩
  have hzn : (zi != 0) = z := by rw [← hzi]; cases z <;> rfl
  rw [hzi] at HP2
  clear hz hb hrr hTt hS hT hRR hzi
  go_enter Tryz.func181, Tryz.ntmps181
  go_upto_region 1 with fail
  have h1 := Lib.hid (h.new hN)
  obtain ⟨W, hW⟩ : ∃ W, w.alloc (.cells #[.int .u8 0, .int .i64 0, .string ⟨#[]⟩, .bool false] 66) = W := ⟨_, rfl⟩
  rw [hW] at hN hr h1 ⊢
  obtain ⟨B, hB⟩ : ∃ B, w.heap.size = B := ⟨_, rfl⟩
  have hBw : w.heap.size ≤ B := by omega
  have hRB : R ≠ B := by omega
  have hRB' : ¬ B = R := by omega
  have hBR : R < B := by omega
  rw [hB] at hr ⊢
  clear hW hB h hlt
  obtain ⟨⟨c0, c1⟩, f0, f1⟩ := h1.out.facts
  rw [HS.out] at c0
  go_upto_region 1 with fail
  go_wp2_with fail
  refine (HP2.out _ hN).mono ?_
  rintro e w1 ⟨rfl, hN1⟩
  have h2 := Lib.hid (h1.out.new hN1)
  have hr2 := Lib.hid (hN1.heap hr id)
  have hsz := hN1.size
  have hBl : B < W.heap.size := (Array.getElem?_eq_some_iff.1 hr).1
  clear c0 c1 f0 f1 hr
  go_upto_region 2 with fail
  obtain ⟨W3, hW3⟩ : ∃ W3, w1.alloc (.cells #[.int .u8 k, .int .i64 n, .string T, .bool y] 66) = W3 := ⟨_, rfl⟩
  have hN3 : New w1 W3 := by rw [← hW3]; exact (Mods.refl _ _).alloc _
  have hr3 : W3.heap[w1.heap.size]? = some (.cells #[.int .u8 k, .int .i64 n, .string T, .bool y] 66 (0, 0)) := by rw [← hW3]; exact World.alloc_heap_new _ _
  rw [hW3]
  obtain ⟨B3, hB3⟩ : ∃ B3, w1.heap.size = B3 := ⟨_, rfl⟩
  have hBB3 : B < B3 := by omega
  have hRB3 : ¬ B3 = R := by omega
  rw [hB3] at hr3 ⊢
  have h3 := Lib.hid (h2.out.new hN3)
  have hrB := Lib.hid (hN3.heap hr2.out id)
  have hNN : New w W3 := hN.trans (hN1.trans hN3)
  have Hr3 := Lib.hid hr3
  obtain ⟨⟨c0, c1⟩, f0, f1⟩ := h3.out.facts
  rw [HS.out] at c0
  clear hW3 hB3 hr3 hsz hBl
  have HE : Hid (∀ (b : Bool) (W4 : World), W4 = ((W3.setCell ⟨R, 0, none⟩ (.string RR)).setCell ⟨R, 1, none⟩ (.bool b)) → Rdr W4 R rr b ∧ ModR R W3 W4) := Lib.hid fun b W4 e => by
    subst e
    rw [← HRR.out]
    exact ⟨(h3.out.set0 rr).set1 b, (ModR.set _ _ _ _).trans (ModR.set _ _ _ _)⟩
  cases bad with
  | false =>
    go_upto_region 3 with fail
    obtain ⟨W4, hW4⟩ : ∃ W4, ((W3.setCell ⟨R, 0, none⟩ (.string RR)).setCell ⟨R, 1, none⟩ (.bool z)) = W4 := ⟨_, rfl⟩
    rw [hW4]
    obtain ⟨h4, hm4⟩ := HE.out _ W4 hW4.symm
    have r4 := hm4.heap hrB.out hRB'
    have r43 := hm4.heap Hr3.out hRB3
    have hone := one4 k n T y
    clear c0 c1 f0 f1 hW4
    go_wp2_with (first | (refine op_value rfl (run_load_row 66 (.tmp 3) rfl B3 rfl 66 _ (0, 0) _ r43 Tryz.underlying66 rfl info_bare) ?_) | (refine op_skip rfl (run_store_row 66 (.tmp 2) (.tmp 30) rfl B rfl 66 [.int .u8 0, .int .i64 0, .string ⟨#[]⟩, .bool false] [.int .u8 k, .int .i64 n, .string T, .bool y] rfl r4 info_bare rfl hone) ?_))
    have r5 := setRow_heap W4 B _ #[.int .u8 k, .int .i64 n, .string T, .bool y] 66 (0, 0) r4
    refine bodyPost_ret (v := .agg #[.int .u8 k, .int .i64 n, .string T, .bool y]) (results_cell_row rfl _ _ B 66 _ (0, 0) _ rfl r5 Tryz.underlying66 rfl info_bare) rfl ?_
    exact ⟨rfl, (mods_setRow r4 _).heap h4 hRB, ((Mods.ofNew hNN).trans hm4).setRow hBw _⟩
  | true =>
    go_upto_region 3 with fail
    obtain ⟨W4, hW4⟩ : ∃ W4, ((W3.setCell ⟨R, 0, none⟩ (.string RR)).setCell ⟨R, 1, none⟩ (.bool true)) = W4 := ⟨_, rfl⟩
    rw [hW4]
    obtain ⟨h4, hm4⟩ := HE.out _ W4 hW4.symm
    have r4 := hm4.heap hrB.out hRB'
    have r43 := hm4.heap Hr3.out hRB3
    have hone := one4 k n T y
    clear c0 c1 f0 f1 hW4
    go_wp2_with (first | (refine op_value rfl (run_load_row 66 (.tmp 3) rfl B3 rfl 66 _ (0, 0) _ r43 Tryz.underlying66 rfl info_bare) ?_) | (refine op_skip rfl (run_store_row 66 (.tmp 2) (.tmp 30) rfl B rfl 66 [.int .u8 0, .int .i64 0, .string ⟨#[]⟩, .bool false] [.int .u8 k, .int .i64 n, .string T, .bool y] rfl r4 info_bare rfl hone) ?_))
    have r5 := setRow_heap W4 B _ #[.int .u8 k, .int .i64 n, .string T, .bool y] 66 (0, 0) r4
    refine bodyPost_ret (v := .agg #[.int .u8 k, .int .i64 n, .string T, .bool y]) (results_cell_row rfl _ _ B 66 _ (0, 0) _ rfl r5 Tryz.underlying66 rfl info_bare) rfl ?_
    exact ⟨rfl, (mods_setRow r4 _).heap h4 hRB, ((Mods.ofNew hNN).trans hm4).setRow hBw _⟩
end Go.Proofs.YtkiiameibdhdfaaGreatDoor
/- Plain facts of a reader's parameters. -/
namespace Go.Proofs.YtkiiameibdhdfaaGreatDoor
set_option linter.unusedVariables false
set_option linter.unusedSimpArgs false
theorem pre1_nil (c : UInt8) : Lib.hasPrefix [] [c] = false ∧ Lib.trimPrefix [] [c] = [] := ⟨rfl, rfl⟩
theorem pre1_cons (a c : UInt8) (r : Bare.Bs) : Lib.hasPrefix (a :: r) [c] = decide (a = c) ∧ Lib.trimPrefix (a :: r) [c] = if a = c then r else a :: r := by
  have e : Lib.hasPrefix (a :: r) [c] = decide (a = c) := by
    unfold Lib.hasPrefix
    by_cases h : a = c
    · subst h; simp [List.isPrefixOf]
    · have h2 : ¬ c = a := fun e => h e.symm
      have h3 : (c == a) = false := by simpa using h2
      simp [List.isPrefixOf, h, h3]
  refine ⟨e, ?_⟩
  unfold Lib.trimPrefix
  rw [e]
  by_cases h : a = c <;> simp [h]
theorem pre1_true {s : Bare.Bs} {c : UInt8} (h : Lib.hasPrefix s [c] = true) : ∃ r, s = c :: r ∧ Lib.trimPrefix s [c] = r := by
  cases s with
  | nil => cases h
  | cons a r =>
    obtain ⟨h1, h2⟩ := pre1_cons a c r
    rw [h1] at h
    obtain rfl := of_decide_eq_true h
    exact ⟨r, rfl, by rw [h2, if_pos rfl]⟩
theorem pre1_false {s : Bare.Bs} {c : UInt8} (h : Lib.hasPrefix s [c] = false) : s.head? ≠ some c ∧ Lib.trimPrefix s [c] = s := by
  refine ⟨fun e => ?_, by unfold Lib.trimPrefix; rw [h]; rfl⟩
  cases s with
  | nil => cases e
  | cons a r =>
    rw [(pre1_cons a c r).1] at h
    simp at e
    exact of_decide_eq_false h e
/-- The parameter that a round reads. -/
def parV (s4 : Bare.Bs) (b : Bool) : Bare.It := if b then BareV s4 else Bare.yesI
def parR (s4 : Bare.Bs) (b : Bool) : Bare.Bs := if b then BareR s4 else s4
def parB (s4 : Bare.Bs) (b : Bool) : Bool := b && (Bare.parseI s4).isNone
theorem bareR_len (s : Bare.Bs) : (BareR s).length ≤ s.length := by
  unfold BareR
  split
  · rename_i b r h
    have := Bare.parseI_len h
    omega
  · simp
theorem par_step (l : List Bare.Par) (r : Bare.Bs) {s2 s3 s4 k : Bare.Bs} {b : Bool} (h2 : Bare.skipB [32] r = s2) (hk : Bare.keyOf s2 = k) (h3 : s2.drop k.length = s3) (hb : Lib.hasPrefix s3 [61] = b) (h4 : Lib.trimPrefix s3 [61] = s4) :
    ((k.isEmpty || parB s4 b) = false → Bare.readParams l (59 :: r) = Bare.readParams (Bare.setP l ⟨k, parV s4 b⟩) (parR s4 b)) ∧
    ((k.isEmpty || parB s4 b) = true → Bare.readParams l (59 :: r) = none) ∧ (parR s4 b).length ≤ r.length := by
  rw [Bare.readParams_semi, h2]
  have ek : Bare.readKey s2 = if k.isEmpty then none else some (k, s3) := by unfold Bare.readKey; simp only [hk, h3]
  rw [ek]
  have hl : s3.length ≤ r.length := by
    have := Bare.skip_len [32] r
    rw [h2] at this
    rw [← h3, List.length_drop]; omega
  have hv : Bare.readVal s3 = if parB s4 b then none else some (parV s4 b, parR s4 b) := by
    cases b with
    | false =>
      obtain ⟨q1, q2⟩ := pre1_false hb
      rw [q2] at h4
      subst h4
      unfold parB parV parR
      simp only [Bool.false_and, Bool.false_eq_true, if_false]
      unfold Bare.readVal
      split
      · exact absurd rfl q1
      · rfl
    | true =>
      obtain ⟨q, rfl, q2⟩ := pre1_true hb
      rw [q2] at h4
      subst h4
      unfold parB parV parR BareV BareR Bare.readVal
      simp only [Bool.true_and, if_true]
      cases Bare.parseI q with
      | none => rfl
      | some p => rfl
  have hl4 : (parR s4 b).length ≤ r.length := by
    unfold parR
    cases b with
    | false =>
      rw [(pre1_false hb).2] at h4
      subst h4
      exact hl
    | true =>
      obtain ⟨q, rfl, q2⟩ := pre1_true hb
      rw [q2] at h4
      subst h4
      have := bareR_len q
      simp only [if_true]
      simp at hl
      omega
  refine ⟨fun h => ?_, fun h => ?_, hl4⟩
  · rw [Bool.or_eq_false_iff] at h
    rw [h.1]
    simp only [Bool.false_eq_true, if_false, hv, h.2]
  · rw [Bool.or_eq_true] at h
    by_cases hk : k.isEmpty = true
    · rw [if_pos hk]
    · rw [if_neg hk]
      simp only [hv, h.resolve_left hk, if_true]
theorem setP_set {l : List Bare.Par} {p : Bare.Par} (hd : (l.map (·.key)).Nodup) {i : Nat} (hi : i < l.length) (he : (l.getD i noP).key = p.key) : Bare.setP l p = l.set i p := by
  unfold Bare.setP
  have hg : l.getD i noP = l[i] := by simp [List.getD, hi]
  rw [hg] at he
  rw [if_pos (by
    rw [List.contains_iff_mem, ← he]
    exact List.mem_map_of_mem (List.getElem_mem hi))]
  apply List.ext_getElem?
  intro j
  rw [List.getElem?_map, List.getElem?_set]
  by_cases hj : i = j
  · subst hj
    rw [if_pos rfl, if_pos hi, List.getElem?_eq_getElem hi]
    simp [he]
  · rw [if_neg hj]
    by_cases hjl : j < l.length
    · rw [List.getElem?_eq_getElem hjl]
      simp only [Option.map_some]
      rw [if_neg]
      intro e
      have h1 : (l.map (·.key))[i]'(by simpa using hi) = (l.map (·.key))[j]'(by simpa using hjl) := by simp [he, e]
      rcases Nat.lt_or_ge i j with h | h
      · exact (List.pairwise_iff_getElem.1 hd) i j (by simpa using hi) (by simpa using hjl) h h1
      · exact (List.pairwise_iff_getElem.1 hd) j i (by simpa using hjl) (by simpa using hi) (by omega) h1.symm
    · rw [List.getElem?_eq_none (by omega)]; rfl
theorem setP_add {l : List Bare.Par} {p : Bare.Par} (h : ∀ i, i < l.length → (l.getD i noP).key ≠ p.key) : Bare.setP l p = l ++ [p] := by
  refine Bare.setP_new fun hm => ?_
  obtain ⟨q, hq, he⟩ := List.mem_map.1 hm
  obtain ⟨i, hi⟩ := List.getElem?_of_mem hq
  obtain ⟨h1, h2⟩ := List.getElem?_eq_some_iff.1 hi
  have hg : l.getD i noP = q := by simp [List.getD, hi]
  exact h i h1 (by rw [hg]; exact he)
theorem setP_nodup {l : List Bare.Par} {p : Bare.Par} (hd : (l.map (·.key)).Nodup) : ((Bare.setP l p).map (·.key)).Nodup := by
  unfold Bare.setP
  split
  · rename_i h
    have e : (l.map fun q => if q.key = p.key then p else q).map (·.key) = l.map (·.key) := by
      rw [List.map_map]
      refine List.map_congr_left fun q _ => ?_
      simp only [Function.comp]
      split
      · rename_i e; exact e.symm
      · rfl
    rw [e]; exact hd
  · rename_i h
    rw [List.map_append, List.nodup_append]
    refine ⟨hd, by simp, fun a ha b hb => ?_⟩
    simp at hb
    subst hb
    rintro rfl
    exact h (List.contains_iff_mem.2 ha)
theorem setP_len (l : List Bare.Par) (p : Bare.Par) : (Bare.setP l p).length ≤ l.length + 1 := by
  unfold Bare.setP
  split <;> simp
end Go.Proofs.YtkiiameibdhdfaaGreatDoor
/- Parameters' text (the program). -/
namespace Go.Proofs.YtkiiameibdhdfaaGreatDoor
open Go.RowKit Go.Shelf Go.Cs
attribute [local go_sem] Oper.semAt_some
set_option linter.unusedVariables false
set_option linter.unusedSimpArgs false
theorem told_snoc (L : List Bare.Par) (k : Nat) (hk : k < L.length) : Bare.told (L.take (k + 1)) = Bare.told (L.take k) ++ (59 :: ((L.getD k noP).key ++ Bare.valued (L.getD k noP).bare)) := by
  have e : L.getD k noP = L[k] := by simp [List.getD, hk]
  unfold Bare.told
  rw [List.take_add_one, List.getElem?_eq_getElem hk, e, List.flatMap_append]
  simp
theorem told_len (L : List Bare.Par) (hs : ∀ p ∈ L, SmP p) : (Bare.told L).length ≤ L.length * 200000 := by
  induction L with
  | nil => simp [Bare.told]
  | cons p L ih =>
    have h1 := ih (fun q hq => hs q (List.mem_cons_of_mem _ hq))
    have h2 := hs p (by simp)
    have h3 := valued_len p.bare
    unfold SmP at h2
    rw [Bare.told_cons]
    simp
    omega
theorem par_cells {W : World} {B : Nat} {p : Bare.Par} (hr : W.heap[B]? = some (.cells (pcs p).toArray 73 (0, 0))) : W.cell? ⟨B, 0, none⟩ = some (.string (tx p.key)) ∧ W.cell? ⟨B, 1, none⟩ = some (.int .u8 p.bare.kind) ∧ W.cell? ⟨B, 2, none⟩ = some (.int .i64 p.bare.int) ∧ W.cell? ⟨B, 3, none⟩ = some (.string (tx p.bare.text)) ∧ W.cell? ⟨B, 4, none⟩ = some (.bool p.bare.yes) :=
  ⟨cell_of_row _ _ 0 _ _ _ hr, cell_of_row _ _ 1 _ _ _ hr, cell_of_row _ _ 2 _ _ _ hr, cell_of_row _ _ 3 _ _ _ hr, cell_of_row _ _ 4 _ _ _ hr⟩
set_option maxHeartbeats 4000000 in
set_option maxRecDepth 100000 in
theorem told_any {τ : Bool} (v : Value) (L : List Bare.Par) (w : World) (h : RdP τ w v L) (hs : ∀ p ∈ L, SmP p) (hl : L.length ≤ 2000000) (hT : Tab w) :
    Calls Tryz.prog 60 #[v] w fun e w' => e = .returned (.string (tx (Bare.told L))) ∧ New w w' := by
  have HV := Lib.hid h
  have HS := Lib.hid hs
  have HT := Lib.hid hT
  have HL := Lib.hid (fun k => told_len (L.take k) (fun p hp => hs p (List.mem_of_mem_take hp)))
  have HN := Lib.hid (told_snoc L)
  obtain ⟨ao, cap, rfl⟩ := h.slice
  obtain ⟨n, hn⟩ : ∃ n, L.length = n := ⟨_, rfl⟩
  have Hn := Lib.hid hn
  rw [hn] at hl HV HN ⊢
  obtain ⟨r, hr⟩ : ∃ r, Bare.told L = r := ⟨_, rfl⟩
  have HR : Hid (Bare.told (L.take n) = r) := Lib.hid (by rw [← hn, List.take_length]; exact hr)
  rw [hr]
  have hN0 : New w w := Mods.refl _ _
  clear h hs hT hn hr
  go_enter Tryz.func60, Tryz.ntmps60
  go_wp2_with fail
  go_loopw [2, 7] (fun s t wr => ∃ k : Nat, k ≤ n ∧ t = .int .i64 k ∧ s = .string (tx (Bare.told (L.take k))) ∧ New w wr) (fun _ t _ => n - (intOf t).toNat)
  case atStart => exact ⟨0, Nat.zero_le _, rfl, rfl, hN0⟩
  case round =>
    obtain ⟨k, hk, rfl, rfl, hN⟩ := hrel
    by_cases hlt : k < n
    · have hkd : decide ((k : Int) < (n : Int)) = true := decide_eq_true (by omega)
      obtain ⟨b, o, rfl, hrow⟩ := ((HV.out.new hN).1).at.2.2 k hlt
      have hsm := HS.out (L.getD k noP) (getD_mem (by rw [Hn.out]; exact hlt))
      have hnx := Lib.hid (HN.out k (by first | exact hlt | (rw [Hn.out]; exact hlt)))
      have hol := HL.out k
      rw [List.length_take, Hn.out] at hol
      have hol2 : (Bare.told (L.take k)).length ≤ 400000000000 := by
        have : min k n ≤ 2000000 := by omega
        have := Nat.mul_le_mul_right 200000 this
        omega
      have HVal := Lib.hid (fun W (hW : New w W) => valued_any (L.getD k noP).bare hsm.2 W (HT.out.new hW))
      have hvl := valued_len (L.getD k noP).bare
      unfold bv bcs at HVal
      obtain ⟨⟨key, kk, nn, tt, yy⟩, hp⟩ : ∃ p, L.getD k noP = p := ⟨_, rfl⟩
      rw [hp] at hrow hsm hnx HVal hvl
      obtain ⟨k0, k1, k2, k3, k4⟩ := cells5 hrow
      unfold SmP at hsm
      simp only at k0 k1 k2 k3 k4 hsm hnx HVal hvl
      obtain ⟨q, hq⟩ : ∃ x, tx key = x := ⟨_, rfl⟩
      obtain ⟨s, hse⟩ : ∃ x, tx tt = x := ⟨_, rfl⟩
      obtain ⟨vl, hve⟩ : ∃ x, tx (Bare.valued ⟨kk, nn, tt, yy⟩) = x := ⟨_, rfl⟩
      obtain ⟨O, hO⟩ : ∃ x, tx (Bare.told (L.take k)) = x := ⟨_, rfl⟩
      have Hjo : Hid (O ++ (⟨#[59]⟩ ++ q ++ vl) = tx (Bare.told (L.take (k + 1)))) := Lib.hid (by
        rw [hnx.out, ← hO, ← hq, ← hve, cat_bl, cat_bl, cat_bl]
        show tx (Bare.told (L.take k) ++ ([59] ++ key ++ Bare.valued ⟨kk, nn, tt, yy⟩)) = _
        simp)
      have hqs : q.size ≤ 100000 := by rw [← hq, tx_size]; exact hsm.1
      have hvs : vl.size ≤ 50000 := by rw [← hve, tx_size]; omega
      have hOs : O.size ≤ 400000000000 := by rw [← hO, tx_size]; exact hol2
      rw [hq] at k0
      rw [hse] at k3 HVal
      rw [hve] at HVal
      rw [hO]
      clear hq hse hve hO hol hol2 hvl hsm hnx hrow hp HN HL HS HR
      go_upto_region 4 with fail
      obtain ⟨W1, hW1⟩ : ∃ W1, wr.alloc (.cells #[.string q, .int .u8 kk, .int .i64 nn, .string s, .bool yy] 73) = W1 := ⟨_, rfl⟩
      have hr1 : W1.heap[wr.heap.size]? = some (.cells #[.string q, .int .u8 kk, .int .i64 nn, .string s, .bool yy] 73 (0, 0)) := by rw [← hW1]; exact World.alloc_heap_new _ _
      have hA : New w W1 := by rw [← hW1]; exact hN.alloc _
      rw [hW1]
      obtain ⟨B, hB⟩ : ∃ B, wr.heap.size = B := ⟨_, rfl⟩
      rw [hB] at hr1 ⊢
      have Hr := Lib.hid hr1
      have c0 := cell_of_row _ _ 0 _ _ _ hr1
      have c1 := cell_of_row _ _ 1 _ _ _ hr1
      have c2 := cell_of_row _ _ 2 _ _ _ hr1
      have c3 := cell_of_row _ _ 3 _ _ _ hr1
      have c4 := cell_of_row _ _ 4 _ _ _ hr1
      simp only [List.getElem?_toArray, List.getElem?_cons_succ, List.getElem?_cons_zero] at c0 c1 c2 c3 c4
      clear hr1 hW1 hB k0 k1 k2 k3 k4
      have z1 : ¬ 9223372036854775807 < 1 + q.size := by omega
      have z2 : ¬ 9223372036854775807 < 1 + q.size + vl.size := by omega
      have z3 : ¬ 9223372036854775807 < O.size + (1 + q.size + vl.size) := by omega
      go_region_with (refine (HVal.out _ hA.drew).mono ?_; rintro e1 w1 ⟨rfl, hN1⟩; have q0 := cell_of_row _ _ 0 _ _ _ (hN1.heap (show W1.drew.heap[B]? = _ from Hr.out) id); simp only [List.getElem?_toArray, List.getElem?_cons_succ, List.getElem?_cons_zero] at q0)
      all_goals
        have hN2 := hA.trans ((Mods.refl (fun _ => False) W1).drew.trans hN1)
        go_wp2_with fail
        go_roundw
        case rel => exact ⟨k + 1, by omega, by go_num, by rw [← Hjo.out], hN2⟩
        case measure => simp [intOf]; omega
    · obtain rfl : k = n := by omega
      have hkd : decide ((k : Int) < (k : Int)) = false := decide_eq_false (by omega)
      have hR := HR.out
      subst hR
      clear HN HL HS Hn
      go_wp2_with fail
      go_ret
      exact ⟨rfl, hN⟩
end Go.Proofs.YtkiiameibdhdfaaGreatDoor
