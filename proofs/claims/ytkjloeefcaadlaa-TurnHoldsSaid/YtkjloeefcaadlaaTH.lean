/- TurnHolds, walked. -/
import Derived.Test.YtkjloeefcaadlaaTW
import Derived.Test.YtkjloeefcaadlaaTD
import Derived.Test.YtkjloeefcaadlaaTP4
namespace Go.Proofs.Ytkjloeefcaadlaa
open Go.RowKit Go.Shelf Go.Cs
attribute [local go_sem] Oper.semAt_some
theorem beginT_bad {x : Nat} {h : Nat → Int} (hb : (beginT x h).2.2.2 = false) : beginT x h = (⟨x, h⟩, 0, 0, false) := by
  cases e : nextT x h with
  | none => exact beginT_none e
  | some p =>
    obtain ⟨⟨o, b⟩, ho⟩ : ∃ o, outT x h p.1 = o := ⟨_, rfl⟩
    rw [beginT_some e ho] at hb
    cases hb
theorem beginT_good {x : Nat} {h : Nat → Int} (hb : (beginT x h).2.2.2 = true) : ∃ p, nextT x h = some p ∧ beginT x h = ((outT x h p.1).1, p.1, p.2, true) := by
  cases e : nextT x h with
  | none => rw [beginT_none e] at hb; cases hb
  | some p => exact ⟨p, rfl, beginT_some (o := (outT x h p.1).1) (b := (outT x h p.1).2) e rfl⟩
set_option maxRecDepth 100000 in
set_option maxHeartbeats 2000000 in
/-- Nobody begins, or the turns are too many: what holds is not asked. -/
theorem holds_no (x : Nat) (h : Nat → Int) (s v n : Int) (hx : x < 18446744073709551616) (hh : In8 h) (w : World) (hno : (beginT x h).2.2.2 = false ∨ n < 0 ∨ 20 < n) :
    Calls Try.prog 7 #[.agg (rc x h).toArray, .int .i64 s, .int .i64 v, .int .i64 n] w fun e w' => e = .returned (.bool true) ∧ New w w' := by
  have HB := Lib.hid (begin_t x h hx hh)
  obtain ⟨⟨⟨y, k⟩, t, u, ok⟩, hy⟩ : ∃ y, beginT x h = y := ⟨_, rfl⟩
  rw [hy] at HB hno
  dsimp only at HB hno
  clear hy
  obtain ⟨hR0, hN0⟩ := ratN (Mods.refl (fun _ => False) w) x h
  go_enter Try.func7, Try.ntmps7
  go_wp2_with (refine op_value rfl (run_load_row 51 (.tmp 4) rfl w.heap.size rfl 51 (rc x h).toArray (0, 0) _ hR0 Try.underlying51 rfl (infoR _ _)) ?_)
  refine (HB.out _).mono ?_
  rintro e w1 ⟨rfl, hN1⟩
  obtain ⟨hT, hNT⟩ := ratN (hN0.trans hN1) y k
  go_upto_region 2 with (refine op_skip rfl (run_store_new 51 (.tmp 9) (.tmp 24) rfl 51 (rc 0 zeroH) (rc y k) rfl rfl (infoL _ _) rfl (rc_one _ _)) ?_)
  obtain ⟨W1, hW1⟩ : ∃ W1, w1.alloc (.cells (rc y k).toArray 51) = W1 := ⟨_, rfl⟩
  rw [hW1] at hNT ⊢
  clear hW1 hT hR0 hN0 hN1 HB
  cases ok with
  | false =>
    go_wp2_with fail
    refine (wakes_t _).mono ?_
    rintro e wz ⟨rfl, hNz⟩
    go_wp2_with fail
    go_ret
    exact ⟨rfl, hNT.trans hNz⟩
  | true =>
    have hno2 : n < 0 ∨ 20 < n := hno.resolve_left (by simp)
    clear hno
    by_cases h0 : n < 0
    · have d1 : decide (n < 0) = true := decide_eq_true h0
      clear h0 hno2
      go_wp2_with fail
      refine (wakes_t _).mono ?_
      rintro e wz ⟨rfl, hNz⟩
      go_wp2_with fail
      go_ret
      exact ⟨rfl, hNT.trans hNz⟩
    · have d1 : decide (n < 0) = false := decide_eq_false h0
      have d2 : decide (20 < n) = true := decide_eq_true (hno2.resolve_left h0)
      clear h0 hno2
      go_wp2_with fail
      refine (wakes_t _).mono ?_
      rintro e wz ⟨rfl, hNz⟩
      go_wp2_with fail
      go_ret
      exact ⟨rfl, hNT.trans hNz⟩
set_option maxRecDepth 100000 in
set_option maxHeartbeats 4000000 in
theorem holds_yes (x : Nat) (h : Nat → Int) (s v n : Int) (hx : x < 18446744073709551616) (hh : In8 h) (hs1 : -9223372036854775808 ≤ s) (hs2 : s ≤ 9223372036854775807) (hv1 : -9223372036854775808 ≤ v) (hv2 : v ≤ 9223372036854775807) (w : World)
    (hok : (beginT x h).2.2.2 = true) (hn0 : 0 ≤ n) (hn20 : n ≤ 20) :
    Calls Try.prog 7 #[.agg (rc x h).toArray, .int .i64 s, .int .i64 v, .int .i64 n] w fun e w' => e = .returned (.bool true) ∧ New w w' := by
  have HB := Lib.hid (begin_t x h hx hh)
  obtain ⟨p, hp, hbe⟩ := beginT_good hok
  rw [hbe] at HB
  have hr : RS.Ok ⟨x, h⟩ := ok_of (next_some hp).2.2
  have ho := hr.out p.1
  have hin := all_in hr (next_some hp).1
  have hbase := hold_base hr hp
  dsimp only at hbase ho hin HB
  obtain ⟨⟨ox, oh⟩, hoo⟩ : ∃ o, (outT x h p.1).1 = o := ⟨_, rfl⟩
  rw [hoo] at HB ho hbase
  obtain ⟨fs, u⟩ := p
  dsimp only at HB hbase hin
  have HO := Lib.hid (over_t ox oh fs (u : Int) false true ho.lt ho.in8 (by omega) (by omega) (by omega) (by omega))
  have hok1 := ho.over fs (u : Int) false true
  dsimp only at hok1
  obtain ⟨⟨⟨x1, h1⟩, b1⟩, hov⟩ : ∃ o, overT ox oh fs (u : Int) false true = o := ⟨_, rfl⟩
  rw [hov] at HO hbase hok1
  unfold RetRT at HO
  dsimp only at HO hbase hok1
  clear hov hoo ho hbe hp hr hok
  have d1 : decide (n < 0) = false := decide_eq_false (by omega)
  have d2 : decide (20 < n) = false := decide_eq_false (by omega)
  obtain ⟨n, rfl⟩ := Int.eq_ofNat_of_zero_le hn0
  have d3 : decide (20 < n) = false := decide_eq_false (by omega)
  obtain ⟨hf0, hf8, hu8⟩ := hin
  obtain ⟨hR0, hN0⟩ := ratN (Mods.refl (fun _ => False) w) x h
  have Hbase := Lib.hid hbase
  have HP := Lib.hid (push_t x1 h1 s v hok1.lt hok1.in8 hs1 hs2 hv1 hv2)
  clear hbase
  go_enter Try.func7, Try.ntmps7
  go_wp2_with (refine op_value rfl (run_load_row 51 (.tmp 4) rfl w.heap.size rfl 51 (rc x h).toArray (0, 0) _ hR0 Try.underlying51 rfl (infoR _ _)) ?_)
  obtain ⟨P, hPB, hPw⟩ : ∃ P, w.heap.size = P ∧ w.heap.size ≤ P := ⟨_, rfl, Nat.le_refl _⟩
  obtain ⟨W0, hW0⟩ : ∃ W0, w.alloc (.cells (rc x h).toArray 51) = W0 := ⟨_, rfl⟩
  rw [hW0] at hR0 hN0 ⊢
  rw [hPB] at hR0 ⊢
  clear hW0 hPB
  refine (HB.out _).mono ?_
  rintro e w1 ⟨rfl, hN1⟩
  obtain ⟨hT, hNT⟩ := ratN (hN0.trans hN1) ox oh
  have hR1 := (hR0.new hN1).old (.cells (rc ox oh).toArray 51)
  go_upto_region 2 with (refine op_skip rfl (run_store_new 51 (.tmp 9) (.tmp 24) rfl 51 (rc 0 zeroH) (rc ox oh) rfl rfl (infoL _ _) rfl (rc_one _ _)) ?_)
  obtain ⟨W1, hW1⟩ : ∃ W1, w1.alloc (.cells (rc ox oh).toArray 51) = W1 := ⟨_, rfl⟩
  obtain ⟨T, hTB⟩ : ∃ T, w1.heap.size = T := ⟨_, rfl⟩
  rw [hW1] at hNT hT hR1 ⊢
  rw [hTB] at hT ⊢
  clear hW1 hTB hR0 hN0 hN1 HB
  go_wp2_with (refine op_value rfl (run_load_row 51 (.tmp 9) rfl T rfl 51 (rc ox oh).toArray (0, 0) _ hT Try.underlying51 rfl (infoR _ _)) ?_)
  refine (HO.out _).mono ?_
  rintro e w2 ⟨rfl, hN2⟩
  have hR2 := hR1.new hN2
  have hR3 := hR2.row x1 h1
  have hN3 := (hNT.trans hN2).setRow hPw (rc x1 h1).toArray
  go_upto_region 5 with (refine op_skip rfl (run_store_row 51 (.tmp 4) (.tmp 44) rfl P rfl 51 (rc x h) (rc x1 h1) rfl hR2 (infoL _ _) rfl (rc_one _ _)) ?_)
  obtain ⟨W3, hW3⟩ : ∃ W3, w2.setRow P (rc x1 h1).toArray = W3 := ⟨_, rfl⟩
  rw [hW3] at hR3 hN3 ⊢
  clear hW3 hR1 hT hNT hN2 hR2 HO
  have c1 := hR3.at hu8
  by_cases he : h1 u = fs
  · have hat := Hbase.out he
    have hstep : ∀ X : Nat, HoldAt ⟨X, h1⟩ u → beginT X h1 = (⟨X, upd h1 u (-1)⟩, fs, u, true) ∧ overT X (upd h1 u (-1)) fs (u : Int) false true = (⟨X, h1⟩, true) := fun X hX => by
      have := hX.step
      dsimp only at this
      rw [he] at this
      exact this
    rw [he] at c1
    clear he Hbase
    go_upto_region 7 with fail
    clear c1
    obtain ⟨⟨y, pb⟩, hy⟩ : ∃ y, pushT x1 h1 s v = y := ⟨_, rfl⟩
    have hatk := hat
    have hpush := fun hb => hold_push (s := s) (v := v) hat hb
    have hbet := fun hb hl => hold_better (s := s) (v := v) hat hb hl
    dsimp only at hpush hbet
    rw [hy] at HP hpush hbet
    unfold RetRT at HP
    dsimp only at HP hpush hbet
    have hylt : y < 18446744073709551616 := by have := pushT_lt x1 h1 s v hok1.lt; rw [hy] at this; exact this
    have hin1 : In8 h1 := hok1.in8
    have hx1lt : x1 < 18446744073709551616 := hok1.lt
    have hinu : In8 (upd h1 u (-1)) := hin1.upd u (by decide) (by decide)
    clear hy
    go_wp2_with (refine op_value rfl (run_load_row 51 (.tmp 4) rfl P rfl 51 (rc x1 h1).toArray (0, 0) _ hR3 Try.underlying51 rfl (infoR _ _)) ?_)
    refine (HP.out _).mono ?_
    rintro e w4 ⟨rfl, hN4⟩
    obtain ⟨hQ4, hNQ⟩ := ratN (hN3.trans hN4) y h1
    have hQw := hNQ.size
    go_upto_region 8 with (refine op_skip rfl (run_store_new 51 (.tmp 13) (.tmp 58) rfl 51 (rc 0 zeroH) (rc y h1) rfl rfl (infoL _ _) rfl (rc_one _ _)) ?_)
    obtain ⟨W5, hW5⟩ : ∃ W5, w4.alloc (.cells (rc y h1).toArray 51) = W5 := ⟨_, rfl⟩
    have hQw : w.heap.size ≤ w4.heap.size := (hN3.trans hN4).size
    obtain ⟨Q, hQB⟩ : ∃ Q, w4.heap.size = Q := ⟨_, rfl⟩
    rw [hW5] at hQ4 hNQ ⊢
    rw [hQB] at hQ4 hQw ⊢
    clear hW5 hQB hR3 hN3 hN4 HP hat
    have Hstep := Lib.hid hstep
    clear hstep
    go_wp2_with fail
    by_cases hbt : pb = true ∧ v < (u : Int)
    · obtain ⟨rfl, hvu⟩ := hbt
      obtain ⟨e1, e2, v0, v8, s0, s8⟩ := hbet rfl hvu
      clear hpush hbet
      obtain ⟨v, rfl⟩ := Int.eq_ofNat_of_zero_le v0
      rw [Int.toNat_natCast] at e1
      have HB1 := Lib.hid (begin_t y h1 hylt hin1)
      have HO1 := Lib.hid (over_t x1 h1 s (v : Int) false false hx1lt hin1 hs1 hs2 (by omega) (by omega))
      rw [e1] at HB1
      rw [e2] at HO1
      obtain ⟨g1, g2⟩ := Hstep.out x1 (hatk)
      have HB2 := Lib.hid (begin_t x1 h1 hx1lt hin1)
      have HO2 := Lib.hid (over_t x1 (upd h1 u (-1)) fs (u : Int) false true hx1lt hinu (by omega) (by omega) (by omega) (by omega))
      rw [g1] at HB2
      rw [g2] at HO2
      unfold RetRT at HO1 HO2
      dsimp only at HB1 HO1 HB2 HO2
      have dv : decide ((v : Int) < (u : Int)) = true := decide_eq_true hvu
      have dv' : decide (v < u) = true := decide_eq_true (by omega)
      clear e1 e2 g1 g2 Hstep
      go_loopw [15, 16, 17, 18, 19, 20] (fun c _ _ _ _ _ wr => ∃ i : Nat, i ≤ n ∧ c = .int .i64 i ∧ RAt wr Q (if i = 0 then y else x1) h1 ∧ New w wr) (fun c _ _ _ _ _ _ => n - (intOf c).toNat)
      case atStart => exact ⟨0, Nat.zero_le _, rfl, hQ4, hNQ⟩
      case round =>
        clear hQ4 hNQ
        obtain ⟨i, hi, rfl, hRQ, hNr⟩ := hrel
        by_cases hin : i < n
        · by_cases hi0 : i = 0
          · subst hi0
            rw [if_pos rfl] at hRQ
            go_wp2_with (refine op_value rfl (run_load_row 51 (.tmp 13) rfl Q rfl 51 (rc y h1).toArray (0, 0) _ hRQ Try.underlying51 rfl (infoR _ _)) ?_)
            refine (HB1.out _).mono ?_
            rintro e w3 ⟨rfl, hN3⟩
            obtain ⟨hT, hNT⟩ := ratN (hNr.trans hN3) x1 h1
            have hQ3 := (hRQ.new hN3).old (.cells (rc x1 h1).toArray 51)
            go_upto_region 12 with (refine op_skip rfl (run_store_new 51 (.tmp 16) (.tmp 68) rfl 51 (rc 0 zeroH) (rc x1 h1) rfl rfl (infoL _ _) rfl (rc_one _ _)) ?_)
            obtain ⟨W4, hW4⟩ : ∃ W4, w3.alloc (.cells (rc x1 h1).toArray 51) = W4 := ⟨_, rfl⟩
            obtain ⟨T, hTB⟩ : ∃ T, w3.heap.size = T := ⟨_, rfl⟩
            rw [hW4] at hT hNT hQ3 ⊢
            rw [hTB] at hT ⊢
            clear hW4 hTB hN3 hRQ hNr
            go_wp2_with (refine op_value rfl (run_load_row 51 (.tmp 16) rfl T rfl 51 (rc x1 h1).toArray (0, 0) _ hT Try.underlying51 rfl (infoR _ _)) ?_)
            refine (HO1.out _).mono ?_
            rintro e w5 ⟨rfl, hN5⟩
            have hQ5 := hQ3.new hN5
            have hQ6 := hQ5.row x1 h1
            have hN6 := (hNT.trans hN5).setRow hQw (rc x1 h1).toArray
            go_wp2_with (refine op_skip rfl (run_store_row 51 (.tmp 13) (.tmp 118) rfl Q rfl 51 (rc y h1) (rc x1 h1) rfl hQ5 (infoL _ _) rfl (rc_one _ _)) ?_)
            go_roundw
            case rel => exact ⟨0 + 1, by omega, by go_num, hQ6, hN6⟩
            case measure => simp [intOf]; omega
          · have hib : ((i : Int) == 0) = false := by simp; omega
            have hib' : (i == 0) = false := by simp; omega
            rw [if_neg hi0] at hRQ
            clear hi0
            go_wp2_with (refine op_value rfl (run_load_row 51 (.tmp 13) rfl Q rfl 51 (rc x1 h1).toArray (0, 0) _ hRQ Try.underlying51 rfl (infoR _ _)) ?_)
            refine (HB2.out _).mono ?_
            rintro e w3 ⟨rfl, hN3⟩
            obtain ⟨hT, hNT⟩ := ratN (hNr.trans hN3) x1 (upd h1 u (-1))
            have hQ3 := (hRQ.new hN3).old (.cells (rc x1 (upd h1 u (-1))).toArray 51)
            go_upto_region 12 with (refine op_skip rfl (run_store_new 51 (.tmp 16) (.tmp 68) rfl 51 (rc 0 zeroH) (rc x1 (upd h1 u (-1))) rfl rfl (infoL _ _) rfl (rc_one _ _)) ?_)
            obtain ⟨W4, hW4⟩ : ∃ W4, w3.alloc (.cells (rc x1 (upd h1 u (-1))).toArray 51) = W4 := ⟨_, rfl⟩
            obtain ⟨T, hTB⟩ : ∃ T, w3.heap.size = T := ⟨_, rfl⟩
            rw [hW4] at hT hNT hQ3 ⊢
            rw [hTB] at hT ⊢
            clear hW4 hTB hN3 hRQ hNr
            go_wp2_with (refine op_value rfl (run_load_row 51 (.tmp 16) rfl T rfl 51 (rc x1 (upd h1 u (-1))).toArray (0, 0) _ hT Try.underlying51 rfl (infoR _ _)) ?_)
            refine (HO2.out _).mono ?_
            rintro e w5 ⟨rfl, hN5⟩
            have hQ5 := hQ3.new hN5
            have hQ6 := hQ5.row x1 h1
            have hN6 := (hNT.trans hN5).setRow hQw (rc x1 h1).toArray
            go_wp2_with (refine op_skip rfl (run_store_row 51 (.tmp 13) (.tmp 118) rfl Q rfl 51 (rc x1 h1) (rc x1 h1) rfl hQ5 (infoL _ _) rfl (rc_one _ _)) ?_)
            go_roundw
            case rel => exact ⟨i + 1, by omega, by go_num, hQ6, hN6⟩
            case measure => simp [intOf]; omega
        · obtain rfl : i = n := by omega
          go_wp2_with fail
          refine (wakes_t _).mono ?_
          rintro e wz ⟨rfl, hNz⟩
          go_wp2_with fail
          go_ret
          exact ⟨rfl, hNr.trans hNz⟩
    · have hat2 : HoldAt ⟨y, h1⟩ u := hpush (by
        cases pb with
        | false => exact .inl rfl
        | true => exact .inr (by have : ¬ v < (u : Int) := fun h => hbt ⟨rfl, h⟩
                                 omega))
      obtain ⟨g1, g2⟩ := Hstep.out y hat2
      have HB2 := Lib.hid (begin_t y h1 hylt hin1)
      have HO2 := Lib.hid (over_t y (upd h1 u (-1)) fs (u : Int) false true hylt hinu (by omega) (by omega) (by omega) (by omega))
      rw [g1] at HB2
      rw [g2] at HO2
      unfold RetRT at HO2
      dsimp only at HB2 HO2
      clear g1 g2 Hstep hpush hbet hat2
      cases pb with
      | false =>
        clear hbt
        go_loopw [15, 16, 17, 18, 19, 20] (fun c _ _ _ _ _ wr => ∃ i : Nat, i ≤ n ∧ c = .int .i64 i ∧ RAt wr Q y h1 ∧ New w wr) (fun c _ _ _ _ _ _ => n - (intOf c).toNat)
        case atStart => exact ⟨0, Nat.zero_le _, rfl, hQ4, hNQ⟩
        case round =>
          clear hQ4 hNQ
          obtain ⟨i, hi, rfl, hRQ, hNr⟩ := hrel
          by_cases hin : i < n
          · go_wp2_with (refine op_value rfl (run_load_row 51 (.tmp 13) rfl Q rfl 51 (rc y h1).toArray (0, 0) _ hRQ Try.underlying51 rfl (infoR _ _)) ?_)
            refine (HB2.out _).mono ?_
            rintro e w3 ⟨rfl, hN3⟩
            obtain ⟨hT, hNT⟩ := ratN (hNr.trans hN3) y (upd h1 u (-1))
            have hQ3 := (hRQ.new hN3).old (.cells (rc y (upd h1 u (-1))).toArray 51)
            go_upto_region 12 with (refine op_skip rfl (run_store_new 51 (.tmp 16) (.tmp 68) rfl 51 (rc 0 zeroH) (rc y (upd h1 u (-1))) rfl rfl (infoL _ _) rfl (rc_one _ _)) ?_)
            obtain ⟨W4, hW4⟩ : ∃ W4, w3.alloc (.cells (rc y (upd h1 u (-1))).toArray 51) = W4 := ⟨_, rfl⟩
            obtain ⟨T, hTB⟩ : ∃ T, w3.heap.size = T := ⟨_, rfl⟩
            rw [hW4] at hT hNT hQ3 ⊢
            rw [hTB] at hT ⊢
            clear hW4 hTB hN3 hRQ hNr
            go_wp2_with (refine op_value rfl (run_load_row 51 (.tmp 16) rfl T rfl 51 (rc y (upd h1 u (-1))).toArray (0, 0) _ hT Try.underlying51 rfl (infoR _ _)) ?_)
            refine (HO2.out _).mono ?_
            rintro e w5 ⟨rfl, hN5⟩
            have hQ5 := hQ3.new hN5
            have hQ6 := hQ5.row y h1
            have hN6 := (hNT.trans hN5).setRow hQw (rc y h1).toArray
            go_wp2_with (refine op_skip rfl (run_store_row 51 (.tmp 13) (.tmp 118) rfl Q rfl 51 (rc y h1) (rc y h1) rfl hQ5 (infoL _ _) rfl (rc_one _ _)) ?_)
            go_roundw
            case rel => exact ⟨i + 1, by omega, by go_num, hQ6, hN6⟩
            case measure => simp [intOf]; omega
          · obtain rfl : i = n := by omega
            go_wp2_with fail
            refine (wakes_t _).mono ?_
            rintro e wz ⟨rfl, hNz⟩
            go_wp2_with fail
            go_ret
            exact ⟨rfl, hNr.trans hNz⟩
      | true =>
        have dv : decide (v < (u : Int)) = false := decide_eq_false (fun h => hbt ⟨rfl, h⟩)
        clear hbt
        go_loopw [15, 16, 17, 18, 19, 20] (fun c _ _ _ _ _ wr => ∃ i : Nat, i ≤ n ∧ c = .int .i64 i ∧ RAt wr Q y h1 ∧ New w wr) (fun c _ _ _ _ _ _ => n - (intOf c).toNat)
        case atStart => exact ⟨0, Nat.zero_le _, rfl, hQ4, hNQ⟩
        case round =>
          clear hQ4 hNQ
          obtain ⟨i, hi, rfl, hRQ, hNr⟩ := hrel
          by_cases hin : i < n
          · go_wp2_with (refine op_value rfl (run_load_row 51 (.tmp 13) rfl Q rfl 51 (rc y h1).toArray (0, 0) _ hRQ Try.underlying51 rfl (infoR _ _)) ?_)
            refine (HB2.out _).mono ?_
            rintro e w3 ⟨rfl, hN3⟩
            obtain ⟨hT, hNT⟩ := ratN (hNr.trans hN3) y (upd h1 u (-1))
            have hQ3 := (hRQ.new hN3).old (.cells (rc y (upd h1 u (-1))).toArray 51)
            go_upto_region 12 with (refine op_skip rfl (run_store_new 51 (.tmp 16) (.tmp 68) rfl 51 (rc 0 zeroH) (rc y (upd h1 u (-1))) rfl rfl (infoL _ _) rfl (rc_one _ _)) ?_)
            obtain ⟨W4, hW4⟩ : ∃ W4, w3.alloc (.cells (rc y (upd h1 u (-1))).toArray 51) = W4 := ⟨_, rfl⟩
            obtain ⟨T, hTB⟩ : ∃ T, w3.heap.size = T := ⟨_, rfl⟩
            rw [hW4] at hT hNT hQ3 ⊢
            rw [hTB] at hT ⊢
            clear hW4 hTB hN3 hRQ hNr
            go_wp2_with (refine op_value rfl (run_load_row 51 (.tmp 16) rfl T rfl 51 (rc y (upd h1 u (-1))).toArray (0, 0) _ hT Try.underlying51 rfl (infoR _ _)) ?_)
            refine (HO2.out _).mono ?_
            rintro e w5 ⟨rfl, hN5⟩
            have hQ5 := hQ3.new hN5
            have hQ6 := hQ5.row y h1
            have hN6 := (hNT.trans hN5).setRow hQw (rc y h1).toArray
            go_wp2_with (refine op_skip rfl (run_store_row 51 (.tmp 13) (.tmp 118) rfl Q rfl 51 (rc y h1) (rc y h1) rfl hQ5 (infoL _ _) rfl (rc_one _ _)) ?_)
            go_roundw
            case rel => exact ⟨i + 1, by omega, by go_num, hQ6, hN6⟩
            case measure => simp [intOf]; omega
          · obtain rfl : i = n := by omega
            go_wp2_with fail
            refine (wakes_t _).mono ?_
            rintro e wz ⟨rfl, hNz⟩
            go_wp2_with fail
            go_ret
            exact ⟨rfl, hNr.trans hNz⟩
  · have hne : (h1 u != fs) = true := by simpa using he
    obtain ⟨z, hz⟩ : ∃ z, h1 u = z := ⟨_, rfl⟩
    rw [hz] at c1 hne
    clear hz he
    go_wp2_with fail
    refine (wakes_t _).mono ?_
    rintro e wz ⟨rfl, hNz⟩
    go_wp2_with fail
    go_ret
    exact ⟨rfl, hN3.trans hNz⟩
end Go.Proofs.Ytkjloeefcaadlaa
