/- TurnOut, walked. -/
import Derived.Test.YtkjloeefcaadlaaTW
import Derived.Test.YtkjloeefcaadlaaTP4
import Derived.Test.YtkjloeefcaadlaaTX
import Derived.Test.YtkjloeefcaadlaaTD
namespace Go.Proofs.Ytkjloeefcaadlaa
open Go.RowKit Go.Shelf Go.Cs
attribute [local go_sem] Oper.semAt_some
theorem run_eql_held {o : Oper} {a : Act} {w : World} (x y : Operand) (ho : o.op = .binOp .eql 49 x y 49) (h k : Nat → Int) (hx : a.eval x = .agg (hc h).toArray) (hy : a.eval y = .agg (hc k).toArray) :
    (execOp a.eval o).run Try.prog w = .ok (.value (.bool (heldEq h k))) w := by
  have he := eq_held 9998 h k w
  unfold execOp
  simp only [ho, hx, hy, Sem.run_bind, run_eqGuard_agg w .eql 49 x y _ _ guard49, Result.andThen_ok, run_eql_struct w 49 _ _]
  rw [show (10000 : Nat) = 9998 + 2 from rfl, he]
  simp
theorem idx62 (vs : List Value) (hl : vs.length = 8) (u : Nat) (hu : u < 8) (w : World) : (Instr.index 62 (.agg vs.toArray) (.int .i64 (u : Int))).run Try.prog w = .ok (vs.getD u undef) w :=
  run_index_arr Try.underlying62 Try.underlying44 rfl (by kernel_rfl) hu (by simp [List.getD, show u < vs.length by omega]) w
set_option maxRecDepth 100000 in
set_option maxHeartbeats 2000000 in
theorem out_no (x : Nat) (h : Nat → Int) (s v : Int) (hx : x < 18446744073709551616) (hh : In8 h) (w : World) (hno : ofT x h s = none) :
    Calls Try.prog 8 #[.agg (rc x h).toArray, .int .i64 s, .int .i64 v] w fun e w' => e = .returned (.bool true) ∧ New w w' := by
  have HO := Lib.hid (out_t x h s hx hh)
  rw [outT_none hno] at HO
  unfold RetRT at HO
  dsimp only at HO
  clear hno
  have hEO : (x == x && heldEq h h) = true := by rw [heldEq_self]; simp
  have hEH : heldEq h h = true := heldEq_self h
  obtain ⟨hR0, hN0⟩ := ratN (Mods.refl (fun _ => False) w) x h
  go_enter Try.func8, Try.ntmps8
  go_wp2_with (refine op_value rfl (run_load_row 51 (.tmp 3) rfl w.heap.size rfl 51 (rc x h).toArray (0, 0) _ hR0 Try.underlying51 rfl (infoR _ _)) ?_)
  obtain ⟨P, hPB⟩ : ∃ P, w.heap.size = P := ⟨_, rfl⟩
  obtain ⟨W0, hW0⟩ : ∃ W0, w.alloc (.cells (rc x h).toArray 51) = W0 := ⟨_, rfl⟩
  rw [hW0] at hR0 hN0 ⊢
  rw [hPB] at hR0 ⊢
  clear hW0 hPB
  refine (HO.out _).mono ?_
  rintro e w1 ⟨rfl, hN1⟩
  obtain ⟨hT, hNT⟩ := ratN (hN0.trans hN1) x h
  have hR1 := (hR0.new hN1).old (.cells (rc x h).toArray 51)
  go_upto_region 2 with (refine op_skip rfl (run_store_new 51 (.tmp 7) (.tmp 21) rfl 51 (rc 0 zeroH) (rc x h) rfl rfl (infoL _ _) rfl (rc_one _ _)) ?_)
  obtain ⟨W1, hW1⟩ : ∃ W1, w1.alloc (.cells (rc x h).toArray 51) = W1 := ⟨_, rfl⟩
  obtain ⟨T, hTB⟩ : ∃ T, w1.heap.size = T := ⟨_, rfl⟩
  rw [hW1] at hNT hT hR1 ⊢
  rw [hTB] at hT ⊢
  clear hW1 hTB hR0 hN0 hN1 HO
  go_wp2_with (first | (refine op_value rfl (run_load_row 51 (.tmp 7) rfl T rfl 51 (rc x h).toArray (0, 0) _ hT Try.underlying51 rfl (infoR _ _)) ?_) | (refine op_value rfl (run_load_row 51 (.tmp 3) rfl P rfl 51 (rc x h).toArray (0, 0) _ hR1 Try.underlying51 rfl (infoR _ _)) ?_) | (refine op_value rfl (run_eql_rdy (.tmp 25) (.tmp 26) rfl x x h h rfl rfl) ?_))
  refine (wakes_t _).mono ?_
  rintro e wz ⟨rfl, hNz⟩
  go_wp2_with fail
  go_ret
  exact ⟨rfl, hNT.trans hNz⟩
set_option maxRecDepth 100000 in
set_option maxHeartbeats 4000000 in
theorem out_yes (x : Nat) (h : Nat → Int) (s v : Int) (hx : x < 18446744073709551616) (hh : In8 h) (hs1 : -9223372036854775808 ≤ s) (hs2 : s ≤ 9223372036854775807) (hv1 : -9223372036854775808 ≤ v) (hv2 : v ≤ 9223372036854775807) (w : World) {q : Int × Nat} (hq : ofT x h s = some q) :
    Calls Try.prog 8 #[.agg (rc x h).toArray, .int .i64 s, .int .i64 v] w fun e w' => e = .returned (.bool true) ∧ New w w' := by
  have hr : RS.Ok ⟨x, h⟩ := ok_of (of_some hq).2.2
  have hin := all_in hr (of_some hq).1
  rw [(of_some hq).2.1] at hin
  have hb : (outT x h s).2 = true := by
    unfold outT
    rw [hq]
    dsimp only
    split <;> rfl
  have HO := Lib.hid (out_t x h s hx hh)
  have ho := hr.out s
  have hof := fun t => of_out hr s t
  obtain ⟨⟨⟨ox, oh⟩, ob⟩, hoo⟩ : ∃ o, outT x h s = o := ⟨_, rfl⟩
  dsimp only at ho hof
  rw [hoo] at HO ho hof hb
  dsimp only at hb hof ho
  subst hb
  unfold RetRT at HO
  dsimp only at HO
  clear hoo hq hr
  obtain ⟨hs0, hs8, _⟩ := hin
  have HA := Lib.hid (fun t : Int => of_t ox oh t ho.lt ho.in8)
  have HB := Lib.hid (fun t : Int => of_t x h t hx hh)
  have Hof := Lib.hid hof
  have HP := Lib.hid (push_t ox oh s v ho.lt ho.in8 hs1 hs2 hv1 hv2)
  have hn : ofT ox oh s = none := by rw [hof s, if_pos rfl]
  clear hof
  obtain ⟨hR0, hN0⟩ := ratN (Mods.refl (fun _ => False) w) x h
  go_enter Try.func8, Try.ntmps8
  go_wp2_with (refine op_value rfl (run_load_row 51 (.tmp 3) rfl w.heap.size rfl 51 (rc x h).toArray (0, 0) _ hR0 Try.underlying51 rfl (infoR _ _)) ?_)
  obtain ⟨P, hPB⟩ : ∃ P, w.heap.size = P := ⟨_, rfl⟩
  obtain ⟨W0, hW0⟩ : ∃ W0, w.alloc (.cells (rc x h).toArray 51) = W0 := ⟨_, rfl⟩
  rw [hW0] at hR0 hN0 ⊢
  rw [hPB] at hR0 ⊢
  clear hW0 hPB
  refine (HO.out _).mono ?_
  rintro e w1 ⟨rfl, hN1⟩
  obtain ⟨hT, hNT⟩ := ratN (hN0.trans hN1) ox oh
  have hR1 := (hR0.new hN1).old (.cells (rc ox oh).toArray 51)
  go_upto_region 2 with (refine op_skip rfl (run_store_new 51 (.tmp 7) (.tmp 21) rfl 51 (rc 0 zeroH) (rc ox oh) rfl rfl (infoL _ _) rfl (rc_one _ _)) ?_)
  obtain ⟨W1, hW1⟩ : ∃ W1, w1.alloc (.cells (rc ox oh).toArray 51) = W1 := ⟨_, rfl⟩
  obtain ⟨T, hTB⟩ : ∃ T, w1.heap.size = T := ⟨_, rfl⟩
  rw [hW1] at hNT hT hR1 ⊢
  rw [hTB] at hT ⊢
  clear hW1 hTB hR0 hN0 hN1 HO
  go_wp2_with fail
  go_loopw [9, 10, 11, 12, 13] (fun c _ _ _ _ wr => ∃ j : Nat, j ≤ 8 ∧ c = .int .i64 j ∧ New W1 wr) (fun c _ _ _ _ _ => 8 - (intOf c).toNat)
  case atStart => exact ⟨0, by omega, rfl, Mods.refl _ _⟩
  case round =>
    obtain ⟨j, hj, rfl, hNr⟩ := hrel
    have hTr := hT.new hNr
    have hRr := hR1.new hNr
    by_cases hj8 : j < 8
    · have hjd : decide ((j : Int) < 8) = true := by simp; omega
      have HAj := Lib.hid (HA.out j)
      have HBj := Lib.hid (HB.out j)
      have hoj := Hof.out j
      by_cases hjs : (j : Int) = s
      · have e1 : ((j : Int) == s) = true := by simpa using hjs
        have e2 : ((j : Int) != s) = false := by simpa using hjs
        rw [if_pos hjs] at hoj
        rw [hoj] at HAj
        obtain ⟨o2, ho2⟩ : ∃ o2, ofT x h (j : Int) = o2 := ⟨_, rfl⟩
        rw [ho2] at HBj
        unfold pairO at HAj HBj
        simp only [Option.map_none, Option.getD_none, Option.isSome_none] at HAj
        obtain ⟨u2, hu2⟩ : ∃ u, (o2.map (·.2)).getD 0 = u := ⟨_, rfl⟩
        obtain ⟨b2, hb2⟩ : ∃ u, o2.isSome = u := ⟨_, rfl⟩
        rw [hu2, hb2] at HBj
        clear hjs hoj ho2 hu2 hb2
        go_wp2_with (refine op_value rfl (run_load_row 51 (.tmp 7) rfl T rfl 51 (rc ox oh).toArray (0, 0) _ hTr Try.underlying51 rfl (infoR _ _)) ?_)
        refine (HAj.out _).mono ?_
        rintro e w3 ⟨rfl, hN3⟩
        have hR3 := hRr.new hN3
        go_wp2_with (refine op_value rfl (run_load_row 51 (.tmp 3) rfl P rfl 51 (rc x h).toArray (0, 0) _ hR3 Try.underlying51 rfl (infoR _ _)) ?_)
        refine (HBj.out _).mono ?_
        rintro e w4 ⟨rfl, hN4⟩
        go_wp2_with fail
        go_roundw
        case rel => exact ⟨j + 1, by omega, by go_num, (hNr.trans hN3).trans hN4⟩
        case measure => simp [intOf]; omega
      · have e1 : ((j : Int) == s) = false := by simpa using hjs
        have e2 : ((j : Int) != s) = true := by simpa using hjs
        rw [if_neg hjs] at hoj
        rw [hoj] at HAj
        obtain ⟨o2, ho2⟩ : ∃ o2, ofT x h (j : Int) = o2 := ⟨_, rfl⟩
        rw [ho2] at HBj HAj
        unfold pairO at HAj HBj
        obtain ⟨u2, hu2⟩ : ∃ u, (o2.map (·.2)).getD 0 = u := ⟨_, rfl⟩
        obtain ⟨b2, hb2⟩ : ∃ u, o2.isSome = u := ⟨_, rfl⟩
        rw [hu2, hb2] at HBj HAj
        clear hjs hoj ho2 hu2 hb2
        go_wp2_with (refine op_value rfl (run_load_row 51 (.tmp 7) rfl T rfl 51 (rc ox oh).toArray (0, 0) _ hTr Try.underlying51 rfl (infoR _ _)) ?_)
        refine (HAj.out _).mono ?_
        rintro e w3 ⟨rfl, hN3⟩
        have hR3 := hRr.new hN3
        go_wp2_with (refine op_value rfl (run_load_row 51 (.tmp 3) rfl P rfl 51 (rc x h).toArray (0, 0) _ hR3 Try.underlying51 rfl (infoR _ _)) ?_)
        refine (HBj.out _).mono ?_
        rintro e w4 ⟨rfl, hN4⟩
        cases b2
        all_goals
          go_wp2_with fail
          go_roundw
          case rel => exact ⟨j + 1, by omega, by go_num, (hNr.trans hN3).trans hN4⟩
          case measure => simp [intOf]; omega
    · clear HA HB Hof
      have hNb := hNT.trans hNr
      clear hNT hNr hRr hR1 hT
      by_cases hv8 : 0 ≤ v ∧ v < 8
      · obtain ⟨v0, v8⟩ := hv8
        obtain ⟨v, rfl⟩ := Int.eq_ofNat_of_zero_le v0
        obtain ⟨s, rfl⟩ := Int.eq_ofNat_of_zero_le hs0
        obtain ⟨lo, hlo, hvt⟩ := ho
        dsimp only at hlo hvt
        subst hlo
        have hpu := push_yesT hvt hn (show s < 8 by omega) (show v < 8 by omega)
        have hvi := hvt.ins hn (show s < 8 by omega) (show v < 8 by omega)
        rw [hpu] at HP
        unfold RetRT at HP
        dsimp only at HP
        have HRo := Lib.hid (fun w => rows_ref hvi.ok w)
        have hrow := row_ins lo s v
        obtain ⟨z, hz⟩ : ∃ z, enc (insL lo s v) = z := ⟨_, rfl⟩
        obtain ⟨ox, hox⟩ : ∃ z, enc lo = z := ⟨_, rfl⟩
        rw [hz] at HP HRo
        rw [hox] at HP hTr ⊢
        have dv : decide ((v : Int) < 8) = true := by simp; omega
        have dv0 : decide (0 ≤ (v : Int)) = true := by simp
        obtain ⟨X, hX⟩ : ∃ X, rowL (insL lo s v) = X := ⟨_, rfl⟩
        rw [hX] at hrow HRo
        obtain ⟨L, hL⟩ : ∃ L, rowL lo v = L := ⟨_, rfl⟩
        rw [hL] at hrow
        have hEH : heldEq oh oh = true := heldEq_self oh
        have v8' : v < 8 := by omega
        clear hpu hvi hvt hn hz hox hX hL v0 v8 hs0 hs1 hs2 hv1 hv2
        go_wp2_with (refine op_value rfl (run_load_row 51 (.tmp 7) rfl T rfl 51 (rc ox oh).toArray (0, 0) _ hTr Try.underlying51 rfl (infoR _ _)) ?_)
        refine (HP.out _).mono ?_
        rintro e w5 ⟨rfl, hN5⟩
        obtain ⟨hS, hNS⟩ := ratN (hNb.trans hN5) z oh
        have hT5 := (hTr.new hN5).old (.cells (rc z oh).toArray 51)
        go_upto_region 12 with (refine op_skip rfl (run_store_new 51 (.tmp 14) (.tmp 73) rfl 51 (rc 0 zeroH) (rc z oh) rfl rfl (infoL _ _) rfl (rc_one _ _)) ?_)
        obtain ⟨W6, hW6⟩ : ∃ W6, w5.alloc (.cells (rc z oh).toArray 51) = W6 := ⟨_, rfl⟩
        obtain ⟨N, hNB⟩ : ∃ N, w5.heap.size = N := ⟨_, rfl⟩
        rw [hW6] at hS hNS hT5 ⊢
        rw [hNB] at hS ⊢
        clear hW6 hNB hTr hN5 hNb HP
        have cw := hS.cell
        go_wp2_with fail
        refine (HRo.out _).mono ?_
        rintro e w7 ⟨va, rfl, ⟨vs, rfl, hvl, hown⟩, hN7⟩
        have hS7 := hS.new hN7
        have hT7 := hT5.new hN7
        have hNf := hNS.trans hN7
        have hidx := idx62 vs hvl v v8'
        have hrd := ReadsI.ofOwns (hown v v8')
        rw [hrow] at hrd
        obtain ⟨m, hm⟩ : ∃ m, L.length = m := ⟨_, rfl⟩
        obtain ⟨hlen, ao, cap, hva, hcl⟩ := hrd
        rw [List.length_append, hm, List.length_singleton] at hva hlen hcl
        obtain ⟨b, o, rfl, hlast⟩ := hcl m (by omega)
        rw [show (L ++ [(s : Int)]).getD m 0 = (s : Int) by rw [List.getD, List.getElem?_append_right (by omega), hm]; simp] at hlast
        rw [hva] at hidx
        have hH1 := hS7.held
        have hH2 := hT7.held
        clear hva hcl hown hvl hrow hm hS hT5 hNS cw
        go_wp2_with (first | (refine op_value_g rfl (run_load_mid 49 (.tmp 110) rfl N 1 rfl (hc oh) _ hH1 Try.underlying49 rfl info49) ?_) | (refine op_value_g rfl (run_load_mid 49 (.tmp 112) rfl T 1 rfl (hc oh) _ hH2 Try.underlying49 rfl info49) ?_) | (refine op_value_g rfl (run_eql_held (.tmp 111) (.tmp 113) rfl oh oh rfl rfl) ?_))
        refine (wakes_t _).mono ?_
        rintro e wz ⟨rfl, hNz⟩
        go_wp2_with fail
        go_ret
        exact ⟨rfl, hNf.trans hNz⟩
      · have hpn : pushT ox oh s v = (ox, false) := by
          obtain ⟨lo, hlo, hvt⟩ := ho
          dsimp only at hlo hvt
          rw [hlo]
          exact push_noT hvt (by rintro ⟨_, _, _, h3, h4⟩; exact hv8 ⟨h3, h4⟩)
        rw [hpn] at HP
        unfold RetRT at HP
        dsimp only at HP
        have hEH : heldEq oh oh = true := heldEq_self oh
        clear hpn ho hn
        go_wp2_with (refine op_value rfl (run_load_row 51 (.tmp 7) rfl T rfl 51 (rc ox oh).toArray (0, 0) _ hTr Try.underlying51 rfl (infoR _ _)) ?_)
        refine (HP.out _).mono ?_
        rintro e w5 ⟨rfl, hN5⟩
        obtain ⟨hS, hNS⟩ := ratN (hNb.trans hN5) ox oh
        have hT5 := (hTr.new hN5).old (.cells (rc ox oh).toArray 51)
        go_upto_region 12 with (refine op_skip rfl (run_store_new 51 (.tmp 14) (.tmp 73) rfl 51 (rc 0 zeroH) (rc ox oh) rfl rfl (infoL _ _) rfl (rc_one _ _)) ?_)
        obtain ⟨W6, hW6⟩ : ∃ W6, w5.alloc (.cells (rc ox oh).toArray 51) = W6 := ⟨_, rfl⟩
        obtain ⟨N, hNB⟩ : ∃ N, w5.heap.size = N := ⟨_, rfl⟩
        rw [hW6] at hS hNS hT5 ⊢
        rw [hNB] at hS ⊢
        clear hW6 hNB hTr hN5 hNb HP
        by_cases hv0 : 0 ≤ v
        · have d1 : decide (0 ≤ v) = true := decide_eq_true hv0
          have d2 : decide (v < 8) = false := decide_eq_false (fun h => hv8 ⟨hv0, h⟩)
          clear hv0 hv8
          go_wp2_with (first | (refine op_value rfl (run_load_row 51 (.tmp 14) rfl N rfl 51 (rc ox oh).toArray (0, 0) _ hS Try.underlying51 rfl (infoR _ _)) ?_) | (refine op_value rfl (run_load_row 51 (.tmp 7) rfl T rfl 51 (rc ox oh).toArray (0, 0) _ hT5 Try.underlying51 rfl (infoR _ _)) ?_) | (refine op_value rfl (run_eql_rdy (.tmp 85) (.tmp 86) rfl ox ox oh oh rfl rfl) ?_))
          refine (wakes_t _).mono ?_
          rintro e wz ⟨rfl, hNz⟩
          go_wp2_with fail
          go_ret
          exact ⟨rfl, hNS.trans hNz⟩
        · have d1 : decide (0 ≤ v) = false := decide_eq_false hv0
          clear hv0 hv8
          go_wp2_with (first | (refine op_value rfl (run_load_row 51 (.tmp 14) rfl N rfl 51 (rc ox oh).toArray (0, 0) _ hS Try.underlying51 rfl (infoR _ _)) ?_) | (refine op_value rfl (run_load_row 51 (.tmp 7) rfl T rfl 51 (rc ox oh).toArray (0, 0) _ hT5 Try.underlying51 rfl (infoR _ _)) ?_) | (refine op_value rfl (run_eql_rdy (.tmp 85) (.tmp 86) rfl ox ox oh oh rfl rfl) ?_))
          refine (wakes_t _).mono ?_
          rintro e wz ⟨rfl, hNz⟩
          go_wp2_with fail
          go_ret
          exact ⟨rfl, hNS.trans hNz⟩
end Go.Proofs.Ytkjloeefcaadlaa
