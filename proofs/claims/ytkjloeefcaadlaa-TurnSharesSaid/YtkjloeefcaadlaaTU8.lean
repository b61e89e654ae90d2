/- A turn is over; nobody is ready. -/
import Derived.Test.YtkjloeefcaadlaaTU7
import Derived.Test.YtkjloeefcaadlaaTP3
namespace Go.Proofs.Ytkjloeefcaadlaa
open Go.RowKit Go.Shelf Go.Cs
attribute [local go_sem] Oper.semAt_some
set_option maxRecDepth 100000 in
set_option maxHeartbeats 1000000 in
theorem over_t (x : Nat) (h : Nat → Int) (s u : Int) (inc rdy : Bool) (hx : x < 18446744073709551616) (hh : In8 h) (hs1 : -9223372036854775808 ≤ s) (hs2 : s ≤ 9223372036854775807) (hu1 : -9223372036854775808 ≤ u) (hu2 : u ≤ 9223372036854775807) (w : World) :
    Calls Try.prog 43 #[.agg (rc x h).toArray, .int .i64 s, .int .i64 u, .bool inc, .bool rdy] w (RetRT w (overT x h s u inc rdy)) := by
  have HF := Lib.hid (of_t x h s hx hh)
  have HS := Lib.hid (fun w => number_t s w hs1 hs2)
  have HU := Lib.hid (fun w => number_t u w hu1 hu2)
  have HR := Lib.hid (right_t x h hx hh)
  have HP := Lib.hid (push_t x h s u hx hh hs1 hs2 hu1 hu2)
  obtain ⟨g, hg⟩ : ∃ g, pushT x h s u = g := ⟨_, rfl⟩
  obtain ⟨z, zb⟩ := g
  rw [hg] at HP
  obtain ⟨r, hr⟩ : ∃ r, overT x h s u inc rdy = r := ⟨_, rfl⟩
  obtain ⟨o, ho⟩ : ∃ o, ofT x h s = o := ⟨_, rfl⟩
  obtain ⟨ns, hns⟩ : ∃ o, numB s = o := ⟨_, rfl⟩
  obtain ⟨nu, hnu⟩ : ∃ o, numB u = o := ⟨_, rfl⟩
  obtain ⟨b, hb⟩ : ∃ o, rightT x h = o := ⟨_, rfl⟩
  have hp1 : (o.isNone && (ns && (nu && b))) = false → r = (⟨x, h⟩, false) := fun e => by rw [← hr, overT, ho, hns, hnu, hb, e]; rfl
  have hp2 : (o.isNone && (ns && (nu && b))) = true → rdy = false → r = (⟨x, h⟩, true) := fun e e2 => by rw [← hr, overT, ho, hns, hnu, hb, e, e2]; rfl
  have hp3 : (o.isNone && (ns && (nu && b))) = true → rdy = true → (inc || decide (0 ≤ h u.toNat)) = true → r = (⟨z, h⟩, zb) := fun e e2 e3 => by rw [← hr, overT, ho, hns, hnu, hb, e, e2, hg, e3]; rfl
  have hp4 : (o.isNone && (ns && (nu && b))) = true → rdy = true → (inc || decide (0 ≤ h u.toNat)) = false → r = (⟨x, Ytkjloeefcaadlaa.upd h u.toNat s⟩, true) := fun e e2 e3 => by rw [← hr, overT, ho, hns, hnu, hb, e, e2, e3]; rfl
  have hu8 : nu = true → 0 ≤ u ∧ u < 8 := fun e => numB_iff.1 (hnu.trans e)
  rw [hr]
  rw [ho] at HF
  rw [hns] at HS
  rw [hnu] at HU
  rw [hb] at HR
  unfold RetRT at HP
  dsimp only at HP
  have Hp1 := Lib.hid hp1
  have Hp2 := Lib.hid hp2
  have Hp3 := Lib.hid hp3
  have Hp4 := Lib.hid hp4
  have Hu8 := Lib.hid hu8
  clear hp1 hp2 hp3 hp4 hr hg ho hns hnu hb hh hu8
  have hR0 : RAt ((w.alloc (.cells (rc x h).toArray 51)).alloc (.cells #[.int .u64 0, .int .i64 0, .int .i64 0, .int .i64 0, .int .i64 0, .int .i64 0, .int .i64 0, .int .i64 0, .int .i64 0] 51)) w.heap.size x h := ((Mods.refl (fun _ => False) _).alloc _).heap (World.alloc_heap_new w _) id
  have hQ0 : RAt ((w.alloc (.cells (rc x h).toArray 51)).alloc (.cells #[.int .u64 0, .int .i64 0, .int .i64 0, .int .i64 0, .int .i64 0, .int .i64 0, .int .i64 0, .int .i64 0, .int .i64 0] 51)) (w.heap.size + 1) 0 zeroH := by
    have := World.alloc_heap_new (w.alloc (.cells (rc x h).toArray 51)) (.cells #[.int .u64 0, .int .i64 0, .int .i64 0, .int .i64 0, .int .i64 0, .int .i64 0, .int .i64 0, .int .i64 0, .int .i64 0] 51)
    rw [World.size_alloc] at this
    exact this
  have hsz : w.heap.size ≤ w.heap.size + 1 := by omega
  go_enter Try.func43, Try.ntmps43
  go_wp2_with (refine op_value rfl (run_load_row 51 (.tmp 5) rfl w.heap.size rfl 51 (rc x h).toArray (0, 0) _ hR0 Try.underlying51 rfl (infoR _ _)) ?_)
  obtain ⟨W0, hW0⟩ : ∃ W0, (w.alloc (.cells (rc x h).toArray 51)).alloc (.cells #[.int .u64 0, .int .i64 0, .int .i64 0, .int .i64 0, .int .i64 0, .int .i64 0, .int .i64 0, .int .i64 0, .int .i64 0] 51) = W0 := ⟨_, rfl⟩
  have hN0 : New w W0 := by rw [← hW0]; exact ((Mods.refl _ _).alloc _).alloc _
  rw [hW0] at hR0 hQ0 ⊢
  clear hW0
  refine (HF.out _).mono ?_
  rintro e w1 ⟨rfl, hN1'⟩
  have hR1 := hR0.mods hN1' id
  have hQ1 := hQ0.mods hN1' id
  have hN1 := hN0.trans hN1'
  clear hR0 hQ0 hN0 hN1'
  unfold pairO
  cases o with
  | some p =>
    simp only [Option.map_some, Option.getD_some, Option.isSome_some]
    obtain rfl := Hp1.out rfl
    go_wp2_with (first | (with_reducible refine ⟨fun f hf => (by cases hf), ?_⟩) | (refine op_value rfl (run_load_row 51 (.tmp 5) rfl w.heap.size rfl 51 (rc x h).toArray (0, 0) _ hR1 Try.underlying51 rfl (infoR _ _)) ?_) | (refine op_skip rfl (run_store_row 51 (.tmp 10) (.tmp 36) rfl (w.heap.size + 1) rfl 51 (rc 0 zeroH) (rc x h) rfl hQ1 (infoL _ _) rfl (rc_one _ _)) ?_))
    exact bodyPost_ret (v := .tuple #[.agg (rc x h).toArray, .bool false]) (results_row2 (fn := Try.f43) (p := 10) (q := 11) (v := .bool false) rfl _ _ (w.heap.size + 1) 51 (rc x h).toArray (0, 0) _ rfl (hQ1.row x h) Try.underlying51 rfl (infoR _ _) rfl) rfl ⟨rfl, hN1.setRow hsz _⟩
  | none =>
    simp only [Option.map_none, Option.getD_none, Option.isSome_none]
    go_wp2_with fail
    refine (HS.out _).mono ?_
    rintro e w2 ⟨rfl, rfl⟩
    cases ns with
    | false =>
      obtain rfl := Hp1.out rfl
      go_wp2_with (first | (with_reducible refine ⟨fun f hf => (by cases hf), ?_⟩) | (refine op_value rfl (run_load_row 51 (.tmp 5) rfl w.heap.size rfl 51 (rc x h).toArray (0, 0) _ hR1 Try.underlying51 rfl (infoR _ _)) ?_) | (refine op_skip rfl (run_store_row 51 (.tmp 10) (.tmp 36) rfl (w.heap.size + 1) rfl 51 (rc 0 zeroH) (rc x h) rfl hQ1 (infoL _ _) rfl (rc_one _ _)) ?_))
      exact bodyPost_ret (v := .tuple #[.agg (rc x h).toArray, .bool false]) (results_row2 (fn := Try.f43) (p := 10) (q := 11) (v := .bool false) rfl _ _ (w.heap.size + 1) 51 (rc x h).toArray (0, 0) _ rfl (hQ1.row x h) Try.underlying51 rfl (infoR _ _) rfl) rfl ⟨rfl, hN1.setRow hsz _⟩
    | true =>
      go_wp2_with fail
      refine (HU.out _).mono ?_
      rintro e w3 ⟨rfl, rfl⟩
      cases nu with
      | false =>
        obtain rfl := Hp1.out rfl
        go_wp2_with (first | (with_reducible refine ⟨fun f hf => (by cases hf), ?_⟩) | (refine op_value rfl (run_load_row 51 (.tmp 5) rfl w.heap.size rfl 51 (rc x h).toArray (0, 0) _ hR1 Try.underlying51 rfl (infoR _ _)) ?_) | (refine op_skip rfl (run_store_row 51 (.tmp 10) (.tmp 36) rfl (w.heap.size + 1) rfl 51 (rc 0 zeroH) (rc x h) rfl hQ1 (infoL _ _) rfl (rc_one _ _)) ?_))
        exact bodyPost_ret (v := .tuple #[.agg (rc x h).toArray, .bool false]) (results_row2 (fn := Try.f43) (p := 10) (q := 11) (v := .bool false) rfl _ _ (w.heap.size + 1) 51 (rc x h).toArray (0, 0) _ rfl (hQ1.row x h) Try.underlying51 rfl (infoR _ _) rfl) rfl ⟨rfl, hN1.setRow hsz _⟩
      | true =>
        obtain ⟨hu0, hu8⟩ := Hu8.out rfl
        go_wp2_with (first | (refine op_value rfl (run_load_row 51 (.tmp 5) rfl w.heap.size rfl 51 (rc x h).toArray (0, 0) _ hR1 Try.underlying51 rfl (infoR _ _)) ?_) | (refine op_value_g rfl (run_load_row 51 (.tmp 5) rfl w.heap.size rfl 51 (rc x h).toArray (0, 0) _ hR1 Try.underlying51 rfl (infoR _ _)) ?_))
        refine (HR.out _).mono ?_
        rintro e w2 ⟨rfl, hN2'⟩
        have hR2 := hR1.mods hN2' id
        have hQ2 := hQ1.mods hN2' id
        have hN2 := hN1.trans hN2'
        clear hR1 hQ1 hN1 hN2'
        cases b with
        | false =>
          obtain rfl := Hp1.out rfl
          go_wp2_with (first | (with_reducible refine ⟨fun f hf => (by cases hf), ?_⟩) | (refine op_value rfl (run_load_row 51 (.tmp 5) rfl w.heap.size rfl 51 (rc x h).toArray (0, 0) _ hR2 Try.underlying51 rfl (infoR _ _)) ?_) | (refine op_skip rfl (run_store_row 51 (.tmp 10) (.tmp 36) rfl (w.heap.size + 1) rfl 51 (rc 0 zeroH) (rc x h) rfl hQ2 (infoL _ _) rfl (rc_one _ _)) ?_))
          exact bodyPost_ret (v := .tuple #[.agg (rc x h).toArray, .bool false]) (results_row2 (fn := Try.f43) (p := 10) (q := 11) (v := .bool false) rfl _ _ (w.heap.size + 1) 51 (rc x h).toArray (0, 0) _ rfl (hQ2.row x h) Try.underlying51 rfl (infoR _ _) rfl) rfl ⟨rfl, hN2.setRow hsz _⟩
        | true =>
          obtain ⟨u, rfl⟩ := Int.eq_ofNat_of_zero_le hu0
          have hu8' : u < 8 := by omega
          clear hu0 hu8 Hp1
          cases rdy with
          | false =>
            obtain rfl := Hp2.out rfl rfl
            go_wp2_with (first | (refine op_value rfl (run_load_row 51 (.tmp 5) rfl w.heap.size rfl 51 (rc x h).toArray (0, 0) _ hR2 Try.underlying51 rfl (infoR _ _)) ?_) | (refine op_skip rfl (run_store_row 51 (.tmp 10) (.tmp 40) rfl (w.heap.size + 1) rfl 51 (rc 0 zeroH) (rc x h) rfl hQ2 (infoL _ _) rfl (rc_one _ _)) ?_))
            exact bodyPost_ret (v := .tuple #[.agg (rc x h).toArray, .bool true]) (results_row2 (fn := Try.f43) (p := 10) (q := 11) (v := .bool true) rfl _ _ (w.heap.size + 1) 51 (rc x h).toArray (0, 0) _ rfl (hQ2.row x h) Try.underlying51 rfl (infoR _ _) rfl) rfl ⟨rfl, hN2.setRow hsz _⟩
          | true =>
            have c1 := hR2.at hu8'
            have f1 := hR2.frozen (1 + u)
            obtain ⟨y, hy⟩ : ∃ y, h u = y := ⟨_, rfl⟩
            have Hy := Lib.hid hy
            rw [hy] at c1
            clear hy Hp2
            have HP3 : Hid ((inc || decide (0 ≤ y)) = true → r = (⟨z, h⟩, zb)) := Lib.hid (fun e => Hp3.out rfl rfl (by rw [Int.toNat_natCast, Hy.out]; exact e))
            have HP4 : Hid ((inc || decide (0 ≤ y)) = false → r = (⟨x, Ytkjloeefcaadlaa.upd h u s⟩, true)) := Lib.hid (fun e => by have := Hp4.out rfl rfl (by rw [Int.toNat_natCast, Hy.out]; exact e); rwa [Int.toNat_natCast] at this)
            clear Hp3 Hp4
            cases inc with
            | true =>
              obtain rfl := HP3.out rfl
              go_wp2_with (refine op_value rfl (run_load_row 51 (.tmp 5) rfl w.heap.size rfl 51 (rc x h).toArray (0, 0) _ hR2 Try.underlying51 rfl (infoR _ _)) ?_)
              refine (HP.out _).mono ?_
              rintro e w3 ⟨rfl, hN3'⟩
              have hR3 := hR2.mods hN3' id
              have hQ3 := hQ2.mods hN3' id
              have hN3 := hN2.trans hN3'
              clear hR2 hQ2 hN2 hN3'
              go_wp2_with (refine op_skip rfl (run_store_row 51 (.tmp 10) (.tmp 52) rfl (w.heap.size + 1) rfl 51 (rc 0 zeroH) (rc z h) rfl hQ3 (infoL _ _) rfl (rc_one _ _)) ?_)
              exact bodyPost_ret (v := .tuple #[.agg (rc z h).toArray, .bool zb]) (results_row2 (fn := Try.f43) (p := 10) (q := 11) (v := .bool zb) rfl _ _ (w.heap.size + 1) 51 (rc z h).toArray (0, 0) _ rfl (hQ3.row z h) Try.underlying51 rfl (infoR _ _) rfl) rfl ⟨rfl, hN3.setRow hsz _⟩
            | false =>
              by_cases hy0 : 0 ≤ y
              · have hd : decide (0 ≤ y) = true := decide_eq_true hy0
                obtain rfl := HP3.out (by rw [hd]; rfl)
                clear hy0
                go_wp2_with (refine op_value rfl (run_load_row 51 (.tmp 5) rfl w.heap.size rfl 51 (rc x h).toArray (0, 0) _ hR2 Try.underlying51 rfl (infoR _ _)) ?_)
                refine (HP.out _).mono ?_
                rintro e w3 ⟨rfl, hN3'⟩
                have hR3 := hR2.mods hN3' id
                have hQ3 := hQ2.mods hN3' id
                have hN3 := hN2.trans hN3'
                clear hR2 hQ2 hN2 hN3'
                go_wp2_with (refine op_skip rfl (run_store_row 51 (.tmp 10) (.tmp 52) rfl (w.heap.size + 1) rfl 51 (rc 0 zeroH) (rc z h) rfl hQ3 (infoL _ _) rfl (rc_one _ _)) ?_)
                exact bodyPost_ret (v := .tuple #[.agg (rc z h).toArray, .bool zb]) (results_row2 (fn := Try.f43) (p := 10) (q := 11) (v := .bool zb) rfl _ _ (w.heap.size + 1) 51 (rc z h).toArray (0, 0) _ rfl (hQ3.row z h) Try.underlying51 rfl (infoR _ _) rfl) rfl ⟨rfl, hN3.setRow hsz _⟩
              · have hd : decide (0 ≤ y) = false := decide_eq_false hy0
                obtain rfl := HP4.out (by rw [hd]; rfl)
                have hR3 := hR2.hold hu8' s
                have hQ3 : RAt (w2.setCell ⟨w.heap.size, 1 + u, none⟩ (.int .i64 s)) (w.heap.size + 1) 0 zeroH := hQ2.other (by omega) _
                have hN3 : New w (w2.setCell ⟨w.heap.size, 1 + u, none⟩ (.int .i64 s)) := hN2.setCell (p := ⟨w.heap.size, 1 + u, none⟩) (.inl (by simp)) _
                clear hy0
                go_wp2_with (first | (refine op_value rfl (run_load_row 51 (.tmp 5) rfl w.heap.size rfl 51 (rc x (Ytkjloeefcaadlaa.upd h u s)).toArray (0, 0) _ hR3 Try.underlying51 rfl (infoR _ _)) ?_) | (refine op_skip rfl (run_store_row 51 (.tmp 10) (.tmp 58) rfl (w.heap.size + 1) rfl 51 (rc 0 zeroH) (rc x (Ytkjloeefcaadlaa.upd h u s)) rfl hQ3 (infoL _ _) rfl (rc_one _ _)) ?_))
                exact bodyPost_ret (v := .tuple #[.agg (rc x (Ytkjloeefcaadlaa.upd h u s)).toArray, .bool true]) (results_row2 (fn := Try.f43) (p := 10) (q := 11) (v := .bool true) rfl _ _ (w.heap.size + 1) 51 (rc x (Ytkjloeefcaadlaa.upd h u s)).toArray (0, 0) _ rfl (hQ3.row x (Ytkjloeefcaadlaa.upd h u s)) Try.underlying51 rfl (infoR _ _) rfl) rfl ⟨rfl, hN3.setRow hsz _⟩
/-- The first ones are nobody. -/
def upTo (u : Nat) : Nat → Int := fun i => if i < u then -1 else 0
theorem upTo_next (u : Nat) : Ytkjloeefcaadlaa.upd (upTo u) u (-1) = upTo (u + 1) := by
  funext i
  unfold Ytkjloeefcaadlaa.upd upTo
  split
  · rw [if_pos (by omega)]
  · split
    · rw [if_pos (by omega)]
    · rw [if_neg (by omega)]
theorem rc_nobody : rc 0 (upTo 8) = rc 0 nobody := rfl
set_option maxRecDepth 100000 in
theorem new_t (w : World) : Calls Try.prog 35 #[] w fun e w' => e = .returned (.agg (rc 0 nobody).toArray) ∧ New w w' := by
  rw [← rc_nobody]
  have hQ0 : RAt (w.alloc (.cells #[.int .u64 0, .int .i64 0, .int .i64 0, .int .i64 0, .int .i64 0, .int .i64 0, .int .i64 0, .int .i64 0, .int .i64 0] 51)) w.heap.size 0 (upTo 0) := World.alloc_heap_new w _
  go_enter Try.func35, Try.ntmps35
  go_wp2_with fail
  obtain ⟨W0, hW0⟩ : ∃ W0, w.alloc (.cells #[.int .u64 0, .int .i64 0, .int .i64 0, .int .i64 0, .int .i64 0, .int .i64 0, .int .i64 0, .int .i64 0, .int .i64 0] 51) = W0 := ⟨_, rfl⟩
  have hN0 : New w W0 := by rw [← hW0]; exact (Mods.refl _ _).alloc _
  rw [hW0] at hQ0 ⊢
  clear hW0
  go_loopw [2] (fun c wr => ∃ u : Nat, u ≤ 8 ∧ c = .int .i64 u ∧ RAt wr w.heap.size 0 (upTo u) ∧ New w wr) (fun c _ => 8 - (intOf c).toNat)
  case atStart => exact ⟨0, by omega, rfl, hQ0, hN0⟩
  case round =>
    obtain ⟨u, hu, rfl, hQ, hN⟩ := hrel
    by_cases hu8 : u < 8
    · have hud : decide ((u : Int) < 8) = true := by simp; omega
      have c1 := hQ.at hu8
      have f1 := hQ.frozen (1 + u)
      have hQ' := hQ.hold hu8 (-1)
      rw [upTo_next] at hQ'
      have hN' : New w (wr.setCell ⟨w.heap.size, 1 + u, none⟩ (.int .i64 (-1))) := hN.setCell (p := ⟨w.heap.size, 1 + u, none⟩) (.inl (by simp)) _
      have HQ := Lib.hid hQ'
      have HN := Lib.hid hN'
      clear hQ' hN' hQ hN hQ0 hN0
      go_wp2_with fail
      go_roundw
      case rel => exact ⟨u + 1, by omega, by go_num, HQ.out, HN.out⟩
      case measure => simp [intOf]; omega
    · obtain rfl : u = 8 := by omega
      go_wp2_with (first | (refine op_value rfl (run_load_row 51 (.tmp 0) rfl w.heap.size rfl 51 (rc 0 (upTo 8)).toArray (0, 0) _ hQ Try.underlying51 rfl (infoR _ _)) ?_) | (refine op_skip rfl (run_store_row 51 (.tmp 0) (.tmp 9) rfl w.heap.size rfl 51 (rc 0 (upTo 8)) (rc 0 (upTo 8)) rfl hQ (infoL _ _) rfl (rc_one _ _)) ?_))
      have hQ2 := hQ.row 0 (upTo 8)
      refine bodyPost_ret (v := .agg (rc 0 (upTo 8)).toArray) ?_ rfl ⟨rfl, hN.setRow (Nat.le_refl _) _⟩
      exact results_cell_row rfl _ _ w.heap.size 51 _ (0, 0) _ rfl hQ2 Try.underlying51 rfl (infoR _ _)
end Go.Proofs.Ytkjloeefcaadlaa
