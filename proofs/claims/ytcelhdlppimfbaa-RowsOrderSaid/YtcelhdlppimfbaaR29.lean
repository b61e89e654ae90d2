/- RowsOrder, walked. -/
import Derived.Test.YtcelhdlppimfbaaR28
import Derived.RegionTactic
import Derived.ChangeAlike
namespace Go.Proofs.Ytcelhdlppimfbaa
open Go.RowKit Go.Shelf Go.Cs
attribute [local go_sem] Oper.semAt_some
theorem rd_one {W : World} {vs : List Value} {X : Nat → List Int} (h : Rd W vs X) (hl : vs.length = 8) : ∀ v ∈ vs, v.oneCell' = true := fun v hv => by
  obtain ⟨i, hi, rfl⟩ := List.mem_iff_getElem.1 hv
  have := (h i (by omega)).one
  simpa [List.getD, hi] using this
theorem readsD_new {W W' : World} {ao : Option Addr} {n : Nat} {D : Nat → Nat → Int} (h : ReadsD W ao n D) {S : Nat → Prop} (hm : Mods S W W') (hS : ∀ k, k < W.heap.size → ¬ S k) : ReadsD W' ao n D := fun i hi => by
  obtain ⟨b, o, e, hc⟩ := h i hi
  exact ⟨b, o, e, fun j hj => ⟨hm.cell (hc j hj).1 (hS _ (by have := cell_lt (hc j hj).1; exact this)), (hc j hj).2⟩⟩
set_option maxRecDepth 100000 in
set_option maxHeartbeats 4000000 in
theorem order_law (vs : List Value) (hl : vs.length = 8) (X : Nat → List Int) (ao : Option Addr) (n cap : Nat) (D : Nat → Nat → Int) (w : World) (hr : Rd w vs X) (hx : In64 X) (hfar : ∀ u, 8 ≤ u → X u = []) (hn : n ≤ 9223372036854775807) (hD : ReadsD w ao n D) :
    Calls Try.prog 3 #[.agg vs.toArray, .slice ao n cap] w fun e w' => e = .returned (.bool true) ∧ New w w' := by
  have HR := Lib.hid (fun w hr => right_ref vs hl X w hr)
  have HV := World.alloc_heap_new w (.cells vs.toArray 23)
  have hN := (Mods.refl (fun _ => False) w).alloc (.cells vs.toArray 23)
  have Hi := Lib.hid (show (Try.prog.info? 23).map (·.size) = some vs.toArray.size by rw [List.size_toArray, hl]; exact info23)
  have Hw := Lib.hid wakes_any
  have hr0 := hr.new hN
  by_cases hn60 : 60 < n
  · have hd60 : decide ((60 : Int) < (n : Int)) = true := decide_eq_true (by omega)
    clear HR HV hr0 hx hr hD hfar hl
    go_enter Try.func3, Try.ntmps3
    go_wp2_with fail
    refine (Hw.out _).mono ?_
    rintro e w4 ⟨rfl, hN4⟩
    go_wp2_with fail
    go_ret
    exact ⟨rfl, hN.trans hN4⟩
  have hd60 : decide ((60 : Int) < (n : Int)) = false := decide_eq_false (by omega)
  cases hb : rightR X with
  | false =>
    rw [hb] at HR
    clear hl hx hr hD hb hfar
    go_enter Try.func3, Try.ntmps3
    go_wp2_with (refine op_value_g rfl (run_load_row 23 (.tmp 2) rfl w.heap.size rfl 23 vs.toArray (0, 0) _ HV Try.underlying23 rfl Hi.out) ?_)
    refine (HR.out _ hr0).mono ?_
    rintro e w1 ⟨rfl, hN1⟩
    go_wp2_with fail
    refine (Hw.out _).mono ?_
    rintro e w4 ⟨rfl, hN4⟩
    go_wp2_with fail
    go_ret
    exact ⟨rfl, (hN.trans hN1).trans hN4⟩
  | true =>
    rw [hb] at HR
    have hI := Lib.hid (inv_flat hb hfar)
    have hlen8 := right_len hb
    have Hb := Lib.hid hb
    have HD := Lib.hid hD
    have Hl := Lib.hid hl
    have Hr := Lib.hid hr
    have hone := Lib.hid (rd_one hr hl)
    have hflen := Lib.hid (show (flatTo X 8).length ≤ 8 from hlen8)
    clear hx hb hfar hlen8 hl hr hD
    go_enter Try.func3, Try.ntmps3
    go_wp2_with (refine op_value_g rfl (run_load_row 23 (.tmp 2) rfl w.heap.size rfl 23 vs.toArray (0, 0) _ HV Try.underlying23 rfl Hi.out) ?_)
    refine (HR.out _ hr0).mono ?_
    rintro e w1 ⟨rfl, hN1⟩
    have hr1 := hr0.new hN1
    have HV1 := hN1.heap HV id
    have hNw := hN.trans hN1
    clear hr0 HV hN hN1 HR
    go_wp2_with fail
    obtain ⟨Ba, hBa⟩ : ∃ B, w1.heap.size = B := ⟨_, rfl⟩
    obtain ⟨W1, hW1⟩ : ∃ W, w1.alloc (.cells (ints8 fun _ => 0).toArray 27) = W := ⟨_, rfl⟩
    rw [show w1.alloc (.cells #[.int .i64 0, .int .i64 0, .int .i64 0, .int .i64 0, .int .i64 0, .int .i64 0, .int .i64 0, .int .i64 0] 27) = W1 from hW1, hBa]
    obtain ⟨Bb, hBb⟩ : ∃ B, W1.heap.size = B := ⟨_, rfl⟩
    have hBb' : Ba + 1 = Bb := by rw [← hBa, ← hBb, ← hW1]; simp
    obtain ⟨W2, hW2⟩ : ∃ W, W1.alloc (.cells (ints8 fun _ => 0).toArray 27) = W := ⟨_, rfl⟩
    rw [show W1.alloc (.cells #[.int .i64 0, .int .i64 0, .int .i64 0, .int .i64 0, .int .i64 0, .int .i64 0, .int .i64 0, .int .i64 0] 27) = W2 from hW2, hBb']
    have hB0 : w.heap.size < Ba := by have := heap_lt HV1; omega
    have hA1 : New w1 W1 := by rw [← hW1]; exact (Mods.refl _ _).alloc _
    have hA2 : New W1 W2 := by rw [← hW2]; exact (Mods.refl _ _).alloc _
    have ha : W2.heap[Ba]? = some (.cells (ints8 fun _ => 0).toArray 27 (0, 0)) := hA2.heap (by rw [← hW1, ← hBa]; exact World.alloc_heap_new w1 _) id
    have hb' : W2.heap[Bb]? = some (.cells (ints8 fun _ => 0).toArray 27 (0, 0)) := by rw [← hW2, ← hBb]; exact World.alloc_heap_new W1 _
    have HV2 := Lib.hid (hA2.heap (hA1.heap HV1 id) id)
    have Hr2 := Lib.hid ((hr1.new hA1).new hA2)
    have HNw := Lib.hid ((hNw.trans hA1).trans hA2)
    have Hblk := Lib.hid (fun u (hu : u < 8) (hx : X u ≠ []) g hg => Hr.out.block hu hx (g := g) hg)
    have hBab : Ba < Bb := by omega
    have Ha := Lib.hid ha
    have Hb2 := Lib.hid hb'
    clear hBb hBa hW1 hW2 ha hb' hA1 hA2 HV1 hr1 hNw Hr hBb'
    go_loopw [7, 8] (fun p c wr => ∃ u : Nat, u ≤ 8 ∧ c = .int .i64 u ∧ p = .int .i64 (flatTo X u).length ∧ Hid (wr.heap[Ba]? = some (.cells (ints8 (atL (flatTo X u))).toArray 27 (0, 0))) ∧ Hid (wr.heap[Bb]? = some (.cells (ints8 (ofL (flatTo X u))).toArray 27 (0, 0))) ∧ Mods (fun b => b = Ba ∨ b = Bb) W2 wr) (fun _ c _ => 8 - (intOf c).toNat)
    case atStart => exact ⟨0, by omega, rfl, rfl, Ha.out, Hb2.out, Mods.refl _ _⟩
    case round =>
      obtain ⟨u, hu, rfl, rfl, hst, hst2, hM⟩ := hrel
      by_cases hu8 : u < 8
      · have hud : decide ((u : Int) < 8) = true := by simp; omega
        have Hpl := Lib.hid (fun k hk => preL_len X u k hk)
        have Hps := Lib.hid (fun k hk => preL_succ X u k hk)
        have Hpn := Lib.hid (fun k (hk : k < (X u).length) => preL_new Hb.out hu8 hk)
        have Hrow := Lib.hid (preL_row X u)
        have hst' : Hid (wr.heap[Ba]? = some (.cells (ints8 (atL (preL X u 0))).toArray 27 (0, 0))) := Lib.hid (by rw [preL_zero]; exact hst.out)
        have hst2' : Hid (wr.heap[Bb]? = some (.cells (ints8 (ofL (preL X u 0))).toArray 27 (0, 0))) := Lib.hid (by rw [preL_zero]; exact hst2.out)
        have hle : (flatTo X u).length + (X u).length ≤ 8 := by have := flatTo_le X (show u + 1 ≤ 8 by omega); have := flatTo_len X u; have := hflen.out; omega
        obtain ⟨a, ha⟩ : ∃ a, (flatTo X u).length = a := ⟨_, rfl⟩
        obtain ⟨hlen5, ao5, cap5, hv5, hc5⟩ := Hr2.out u hu8
        have h5 := cell_of_row W2 w.heap.size u vs.toArray 23 (0, 0) HV2.out
        have hce : W2.cell? ⟨w.heap.size, u, none⟩ = some (vs.getD u undef) := by rw [h5]; have := Hl.out; simp [List.getD, show u < vs.length by omega]
        rw [hv5] at hce
        have hblk5 := Lib.hid (fun (hx : X u ≠ []) g (hg : (vs.getD u undef).ownBlock = some g) => Hblk.out u hu8 hx g hg)
        rw [hv5] at hblk5
        obtain ⟨m, hm⟩ : ∃ n, (X u).length = n := ⟨_, rfl⟩
        rw [hm] at Hpl Hpn Hps Hrow hce hc5 hlen5 hle
        have hnext : (flatTo X (u + 1)).length = (flatTo X u).length + m := by rw [← hm]; simp [flatTo]
        rw [ha] at Hpl hle hnext ⊢
        have Hnext := Lib.hid hnext
        have Hm := Lib.hid hm
        have Hce := Lib.hid hce
        have Hc5 := Lib.hid hc5
        have Ha' := Lib.hid ha
        clear hst hst2 hv5 h5 hm hce hc5 ha hnext
        go_wp2_with fail
        obtain ⟨wo, hwo⟩ : ∃ wo, wr = wo := ⟨_, rfl⟩
        rw [hwo] at hM hst' hst2' ⊢
        clear hwo wr
        go_loopw [7, 9] (fun p c wi => ∃ k : Nat, k ≤ m ∧ c = .int .i64 k ∧ p = .int .i64 (a + k : Nat) ∧ Hid (wi.heap[Ba]? = some (.cells (ints8 (atL (preL X u k))).toArray 27 (0, 0))) ∧ Hid (wi.heap[Bb]? = some (.cells (ints8 (ofL (preL X u k))).toArray 27 (0, 0))) ∧ Mods (fun b => b = Ba ∨ b = Bb) wo wi) (fun _ c _ => m - (intOf c).toNat)
        case atStart => exact ⟨0, by omega, rfl, rfl, hst', hst2', Mods.refl _ _⟩
        case round =>
          obtain ⟨k, hk, rfl, rfl, hkt, hkt2, hMk⟩ := hrel
          have hMM := hM.trans hMk
          have hce := hMM.cell Hce.out (show ¬ (w.heap.size = Ba ∨ w.heap.size = Bb) by omega)
          by_cases hkn : k < m
          · obtain ⟨hnew, hz0, hz8⟩ := Hpn.out k hkn
            have hps := Hps.out k hkn
            obtain ⟨b1, o1, rfl, h1⟩ := Hc5.out k hkn
            have hb1 : b1 < w.heap.size := hblk5.out (by intro e; have := Hm.out; rw [e] at this; simp at this; omega) b1 rfl
            have h1 := hMM.cell h1 (show ¬ (b1 = Ba ∨ b1 = Bb) by omega)
            obtain ⟨z, hz⟩ : ∃ z, (X u).getD k 0 = z := ⟨_, rfl⟩
            rw [hz] at h1 hnew hz0 hz8 hps
            obtain ⟨j, rfl⟩ := Int.eq_ofNat_of_zero_le hz0
            have hj8 : j < 8 := by omega
            obtain ⟨ca, fa⟩ := ints8_cell hkt.out hj8
            obtain ⟨cb, fb⟩ := ints8_cell hkt2.out hj8
            obtain ⟨old, hold⟩ : ∃ o, atL (preL X u k) j = o := ⟨_, rfl⟩
            obtain ⟨old2, hold2⟩ : ∃ o, ofL (preL X u k) j = o := ⟨_, rfl⟩
            rw [hold] at ca
            rw [hold2] at cb
            have hkk : (0 : Int) ≤ (k : Int) := by omega
            have hkn' : (k : Int) < (m : Int) := by omega
            have n1 : ¬ (w.heap.size = Ba) := by omega
            have n2 : ¬ (w.heap.size = Bb) := by omega
            have n3 : ¬ (b1 = Ba) := by omega
            have n4 : ¬ (b1 = Bb) := by omega
            have n5 : ¬ (Ba = Bb) := by omega
            have n6 : ¬ (Bb = Ba) := by omega
            have hput1 := ints8_put2 hkt.out hj8 ((a : Int) + (k : Int) + 1) (g := atL (preL X u (k + 1))) (fun i hi => by rw [hps, atL_snoc _ _ _ _ hnew, Hpl.out k hk]; split <;> omega)
            have hM1 := setM wr Ba j (.int .i64 ((a : Int) + (k : Int) + 1))
            have hput2 := ints8_put2 (hM1.heap hkt2.out (show ¬ (Bb = Ba) from n6)) hj8 (u : Int) (g := ofL (preL X u (k + 1))) (fun i hi => by rw [hps, ofL_snoc _ _ _ _ hnew])
            have hM2 := setM (wr.setCell ⟨Ba, j, none⟩ (.int .i64 ((a : Int) + (k : Int) + 1))) Bb j (.int .i64 (u : Int))
            have HP1 := Lib.hid (hM2.heap hput1 (show ¬ (Ba = Bb) from n5))
            have HP2 := Lib.hid hput2
            have HM2 := Lib.hid ((hMk.trans (hM1.mono fun _ h => .inl h)).trans (hM2.mono fun _ h => .inr h))
            clear hz hold hold2 hMM hput1 hput2 hM1 hM2 hnew hps
            go_wp2_with fail
            go_region
            go_wp2_with fail
            go_roundw
            case rel => exact ⟨k + 1, by omega, by go_num, by go_num, HP1.out, HP2.out, HM2.out.drew⟩
            case measure => simp [intOf]; omega
          · obtain rfl : k = m := by omega
            have hst3 := hkt.out
            have hst4 := hkt2.out
            rw [Hrow.out] at hst3 hst4
            clear hkt hkt2
            go_wp2_with fail
            go_roundw
            case rel => exact ⟨u + 1, by omega, by go_num, by have := Hnext.out; rw [this], hst3, hst4, hM.trans hMk⟩
            case measure => simp [intOf]; omega
      · obtain rfl : u = 8 := by omega
        obtain ⟨c0, hc0⟩ : ∃ c, (flatTo X 8).length = c := ⟨_, rfl⟩
        have hI0 : Inv X (atL (flat X)) (ofL (flat X)) c0 := by rw [← hc0]; exact hI.out
        have hc8 := hflen.out
        rw [hc0] at hc8 ⊢
        have hS0 : St wr w.heap.size Ba Bb X (atL (flat X)) (ofL (flat X)) wr := by
          refine ⟨⟨vs, ⟨hM.heap HV2.out (show ¬ (w.heap.size = Ba ∨ w.heap.size = Bb) by omega), Hl.out, Hr2.out.kept hM (fun i hi hx g hg e => by have := Hblk.out i hi hx g hg; omega), hone.out⟩, fun i hi hx g hg => by have := Hblk.out i hi hx g hg; exact ⟨by omega, by omega, by omega⟩⟩, hst.out, hst2.out, Mods.refl _ _, by omega, by omega, by omega⟩
        have HS0 := Lib.hid hS0
        have HI0 := Lib.hid hI0
        have HN3 := Lib.hid ((Mods.ofNew HNw.out).trans hM)
        obtain ⟨W3, hW3⟩ : ∃ W, wr = W := ⟨_, rfl⟩
        rw [hW3] at HS0 HN3 ⊢
        clear hS0 hI0 hM hst hst2 hc0 hW3 wr HNw Hb2 Ha Hblk Hr2 HV2 hflen hone Hl Hb hI hu hu8
        go_wp2_with fail
        go_loopw [7, 10, 11, 12, 13, 14, 15, 16, 17] (fun p i _ _ _ _ _ _ _ wr => ∃ (k c : Nat) (X : Nat → List Int) (f g : Nat → Int), k ≤ n ∧ i = .int .i64 k ∧ p = .int .i64 (c : Nat) ∧ c ≤ 8 + k ∧ Hid (Inv X f g c) ∧ Hid (St W3 w.heap.size Ba Bb X f g wr)) (fun _ i _ _ _ _ _ _ _ _ => n - (intOf i).toNat)
        case atStart => exact ⟨0, c0, X, _, _, Nat.zero_le _, rfl, rfl, by omega, HI0.out, HS0.out⟩
        case round =>
          obtain ⟨k, c, Y, f, g, hk, rfl, rfl, hck, hIn, hSt⟩ := hrel
          have hMw : Mods (fun b => b = w.heap.size ∨ b = Ba ∨ b = Bb) w wr := (HN3.out.mono fun _ h => .inr h).trans hSt.out.mods
          by_cases hlt : k < n
          · obtain ⟨b, o, rfl, hcell⟩ := HD.out k hlt
            have hc : ∀ j, j < 3 → wr.cell? ⟨b, o + k * 3 + j, none⟩ = some (.int .i64 (D k j)) := fun j hj => hMw.cell (hcell j hj).1 (fun e => by have := cell_lt (hcell j hj).1; dsimp only at this e; omega)
            have hdw := Lib.hid (show w.cell? ⟨b, o + k * 3, none⟩ = some (.int .i64 (D k 0)) from (hcell 0 (by omega)).1)
            have hbw : b < w.heap.size := by have := cell_lt (hcell 0 (by omega)).1; exact this
            have h0 := hc 0 (by omega)
            have h1 := hc 1 (by omega)
            have h2 := hc 2 (by omega)
            obtain ⟨_, d1, d2⟩ := hcell 0 (by omega)
            obtain ⟨_, s1, s2⟩ := hcell 1 (by omega)
            obtain ⟨_, q1, q2⟩ := hcell 2 (by omega)
            simp only [Nat.add_zero] at h0
            obtain ⟨d, hd⟩ : ∃ d, D k 0 = d := ⟨_, rfl⟩
            obtain ⟨s, hs⟩ : ∃ d, D k 1 = d := ⟨_, rfl⟩
            obtain ⟨u, hu⟩ : ∃ d, D k 2 = d := ⟨_, rfl⟩
            rw [hd] at h0 d1 d2 hdw
            rw [hs] at h1 s1 s2
            rw [hu] at h2 q1 q2
            clear hc hcell hd hs hu
            have hdw3 : W3.cell? ⟨b, o + k * 3, none⟩ = some (.int .i64 d) := HN3.out.cell hdw.out (fun e => by dsimp only at e; omega)
            have n0 : ¬ (b = w.heap.size) := by omega
            have n1 : ¬ (b = Ba) := by omega
            have n2 : ¬ (b = Bb) := by omega
            have hkd : decide ((k : Int) < (n : Int)) = true := decide_eq_true (by omega)
            clear hMw
            go_upto_block 5 with fail
            refine Code.wp_mono (Only.imp fun a w h => h) ?_
            refine round3 hIn.out hSt.out h0 h1 h2 hdw3 n0 n1 n2 hlt (by omega) hck s1 s2 q1 q2 ?_
            refine Lib.hid ?_
            intro hz hI2 hS2
            have hI2 := Lib.hid hI2
            have hS2 := Lib.hid hS2
            dsimp only [Only]
            go_wp2_with fail
            go_roundw
            case rel => exact ⟨k + 1, _, _, _, _, by omega, by go_num, rfl, by omega, hI2, hS2⟩
            case measure => simp [intOf]; omega
          · have hNN : New w wr := hMw.new (fun k hk => by omega)
            have hkd : decide ((k : Int) < (n : Int)) = false := decide_eq_false (by omega)
            clear hSt hIn hMw
            go_wp2_with fail
            refine (Hw.out _).mono ?_
            rintro e w2 ⟨rfl, hN2⟩
            go_wp2_with fail
            go_ret
            exact ⟨rfl, hNN.trans hN2⟩
end Go.Proofs.Ytcelhdlppimfbaa
