/- RowsFind, walked. -/
import Derived.Test.YtcelhdlppimfbaaR17
namespace Go.Proofs.Ytcelhdlppimfbaa
open Go.RowKit Go.Shelf Go.Cs
attribute [local go_sem] Oper.semAt_some
set_option maxRecDepth 100000 in
set_option maxHeartbeats 4000000 in
theorem find_law (vs : List Value) (hl : vs.length = 8) (X : Nat → List Int) (w : World) (hr : Rd w vs X) (hx : In64 X) :
    Calls Try.prog 4 #[.agg vs.toArray] w fun e w' => e = .returned (.bool true) ∧ New w w' := by
  have HR := Lib.hid (fun w hr => right_ref vs hl X w hr)
  have HM := Lib.hid (fun w hr => many_any vs hl X w hr hx)
  have HA := Lib.hid (fun w hr => all_any vs hl X w hr hx)
  have HF := Lib.hid (fun s w hr => find_any vs hl X s w hr hx)
  have HV := World.alloc_heap_new w (.cells vs.toArray 23)
  have hN := (Mods.refl (fun _ => False) w).alloc (.cells vs.toArray 23)
  have Hi := Lib.hid (show (Try.prog.info? 23).map (·.size) = some vs.toArray.size by rw [List.size_toArray, hl]; exact info23)
  have Hl := Lib.hid hl
  have Hw := Lib.hid wakes_any
  have Hblk := Lib.hid (fun u (hu : u < 8) (hx : X u ≠ []) g hg => hr.block hu hx (g := g) hg)
  cases hb : rightR X with
  | false =>
    rw [hb] at HR
    have hall : allF X = [] := by rw [allF, hb]; rfl
    rw [hall] at HM HA
    have hr0 := hr.new hN
    clear hl hx hb hall hr HF Hblk
    go_enter Try.func4, Try.ntmps4
    go_wp2_with (refine op_value rfl (run_load_row 23 (.tmp 1) rfl w.heap.size rfl 23 vs.toArray (0, 0) _ HV Try.underlying23 rfl Hi.out) ?_)
    refine (HR.out _ hr0).mono ?_
    rintro e w1 ⟨rfl, hN1⟩
    have hr1 := hr0.new hN1
    have HV1 := hN1.heap HV id
    have hNw := hN.trans hN1
    clear hr0 HV hN hN1
    go_wp2_with (refine op_value rfl (run_load_row 23 (.tmp 1) rfl w.heap.size rfl 23 vs.toArray (0, 0) _ HV1 Try.underlying23 rfl Hi.out) ?_)
    refine (HM.out _ hr1).mono ?_
    rintro e w2 ⟨rfl, hN2⟩
    have hr2 := hr1.new hN2
    have HV2 := hN2.heap HV1 id
    have hNw := hNw.trans hN2
    clear hr1 HV1 hN2
    go_wp2_with (refine op_value_g rfl (run_load_row 23 (.tmp 1) rfl w.heap.size rfl 23 vs.toArray (0, 0) _ HV2 Try.underlying23 rfl Hi.out) ?_)
    refine (HA.out _ hr2).mono ?_
    rintro e w3 ⟨v, rfl, hown, hN3⟩
    obtain ⟨ao, cap, rfl⟩ := owns_slice hown
    have hNw := hNw.trans hN3
    clear hr2 HV2 hN3 hown
    go_wp2_with fail
    refine (Hw.out _).mono ?_
    rintro e w4 ⟨rfl, hN4⟩
    go_wp2_with fail
    go_ret
    exact ⟨rfl, hNw.trans hN4⟩
  | true =>
    rw [hb] at HR
    have hall : allF X = fl X := by rw [allF, hb]; rfl
    rw [hall] at HM HA
    have hlen8 := right_len hb
    obtain ⟨m, hm⟩ : ∃ m, (flat X).length = m := ⟨_, rfl⟩
    have hfl : (fl X).length = m := by rw [← hm]; simp [fl]
    rw [hfl] at HM HA
    rw [hm] at hlen8
    have Hm := Lib.hid hm
    have hr0 := hr.new hN
    have Hb := Lib.hid hb
    have Hfl := Lib.hid hfl
    clear hl hx hb hall hfl hm
    go_enter Try.func4, Try.ntmps4
    go_wp2_with (refine op_value rfl (run_load_row 23 (.tmp 1) rfl w.heap.size rfl 23 vs.toArray (0, 0) _ HV Try.underlying23 rfl Hi.out) ?_)
    refine (HR.out _ hr0).mono ?_
    rintro e w1 ⟨rfl, hN1⟩
    have hr1 := hr0.new hN1
    have HV1 := hN1.heap HV id
    have hNw := hN.trans hN1
    clear hr0 HV hN hN1 HR
    go_wp2_with fail
    obtain ⟨W1, hW1⟩ : ∃ W, w1.alloc (.cells (ints8 fun _ => 0).toArray 27) = W := ⟨_, rfl⟩
    obtain ⟨B, hB⟩ : ∃ B, w1.heap.size = B := ⟨_, rfl⟩
    have hA1 : New w1 W1 := by rw [← hW1]; exact (Mods.refl _ _).alloc _
    have hI : W1.heap[B]? = some (.cells (ints8 fun _ => 0).toArray 27 (0, 0)) := by rw [← hW1, ← hB]; exact World.alloc_heap_new w1 _
    have hBw : w.heap.size < B := by have := (Array.getElem?_eq_some_iff.1 HV1).1; omega
    have HV2 := hA1.heap HV1 id
    have hr2 := hr1.new hA1
    have hNw := hNw.trans hA1
    rw [show w1.alloc (.cells #[.int .i64 0, .int .i64 0, .int .i64 0, .int .i64 0, .int .i64 0, .int .i64 0, .int .i64 0, .int .i64 0] 27) = W1 from hW1, hB]
    clear hW1 hB hA1 HV1 hr1
    have HI := Lib.hid hI
    have HV3 := Lib.hid HV2
    have Hr2 := Lib.hid hr2
    have HNw := Lib.hid hNw
    clear hI HV2 hr2 hNw hr
    go_loopw [4] (fun c wr => ∃ k : Nat, k ≤ 8 ∧ c = .int .i64 k ∧ Hid (wr.heap[B]? = some (.cells (ints8 fun i => if i < k then -1 else 0).toArray 27 (0, 0))) ∧ Mods (fun b => b = B) W1 wr) (fun c _ => 8 - (intOf c).toNat)
    case atStart => exact ⟨0, by omega, rfl, by rw [HI.out]; rfl, Mods.refl _ _⟩
    case round =>
      obtain ⟨k, hk, rfl, hst, hM⟩ := hrel
      by_cases hk8 : k < 8
      · obtain ⟨hc, hf⟩ := ints8_cell hst.out hk8
        have hput := Lib.hid (ints8_put2 hst.out hk8 (-1) (g := fun i => if i < k + 1 then -1 else 0) (fun i hi => by by_cases h1 : i = k <;> by_cases h2 : i < k <;> simp [h1, h2] <;> omega))
        obtain ⟨z, hz⟩ : ∃ z : Int, (if k < k then -1 else 0) = z := ⟨_, rfl⟩
        rw [hz] at hc
        clear hz hst
        go_wp2_with fail
        go_roundw
        case rel => exact ⟨k + 1, by omega, by go_num, hput, mset hM _⟩
        case measure => simp [intOf]; omega
      · obtain rfl : k = 8 := by omega
        have hst' : Hid (wr.heap[B]? = some (.cells (ints8 (inF (flatTo X 0))).toArray 27 (0, 0))) := Lib.hid (by rw [hst.out, ints8_congr]; intro i hi; rw [if_pos hi]; rfl)
        have HV4 := hM.heap HV3.out (by omega)
        have hr4 := Hr2.out.kept hM (fun u hu hx g hg e => by have := Hblk.out u hu hx g hg; omega)
        have hNk : Mods (fun b => b = B) w wr := (Mods.ofNew HNw.out).trans hM
        clear hst hM
        go_wp2_with (refine op_value rfl (run_load_row 23 (.tmp 1) rfl w.heap.size rfl 23 vs.toArray (0, 0) _ HV4 Try.underlying23 rfl Hi.out) ?_)
        refine (HA.out _ hr4).mono ?_
        rintro e w3 ⟨v, rfl, hown, hN3⟩
        have hrv := ReadsI.ofOwns (xs := fl X) (by rw [Hfl.out]; exact hown)
        have hBr : B < wr.heap.size := (Array.getElem?_eq_some_iff.1 hst'.out).1
        have hvb : Hid (∀ g, v.ownBlock = some g → g ≠ B) := Lib.hid (fun g hg => by have := (hown.lt g hg).1; omega)
        have HI3 : Hid (w3.heap[B]? = some (.cells (ints8 (inF (flatTo X 0))).toArray 27 (0, 0))) := Lib.hid (hN3.heap hst'.out id)
        have HV5 := Lib.hid (hN3.heap HV4 id)
        have Hr5 := Lib.hid (hr4.new hN3)
        have Hrv := Lib.hid hrv
        have HNk := Lib.hid (hNk.trans (Mods.ofNew hN3))
        obtain ⟨ao, cap, rfl⟩ := owns_slice hown
        clear hown hN3 hrv HV4 hr4 hNk hst'
        go_wp2_with fail
        go_loopw [5, 7] (fun n c wr => ∃ u : Nat, u ≤ 8 ∧ c = .int .i64 u ∧ n = .int .i64 (flatTo X u).length ∧ Hid (wr.heap[B]? = some (.cells (ints8 (inF (flatTo X u))).toArray 27 (0, 0))) ∧ Mods (fun b => b = B) w3 wr) (fun _ c _ => 8 - (intOf c).toNat)
        case atStart => exact ⟨0, by omega, rfl, rfl, HI3.out, Mods.refl _ _⟩
        case round =>
          obtain ⟨u, hu, rfl, rfl, hst, hM⟩ := hrel
          by_cases hu8 : u < 8
          · have hud : decide ((u : Int) < 8) = true := by simp; omega
            have Hpl := Lib.hid (fun k hk => preL_len X u k hk)
            have Hps := Lib.hid (fun k hk => preL_succ X u k hk)
            have Hpn := Lib.hid (fun k (hk : k < (X u).length) => preL_new Hb.out hu8 hk)
            have Hat := Lib.hid (fun k (hk : k < (X u).length) => flat_at X hu8 hk)
            have Hrow := Lib.hid (preL_row X u)
            have hst' : Hid (wr.heap[B]? = some (.cells (ints8 (inF (preL X u 0))).toArray 27 (0, 0))) := Lib.hid (by rw [preL_zero]; exact hst.out)
            have hle : (flatTo X u).length ≤ m := by rw [← Hm.out]; exact flatTo_le X hu
            obtain ⟨a, ha⟩ : ∃ a, (flatTo X u).length = a := ⟨_, rfl⟩
            obtain ⟨hlen5, ao5, cap5, hv5, hc5⟩ := Hr5.out u hu8
            have h5 := cell_of_row w3 w.heap.size u vs.toArray 23 (0, 0) HV5.out
            have hce : w3.cell? ⟨w.heap.size, u, none⟩ = some (vs.getD u undef) := by rw [h5]; have := Hl.out; simp [List.getD, show u < vs.length by omega]
            rw [hv5] at hce
            have hblk5 := Lib.hid (fun (hx : X u ≠ []) g (hg : (vs.getD u undef).ownBlock = some g) => Hblk.out u hu8 hx g hg)
            rw [hv5] at hblk5
            obtain ⟨n, hn⟩ : ∃ n, (X u).length = n := ⟨_, rfl⟩
            rw [hn] at Hpl Hpn Hps Hat Hrow hce hc5 hlen5
            have hnext : (flatTo X (u + 1)).length = (flatTo X u).length + n := by rw [← hn]; simp [flatTo]
            rw [ha] at Hpl Hat hle hnext ⊢
            have Hnext := Lib.hid hnext
            clear hnext
            have Hn := Lib.hid hn
            have Hce := Lib.hid hce
            have Hc5 := Lib.hid hc5
            have Ha := Lib.hid ha
            clear hst hv5 h5 hn hce hc5 ha
            go_wp2_with fail
            obtain ⟨wo, hwo⟩ : ∃ wo, wr = wo := ⟨_, rfl⟩
            rw [hwo] at hM hst' ⊢
            clear hwo wr
            go_loopw [5, 8] (fun p c wi => ∃ k : Nat, k ≤ n ∧ c = .int .i64 k ∧ p = .int .i64 (a + k : Nat) ∧ Hid (wi.heap[B]? = some (.cells (ints8 (inF (preL X u k))).toArray 27 (0, 0))) ∧ Mods (fun b => b = B) wo wi) (fun _ c _ => n - (intOf c).toNat)
            case atStart => exact ⟨0, by omega, rfl, rfl, hst', Mods.refl _ _⟩
            case round =>
              obtain ⟨k, hk, rfl, rfl, hkt, hMk⟩ := hrel
              have hMM := hM.trans hMk
              have hce := hMM.cell Hce.out (show ¬ (w.heap.size = B) by omega)
              by_cases hkn : k < n
              · obtain ⟨hnew, hz0, hz8⟩ := Hpn.out k hkn
                have hat := Hat.out k hkn
                have hps := Hps.out k hkn
                have hpm : a + k < m := by rw [← Hm.out]; exact (List.getElem?_eq_some_iff.1 hat).1
                obtain ⟨b1, o1, rfl, h1⟩ := Hc5.out k hkn
                have hb1 : ¬ (b1 = B) := by have := hblk5.out (by intro e; have := Hn.out; rw [e] at this; simp at this; omega) b1 rfl; omega
                have h1 := hMM.cell h1 hb1
                obtain ⟨_, ao6, cap6, hv6, hc6⟩ := Hrv.out
                simp only [Value.slice.injEq] at hv6
                obtain ⟨rfl, hmm, rfl⟩ := hv6
                clear hmm
                obtain ⟨b2, o2, rfl, h2⟩ := hc6 (a + k) (by rw [Hfl.out]; exact hpm)
                have h2 := hMM.cell h2 (fun e => hvb.out b2 rfl e)
                have hfz : (fl X).getD (a + k) 0 = (X u).getD k 0 := by
                  unfold fl
                  rw [List.getD, List.getElem?_map, hat]; rfl
                rw [hfz] at h2
                obtain ⟨z, hz⟩ : ∃ z, (X u).getD k 0 = z := ⟨_, rfl⟩
                rw [hz] at h1 h2 hnew hz0 hz8 hps
                obtain ⟨j, rfl⟩ := Int.eq_ofNat_of_zero_le hz0
                have hj8 : j < 8 := by omega
                obtain ⟨hcj, hfj⟩ := ints8_cell hkt.out hj8
                have hput := Lib.hid (ints8_put2 hkt.out hj8 (u : Int) (g := inF (preL X u (k + 1))) (fun i hi => by rw [hps, inF_snoc _ _ _ _ hnew]))
                obtain ⟨old, hold⟩ : ∃ o, inF (preL X u k) j = o := ⟨_, rfl⟩
                rw [hold] at hcj
                obtain ⟨p, hp⟩ : ∃ p, a + k = p := ⟨_, rfl⟩
                rw [hp] at h2 hpm ⊢
                have Hp := Lib.hid hp
                have hgm : decide ((m : Int) ≤ (p : Int)) = false := decide_eq_false (by omega)
                have hgn : decide (m ≤ p) = false := decide_eq_false (by omega)
                have hneq : ((j : Int) != (j : Int)) = false := by simp
                have hpp : (0 : Int) ≤ (p : Int) := by omega
                have hpm' : (p : Int) < (m : Int) := by omega
                have hkk : (0 : Int) ≤ (k : Int) := by omega
                have hkn' : (k : Int) < (n : Int) := by omega
                clear hnew hat hps hfz hz hold hp hc6 hkt hMM
                go_wp2_with fail
                go_quiet (fail)
                go_wp2_with fail
                go_roundw
                case rel => exact ⟨k + 1, by omega, by go_num, by have := Hp.out; rw [show a + (k + 1) = p + 1 by omega]; go_num, hput, mset (hMk.drewN _) _⟩
                case measure => simp [intOf]; omega
              · obtain rfl : k = n := by omega
                have hst2 := hkt.out
                rw [Hrow.out] at hst2
                clear hkt
                go_wp2_with fail
                go_roundw
                case rel => exact ⟨u + 1, by omega, by go_num, by have := Hnext.out; rw [this], hst2, hM.trans hMk⟩
                case measure => simp [intOf]; omega
          · obtain rfl : u = 8 := by omega
            have hflen : (flatTo X 8).length = m := Hm.out
            rw [hflen]
            clear hflen
            have HV8 := Lib.hid (hM.heap HV5.out (show ¬ (w.heap.size = B) by omega))
            have Hr8 := Lib.hid (Hr5.out.kept hM (fun u hu hx g hg e => by have := Hblk.out u hu hx g hg; omega))
            have HN8 := Lib.hid ((HNk.out.trans hM).new (fun k (hk : k = B) => by omega))
            have hst8 : Hid (wr.heap[B]? = some (.cells (ints8 (inF (flat X))).toArray 27 (0, 0))) := hst
            obtain ⟨wa, hwa⟩ : ∃ wa, wr = wa := ⟨_, rfl⟩
            rw [hwa] at hst8 HV8 Hr8 HN8 ⊢
            clear hst hM hwa wr
            go_wp2_with fail
            go_loopw [9] (fun c wi => ∃ k : Nat, k ≤ 8 ∧ c = .int .i64 k ∧ New wa wi) (fun c _ => 8 - (intOf c).toNat)
            case atStart => exact ⟨0, by omega, rfl, Mods.refl _ _⟩
            case round =>
              obtain ⟨k, hk, rfl, hNl⟩ := hrel
              have HVk := hNl.heap HV8.out id
              have hrk := Hr8.out.new hNl
              by_cases hk8' : k < 8
              · have hstk := hNl.heap hst8.out id
                go_wp2_with (refine op_value rfl (run_load_row 23 (.tmp 1) rfl w.heap.size rfl 23 vs.toArray (0, 0) _ HVk Try.underlying23 rfl Hi.out) ?_)
                refine (HF.out k _ hrk).mono ?_
                rintro e w5 ⟨rfl, hN5⟩
                obtain ⟨hc, hf⟩ := ints8_cell (hN5.heap hstk id) hk8'
                have hNl5 := Lib.hid (hNl.trans hN5)
                clear hstk hrk HVk hNl hN5
                rcases findR_inF Hb.out k with ⟨h1, h2⟩ | ⟨z, h1, h2⟩
                · rw [h1, show optT none = .tuple #[.int .i64 0, .bool false] from rfl]
                  rw [h2] at hc
                  clear h1 h2
                  go_wp2_with fail
                  go_roundw
                  case rel =>
                    iterate 30 apply Exists.intro
                    refine ⟨⟨k + 1, by omega, ?_, hNl5.out⟩, rfl⟩
                    go_num
                  case measure => simp [intOf]; omega
                · rw [h1, show optT (some z) = .tuple #[.int .i64 (z : Nat), .bool true] from rfl]
                  rw [h2] at hc
                  clear h1 h2
                  go_wp2_with fail
                  go_roundw
                  case rel =>
                    iterate 30 apply Exists.intro
                    refine ⟨⟨k + 1, by omega, ?_, hNl5.out⟩, rfl⟩
                    go_num
                  case measure => simp [intOf]; omega
              · obtain rfl : k = 8 := by omega
                go_wp2_with (refine op_value rfl (run_load_row 23 (.tmp 1) rfl w.heap.size rfl 23 vs.toArray (0, 0) _ HVk Try.underlying23 rfl Hi.out) ?_)
                refine (HM.out _ hrk).mono ?_
                rintro e w5 ⟨rfl, hN5⟩
                have hN6 := HN8.out.trans (hNl.trans hN5)
                go_wp2_with fail
                refine (Hw.out _).mono ?_
                rintro e w6 ⟨rfl, hN7⟩
                go_wp2_with fail
                go_ret
                exact ⟨rfl, hN6.trans hN7⟩
end Go.Proofs.Ytcelhdlppimfbaa
