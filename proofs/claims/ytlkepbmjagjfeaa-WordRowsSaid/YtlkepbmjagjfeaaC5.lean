/- WordRows, walked. -/
import Derived.Test.YtlkepbmjagjfeaaD3
import Derived.Test.YtlkepbmjagjfeaaD4
import Derived.Test.YtlkepbmjagjfeaaW7
import Derived.Deep.CutRange
import Derived.Deep.CutBlock
import Derived.Deep.DeepCutAuto
import Derived.Deep.RegionHeld3
import Derived.Deep.RegionWith
namespace Go.Proofs.Ytlkepbmjagjfeaa
open Go.RowKit Go.Shelf Go.Cs
attribute [local go_sem] Oper.semAt_some
set_option maxRecDepth 100000 in
set_option maxHeartbeats 4000000 in
theorem rows_walk (ao : Option Addr) (n cap : Nat) (D : Nat → Nat → Int) (w : World) (hn : n ≤ 40) (hD : ReadsD w ao n D) :
    Calls Try.prog 3 #[.slice ao n cap] w fun e w' => e = .returned (.bool true) ∧ New w w' := by
  have HD := Lib.hid hD
  clear hD
  go_enter Try.func3, Try.ntmps3
  go_wp2
  obtain ⟨W0, hW0⟩ : ∃ W0, w.alloc (.cells #[.slice none 0 0, .slice none 0 0, .slice none 0 0, .slice none 0 0, .slice none 0 0, .slice none 0 0, .slice none 0 0, .slice none 0 0] 26) = W0 := ⟨_, rfl⟩
  have hN0 : New w W0 := by rw [← hW0]; exact (Mods.refl _ _).alloc _
  have hb0 : W0.heap[w.heap.size]? = some (.cells #[.slice none 0 0, .slice none 0 0, .slice none 0 0, .slice none 0 0, .slice none 0 0, .slice none 0 0, .slice none 0 0, .slice none 0 0] 26 (0, 0)) := by rw [← hW0]; exact World.alloc_heap_new w _
  rw [hW0]
  clear hW0
  have HX := Lib.hid hb0
  have HN0 := Lib.hid hN0
  clear hb0 hN0
  go_loopw [3, 5, 6, 7, 8, 9, 10, 11, 12, 13, 14, 15] (fun x i _ _ _ _ _ _ _ _ _ _ wr => ∃ (k y : Nat), k ≤ n ∧ i = .int .i64 k ∧ x = .int .u64 y ∧ RowsAt W0 w.heap.size y wr) (fun _ i _ _ _ _ _ _ _ _ _ _ _ => n - (intOf i).toNat)
  case atStart => exact ⟨0, 0, Nat.zero_le _, rfl, rfl, rowsAt_nil HX.out⟩
  case round =>
    obtain ⟨k, y, hk, rfl, rfl, l, hrow⟩ := hrel
    by_cases hlt : k < n
    · obtain ⟨b, o, rfl, hcell⟩ := HD.out k hlt
      obtain ⟨vs, hheap, hl, hrd, hM⟩ := hrow.st.out
      have hc : ∀ j, j < 3 → wr.cell? ⟨b, o + k * 3 + j, none⟩ = some (.int .i64 (D k j)) := fun j hj => hM.cell ((HN0.out).cell (hcell j hj).1 id) (fun e => by have := cell_lt (hcell j hj).1; dsimp only at this e; omega)
      have h0 := hc 0 (by omega)
      have h1 := hc 1 (by omega)
      have h2 := hc 2 (by omega)
      obtain ⟨_, d1, d2⟩ := hcell 0 (by omega)
      obtain ⟨_, s1, s2⟩ := hcell 1 (by omega)
      obtain ⟨_, q1, q2⟩ := hcell 2 (by omega)
      simp only [Nat.add_zero] at h0
      obtain ⟨d, hd⟩ : ∃ d, D k 0 = d := ⟨_, rfl⟩
      obtain ⟨s, hs⟩ : ∃ d, D k 1 = d := ⟨_, rfl⟩
      obtain ⟨u, hu⟩ : ∃ d, D k 2 = d := ⟨_, rfl⟩
      rw [hd] at h0 d1 d2
      rw [hs] at h1 s1 s2
      rw [hu] at h2 q1 q2
      clear hc hcell hd hs hu
      go_wp2_with fail
      go_quiet (fail)
      obtain ⟨W1, hW1⟩ : ∃ W1, wr.drewN nq = W1 := ⟨_, rfl⟩
      have hN1 : New wr W1 := by rw [← hW1]; exact (Mods.refl _ _).drewN _
      rw [hW1]
      have h0 := hN1.cell h0 id
      clear hW1 h1 h2
      obtain ⟨f, hf⟩ : ∃ f : Bool, f = decide (0 ≤ s ∧ s < 8 ∧ 0 ≤ u ∧ u < 8) := ⟨_, rfl⟩
      go_upto_region 9 with fail
      go_cut [8] from 36 to 49 (fun c wx => c = .bool f ∧ wx = W1)
      case first =>
        have g1 : f = (decide (0 ≤ s) && (decide (s < 8) && (decide (0 ≤ u) && decide (u < 8)))) := by rw [hf]; simp [Bool.decide_and]
        clear hf hrd hheap
        by_cases c1 : 0 ≤ s
        · have b1 : decide (0 ≤ s) = true := decide_eq_true c1
          by_cases c2 : s < 8
          · have b2 : decide (s < 8) = true := decide_eq_true c2
            by_cases c3 : 0 ≤ u
            · have b3 : decide (0 ≤ u) = true := decide_eq_true c3
              go_wp2_with fail
              go_meet
              exact ⟨by rw [g1, b1, b2, b3]; rfl, rfl⟩
            · have b3 : decide (0 ≤ u) = false := decide_eq_false c3
              go_wp2_with fail
              go_meet
              exact ⟨by rw [g1, b1, b2, b3]; rfl, rfl⟩
          · have b2 : decide (s < 8) = false := decide_eq_false c2
            go_wp2_with fail
            go_meet
            exact ⟨by rw [g1, b1, b2]; rfl, rfl⟩
        · have b1 : decide (0 ≤ s) = false := decide_eq_false c1
          go_wp2_with fail
          go_meet
          exact ⟨by rw [g1, b1]; rfl, rfl⟩
      case rest =>
        obtain ⟨rfl, rfl⟩ := hcut
        have hi' : (Try.prog.info? 26).map (·.size) = some vs.toArray.size := by rw [List.size_toArray, hl]; exact info26
        have hheap := hN1.heap hheap id
        have hrd' : Rd wc vs (rowL l) := fun u hu => (hrd u hu).1.new hN1
        have HR := Lib.hid (row_any vs hl (rowL l) s wc hrd')
        obtain ⟨was, hwas⟩ : ∃ d, rowI (rowL l) s = d := ⟨_, rfl⟩
        rw [hwas] at HR
        have Hf := Lib.hid hf
        have Hwas := Lib.hid hwas
        have Hrd := Lib.hid hrd
        clear hrd' hf hwas hrd
        go_wp2_with (refine op_value rfl (run_load_row 26 (.tmp 4) rfl w.heap.size rfl 26 vs.toArray (0, 0) _ hheap Try.underlying26 rfl hi') ?_)
        refine HR.out.mono ?_
        rintro e w2 ⟨rfl, hN2⟩
        have h0 := hN2.cell h0 id
        go_upto_block 2 with fail
        go_cut [3, 10, 11, 12, 13, 14, 15] from 58 to 185 (fun x ok want _ _ _ _ wx => ∃ (z : Nat) (b : Bool), x = .int .u64 z ∧ ok = .bool b ∧ want = .bool b ∧ RowsAt W0 w.heap.size z wx)
        case first =>
          rename_i J K' hJ hK
          have hr2 := (hrow.new hN1).new hN2
          clear hrow hN1 hN2 h0 hheap hi' hM HD Hrd hl HR HN0
          refine Code.wp_mono (Only.imp fun a w h => h) ?_
          by_cases hd0 : d = 0
          · subst hd0
            refine sw0 hr2 s1 s2 q1 q2 Hf Hwas ?_
            refine Lib.hid ?_
            intro hR
            dsimp only [Only, Exit.then]
            refine hK _ _ (hJ _ _ ?_)
            repeat apply Exists.intro
            exact ⟨⟨_, _, rfl, rfl, rfl, hR⟩, rfl⟩
          · by_cases hd1 : d = 1
            · subst hd1
              refine sw1 hr2 s1 s2 q1 q2 Hf Hwas ?_
              refine Lib.hid ?_
              intro hR
              dsimp only [Only, Exit.then]
              refine hK _ _ (hJ _ _ ?_)
              repeat apply Exists.intro
              exact ⟨⟨_, _, rfl, rfl, rfl, hR⟩, rfl⟩
            · by_cases hd2 : d = 2
              · subst hd2
                refine sw2 hr2 s1 s2 q1 q2 Hf Hwas ?_
                refine Lib.hid ?_
                intro hR
                dsimp only [Only, Exit.then]
                refine hK _ _ (hJ _ _ ?_)
                repeat apply Exists.intro
                exact ⟨⟨_, _, rfl, rfl, rfl, hR⟩, rfl⟩
              · refine sw3 hr2 hd0 hd1 hd2 s1 s2 q1 q2 Hf Hwas ?_
                refine Lib.hid ?_
                intro hR
                dsimp only [Only, Exit.then]
                refine hK _ _ (hJ _ _ ?_)
                repeat apply Exists.intro
                exact ⟨⟨_, _, rfl, rfl, rfl, hR⟩, rfl⟩
        case rest =>
          obtain ⟨z, bb, rfl, rfl, rfl, l', hrow'⟩ := hcut
          obtain ⟨vs', hheap', hl', hrd', hM'⟩ := hrow'.st.out
          have hz : z < 18446744073709551616 := by rw [hrow'.enc.out]; exact enc_lt hrow'.ok
          have hzr : rightB z = true := by rw [hrow'.enc.out]; exact right_enc hrow'.ok
          have hzf : rowsF z = rowL l' := by rw [hrow'.enc.out]; exact rows_enc hrow'.ok
          have HRt := Lib.hid (right_ref z hz hzr)
          have HRo := Lib.hid (rows_reads z hz)
          have Hzf := Lib.hid hzf
          have hbb : (bb != bb) = false := by cases bb <;> rfl
          obtain ⟨v0, v1, v2, v3, v4, v5, v6, v7, rfl⟩ := eight hl'
          have hc8 := cells8 hheap'
          have Hrd' := Lib.hid (show Rd wc [v0, v1, v2, v3, v4, v5, v6, v7] (rowL l') from fun u hu => (hrd' u hu).1)
          clear hzr hzf hz hheap' hrd' hl' hM'
          obtain ⟨a0, a1, a2, a3, a4, a5, a6, a7⟩ := hc8
          go_wp2_with fail
          go_region_held3 (fun w' => w'.cell? ⟨w.heap.size, 0, none⟩ = some v0 ∧ w'.cell? ⟨w.heap.size, 1, none⟩ = some v1 ∧ w'.cell? ⟨w.heap.size, 2, none⟩ = some v2 ∧ w'.cell? ⟨w.heap.size, 3, none⟩ = some v3 ∧ w'.cell? ⟨w.heap.size, 4, none⟩ = some v4 ∧ w'.cell? ⟨w.heap.size, 5, none⟩ = some v5 ∧ w'.cell? ⟨w.heap.size, 6, none⟩ = some v6 ∧ w'.cell? ⟨w.heap.size, 7, none⟩ = some v7 ∧ New wc w')
            (first | exact ⟨a0, a1, a2, a3, a4, a5, a6, a7, (Mods.refl _ _).drew⟩ | exact keep8 (by assumption) hNz | exact keep8 (by assumption) hNy | exact keep8 (by assumption) hNx)
            (first | (go_at_call 13; refine (HRt.out _).mono ?_; rintro e w3 ⟨rfl, hNx⟩) | (go_at_call 15; refine (HRo.out _).mono ?_; rintro e w4 ⟨vs2, rfl, hl2, hr2, hNy⟩) | (go_at_call 14; refine (same_ref vs2 [v0, v1, v2, v3, v4, v5, v6, v7] hl2 rfl (rowsF z) _ (fun u hu => (hr2 u hu).new (by first | exact Mods.refl _ _ | exact (Mods.refl _ _).drew | exact (Mods.refl _ _).drew.drew)) (fun u hu => by rw [Hzf.out]; exact (Hrd'.out u hu).new (by first | exact held8 (by assumption) | exact (held8 (by assumption)).drew | exact (held8 (by assumption)).drew.drew))).mono ?_; rintro e w5 ⟨rfl, hNz⟩))
          all_goals
            have hrow'' := hrow'.new ((((Mods.refl _ _).drew.trans hNx).trans hNy).trans hNz)
            clear a0 a1 a2 a3 a4 a5 a6 a7 hr2 hNx hNy hNz hrow'
            go_wp2_with fail
            go_roundw
            case rel => exact ⟨k + 1, z, by omega, by go_num, rfl, l', hrow''⟩
            case measure => simp [intOf]; omega
    · obtain ⟨vs, hheap, hl, hrd, hM⟩ := hrow.st.out
      have hNN : New w wr := ((Mods.ofNew HN0.out).trans hM).new (fun k hk => Nat.le_of_eq hk.symm)
      clear hheap hl hrd hM
      go_wp2_with fail
      refine (wakes_any _).mono ?_
      rintro e w2 ⟨rfl, hN2⟩
      go_wp2_with fail
      go_ret
      exact ⟨rfl, hNN.trans hN2⟩
end Go.Proofs.Ytlkepbmjagjfeaa
