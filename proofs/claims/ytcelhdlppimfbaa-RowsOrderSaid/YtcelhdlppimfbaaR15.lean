/- The same rows, as package rows has it. -/
import Derived.Test.YtcelhdlppimfbaaR14
namespace Go.Proofs.Ytcelhdlppimfbaa
open Go.RowKit Go.Shelf Go.Cs
attribute [local go_sem] Oper.semAt_some
/-- slices.Equal. -/
theorem equal_any (v v' : Value) (L L' : List Int) (w : World) (h : ReadsI .i64 w v L) (h' : ReadsI .i64 w v' L') :
    Calls Try.prog 28 #[v, v'] w fun e w' => e = .returned (.bool (decide (L = L'))) ∧ New w w' := by
  obtain ⟨hlen, ao, cap, rfl, hc⟩ := h
  obtain ⟨hlen', ao', cap', rfl, hc'⟩ := h'
  by_cases hll : L.length = L'.length
  · obtain ⟨n, hn⟩ : ∃ n, L.length = n := ⟨_, rfl⟩
    rw [hn] at hll
    rw [← hll] at hlen' hc' ⊢
    rw [hn] at hlen hc ⊢
    have Hc := Lib.hid hc
    have Hc' := Lib.hid hc'
    have Hn := Lib.hid hn
    have Hn' := Lib.hid hll
    obtain ⟨b, hb⟩ : ∃ b, decide (L = L') = b := ⟨_, rfl⟩
    rw [hb]
    have Hb := Lib.hid hb
    clear hc hc' hn hll hb
    go_enter Try.func28, Try.ntmps28
    go_wp2_with fail
    go_loopw [13] (fun c wr => ∃ k : Nat, k ≤ n ∧ c = .int .i64 k ∧ Hid (∀ j, j < k → L.getD j 0 = L'.getD j 0) ∧ New w wr) (fun c _ => n - (intOf c).toNat)
    case atStart => exact ⟨0, by omega, rfl, (fun j hj => by omega), Mods.refl _ _⟩
    case round =>
      obtain ⟨k, hk, rfl, hsame, hN⟩ := hrel
      by_cases hkn : k < n
      · obtain ⟨b1, o1, rfl, h1⟩ := Hc.out k hkn
        obtain ⟨b2, o2, rfl, h2⟩ := Hc'.out k hkn
        have h1 := hN.cell h1 id
        have h2 := hN.cell h2 id
        obtain ⟨z, hz⟩ : ∃ z, L.getD k 0 = z := ⟨_, rfl⟩
        obtain ⟨z', hz'⟩ : ∃ z, L'.getD k 0 = z := ⟨_, rfl⟩
        rw [hz] at h1
        rw [hz'] at h2
        by_cases he : z = z'
        · have hq : (z != z') = false := by simp [he]
          have hnext : Hid (∀ j, j < k + 1 → L.getD j 0 = L'.getD j 0) := Lib.hid (fun j hj => by
            by_cases h : j < k
            · exact hsame.out j h
            · obtain rfl : j = k := by omega
              rw [hz, hz', he])
          clear hz hz' he hsame
          go_wp2
          go_quiet (fail)
          go_wp2
          go_roundw
          case rel => exact ⟨k + 1, by omega, by go_num, hnext, hN.drewN _⟩
          case measure => simp [intOf]; omega
        · have hq : (z != z') = true := by simp [he]
          obtain rfl : b = false := by rw [← Hb.out]; exact decide_eq_false (fun e => he (by rw [← hz, ← hz', e]))
          clear hz hz' he hsame
          go_wp2
          go_quiet (fail)
          go_wp2
          go_ret
          exact ⟨rfl, hN.drewN _⟩
      · obtain rfl : b = true := by
          rw [← Hb.out]
          refine decide_eq_true (List.ext_getElem (by rw [Hn.out, Hn'.out]) (fun i hi hi' => ?_))
          have := hsame.out i (by have := Hn.out; omega)
          simpa [List.getD, hi, hi'] using this
        clear hsame
        go_wp2
        go_ret
        exact ⟨rfl, hN⟩
  · have e : decide (L = L') = false := decide_eq_false (fun e => hll (by rw [e]))
    rw [e]
    obtain ⟨n, hn⟩ : ∃ n, L.length = n := ⟨_, rfl⟩
    obtain ⟨n', hn'⟩ : ∃ n, L'.length = n := ⟨_, rfl⟩
    rw [hn] at hlen hll ⊢
    rw [hn'] at hlen' hll ⊢
    have hne : ((n : Int) != (n' : Int)) = true := by simp; omega
    clear hc hc' e hn hn' hll
    go_enter Try.func28, Try.ntmps28
    go_wp2
    go_ret
    exact ⟨rfl, Mods.refl _ _⟩
set_option maxHeartbeats 1000000 in
theorem equalFunc_any (B1 B2 : Nat) (vs ws : List Value) (X Y : Nat → List Int) (w : World) (hA : Arr8 B1 vs w) (hB : Arr8 B2 ws w) (hr : Rd w vs X) (hr' : Rd w ws Y) :
    Calls Try.prog 27 #[.slice (some ⟨B1, 0, none⟩) 8 8, .slice (some ⟨B2, 0, none⟩) 8 8, .func (.func 28) #[] #[]] w fun e w' => e = .returned (.bool (sameR X Y)) ∧ New w w' := by
  have HA := Lib.hid hA
  have HB := Lib.hid hB
  have Hr := Lib.hid hr
  have Hr' := Lib.hid hr'
  clear hA hB hr hr'
  go_enter Try.func27, Try.ntmps27
  go_wp2_with fail
  go_loopw [17] (fun i wr => ∃ u : Nat, u ≤ 8 ∧ i = .int .i64 u ∧ Hid (∀ j, j < u → X j = Y j) ∧ New w wr) (fun i _ => 8 - (intOf i).toNat)
  case atStart => exact ⟨0, by omega, rfl, (fun j hj => by omega), Mods.refl _ _⟩
  case round =>
    obtain ⟨u, hu, rfl, hsame, hNu⟩ := hrel
    by_cases hu8 : u < 8
    · have HI := Lib.hid (equal_any (vs.getD u undef) (ws.getD u undef) (X u) (Y u) wr ((Hr.out u hu8).new hNu) ((Hr'.out u hu8).new hNu))
      have h1 := hNu.cell (HA.out u hu8) id
      have h2 := hNu.cell (HB.out u hu8) id
      obtain ⟨v, hv⟩ : ∃ v, vs.getD u undef = v := ⟨_, rfl⟩
      obtain ⟨v', hv'⟩ : ∃ v, ws.getD u undef = v := ⟨_, rfl⟩
      obtain ⟨b, hb⟩ : ∃ b, decide (X u = Y u) = b := ⟨_, rfl⟩
      rw [hv] at h1
      rw [hv'] at h2
      rw [hv, hv', hb] at HI
      have Hb := Lib.hid hb
      have hud : decide ((u : Int) < 8) = true := by simp; omega
      clear hv hv' hb
      go_wp2_with fail
      refine HI.out.mono ?_
      rintro e w3 ⟨rfl, hN3⟩
      have hN5 := hNu.trans hN3
      clear h1 h2 HI
      cases b with
      | true =>
        have hnext : Hid (∀ j, j < u + 1 → X j = Y j) := Lib.hid (fun j hj => by
          by_cases h : j < u
          · exact hsame.out j h
          · obtain rfl : j = u := by omega
            exact of_decide_eq_true Hb.out)
        clear hsame
        go_wp2_with fail
        go_roundw
        case rel => exact ⟨u + 1, by omega, by go_num, hnext, hN5⟩
        case measure => simp [intOf]; omega
      | false =>
        have hR : Hid (sameR X Y = false) := Lib.hid (by
          unfold sameR
          rw [List.all_eq_false]
          exact ⟨u, List.mem_range.2 hu8, by rw [Hb.out]; simp⟩)
        clear hsame
        go_wp2_with fail
        go_ret
        exact ⟨by rw [hR.out]; rfl, hN5⟩
    · obtain rfl : u = 8 := by omega
      have hR : Hid (sameR X Y = true) := Lib.hid (by
        unfold sameR
        rw [List.all_eq_true]
        intro j hj
        exact decide_eq_true (hsame.out j (List.mem_range.1 hj)))
      clear hsame
      go_wp2_with fail
      go_ret
      exact ⟨by rw [hR.out]; rfl, hNu⟩
theorem same_any (vs ws : List Value) (hl : vs.length = 8) (hl' : ws.length = 8) (X Y : Nat → List Int) (w : World) (hr : Rd w vs X) (hr' : Rd w ws Y) :
    Calls Try.prog 21 #[.agg vs.toArray, .agg ws.toArray] w fun e w' => e = .returned (.bool (sameR X Y)) ∧ New w w' := by
  have hN := ((Mods.refl (fun _ => False) w).alloc (.cells vs.toArray 23)).alloc (.cells ws.toArray 23)
  have HA := (Arr8.mk (B := w.heap.size) hl (World.alloc_heap_new w (.cells vs.toArray 23))).kept ((Mods.refl (fun _ => False) _).alloc (.cells ws.toArray 23)) id
  have HB := Arr8.mk hl' (World.alloc_heap_new (w.alloc (.cells vs.toArray 23)) (.cells ws.toArray 23))
  rw [show (w.alloc (.cells vs.toArray 23)).heap.size = w.heap.size + 1 by simp] at HB
  have hD : New ((w.alloc (.cells vs.toArray 23)).alloc (.cells ws.toArray 23)) ((w.alloc (.cells vs.toArray 23)).alloc (.cells ws.toArray 23)).drew := (Mods.refl _ _).drew
  have HE := Lib.hid (equalFunc_any w.heap.size (w.heap.size + 1) vs ws X Y _ (HA.kept hD id) (HB.kept hD id) (hr.new (hN.trans hD)) (hr'.new (hN.trans hD)))
  have HN := Lib.hid hN
  clear HA HB hN hD hr hr' hl hl'
  go_enter Try.func21, Try.ntmps21
  go_wp2_with fail
  go_region_held3 (fun _ => True) (trivial) ((go_at_call 27; refine HE.out.mono ?_; rintro e w3 ⟨rfl, hN3⟩))
  all_goals
    go_wp2_with fail
    go_ret
    exact ⟨rfl, HN.out.drew.trans hN3⟩
end Go.Proofs.Ytcelhdlppimfbaa
