/- The document's own word of which rows may be. -/
import Derived.Test.YtcelhdlppimfbaaR13
namespace Go.Proofs.Ytcelhdlppimfbaa
open Go.RowKit Go.Shelf Go.Cs
attribute [local go_sem] Oper.semAt_some
set_option maxHeartbeats 2000000 in
theorem right_ref (vs : List Value) (hl : vs.length = 8) (X : Nat → List Int) (w : World) (hr : Rd w vs X) :
    Calls Try.prog 6 #[.agg vs.toArray] w fun e w' => e = .returned (.bool (rightR X)) ∧ New w w' := by
  have HA := Lib.hid ((Arr8.mk (B := w.heap.size) hl (World.alloc_heap_new w (.cells vs.toArray 23))).kept ((Mods.refl (fun _ => False) _).alloc (.cells (bitsC 0).toArray 44)) id)
  have HB := World.alloc_heap_new (w.alloc (.cells vs.toArray 23)) (.cells (bitsC 0).toArray 44)
  rw [show (w.alloc (.cells vs.toArray 23)).heap.size = w.heap.size + 1 by simp] at HB
  have hN := ((Mods.refl (fun _ => False) w).alloc (.cells vs.toArray 23)).alloc (.cells (bitsC 0).toArray 44)
  have Hr := Lib.hid hr
  have hblk := Lib.hid (fun u (hu : u < 8) (hx : X u ≠ []) g hg => hr.block hu hx (g := g) hg)
  obtain ⟨b, hb⟩ : ∃ b, rightR X = b := ⟨_, rfl⟩
  rw [hb]
  have Hb := Lib.hid hb
  clear hr hl hb
  go_enter Try.func6, Try.ntmps6
  go_wp2_with fail
  obtain ⟨W0, hW0⟩ : ∃ W0, (w.alloc (.cells vs.toArray 23)).alloc (.cells (bitsC 0).toArray 44) = W0 := ⟨_, rfl⟩
  rw [hW0] at HA HB hN
  rw [show (w.alloc (.cells vs.toArray 23)).alloc (.cells #[.bool false, .bool false, .bool false, .bool false, .bool false, .bool false, .bool false, .bool false] 44) = W0 from hW0]
  have HB := Lib.hid HB
  clear hW0
  have hsz := hN.size
  go_loopw [4, 5] (fun i _ wr => ∃ u s : Nat, u ≤ 8 ∧ i = .int .i64 u ∧ Hid (preR X u 0 = some s) ∧ Hid (wr.heap[w.heap.size + 1]? = some (.cells (bitsC s).toArray 44 (0, 0))) ∧ Mods (fun b => b = w.heap.size + 1) W0 wr) (fun i _ _ => 8 - (intOf i).toNat)
  case atStart => exact ⟨0, 0, by omega, rfl, preR_zero X, HB.out, Mods.refl _ _⟩
  case round =>
    obtain ⟨u, s, hu, rfl, hst, hbits, hM⟩ := hrel
    by_cases hu8 : u < 8
    · have hud : decide ((u : Int) < 8) = true := by simp; omega
      go_wp2_with fail
      obtain ⟨wo, hwo⟩ : ∃ wo, wr = wo := ⟨_, rfl⟩
      rw [hwo] at hbits hM ⊢
      clear hwo wr
      have HM := Lib.hid hM
      clear hM
      obtain ⟨hlen, ao, cap, hv, hc⟩ := Hr.out u hu8
      have h1 := HA.out u hu8
      rw [hv] at h1
      have Hc := Lib.hid hc
      have Hsu := Lib.hid (fun k hk => preR_succ X u k hk)
      have Hrow := Lib.hid (preR_row X u)
      have Hnone := Lib.hid (fun k (h : preR X u k = none) => preR_none hu8 h)
      have Hbk : Hid (∀ g, (X u) ≠ [] → ao = some g → g.block < w.heap.size) := Lib.hid (fun g hx e => hblk.out u hu8 hx g.block (by rw [hv, e]; rfl))
      obtain ⟨n, hn⟩ : ∃ n, (X u).length = n := ⟨_, rfl⟩
      rw [hn] at hlen h1 Hc Hsu Hrow
      have Hn := Lib.hid hn
      have H1 := Lib.hid h1
      clear hv hc hn h1
      go_loopw [5] (fun c wi => ∃ k s : Nat, k ≤ n ∧ c = .int .i64 k ∧ Hid (preR X u k = some s) ∧ Hid (wi.heap[w.heap.size + 1]? = some (.cells (bitsC s).toArray 44 (0, 0))) ∧ Mods (fun b => b = w.heap.size + 1) wo wi) (fun c _ => n - (intOf c).toNat)
      case atStart => exact ⟨0, s, by omega, rfl, hst, hbits, Mods.refl _ _⟩
      case round =>
        obtain ⟨k, t, hk, rfl, hkt, hbt, hMk⟩ := hrel
        have hMM := HM.out.trans hMk
        have h1 := hMM.cell H1.out (show ¬ (w.heap.size = w.heap.size + 1) by omega)
        by_cases hkn : k < n
        · obtain ⟨b1, o1, rfl, h2⟩ := Hc.out k hkn
          have hb1 := Hbk.out _ (by intro e; have := Hn.out; rw [e] at this; simp at this; omega) rfl
          have h2 := hMM.cell (hN.cell h2 id) (show ¬ (b1 = w.heap.size + 1) by dsimp only at hb1; omega)
          have hs1 := Hsu.out k hkn
          obtain ⟨z, hz⟩ : ∃ z, (X u).getD k 0 = z := ⟨_, rfl⟩
          rw [hz] at h2 hs1
          rw [hkt.out] at hs1
          have HS := Lib.hid (slot_any z)
          have ht256 := preR_lt hkt.out
          clear hz hst hbits hMM
          cases he : eightB z with
          | false =>
            rw [he] at HS
            have hR : b = false := by
              rw [← Hb.out, rightR, Hnone.out (k + 1) (by rw [hs1, seenF, if_pos (.inl he)])]; rfl
            have HR := Lib.hid hR
            clear hs1 he hR
            go_wp2_with (go_at_call 18; refine (HS.out _).mono ?_; rintro e w2 ⟨rfl, rfl⟩)
            go_ret
            exact ⟨by rw [HR.out]; rfl, (((Mods.ofNew hN).trans (HM.out.trans hMk)).new (by omega))⟩
          | true =>
            rw [he] at HS
            have h8 := of_decide_eq_true he
            obtain ⟨m, rfl⟩ := Int.eq_ofNat_of_zero_le h8.1
            have hm8 : m < 8 := by omega
            have hcell : wr.cell? ⟨w.heap.size + 1, m, none⟩ = some (.bool (t.testBit m)) := by
              rw [cell_of_row wr _ m _ 44 (0, 0) hbt.out, List.getElem?_toArray]
              exact bitsC_at t m hm8
            have hfz : wr.frozen? ⟨w.heap.size + 1, m, none⟩ = false := by simp [World.frozen?, hbt.out]
            rw [seenF, he, Int.toNat_natCast] at hs1
            have hset := heap_setCell_same wr (w.heap.size + 1) m (bitsC t).toArray 44 (.bool true) hbt.out
            have Hset := Lib.hid hset
            have hbi := bit_iff t m
            cases htb : t.testBit m with
            | true =>
              rw [htb] at hcell hbi
              have hR : b = false := by
                rw [← Hb.out, rightR, Hnone.out (k + 1) (by rw [hs1, if_pos (.inr (of_decide_eq_true hbi.symm))])]; rfl
              have HR := Lib.hid hR
              clear hs1 he hR hset hbi htb
              go_wp2_with (go_at_call 18; refine (HS.out _).mono ?_; rintro e w2 ⟨rfl, rfl⟩)
              go_ret
              exact ⟨by rw [HR.out]; rfl, (((Mods.ofNew hN).trans (HM.out.trans hMk)).new (by omega))⟩
            | false =>
              rw [htb] at hcell hbi
              have hnx : Hid (preR X u (k + 1) = some (t ||| 2 ^ m)) := Lib.hid (by rw [hs1, if_neg (by simpa using hbi.symm)])
              clear hs1 he hset hbi htb
              go_wp2_with (go_at_call 18; refine (HS.out _).mono ?_; rintro e w2 ⟨rfl, rfl⟩)
              go_roundw
              case rel => exact ⟨k + 1, _, by omega, by go_num, hnx, by have := Hset.out; rw [List.setIfInBounds_toArray, bitsC_set t m hm8] at this; exact this, mset hMk _⟩
              case measure => simp [intOf]; omega
        · obtain rfl : k = n := by omega
          have hnx : Hid (preR X (u + 1) 0 = some t) := Lib.hid (by rw [Hrow.out]; exact hkt.out)
          have hMM2 := HM.out.trans hMk
          clear hst hbits hMM
          go_wp2_with fail
          go_roundw
          case rel => exact ⟨u + 1, t, by omega, by go_num, hnx, hbt, hMM2⟩
          case measure => simp [intOf]; omega
    · obtain rfl : u = 8 := by omega
      have hR : b = true := by
        rw [← Hb.out, rightR, ← preR_all, hst.out]; rfl
      have HR := Lib.hid hR
      clear hR
      go_wp2_with fail
      go_ret
      exact ⟨by rw [HR.out]; rfl, ((Mods.ofNew hN).trans hM).new (by omega)⟩
end Go.Proofs.Ytcelhdlppimfbaa
