/- The document's own words: the same rows; which rows may be. -/
import Derived.Test.YtcelhdlppimfbaaR12
namespace Go.Proofs.Ytcelhdlppimfbaa
open Go.RowKit Go.Shelf Go.Cs
attribute [local go_sem] Oper.semAt_some
def sameR (X Y : Nat → List Int) : Bool := (List.range 8).all fun u => decide (X u = Y u)
set_option maxHeartbeats 1000000 in
theorem same_ref (vs ws : List Value) (hl : vs.length = 8) (hl' : ws.length = 8) (X Y : Nat → List Int) (w : World) (hr : Rd w vs X) (hr' : Rd w ws Y) :
    Calls Try.prog 12 #[.agg vs.toArray, .agg ws.toArray] w fun e w' => e = .returned (.bool (sameR X Y)) ∧ New w w' := by
  have hN := ((Mods.refl (fun _ => False) w).alloc (.cells vs.toArray 23)).alloc (.cells ws.toArray 23)
  have HA := Lib.hid ((Arr8.mk (B := w.heap.size) hl (World.alloc_heap_new w (.cells vs.toArray 23))).kept ((Mods.refl (fun _ => False) _).alloc (.cells ws.toArray 23)) id)
  have HB := Lib.hid (Arr8.mk hl' (World.alloc_heap_new (w.alloc (.cells vs.toArray 23)) (.cells ws.toArray 23)))
  rw [show (w.alloc (.cells vs.toArray 23)).heap.size = w.heap.size + 1 by simp] at HB
  have Hr := Lib.hid hr
  have Hr' := Lib.hid hr'
  clear hr hr' hl hl'
  go_enter Try.func12, Try.ntmps12
  go_wp2_with fail
  obtain ⟨W0, hW0⟩ : ∃ W0, (w.alloc (.cells vs.toArray 23)).alloc (.cells ws.toArray 23) = W0 := ⟨_, rfl⟩
  rw [hW0] at HA HB hN ⊢
  clear hW0
  go_loopw [5] (fun i wr => ∃ u : Nat, u ≤ 8 ∧ i = .int .i64 u ∧ Hid (∀ j, j < u → X j = Y j) ∧ New W0 wr) (fun i _ => 8 - (intOf i).toNat)
  case atStart => exact ⟨0, by omega, rfl, (fun j hj => by omega), Mods.refl _ _⟩
  case round =>
    obtain ⟨u, hu, rfl, hsame, hNu⟩ := hrel
    by_cases hu8 : u < 8
    · have HI := Lib.hid (fun W (hW : New w W) => ints_any (vs.getD u undef) (ws.getD u undef) (X u) (Y u) W ((Hr.out u hu8).new hW) ((Hr'.out u hu8).new hW))
      have h1 := hNu.cell (HA.out u hu8) id
      have h2 := hNu.cell (HB.out u hu8) id
      obtain ⟨v, hv⟩ : ∃ v, vs.getD u undef = v := ⟨_, rfl⟩
      obtain ⟨v', hv'⟩ : ∃ v, ws.getD u undef = v := ⟨_, rfl⟩
      obtain ⟨b, hb⟩ : ∃ b, decide (X u = Y u) = b := ⟨_, rfl⟩
      rw [hv] at h1
      rw [hv'] at h2
      rw [hv, hv', hb] at HI
      have Hb := Lib.hid hb
      have d1 : wr.drew.cell? ⟨w.heap.size, u, none⟩ = some v := h1
      have d2 : wr.drew.cell? ⟨w.heap.size + 1, u, none⟩ = some v' := h2
      have hud : decide ((u : Int) < 8) = true := by simp; omega
      have hu0 : (0 : Int) ≤ (u : Int) := by omega
      have hu8' : (u : Int) < 8 := by omega
      have hNn : New w wr.drew := (hN.trans hNu).drew
      have HNu := Lib.hid hNu
      clear hv hv' hb hNu
      go_wp2_with fail
      go_region_held3 (fun w' => w'.cell? ⟨w.heap.size, u, none⟩ = some v ∧ w'.cell? ⟨w.heap.size + 1, u, none⟩ = some v')
        (first | with_reducible exact ⟨e1, e2⟩ | with_reducible exact ⟨d1, d2⟩)
        ((go_at_call 19; refine (HI.out _ hNn).mono ?_; rintro e w3 ⟨rfl, hN3⟩; have e1 := hN3.cell d1 id; have e2 := hN3.cell d2 id))
      all_goals
        have hN5 : New W0 w3 := (HNu.out.drew).trans hN3
        clear d1 d2 e1 e2 h1 h2 HI hNn
        cases b with
        | true =>
          have hnext : Hid (∀ j, j < u + 1 → X j = Y j) := Lib.hid (fun j hj => by
            by_cases h : j < u
            · exact hsame.out j h
            · obtain rfl : j = u := by omega
              exact of_decide_eq_true Hb.out)
          clear hsame
          go_wp2_with fail
          go_roundw
          case rel => exact ⟨u + 1, by omega, by go_num, hnext, hN5⟩
          case measure => simp [intOf]; omega
        | false =>
          have hR : Hid (sameR X Y = false) := Lib.hid (by
            unfold sameR
            rw [List.all_eq_false]
            exact ⟨u, List.mem_range.2 hu8, by rw [Hb.out]; simp⟩)
          clear hsame
          go_wp2_with fail
          go_ret
          exact ⟨by rw [hR.out]; rfl, hN.trans hN5⟩
    · obtain rfl : u = 8 := by omega
      have hR : Hid (sameR X Y = true) := Lib.hid (by
        unfold sameR
        rw [List.all_eq_true]
        intro j hj
        exact decide_eq_true (hsame.out j (List.mem_range.1 hj)))
      clear hsame
      go_wp2_with fail
      go_ret
      exact ⟨by rw [hR.out]; rfl, hN.trans hNu⟩
/-- The numbers of the first rows, and the first ones of the next. -/
def preR (X : Nat → List Int) (u k : Nat) : Option Nat := ((flatTo X u).map (·.2) ++ (X u).take k).foldl seenF (some 0)
theorem preR_succ (X : Nat → List Int) (u k : Nat) (hk : k < (X u).length) : preR X u (k + 1) = seenF (preR X u k) ((X u).getD k 0) := by
  unfold preR
  rw [List.take_succ_eq_append_getElem hk, ← List.append_assoc, List.foldl_append]
  simp [List.getD, hk]
theorem preR_row (X : Nat → List Int) (u : Nat) : preR X (u + 1) 0 = preR X u (X u).length := by
  unfold preR
  rw [flatTo, List.take_zero, List.append_nil, List.take_length, List.map_append]
  simp [Function.comp_def]
theorem preR_all (X : Nat → List Int) : preR X 8 0 = stR (flat X) := by simp [preR, stR, flat]
theorem preR_zero (X : Nat → List Int) : preR X 0 0 = some 0 := rfl
theorem preR_none {X : Nat → List Int} {u k : Nat} (hu : u < 8) (h : preR X u k = none) : stR (flat X) = none := by
  obtain ⟨t, ht⟩ := flatTo_split X (u + 1) 8 (by omega)
  unfold stR flat
  rw [ht, flatTo, List.map_append, List.map_append]
  have e : ((X u).map fun n => (u, n)).map (·.2) = (X u).take k ++ (X u).drop k := by rw [List.take_append_drop]; simp [Function.comp_def]
  rw [e, ← List.append_assoc, List.foldl_append, List.foldl_append]
  unfold preR at h
  rw [h, fold_none, fold_none]
theorem preR_lt {X : Nat → List Int} {u k s : Nat} (h : preR X u k = some s) : s < 256 := seen_lt _ 0 s (by decide) h
def bitsC (s : Nat) : List Value := (List.range 8).map fun i => .bool (s.testBit i)
theorem bitsC_at (s m : Nat) (hm : m < 8) : (bitsC s)[m]? = some (.bool (s.testBit m)) := by simp [bitsC, hm]
theorem bitsC_set (s m : Nat) (hm : m < 8) : (bitsC s).set m (.bool true) = bitsC (s ||| 2 ^ m) := by
  apply List.ext_getElem?
  intro i
  rw [List.getElem?_set]
  by_cases hi : m = i
  · subst hi
    rw [if_pos rfl, if_pos (by simp [bitsC, hm]), bitsC_at _ _ hm, Nat.testBit_or, Nat.testBit_two_pow_self, Bool.or_true]
  · rw [if_neg hi]
    by_cases h8 : i < 8
    · rw [bitsC_at _ _ h8, bitsC_at _ _ h8, Nat.testBit_or, Nat.testBit_two_pow_of_ne hi, Bool.or_false]
    · rw [List.getElem?_eq_none (by simp [bitsC]; omega), List.getElem?_eq_none (by simp [bitsC]; omega)]
end Go.Proofs.Ytcelhdlppimfbaa
