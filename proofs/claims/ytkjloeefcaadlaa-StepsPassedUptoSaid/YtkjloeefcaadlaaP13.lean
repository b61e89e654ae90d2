/- The document's own words of a word that may be: pushed, turned, whatever the numbers. -/
import Derived.Test.YtkjloeefcaadlaaP12
import Derived.Test.YtkjloeefcaadlaaP10
import Derived.Test.YtkjloeefcaadlaaP00
import Derived.Laws.StructEq
import Derived.Deep.CutRange
import Derived.Laws.OwnMore
set_option linter.unusedSimpArgs false
set_option linter.unusedVariables false
namespace Go.Proofs.Ytkjloeefcaadlaa
open Go.RowKit Go.Shelf Go.Cs
attribute [local go_sem] Oper.semAt_some
theorem push_ref {l : List (Nat × Nat)} (h : OkL l) (s u : Int) (w : World) :
    Calls Try.prog 21 #[.int .u64 (enc l), .int .i64 s, .int .i64 u] w fun e w' => e = .returned (pair (pushF (enc l) s u)) ∧ New w w' := by
  by_cases hc : canPush l s u
  · rw [push_enc_any h hc]
    obtain ⟨s0, s8, u0, u8, hno⟩ := hc
    obtain ⟨s', rfl⟩ := Int.eq_ofNat_of_zero_le s0
    obtain ⟨u', rfl⟩ := Int.eq_ofNat_of_zero_le u0
    exact push_ref_yes h (by omega) (by omega) (fun p hp e => hno p hp (by omega)) w
  · rw [push_enc_no h hc]
    exact push_ref_no h s u hc w
theorem atR_tuple (l : List (Nat × Nat)) (k : Int) : ∃ (a b : Int) (c : Bool), atR l k = .tuple #[.int .i64 a, .int .i64 b, .bool c] := by
  unfold atR
  split
  · exact ⟨_, _, _, rfl⟩
  · exact ⟨_, _, _, rfl⟩
set_option maxRecDepth 100000 in
theorem turn_ref {l : List (Nat × Nat)} (h : OkL l) (s u : Int) (w : World) :
    Calls Try.prog 25 #[.int .u64 (enc l), .int .i64 s, .int .i64 u] w fun e w' => e = .returned (pair (turnF (enc l) s u)) ∧ New w w' := by
  have HF := Lib.hid (fun w => find_ref h s w)
  have Hu := Lib.hid (number_ref u)
  cases hf : fi l s with
  | none =>
    rw [turn_enc_no h u (fi_none hf)]
    rw [hf] at HF
    have HA := Lib.hid (fun w => at_ref h 0 w)
    obtain ⟨a, b, c, e⟩ := atR_tuple l 0
    rw [e] at HA
    unfold optT pair at *
    obtain ⟨x, hx⟩ : ∃ x, enc l = x := ⟨_, rfl⟩
    rw [hx] at HF HA ⊢
    clear h hf e hx Hu
    go_enter Try.func25, Try.ntmps25
    go_wp2_with fail
    refine (HF.out _).mono ?_
    rintro e w1 ⟨rfl, hN1⟩
    go_wp2_with fail
    refine (HA.out _).mono ?_
    rintro e w2 ⟨rfl, hN2⟩
    go_wp2_with fail
    go_ret2
    exact ⟨rfl, hN1.trans hN2⟩
  | some k =>
    rw [hf] at HF
    obtain ⟨hk, h1, h2⟩ := fi_some hf
    have HA := Lib.hid (fun w => at_ref h (k : Nat) w)
    have e : atR l (k : Nat) = .tuple #[.int .i64 (l.getD k (0, 0)).1, .int .i64 (l.getD k (0, 0)).2, .bool true] := by unfold atR; rw [if_pos ⟨by omega, by omega⟩]; rfl
    rw [e] at HA
    have hok' : OkL (l.take k ++ l.getD k (0, 0) :: l.drop (k + 1)) := by rw [← h2]; exact h
    by_cases hbad : ((l.getD k (0, 0)).2 : Int) = u ∨ u < 0 ∨ 8 ≤ u
    · have ht := turn_enc_same hok' hbad
      rw [← h2, h1] at ht
      rw [ht]
      unfold optT pair at *
      obtain ⟨x, hx⟩ : ∃ x, enc l = x := ⟨_, rfl⟩
      obtain ⟨a, ha⟩ : ∃ x, (l.getD k (0, 0)).1 = x := ⟨_, rfl⟩
      obtain ⟨b, hb⟩ : ∃ x, (l.getD k (0, 0)).2 = x := ⟨_, rfl⟩
      rw [hx] at HF HA ⊢
      rw [ha, hb] at HA
      rw [hb] at hbad
      clear h hf e hx h1 h2 hk ht hok' ha hb
      by_cases c1 : 0 ≤ u ∧ u < 8
      · rw [decide_eq_true c1] at Hu
        have hbu : ((b : Int) == u) = true := by have : (b : Int) = u := by omega
                                                 simpa using this
        clear hbad c1
        go_enter Try.func25, Try.ntmps25
        go_wp2_with fail
        refine (HF.out _).mono ?_
        rintro e w1 ⟨rfl, hN1⟩
        go_wp2_with fail
        refine (HA.out _).mono ?_
        rintro e w2 ⟨rfl, hN2⟩
        go_wp2_with fail
        refine (Hu.out _).mono ?_
        rintro e w3 ⟨rfl, rfl⟩
        go_wp2_with fail
        go_ret2
        exact ⟨rfl, hN1.trans hN2⟩
      · rw [decide_eq_false c1] at Hu
        clear hbad c1
        go_enter Try.func25, Try.ntmps25
        go_wp2_with fail
        refine (HF.out _).mono ?_
        rintro e w1 ⟨rfl, hN1⟩
        go_wp2_with fail
        refine (HA.out _).mono ?_
        rintro e w2 ⟨rfl, hN2⟩
        go_wp2_with fail
        refine (Hu.out _).mono ?_
        rintro e w3 ⟨rfl, rfl⟩
        go_wp2_with fail
        go_ret2
        exact ⟨rfl, hN1.trans hN2⟩
    · obtain ⟨u', rfl⟩ := Int.eq_ofNat_of_zero_le (show 0 ≤ u by omega)
      have ht := turn_enc hok' (u := u') (by omega) (by omega)
      rw [← h2, h1] at ht
      rw [ht]
      have ho := okL_cut h hf
      have HO := Lib.hid (fun w => out_ref h s w)
      rw [ho] at HO
      have hdel : l.take k ++ l.drop (k + 1) = delL l (l.getD k (0, 0)).1 := by
        have := delL_split hok'
        rw [← h2] at this; exact this.symm
      have hokd : OkL (l.take k ++ l.drop (k + 1)) := by rw [hdel]; exact delL_ok h _
      have hp8 := (h.inn (l.getD k (0, 0)) (by simp [List.getD, hk])).1
      have HP := Lib.hid (fun w => push_ref_yes hokd (s := (l.getD k (0, 0)).1) (u := u') hp8 (by omega) (fun p hp => by rw [hdel] at hp; exact (delL_mem.1 hp).2) w)
      rw [h1] at HP
      rw [decide_eq_true (show (0 : Int) ≤ (u' : Int) ∧ (u' : Int) < 8 by omega)] at Hu
      have hbu : (((l.getD k (0, 0)).2 : Int) == (u' : Int)) = false := beq_eq_false_iff_ne.2 (by omega)
      unfold optT pair at *
      obtain ⟨x, hx⟩ : ∃ x, enc l = x := ⟨_, rfl⟩
      obtain ⟨y, hy⟩ : ∃ x, enc (l.take k ++ l.drop (k + 1)) = x := ⟨_, rfl⟩
      obtain ⟨z, hz⟩ : ∃ x, enc (insL (l.take k ++ l.drop (k + 1)) (l.getD k (0, 0)).1 u') = x := ⟨_, rfl⟩
      obtain ⟨a, ha⟩ : ∃ x, (l.getD k (0, 0)).1 = x := ⟨_, rfl⟩
      obtain ⟨b, hb⟩ : ∃ x, (l.getD k (0, 0)).2 = x := ⟨_, rfl⟩
      rw [hz] at HP ⊢
      rw [hx] at HF HA HO ⊢
      rw [hy] at HO HP
      rw [ha, hb] at HA
      rw [hb] at hbu
      clear h hf e hx h1 h2 hk ht hok' ha hb hbad ho hdel hokd hp8 hy hz
      go_enter Try.func25, Try.ntmps25
      go_wp2_with fail
      refine (HF.out _).mono ?_
      rintro e w1 ⟨rfl, hN1⟩
      go_wp2_with fail
      refine (HA.out _).mono ?_
      rintro e w2 ⟨rfl, hN2⟩
      go_wp2_with fail
      refine (Hu.out _).mono ?_
      rintro e w3 ⟨rfl, rfl⟩
      go_wp2_with fail
      refine (HO.out _).mono ?_
      rintro e w3 ⟨rfl, hN3⟩
      go_wp2_with fail
      refine (HP.out _).mono ?_
      rintro e w4 ⟨rfl, hN4⟩
      go_wp2_with fail
      go_ret2
      exact ⟨rfl, ((hN1.trans hN2).trans hN3).trans hN4⟩
end Go.Proofs.Ytkjloeefcaadlaa
/- The document's deeds. -/
namespace Go.Proofs.Ytkjloeefcaadlaa
open Go.RowKit Go.Shelf Go.Cs
attribute [local go_sem] Oper.semAt_some
theorem isDeed_iff (d : Nat) : isDeed d = true ↔ 1 ≤ d ∧ d ≤ 4 := by
  simp [isDeed]
  omega
theorem deed_ref (d : Nat) (s u : Int) (w : World) : Calls Try.prog 102 #[dv d s u] w fun e w' => e = .returned (.bool (isDeed d)) ∧ New w w' := by
  have hc : (w.alloc (.cells #[.int .u8 (d : Nat), .int .i64 s, .int .i64 u] 93)).cell? ⟨w.heap.size, 0, none⟩ = some (.int .u8 (d : Nat)) := by rw [cell_of_row _ _ _ _ _ _ (World.alloc_heap_new w _)]; rfl
  have hN : New w (w.alloc (.cells #[.int .u8 (d : Nat), .int .i64 s, .int .i64 u] 93)) := (Mods.refl _ _).alloc _
  unfold dv
  by_cases h1 : 1 ≤ d
  · by_cases h4 : d ≤ 4
    · rw [(isDeed_iff d).2 ⟨h1, h4⟩]
      have e1 : decide ((1 : Int) ≤ (d : Int)) = true := decide_eq_true (by omega)
      have e1' : decide (1 ≤ d) = true := decide_eq_true h1
      have e2 : decide ((d : Int) ≤ 4) = true := decide_eq_true (by omega)
      have e2' : decide (d ≤ 4) = true := decide_eq_true h4
      go_enter Try.func102, Try.ntmps102
      go_wp2
      go_ret
      exact ⟨rfl, hN⟩
    · have e : isDeed d = false := by rw [← Bool.not_eq_true, isDeed_iff]; omega
      rw [e]
      have e1 : decide ((1 : Int) ≤ (d : Int)) = true := decide_eq_true (by omega)
      have e1' : decide (1 ≤ d) = true := decide_eq_true h1
      have e2 : decide ((d : Int) ≤ 4) = false := decide_eq_false (by omega)
      have e2' : decide (d ≤ 4) = false := decide_eq_false h4
      go_enter Try.func102, Try.ntmps102
      go_wp2
      go_ret
      exact ⟨rfl, hN⟩
  · have e : isDeed d = false := by rw [← Bool.not_eq_true, isDeed_iff]; omega
    rw [e]
    have e1 : decide ((1 : Int) ≤ (d : Int)) = false := decide_eq_false (by omega)
    have e1' : decide (1 ≤ d) = false := decide_eq_false h1
    go_enter Try.func102, Try.ntmps102
    go_wp2
    go_ret
    exact ⟨rfl, hN⟩
theorem drew_at {W : World} {B : Nat} {o : Option Obj} (h : W.heap[B]? = o) : W.drew.heap[B]? = o := h
theorem made3 (w : World) (d : Nat) (s u : Int) (W : World) (hW : ((w.alloc (.cells #[.int .u8 (d : Nat), .int .i64 s, .int .i64 u] 93)).alloc (.cells #[.int .i64 0, .bool false] 89)).alloc (.cells #[.int .i64 0, .bool false] 89) = W) :
    New w W ∧ W.heap[w.heap.size]? = some (.cells #[.int .u8 (d : Nat), .int .i64 s, .int .i64 u] 93 (0, 0)) ∧ W.heap[w.heap.size + 1]? = some (.cells #[.int .i64 0, .bool false] 89 (0, 0)) ∧ W.heap[w.heap.size + 1 + 1]? = some (.cells #[.int .i64 0, .bool false] 89 (0, 0)) := by
  obtain ⟨h1, h2, h3⟩ := made2 w d s u _ rfl
  have n1 : New ((w.alloc (.cells #[.int .u8 (d : Nat), .int .i64 s, .int .i64 u] 93)).alloc (.cells #[.int .i64 0, .bool false] 89)) W := by rw [← hW]; exact (Mods.refl _ _).alloc _
  refine ⟨h1.trans n1, n1.heap h2 id, n1.heap h3 id, ?_⟩
  rw [← hW]
  have := World.alloc_heap_new ((w.alloc (.cells #[.int .u8 (d : Nat), .int .i64 s, .int .i64 u] 93)).alloc (.cells #[.int .i64 0, .bool false] 89)) (.cells #[.int .i64 0, .bool false] 89)
  rw [World.size_alloc, World.size_alloc] at this
  exact this
set_option maxRecDepth 100000 in
set_option maxHeartbeats 2000000 in
theorem ref_push {l : List (Nat × Nat)} (h : OkL l) (s u : Int) (w : World) :
    Calls Try.prog 54 #[.int .u64 (enc l), dv 1 s u] w fun e w' => e = .returned (ansV (doesS (enc l) 1 s u).1 (doesS (enc l) 1 s u).2.1 (doesS (enc l) 1 s u).2.2) ∧ New w w' := by
  have HC := Lib.hid (fun w => push_ref h s u w)
  have e : doesS (enc l) 1 s u = (if (pushF (enc l) s u).2 then ((pushF (enc l) s u).1, 0, true) else (enc l, 0, false)) := by simp [doesS]
  rw [e]
  obtain ⟨x, hx⟩ : ∃ x, enc l = x := ⟨_, rfl⟩
  rw [hx] at HC ⊢
  obtain ⟨⟨y, ok⟩, hy⟩ : ∃ r, pushF x s u = r := ⟨_, rfl⟩
  rw [hy] at HC ⊢
  clear hy hx h e
  unfold dv
  dsimp only
  have HC := Lib.hid HC.out
  obtain ⟨W0, hW0⟩ : ∃ W0, ((w.alloc (.cells #[.int .u8 1, .int .i64 s, .int .i64 u] 93)).alloc (.cells #[.int .i64 0, .bool false] 89)).alloc (.cells #[.int .i64 0, .bool false] 89) = W0 := ⟨_, rfl⟩
  obtain ⟨hN0, hP0, hR0, hA0⟩ := made3 w (1 : Nat) s u W0 hW0
  have p0 : W0.cell? ⟨w.heap.size, 0, none⟩ = some (.int .u8 1) := by rw [cell_of_row _ _ _ _ _ _ hP0]; rfl
  have p1 : W0.cell? ⟨w.heap.size, 1, none⟩ = some (.int .i64 s) := by rw [cell_of_row _ _ _ _ _ _ hP0]; rfl
  have p2 : W0.cell? ⟨w.heap.size, 2, none⟩ = some (.int .i64 u) := by rw [cell_of_row _ _ _ _ _ _ hP0]; rfl
  go_enter Try.func54, Try.ntmps54
  go_upto_region 3 with fail
  first | rw [hW0] | skip
  clear hW0
  go_wp2_with fail
  refine (HC.out _).mono ?_
  rintro e w1 ⟨rfl, hN1⟩
  have hR1 := hN1.heap hR0 id
  have hA1 := hN1.heap hA0 id
  have hNN := hN0.trans hN1
  clear hN1 hN0 hR0 hA0 hP0 p0 p1 p2 HC
  have k1 : ¬ w.heap.size + 1 + 1 = w.heap.size + 1 := by omega
  have a0 : w1.cell? ⟨w.heap.size + 1 + 1, 0, none⟩ = some (.int .i64 0) := by rw [cell_of_row _ _ _ _ _ _ hA1]; rfl
  have a1 : w1.cell? ⟨w.heap.size + 1 + 1, 1, none⟩ = some (.bool false) := by rw [cell_of_row _ _ _ _ _ _ hA1]; rfl
  have g0 : w1.frozen? ⟨w.heap.size + 1 + 1, 0, none⟩ = false := by unfold World.frozen?; rw [hA1]; rfl
  have g1 : w1.frozen? ⟨w.heap.size + 1 + 1, 1, none⟩ = false := by unfold World.frozen?; rw [hA1]; rfl
  have r0 : w1.cell? ⟨w.heap.size + 1, 0, none⟩ = some (.int .i64 0) := by rw [cell_of_row _ _ _ _ _ _ hR1]; rfl
  have r1 : w1.cell? ⟨w.heap.size + 1, 1, none⟩ = some (.bool false) := by rw [cell_of_row _ _ _ _ _ _ hR1]; rfl
  have f0 : w1.frozen? ⟨w.heap.size + 1, 0, none⟩ = false := by unfold World.frozen?; rw [hR1]; rfl
  have f1 : w1.frozen? ⟨w.heap.size + 1, 1, none⟩ = false := by unfold World.frozen?; rw [hR1]; rfl
  unfold pair
  have hk : w.heap.size + 1 ≠ w.heap.size + 1 + 1 := by omega
  cases ok with
  | true =>
    go_wp2_with fail
    go_region
    go_wp2_with fail
    have hR2 : (w1.setCell ⟨w.heap.size + 1 + 1, 1, none⟩ (.bool true)).heap[w.heap.size + 1]? = some (.cells #[.int .i64 0, .bool false] 89 (0, 0)) := (Below.heap_setCell _ _ _ _ hk).trans hR1
    have h2 := two_set hR2 (.int .i64 0) (.bool true)
    have hNf := (((hNN.setCell (p := ⟨w.heap.size + 1 + 1, 1, none⟩) (.inl (by simp; omega)) (.bool true)).setCell (p := ⟨w.heap.size + 1, 0, none⟩) (.inl (by simp)) (.int .i64 0)).setCell (p := ⟨w.heap.size + 1, 1, none⟩) (.inl (by simp)) (.bool true)).drew
    exact bodyPost_ret (v := .tuple #[.int .u64 (y : Nat), .agg #[.int .i64 0, .bool true]]) (results_2cell (fn := Try.f54) (p := 5) (q := 4) (v := .int .u64 (y : Nat)) rfl _ _ (w.heap.size + 1) 89 _ (0, 0) _ rfl (drew_at h2) Try.underlying89 rfl info89 rfl) rfl ⟨rfl, hNf⟩
  | false =>
    go_wp2_with fail
    have hR2 : (w1.setCell ⟨w.heap.size + 1 + 1, 1, none⟩ (.bool false)).heap[w.heap.size + 1]? = some (.cells #[.int .i64 0, .bool false] 89 (0, 0)) := (Below.heap_setCell _ _ _ _ hk).trans hR1
    have h2 := two_set hR2 (.int .i64 0) (.bool false)
    have hNf := ((hNN.setCell (p := ⟨w.heap.size + 1 + 1, 1, none⟩) (.inl (by simp; omega)) (.bool false)).setCell (p := ⟨w.heap.size + 1, 0, none⟩) (.inl (by simp)) (.int .i64 0)).setCell (p := ⟨w.heap.size + 1, 1, none⟩) (.inl (by simp)) (.bool false)
    exact bodyPost_ret (v := .tuple #[.int .u64 (x : Nat), .agg #[.int .i64 0, .bool false]]) (results_2cell (fn := Try.f54) (p := 5) (q := 4) (v := .int .u64 (x : Nat)) rfl _ _ (w.heap.size + 1) 89 _ (0, 0) _ rfl h2 Try.underlying89 rfl info89 rfl) rfl ⟨rfl, hNf⟩
set_option maxRecDepth 100000 in
set_option maxHeartbeats 2000000 in
theorem ref_best {l : List (Nat × Nat)} (h : OkL l) (s u : Int) (w : World) :
    Calls Try.prog 54 #[.int .u64 (enc l), dv 2 s u] w fun e w' => e = .returned (ansV (doesS (enc l) 2 s u).1 (doesS (enc l) 2 s u).2.1 (doesS (enc l) 2 s u).2.2) ∧ New w w' := by
  have HC := Lib.hid (fun w => best_ref h w)
  have e : doesS (enc l) 2 s u = (if (bestF (enc l)).2.2 then ((bestF (enc l)).1, (bestF (enc l)).2.1, true) else (enc l, 0, false)) := by simp [doesS]
  rw [e]
  obtain ⟨x, hx⟩ : ∃ x, enc l = x := ⟨_, rfl⟩
  rw [hx] at HC ⊢
  obtain ⟨⟨y, sl, ok⟩, hy⟩ : ∃ r, bestF x = r := ⟨_, rfl⟩
  rw [hy] at HC ⊢
  clear hy hx h e
  unfold dv
  dsimp only
  have HC := Lib.hid HC.out
  obtain ⟨W0, hW0⟩ : ∃ W0, ((w.alloc (.cells #[.int .u8 2, .int .i64 s, .int .i64 u] 93)).alloc (.cells #[.int .i64 0, .bool false] 89)).alloc (.cells #[.int .i64 0, .bool false] 89) = W0 := ⟨_, rfl⟩
  obtain ⟨hN0, hP0, hR0, hA0⟩ := made3 w (2 : Nat) s u W0 hW0
  have p0 : W0.cell? ⟨w.heap.size, 0, none⟩ = some (.int .u8 2) := by rw [cell_of_row _ _ _ _ _ _ hP0]; rfl
  have p1 : W0.cell? ⟨w.heap.size, 1, none⟩ = some (.int .i64 s) := by rw [cell_of_row _ _ _ _ _ _ hP0]; rfl
  have p2 : W0.cell? ⟨w.heap.size, 2, none⟩ = some (.int .i64 u) := by rw [cell_of_row _ _ _ _ _ _ hP0]; rfl
  go_enter Try.func54, Try.ntmps54
  go_upto_region 3 with fail
  first | rw [hW0] | skip
  clear hW0
  go_wp2_with fail
  refine (HC.out _).mono ?_
  rintro e w1 ⟨rfl, hN1⟩
  have hR1 := hN1.heap hR0 id
  have hA1 := hN1.heap hA0 id
  have hNN := hN0.trans hN1
  clear hN1 hN0 hR0 hA0 hP0 p0 p1 p2 HC
  have k1 : ¬ w.heap.size + 1 + 1 = w.heap.size + 1 := by omega
  have a0 : w1.cell? ⟨w.heap.size + 1 + 1, 0, none⟩ = some (.int .i64 0) := by rw [cell_of_row _ _ _ _ _ _ hA1]; rfl
  have a1 : w1.cell? ⟨w.heap.size + 1 + 1, 1, none⟩ = some (.bool false) := by rw [cell_of_row _ _ _ _ _ _ hA1]; rfl
  have g0 : w1.frozen? ⟨w.heap.size + 1 + 1, 0, none⟩ = false := by unfold World.frozen?; rw [hA1]; rfl
  have g1 : w1.frozen? ⟨w.heap.size + 1 + 1, 1, none⟩ = false := by unfold World.frozen?; rw [hA1]; rfl
  have r0 : w1.cell? ⟨w.heap.size + 1, 0, none⟩ = some (.int .i64 0) := by rw [cell_of_row _ _ _ _ _ _ hR1]; rfl
  have r1 : w1.cell? ⟨w.heap.size + 1, 1, none⟩ = some (.bool false) := by rw [cell_of_row _ _ _ _ _ _ hR1]; rfl
  have f0 : w1.frozen? ⟨w.heap.size + 1, 0, none⟩ = false := by unfold World.frozen?; rw [hR1]; rfl
  have f1 : w1.frozen? ⟨w.heap.size + 1, 1, none⟩ = false := by unfold World.frozen?; rw [hR1]; rfl
  unfold trip'
  have hk : w.heap.size + 1 ≠ w.heap.size + 1 + 1 := by omega
  cases ok with
  | true =>
    go_wp2_with fail
    go_region
    go_wp2_with fail
    have hR2 : ((w1.setCell ⟨w.heap.size + 1 + 1, 0, none⟩ (.int .i64 (sl : Nat))).setCell ⟨w.heap.size + 1 + 1, 1, none⟩ (.bool true)).heap[w.heap.size + 1]? = some (.cells #[.int .i64 0, .bool false] 89 (0, 0)) := (Below.heap_setCell _ _ _ _ hk).trans ((Below.heap_setCell _ _ _ _ hk).trans hR1)
    have h2 := two_set hR2 (.int .i64 (sl : Nat)) (.bool true)
    have hNf := ((((hNN.setCell (p := ⟨w.heap.size + 1 + 1, 0, none⟩) (.inl (by simp; omega)) (.int .i64 (sl : Nat))).setCell (p := ⟨w.heap.size + 1 + 1, 1, none⟩) (.inl (by simp; omega)) (.bool true)).setCell (p := ⟨w.heap.size + 1, 0, none⟩) (.inl (by simp)) (.int .i64 (sl : Nat))).setCell (p := ⟨w.heap.size + 1, 1, none⟩) (.inl (by simp)) (.bool true)).drew
    exact bodyPost_ret (v := .tuple #[.int .u64 (y : Nat), .agg #[.int .i64 (sl : Nat), .bool true]]) (results_2cell (fn := Try.f54) (p := 5) (q := 4) (v := .int .u64 (y : Nat)) rfl _ _ (w.heap.size + 1) 89 _ (0, 0) _ rfl (drew_at h2) Try.underlying89 rfl info89 rfl) rfl ⟨rfl, hNf⟩
  | false =>
    go_wp2_with fail
    have hR2 : ((w1.setCell ⟨w.heap.size + 1 + 1, 0, none⟩ (.int .i64 (sl : Nat))).setCell ⟨w.heap.size + 1 + 1, 1, none⟩ (.bool false)).heap[w.heap.size + 1]? = some (.cells #[.int .i64 0, .bool false] 89 (0, 0)) := (Below.heap_setCell _ _ _ _ hk).trans ((Below.heap_setCell _ _ _ _ hk).trans hR1)
    have h2 := two_set hR2 (.int .i64 0) (.bool false)
    have hNf := (((hNN.setCell (p := ⟨w.heap.size + 1 + 1, 0, none⟩) (.inl (by simp; omega)) (.int .i64 (sl : Nat))).setCell (p := ⟨w.heap.size + 1 + 1, 1, none⟩) (.inl (by simp; omega)) (.bool false)).setCell (p := ⟨w.heap.size + 1, 0, none⟩) (.inl (by simp)) (.int .i64 0)).setCell (p := ⟨w.heap.size + 1, 1, none⟩) (.inl (by simp)) (.bool false)
    exact bodyPost_ret (v := .tuple #[.int .u64 (x : Nat), .agg #[.int .i64 0, .bool false]]) (results_2cell (fn := Try.f54) (p := 5) (q := 4) (v := .int .u64 (x : Nat)) rfl _ _ (w.heap.size + 1) 89 _ (0, 0) _ rfl h2 Try.underlying89 rfl info89 rfl) rfl ⟨rfl, hNf⟩
set_option maxRecDepth 100000 in
set_option maxHeartbeats 2000000 in
theorem ref_turn {l : List (Nat × Nat)} (h : OkL l) (s u : Int) (w : World) :
    Calls Try.prog 54 #[.int .u64 (enc l), dv 3 s u] w fun e w' => e = .returned (ansV (doesS (enc l) 3 s u).1 (doesS (enc l) 3 s u).2.1 (doesS (enc l) 3 s u).2.2) ∧ New w w' := by
  have HC := Lib.hid (fun w => turn_ref h s u w)
  have e : doesS (enc l) 3 s u = (if (turnF (enc l) s u).2 then ((turnF (enc l) s u).1, 0, true) else (enc l, 0, false)) := by simp [doesS]
  rw [e]
  obtain ⟨x, hx⟩ : ∃ x, enc l = x := ⟨_, rfl⟩
  rw [hx] at HC ⊢
  obtain ⟨⟨y, ok⟩, hy⟩ : ∃ r, turnF x s u = r := ⟨_, rfl⟩
  rw [hy] at HC ⊢
  clear hy hx h e
  unfold dv
  dsimp only
  have HC := Lib.hid HC.out
  obtain ⟨W0, hW0⟩ : ∃ W0, ((w.alloc (.cells #[.int .u8 3, .int .i64 s, .int .i64 u] 93)).alloc (.cells #[.int .i64 0, .bool false] 89)).alloc (.cells #[.int .i64 0, .bool false] 89) = W0 := ⟨_, rfl⟩
  obtain ⟨hN0, hP0, hR0, hA0⟩ := made3 w (3 : Nat) s u W0 hW0
  have p0 : W0.cell? ⟨w.heap.size, 0, none⟩ = some (.int .u8 3) := by rw [cell_of_row _ _ _ _ _ _ hP0]; rfl
  have p1 : W0.cell? ⟨w.heap.size, 1, none⟩ = some (.int .i64 s) := by rw [cell_of_row _ _ _ _ _ _ hP0]; rfl
  have p2 : W0.cell? ⟨w.heap.size, 2, none⟩ = some (.int .i64 u) := by rw [cell_of_row _ _ _ _ _ _ hP0]; rfl
  go_enter Try.func54, Try.ntmps54
  go_upto_region 3 with fail
  first | rw [hW0] | skip
  clear hW0
  go_wp2_with fail
  refine (HC.out _).mono ?_
  rintro e w1 ⟨rfl, hN1⟩
  have hR1 := hN1.heap hR0 id
  have hA1 := hN1.heap hA0 id
  have hNN := hN0.trans hN1
  clear hN1 hN0 hR0 hA0 hP0 p0 p1 p2 HC
  have k1 : ¬ w.heap.size + 1 + 1 = w.heap.size + 1 := by omega
  have a0 : w1.cell? ⟨w.heap.size + 1 + 1, 0, none⟩ = some (.int .i64 0) := by rw [cell_of_row _ _ _ _ _ _ hA1]; rfl
  have a1 : w1.cell? ⟨w.heap.size + 1 + 1, 1, none⟩ = some (.bool false) := by rw [cell_of_row _ _ _ _ _ _ hA1]; rfl
  have g0 : w1.frozen? ⟨w.heap.size + 1 + 1, 0, none⟩ = false := by unfold World.frozen?; rw [hA1]; rfl
  have g1 : w1.frozen? ⟨w.heap.size + 1 + 1, 1, none⟩ = false := by unfold World.frozen?; rw [hA1]; rfl
  have r0 : w1.cell? ⟨w.heap.size + 1, 0, none⟩ = some (.int .i64 0) := by rw [cell_of_row _ _ _ _ _ _ hR1]; rfl
  have r1 : w1.cell? ⟨w.heap.size + 1, 1, none⟩ = some (.bool false) := by rw [cell_of_row _ _ _ _ _ _ hR1]; rfl
  have f0 : w1.frozen? ⟨w.heap.size + 1, 0, none⟩ = false := by unfold World.frozen?; rw [hR1]; rfl
  have f1 : w1.frozen? ⟨w.heap.size + 1, 1, none⟩ = false := by unfold World.frozen?; rw [hR1]; rfl
  unfold pair
  have hk : w.heap.size + 1 ≠ w.heap.size + 1 + 1 := by omega
  cases ok with
  | true =>
    go_wp2_with fail
    go_region
    go_wp2_with fail
    have hR2 : (w1.setCell ⟨w.heap.size + 1 + 1, 1, none⟩ (.bool true)).heap[w.heap.size + 1]? = some (.cells #[.int .i64 0, .bool false] 89 (0, 0)) := (Below.heap_setCell _ _ _ _ hk).trans hR1
    have h2 := two_set hR2 (.int .i64 0) (.bool true)
    have hNf := (((hNN.setCell (p := ⟨w.heap.size + 1 + 1, 1, none⟩) (.inl (by simp; omega)) (.bool true)).setCell (p := ⟨w.heap.size + 1, 0, none⟩) (.inl (by simp)) (.int .i64 0)).setCell (p := ⟨w.heap.size + 1, 1, none⟩) (.inl (by simp)) (.bool true)).drew
    exact bodyPost_ret (v := .tuple #[.int .u64 (y : Nat), .agg #[.int .i64 0, .bool true]]) (results_2cell (fn := Try.f54) (p := 5) (q := 4) (v := .int .u64 (y : Nat)) rfl _ _ (w.heap.size + 1) 89 _ (0, 0) _ rfl (drew_at h2) Try.underlying89 rfl info89 rfl) rfl ⟨rfl, hNf⟩
  | false =>
    go_wp2_with fail
    have hR2 : (w1.setCell ⟨w.heap.size + 1 + 1, 1, none⟩ (.bool false)).heap[w.heap.size + 1]? = some (.cells #[.int .i64 0, .bool false] 89 (0, 0)) := (Below.heap_setCell _ _ _ _ hk).trans hR1
    have h2 := two_set hR2 (.int .i64 0) (.bool false)
    have hNf := ((hNN.setCell (p := ⟨w.heap.size + 1 + 1, 1, none⟩) (.inl (by simp; omega)) (.bool false)).setCell (p := ⟨w.heap.size + 1, 0, none⟩) (.inl (by simp)) (.int .i64 0)).setCell (p := ⟨w.heap.size + 1, 1, none⟩) (.inl (by simp)) (.bool false)
    exact bodyPost_ret (v := .tuple #[.int .u64 (x : Nat), .agg #[.int .i64 0, .bool false]]) (results_2cell (fn := Try.f54) (p := 5) (q := 4) (v := .int .u64 (x : Nat)) rfl _ _ (w.heap.size + 1) 89 _ (0, 0) _ rfl h2 Try.underlying89 rfl info89 rfl) rfl ⟨rfl, hNf⟩
set_option maxRecDepth 100000 in
set_option maxHeartbeats 2000000 in
theorem ref_out {l : List (Nat × Nat)} (h : OkL l) (s u : Int) (w : World) :
    Calls Try.prog 54 #[.int .u64 (enc l), dv 4 s u] w fun e w' => e = .returned (ansV (doesS (enc l) 4 s u).1 (doesS (enc l) 4 s u).2.1 (doesS (enc l) 4 s u).2.2) ∧ New w w' := by
  have HC := Lib.hid (fun w => out_ref h s w)
  have e : doesS (enc l) 4 s u = (if (outF (enc l) s).2 then ((outF (enc l) s).1, 0, true) else (enc l, 0, false)) := by simp [doesS]
  rw [e]
  obtain ⟨x, hx⟩ : ∃ x, enc l = x := ⟨_, rfl⟩
  rw [hx] at HC ⊢
  obtain ⟨⟨y, ok⟩, hy⟩ : ∃ r, outF x s = r := ⟨_, rfl⟩
  rw [hy] at HC ⊢
  clear hy hx h e
  unfold dv
  dsimp only
  have HC := Lib.hid HC.out
  obtain ⟨W0, hW0⟩ : ∃ W0, ((w.alloc (.cells #[.int .u8 4, .int .i64 s, .int .i64 u] 93)).alloc (.cells #[.int .i64 0, .bool false] 89)).alloc (.cells #[.int .i64 0, .bool false] 89) = W0 := ⟨_, rfl⟩
  obtain ⟨hN0, hP0, hR0, hA0⟩ := made3 w (4 : Nat) s u W0 hW0
  have p0 : W0.cell? ⟨w.heap.size, 0, none⟩ = some (.int .u8 4) := by rw [cell_of_row _ _ _ _ _ _ hP0]; rfl
  have p1 : W0.cell? ⟨w.heap.size, 1, none⟩ = some (.int .i64 s) := by rw [cell_of_row _ _ _ _ _ _ hP0]; rfl
  have p2 : W0.cell? ⟨w.heap.size, 2, none⟩ = some (.int .i64 u) := by rw [cell_of_row _ _ _ _ _ _ hP0]; rfl
  go_enter Try.func54, Try.ntmps54
  go_upto_region 3 with fail
  first | rw [hW0] | skip
  clear hW0
  go_wp2_with fail
  refine (HC.out _).mono ?_
  rintro e w1 ⟨rfl, hN1⟩
  have hR1 := hN1.heap hR0 id
  have hA1 := hN1.heap hA0 id
  have hNN := hN0.trans hN1
  clear hN1 hN0 hR0 hA0 hP0 p0 p1 p2 HC
  have k1 : ¬ w.heap.size + 1 + 1 = w.heap.size + 1 := by omega
  have a0 : w1.cell? ⟨w.heap.size + 1 + 1, 0, none⟩ = some (.int .i64 0) := by rw [cell_of_row _ _ _ _ _ _ hA1]; rfl
  have a1 : w1.cell? ⟨w.heap.size + 1 + 1, 1, none⟩ = some (.bool false) := by rw [cell_of_row _ _ _ _ _ _ hA1]; rfl
  have g0 : w1.frozen? ⟨w.heap.size + 1 + 1, 0, none⟩ = false := by unfold World.frozen?; rw [hA1]; rfl
  have g1 : w1.frozen? ⟨w.heap.size + 1 + 1, 1, none⟩ = false := by unfold World.frozen?; rw [hA1]; rfl
  have r0 : w1.cell? ⟨w.heap.size + 1, 0, none⟩ = some (.int .i64 0) := by rw [cell_of_row _ _ _ _ _ _ hR1]; rfl
  have r1 : w1.cell? ⟨w.heap.size + 1, 1, none⟩ = some (.bool false) := by rw [cell_of_row _ _ _ _ _ _ hR1]; rfl
  have f0 : w1.frozen? ⟨w.heap.size + 1, 0, none⟩ = false := by unfold World.frozen?; rw [hR1]; rfl
  have f1 : w1.frozen? ⟨w.heap.size + 1, 1, none⟩ = false := by unfold World.frozen?; rw [hR1]; rfl
  unfold pair
  have hk : w.heap.size + 1 ≠ w.heap.size + 1 + 1 := by omega
  cases ok with
  | true =>
    go_wp2_with fail
    go_region
    go_wp2_with fail
    have hR2 : (w1.setCell ⟨w.heap.size + 1 + 1, 1, none⟩ (.bool true)).heap[w.heap.size + 1]? = some (.cells #[.int .i64 0, .bool false] 89 (0, 0)) := (Below.heap_setCell _ _ _ _ hk).trans hR1
    have h2 := two_set hR2 (.int .i64 0) (.bool true)
    have hNf := (((hNN.setCell (p := ⟨w.heap.size + 1 + 1, 1, none⟩) (.inl (by simp; omega)) (.bool true)).setCell (p := ⟨w.heap.size + 1, 0, none⟩) (.inl (by simp)) (.int .i64 0)).setCell (p := ⟨w.heap.size + 1, 1, none⟩) (.inl (by simp)) (.bool true)).drew
    exact bodyPost_ret (v := .tuple #[.int .u64 (y : Nat), .agg #[.int .i64 0, .bool true]]) (results_2cell (fn := Try.f54) (p := 5) (q := 4) (v := .int .u64 (y : Nat)) rfl _ _ (w.heap.size + 1) 89 _ (0, 0) _ rfl (drew_at h2) Try.underlying89 rfl info89 rfl) rfl ⟨rfl, hNf⟩
  | false =>
    go_wp2_with fail
    have hR2 : (w1.setCell ⟨w.heap.size + 1 + 1, 1, none⟩ (.bool false)).heap[w.heap.size + 1]? = some (.cells #[.int .i64 0, .bool false] 89 (0, 0)) := (Below.heap_setCell _ _ _ _ hk).trans hR1
    have h2 := two_set hR2 (.int .i64 0) (.bool false)
    have hNf := ((hNN.setCell (p := ⟨w.heap.size + 1 + 1, 1, none⟩) (.inl (by simp; omega)) (.bool false)).setCell (p := ⟨w.heap.size + 1, 0, none⟩) (.inl (by simp)) (.int .i64 0)).setCell (p := ⟨w.heap.size + 1, 1, none⟩) (.inl (by simp)) (.bool false)
    exact bodyPost_ret (v := .tuple #[.int .u64 (x : Nat), .agg #[.int .i64 0, .bool false]]) (results_2cell (fn := Try.f54) (p := 5) (q := 4) (v := .int .u64 (x : Nat)) rfl _ _ (w.heap.size + 1) 89 _ (0, 0) _ rfl h2 Try.underlying89 rfl info89 rfl) rfl ⟨rfl, hNf⟩
set_option maxRecDepth 100000 in
set_option maxHeartbeats 2000000 in
theorem ref_not (x : Nat) (d : Nat) (s u : Int) (hd : isDeed d = false) (w : World) :
    Calls Try.prog 54 #[.int .u64 x, dv d s u] w fun e w' => e = .returned (ansV x 0 false) ∧ New w w' := by
  have hn : ¬ (1 ≤ d ∧ d ≤ 4) := fun h => by rw [(isDeed_iff d).2 h] at hd; cases hd
  have e1 : ((d : Int) == 1) = false := by simp; omega
  have e2 : ((d : Int) == 2) = false := by simp; omega
  have e3 : ((d : Int) == 3) = false := by simp; omega
  have e4 : ((d : Int) == 4) = false := by simp; omega
  have e1' : (d == 1) = false := by simp; omega
  have e2' : (d == 2) = false := by simp; omega
  have e3' : (d == 3) = false := by simp; omega
  have e4' : (d == 4) = false := by simp; omega
  clear hn hd
  unfold dv
  obtain ⟨W0, hW0⟩ : ∃ W0, ((w.alloc (.cells #[.int .u8 (d : Nat), .int .i64 s, .int .i64 u] 93)).alloc (.cells #[.int .i64 0, .bool false] 89)).alloc (.cells #[.int .i64 0, .bool false] 89) = W0 := ⟨_, rfl⟩
  obtain ⟨hN0, hP0, hR0, hA0⟩ := made3 w d s u W0 hW0
  have p0 : W0.cell? ⟨w.heap.size, 0, none⟩ = some ((.int .u8 (d : Nat))) := by rw [cell_of_row _ _ _ _ _ _ hP0]; rfl
  have p1 : W0.cell? ⟨w.heap.size, 1, none⟩ = some (.int .i64 s) := by rw [cell_of_row _ _ _ _ _ _ hP0]; rfl
  have p2 : W0.cell? ⟨w.heap.size, 2, none⟩ = some (.int .i64 u) := by rw [cell_of_row _ _ _ _ _ _ hP0]; rfl
  go_enter Try.func54, Try.ntmps54
  go_upto_region 3 with fail
  first | rw [hW0] | skip
  clear hW0
  have hA1 := hA0
  have hR1 := hR0
  have k1 : ¬ w.heap.size + 1 + 1 = w.heap.size + 1 := by omega
  have a0 : W0.cell? ⟨w.heap.size + 1 + 1, 0, none⟩ = some (.int .i64 0) := by rw [cell_of_row _ _ _ _ _ _ hA1]; rfl
  have a1 : W0.cell? ⟨w.heap.size + 1 + 1, 1, none⟩ = some (.bool false) := by rw [cell_of_row _ _ _ _ _ _ hA1]; rfl
  have g0 : W0.frozen? ⟨w.heap.size + 1 + 1, 0, none⟩ = false := by unfold World.frozen?; rw [hA1]; rfl
  have g1 : W0.frozen? ⟨w.heap.size + 1 + 1, 1, none⟩ = false := by unfold World.frozen?; rw [hA1]; rfl
  have r0 : W0.cell? ⟨w.heap.size + 1, 0, none⟩ = some (.int .i64 0) := by rw [cell_of_row _ _ _ _ _ _ hR1]; rfl
  have r1 : W0.cell? ⟨w.heap.size + 1, 1, none⟩ = some (.bool false) := by rw [cell_of_row _ _ _ _ _ _ hR1]; rfl
  have f0 : W0.frozen? ⟨w.heap.size + 1, 0, none⟩ = false := by unfold World.frozen?; rw [hR1]; rfl
  have f1 : W0.frozen? ⟨w.heap.size + 1, 1, none⟩ = false := by unfold World.frozen?; rw [hR1]; rfl
  go_wp2_with fail
  have h2 := two_set hR1 (.int .i64 0) (.bool false)
  have hNf := ((hN0.setCell (p := ⟨w.heap.size + 1, 0, none⟩) (.inl (by simp)) (.int .i64 0)).setCell (p := ⟨w.heap.size + 1, 1, none⟩) (.inl (by simp)) (.bool false))
  exact bodyPost_ret (v := .tuple #[.int .u64 (x : Nat), .agg #[.int .i64 0, .bool false]]) (results_2cell (fn := Try.f54) (p := 5) (q := 4) (v := .int .u64 (x : Nat)) rfl _ _ (w.heap.size + 1) 89 _ (0, 0) _ rfl h2 Try.underlying89 rfl info89 rfl) rfl ⟨rfl, hNf⟩
/-- The document's word on what a deed does to a word that may be. -/
theorem does_ref {l : List (Nat × Nat)} (h : OkL l) (d : Nat) (s u : Int) (w : World) :
    Calls Try.prog 54 #[.int .u64 (enc l), dv d s u] w fun e w' => e = .returned (ansV (doesS (enc l) d s u).1 (doesS (enc l) d s u).2.1 (doesS (enc l) d s u).2.2) ∧ New w w' := by
  by_cases d1 : d = 1
  · subst d1; exact ref_push h s u w
  by_cases d2 : d = 2
  · subst d2; exact ref_best h s u w
  by_cases d3 : d = 3
  · subst d3; exact ref_turn h s u w
  by_cases d4 : d = 4
  · subst d4; exact ref_out h s u w
  have hn : isDeed d = false := by simp [isDeed, d1, d2, d3, d4]
  refine (ref_not (enc l) d s u hn w).mono fun e w' ⟨he, hN⟩ => ⟨?_, hN⟩
  rw [he]
  unfold doesS
  rw [if_neg d1, if_neg d2, if_neg d3, if_neg d4]
end Go.Proofs.Ytkjloeefcaadlaa
/- Whether all deeds are of the four. -/
namespace Go.Proofs.Ytkjloeefcaadlaa
open Go.RowKit Go.Shelf Go.Cs
attribute [local go_sem] Oper.semAt_some
def Dn.cs (p : Dn) : List Value := [.int .u8 (p.d : Nat), .int .i64 p.s, .int .i64 p.u]
/-- A slice of deeds. -/
def ReadsE (W : World) (v : Value) (L : List Dn) : Prop :=
  L.length ≤ 5864062014805 ∧ ∃ ao cap, v = .slice ao L.length cap ∧ ∀ i, i < L.length → ∃ b o, ao = some ⟨b, o, none⟩ ∧ W.rangeAt b (o + i * 3) (L.getD i .no).cs
theorem ReadsE.new {W W' : World} {v : Value} {L : List Dn} (h : ReadsE W v L) (hN : New W W') : ReadsE W' v L := by
  obtain ⟨hl, ao, cap, rfl, hc⟩ := h
  refine ⟨hl, ao, cap, rfl, fun i hi => ?_⟩
  obtain ⟨b, o, rfl, h⟩ := hc i hi
  exact ⟨b, o, rfl, fun j v hv => hN.cell (h j v hv) id⟩
theorem notdeed_any (p : Dn) (w : World) : Calls Try.prog 147 #[.agg p.cs.toArray] w fun e w' => e = .returned (.bool (!isDeed p.d)) ∧ New w w' := by
  have HD := Lib.hid (deed_any p.d p.s p.u)
  have hh := World.alloc_heap_new w (.cells p.cs.toArray 93)
  have hN := (Mods.refl (fun _ => False) w).alloc (.cells p.cs.toArray 93)
  have hi : (Try.prog.info? 93).map (·.size) = some p.cs.toArray.size := info93
  obtain ⟨b, hb⟩ : ∃ b, isDeed p.d = b := ⟨_, rfl⟩
  rw [hb] at HD ⊢
  clear hb
  go_enter Try.func147, Try.ntmps147
  go_wp2_with (refine op_value rfl (run_load_row 93 (.tmp 1) rfl w.heap.size rfl 93 p.cs.toArray (0, 0) _ hh Try.underlying93 rfl hi) ?_)
  refine (HD.out _).mono ?_
  rintro e w1 ⟨rfl, hN1⟩
  go_wp2_with fail
  go_ret
  exact ⟨rfl, hN.trans hN1⟩
set_option maxHeartbeats 1000000 in
theorem index_any (v : Value) (L : List Dn) (w : World) (hv : ReadsE w v L) :
    Calls Try.prog 169 #[v, fn 147] w fun e w' => ∃ r : Int, e = .returned (.int .i64 r) ∧ (decide (0 ≤ r) = !(L.all fun p => isDeed p.d)) ∧ New w w' := by
  obtain ⟨hl, ao, cap, rfl, hc⟩ := hv
  have HF := Lib.hid notdeed_any
  obtain ⟨n, hn⟩ : ∃ n, L.length = n := ⟨_, rfl⟩
  have Hn := Lib.hid hn
  rw [hn] at hl hc ⊢
  have Hc := Lib.hid hc
  clear hn hc
  unfold fn
  go_enter Try.func169, Try.ntmps169
  go_wp2_with fail
  go_loopw [5, 8] (fun _ c wr => ∃ k : Nat, k ≤ n ∧ c = .int .i64 k ∧ Hid (∀ i, i < k → isDeed (L.getD i .no).d = true) ∧ New w wr) (fun _ c _ => n - (intOf c).toNat)
  case atStart => exact ⟨0, Nat.zero_le _, rfl, Lib.hid (fun i hi => by omega), Mods.refl _ _⟩
  case round =>
    obtain ⟨k, hk, rfl, hbef, hN⟩ := hrel
    by_cases hkn : k < n
    · have hkd : decide ((k : Int) < (n : Int)) = true := decide_eq_true (by omega)
      obtain ⟨b, o, rfl, hr⟩ := Hc.out k hkn
      have hr : wr.rangeAt b (o + k * 3) (L.getD k .no).cs := fun j v hv => hN.cell (hr j v hv) id
      obtain ⟨p, hp⟩ : ∃ p, L.getD k .no = p := ⟨_, rfl⟩
      have Hp := Lib.hid hp
      rw [hp] at hr
      clear hp
      have HFp := Lib.hid (HF.out p)
      obtain ⟨t, ht⟩ : ∃ t, isDeed p.d = t := ⟨_, rfl⟩
      have Ht := Lib.hid ht
      rw [ht] at HFp
      clear ht
      go_wp2_with (refine op_value rfl (run_load_mid 93 (.tmp 14) rfl b (o + k * 3) rfl p.cs _ hr Try.underlying93 rfl info93) ?_)
      refine (HFp.out _).mono ?_
      rintro e w1 ⟨rfl, hN1⟩
      cases t with
      | true =>
        have hnext : Hid (∀ i, i < k + 1 → isDeed (L.getD i .no).d = true) := Lib.hid (fun i hi => by
          by_cases h : i < k
          · exact hbef.out i h
          · obtain rfl : i = k := by omega
            rw [Hp.out]; exact Ht.out)
        clear hr hbef
        go_wp2_with fail
        go_roundw
        case rel => exact ⟨k + 1, by omega, by go_num, hnext, hN.trans hN1⟩
        case measure => simp [intOf]; omega
      | false =>
        have hall : (L.all fun p => isDeed p.d) = false := by
          rw [List.all_eq_false]
          have hkl : k < L.length := by rw [Hn.out]; exact hkn
          refine ⟨L[k], List.getElem_mem hkl, ?_⟩
          have := Hp.out
          simp only [List.getD, List.getElem?_eq_getElem hkl, Option.getD_some] at this
          rw [this, Ht.out]
          simp
        have Hall := Lib.hid hall
        clear hr hbef hall
        go_wp2_with fail
        go_ret
        exact ⟨_, rfl, by rw [Hall.out]; simp, hN.trans hN1⟩
    · obtain rfl : k = n := by omega
      have hkd : decide ((k : Int) < (k : Int)) = false := decide_eq_false (by omega)
      have hall : (L.all fun p => isDeed p.d) = true := by
        rw [List.all_eq_true]
        intro p hp
        obtain ⟨i, hi, rfl⟩ := List.getElem_of_mem hp
        have := hbef.out i (by have := Hn.out; omega)
        simpa only [List.getD, List.getElem?_eq_getElem hi, Option.getD_some] using this
      have Hall := Lib.hid hall
      clear hbef hall
      go_wp2_with fail
      go_ret
      exact ⟨-1, rfl, by rw [Hall.out]; rfl, hN⟩
theorem all_S (v : Value) (L : List Dn) (w : World) (hv : ReadsE w v L) :
    Calls Try.prog 97 #[v] w fun e w' => e = .returned (.bool (L.all fun p => isDeed p.d)) ∧ New w w' := by
  have HI := Lib.hid (index_any v L w hv)
  obtain ⟨b, hb⟩ : ∃ b, (L.all fun p => isDeed p.d) = b := ⟨_, rfl⟩
  rw [hb] at HI ⊢
  obtain ⟨_, ao, cap, rfl, _⟩ := hv
  clear hb
  have HC : Hid (Calls Try.prog 146 #[.slice ao L.length cap, fn 147] w fun e w' => e = .returned (.bool (!b)) ∧ New w w') := Lib.hid (by
    unfold fn at HI ⊢
    go_enter Try.func146, Try.ntmps146
    go_wp2_with fail
    refine HI.out.mono ?_
    rintro e w1 ⟨r, rfl, hr, hN⟩
    go_wp2_with fail
    go_ret
    exact ⟨rfl, hN⟩)
  unfold fn at HC
  go_enter Try.func97, Try.ntmps97
  go_wp2_with fail
  refine HC.out.mono ?_
  rintro e w1 ⟨rfl, hN⟩
  go_wp2_with fail
  go_ret
  exact ⟨by simp, hN⟩
end Go.Proofs.Ytkjloeefcaadlaa
/- A slice of deeds told in memory of its own. -/
namespace Go.Proofs.Ytkjloeefcaadlaa
open Go.RowKit Go.Shelf Go.Cs
attribute [local go_sem] Oper.semAt_some
def flatE (L : List Dn) : List Value := L.flatMap Dn.cs
theorem flatE_len (L : List Dn) : (flatE L).length = L.length * 3 := by
  induction L with
  | nil => rfl
  | cons p L ih =>
    unfold flatE at ih ⊢
    rw [List.flatMap_cons, List.length_append, ih, List.length_cons]
    simp [Dn.cs]
    omega
theorem flatE_at (L : List Dn) : ∀ (j : Nat) (u : Value), (flatE L)[j]? = some u → j / 3 < L.length ∧ (L.getD (j / 3) .no).cs[j % 3]? = some u := by
  induction L with
  | nil => intro j u h; simp [flatE] at h
  | cons p L ih =>
    intro j u h
    unfold flatE at ih h
    rw [List.flatMap_cons] at h
    by_cases hj : j < 3
    · rw [List.getElem?_append_left (by simpa [Dn.cs] using hj)] at h
      have e1 : j / 3 = 0 := by omega
      have e2 : j % 3 = j := by omega
      rw [e1, e2]
      exact ⟨by simp, h⟩
    · rw [List.getElem?_append_right (by simp [Dn.cs]; omega)] at h
      have hl : p.cs.length = 3 := rfl
      rw [hl] at h
      obtain ⟨h1, h2⟩ := ih (j - 3) u h
      have e1 : j / 3 = (j - 3) / 3 + 1 := by omega
      have e2 : j % 3 = (j - 3) % 3 := by omega
      rw [e1, e2]
      refine ⟨by simp; omega, ?_⟩
      simpa [List.getD] using h2
theorem flatE_one (L : List Dn) : ∀ u ∈ flatE L, u.oneCell' = true := by
  intro u hu
  unfold flatE at hu
  obtain ⟨p, _, hp⟩ := List.mem_flatMap.1 hu
  simp [Dn.cs] at hp
  rcases hp with rfl | rfl | rfl <;> rfl
theorem eqS (d : Nat) (t e : TypeId) (h : Try.prog.underlying t = some (.slice e)) (a : Option Addr) (n c : Nat) (w : World) : (Op.equalIn (d + 1) t (.slice a n c) (.slice none 0 0)).run Try.prog w = .ok a.isNone w := by
  simp only [Op.equalIn, Sem.run_bind, run_underlying h w, Result.andThen_ok]
  cases a <;> rfl
theorem run_nil_slice (t e : TypeId) (h : Try.prog.underlying t = some (.slice e)) (a : Option Addr) (n c : Nat) (w : World) : (binOp .eql t (.slice a n c) (.slice none 0 0)).run Try.prog w = .ok (.bool a.isNone) w := by
  have h1 := eqS 9999 t e h a n c w
  simp only [binOp]
  simp [Op.equal, Op.maxDepth, h1]
theorem info93' : (Try.prog.info? 93).map (fun i => (i.zero, i.size, i.bytes)) = some (some (.agg #[.int .u8 0, .int .i64 0, .int .i64 0]), 3, 24) := by kernel_rfl
set_option maxHeartbeats 1000000 in
set_option maxRecDepth 100000 in
theorem clone_deeds (v : Value) (L : List Dn) (w : World) (hv : ReadsE w v L) :
    Calls Try.prog 98 #[v] w fun e w' => ∃ v', e = .returned v' ∧ w'.ownsRow w.heap.size 93 3 v' L.length (flatE L) ∧ New w w' := by
  obtain ⟨hl, ao, cap, rfl, hc⟩ := hv
  cases ao with
  | none =>
    have hL : L = [] := by
      cases L with
      | nil => rfl
      | cons p t => obtain ⟨b, o, h, _⟩ := hc 0 (by simp); cases h
    subst hL
    have hL0 : ([] : List Dn).length = 0 := rfl
    rw [hL0]
    have hq := fun w => run_nil_slice 85 93 Try.underlying85 none 0 cap w
    go_enter Try.func98, Try.ntmps98
    go_wp2_with fail
    go_ret
    exact ⟨_, rfl, World.ownsRow_nil _ _ _ _, Mods.refl _ _⟩
  | some a =>
    have hnews : ∀ j u, (flatE L)[j]? = some u → w.cell? (a.add j) = some u := fun j u hj => by
      obtain ⟨h1, h2⟩ := flatE_at L j u hj
      obtain ⟨b, o, he, hr⟩ := hc (j / 3) h1
      cases he
      have := hr (j % 3) u h2
      rw [Addr.add_mid]
      rw [show o + j = o + j / 3 * 3 + j % 3 by omega]
      exact this
    obtain ⟨i0, hi, hz0, hz1, hz2⟩ := info_parts info93'
    have hlen := flatE_len L
    have hone := flatE_one L
    obtain ⟨n, hn⟩ : ∃ n, L.length = n := ⟨_, rfl⟩
    obtain ⟨F, hF⟩ : ∃ F, flatE L = F := ⟨_, rfl⟩
    rw [hn] at hl hlen ⊢
    rw [hF] at hnews hlen hone ⊢
    clear hc hn hF
    have hown : (w.alloc (.cells #[] 93)).ownsRow w.heap.size 93 3 (.slice (some ⟨w.heap.size, 0, none⟩) 0 0) 0 [] :=
      ⟨rfl, .inr ⟨w.heap.size, 0, #[], rfl, Nat.le_refl _, World.alloc_heap_new w _, Nat.le_refl _, by unfold maxLen; omega, rfl, rfl⟩⟩
    have hnews' : ∀ j u, F[j]? = some u → (w.alloc (.cells #[] 93)).cell? (a.add j) = some u := fun j u hj => ((Mods.refl (fun _ => False) w).alloc _).cell (hnews j u hj) id
    have hq := fun w => run_nil_slice 85 93 Try.underlying85 (some a) n cap w
    go_enter Try.func98, Try.ntmps98
    go_wp2_with (at_builtin; refine wpList_append_own _ rfl _ _ 85 rfl w.heap.size 93 i0 _ 3 24 Try.underlying85 hi hz0 hz1 hz2 rfl (by decide) _ _ _ rfl hown a n cap F rfl hlen hnews' hone ?c3 ?c4 ?c5 ?_)
    case c3 => unfold maxLen; omega
    case c4 => omega
    case c5 => simp
    intro v' w2 hown' hgrow _
    have hN2 : New w w2 := ((Mods.refl _ w).alloc (.cells #[] 93)).grown hgrow (by intro g hg; have := hown.lt g hg; omega)
    go_wp2_with fail
    go_ret
    exact ⟨_, rfl, hown', hN2⟩
end Go.Proofs.Ytkjloeefcaadlaa
/- Slices of threads and of moments told in memory of their own. -/
namespace Go.Proofs.Ytkjloeefcaadlaa
open Go.RowKit Go.Shelf Go.Cs
attribute [local go_sem] Oper.semAt_some
theorem info100' : (Try.prog.info? 100).map (fun i => (i.zero, i.size, i.bytes)) = some (some (.agg #[.slice none 0 0, .bool false, .int .u64 0, .int .i64 0]), 4, 48) := by kernel_rfl
theorem info95' : (Try.prog.info? 95).map (fun i => (i.zero, i.size, i.bytes)) = some (some (.agg #[.int .i64 0, .int .u8 0, .int .i64 0, .int .i64 0, .int .i64 0, .int .i64 0, .int .i64 0, .bool false]), 8, 64) := by kernel_rfl
set_option maxHeartbeats 2000000 in
set_option maxRecDepth 100000 in
theorem clone_threads (ao : Option Addr) (n cap : Nat) (F : List Value) (w : World) (hl : n ≤ 2000000) (h0 : ao = none → n = 0) (hlen : F.length = n * 4) (hone : ∀ u ∈ F, u.oneCell' = true) (hcell : ∀ a, ao = some a → ∀ j u, F[j]? = some u → w.cell? (a.add j) = some u) :
    Calls Try.prog 144 #[.slice ao n cap] w fun e w' => ∃ v', e = .returned v' ∧ w'.ownsRow w.heap.size 100 4 v' n F ∧ New w w' := by
  cases ao with
  | none =>
    obtain rfl := h0 rfl
    obtain rfl : F = [] := List.eq_nil_of_length_eq_zero (by omega)
    have hq := fun w => run_nil_slice 74 100 Try.underlying74 none 0 cap w
    clear hone hcell hlen h0
    go_enter Try.func144, Try.ntmps144
    go_wp2_with fail
    go_ret
    exact ⟨_, rfl, World.ownsRow_nil _ _ _ _, Mods.refl _ _⟩
  | some a =>
    have hnews := hcell a rfl
    obtain ⟨i0, hi, hz0, hz1, hz2⟩ := info_parts info100'
    clear hcell h0
    have hown : (w.alloc (.cells #[] 100)).ownsRow w.heap.size 100 4 (.slice (some ⟨w.heap.size, 0, none⟩) 0 0) 0 [] :=
      ⟨rfl, .inr ⟨w.heap.size, 0, #[], rfl, Nat.le_refl _, World.alloc_heap_new w _, Nat.le_refl _, by unfold maxLen; omega, rfl, rfl⟩⟩
    have hnews' : ∀ j u, F[j]? = some u → (w.alloc (.cells #[] 100)).cell? (a.add j) = some u := fun j u hj => ((Mods.refl (fun _ => False) w).alloc _).cell (hnews j u hj) id
    have hq := fun w => run_nil_slice 74 100 Try.underlying74 (some a) n cap w
    go_enter Try.func144, Try.ntmps144
    go_wp2_with (at_builtin; refine wpList_append_own _ rfl _ _ 74 rfl w.heap.size 100 i0 _ 4 48 Try.underlying74 hi hz0 hz1 hz2 rfl (by decide) _ _ _ rfl hown a n cap F rfl hlen hnews' hone ?c3 ?c4 ?c5 ?_)
    case c3 => unfold maxLen; omega
    case c4 => omega
    case c5 => simp
    intro v' w2 hown' hgrow _
    have hN2 : New w w2 := ((Mods.refl _ w).alloc (.cells #[] 100)).grown hgrow (by intro g hg; have := hown.lt g hg; omega)
    go_wp2_with fail
    go_ret
    exact ⟨_, rfl, hown', hN2⟩
set_option maxHeartbeats 2000000 in
set_option maxRecDepth 100000 in
theorem clone_moments (ao : Option Addr) (n cap : Nat) (F : List Value) (w : World) (hl : n ≤ 2000000) (h0 : ao = none → n = 0) (hlen : F.length = n * 8) (hone : ∀ u ∈ F, u.oneCell' = true) (hcell : ∀ a, ao = some a → ∀ j u, F[j]? = some u → w.cell? (a.add j) = some u) :
    Calls Try.prog 145 #[.slice ao n cap] w fun e w' => ∃ v', e = .returned v' ∧ w'.ownsRow w.heap.size 95 8 v' n F ∧ New w w' := by
  cases ao with
  | none =>
    obtain rfl := h0 rfl
    obtain rfl : F = [] := List.eq_nil_of_length_eq_zero (by omega)
    have hq := fun w => run_nil_slice 75 95 Try.underlying75 none 0 cap w
    clear hone hcell hlen h0
    go_enter Try.func145, Try.ntmps145
    go_wp2_with fail
    go_ret
    exact ⟨_, rfl, World.ownsRow_nil _ _ _ _, Mods.refl _ _⟩
  | some a =>
    have hnews := hcell a rfl
    obtain ⟨i0, hi, hz0, hz1, hz2⟩ := info_parts info95'
    clear hcell h0
    have hown : (w.alloc (.cells #[] 95)).ownsRow w.heap.size 95 8 (.slice (some ⟨w.heap.size, 0, none⟩) 0 0) 0 [] :=
      ⟨rfl, .inr ⟨w.heap.size, 0, #[], rfl, Nat.le_refl _, World.alloc_heap_new w _, Nat.le_refl _, by unfold maxLen; omega, rfl, rfl⟩⟩
    have hnews' : ∀ j u, F[j]? = some u → (w.alloc (.cells #[] 95)).cell? (a.add j) = some u := fun j u hj => ((Mods.refl (fun _ => False) w).alloc _).cell (hnews j u hj) id
    have hq := fun w => run_nil_slice 75 95 Try.underlying75 (some a) n cap w
    go_enter Try.func145, Try.ntmps145
    go_wp2_with (at_builtin; refine wpList_append_own _ rfl _ _ 75 rfl w.heap.size 95 i0 _ 8 64 Try.underlying75 hi hz0 hz1 hz2 rfl (by decide) _ _ _ rfl hown a n cap F rfl hlen hnews' hone ?c3 ?c4 ?c5 ?_)
    case c3 => unfold maxLen; omega
    case c4 => omega
    case c5 => simp
    intro v' w2 hown' hgrow _
    have hN2 : New w w2 := ((Mods.refl _ w).alloc (.cells #[] 95)).grown hgrow (by intro g hg; have := hown.lt g hg; omega)
    go_wp2_with fail
    go_ret
    exact ⟨_, rfl, hown', hN2⟩
end Go.Proofs.Ytkjloeefcaadlaa
/- Deeds compared. -/
namespace Go.Proofs.Ytkjloeefcaadlaa
open Go.RowKit Go.Shelf Go.Cs
attribute [local go_sem] Oper.semAt_some
theorem stood93 : Try.prog.stoodInHeld 93 = false := by kernel_rfl
theorem guard93 : Try.prog.eqGuardType Try.prog.depth 93 = false := by kernel_rfl
theorem partAt (t : TypeId) (d : TypeDesc) (h : Try.prog.underlying t = some d) (hd : (match d with | .struct _ | .array _ _ => true | _ => false) = false) (cs : Array Value) (i : Nat) (v : Value) (w : World) (hv : cs[i]? = some v) : (Go.part t cs i).run Try.prog w = .ok v w := by
  have hagg : (isAgg t).run Try.prog w = .ok false w := by
    unfold isAgg
    rw [Sem.run_bind, run_underlying h w]
    cases d <;> simp_all
  unfold Go.part
  rw [Sem.run_bind, hagg]
  simp [hv]
theorem eq_deed (d : Nat) (p q : Dn) (w : World) : (Op.equalIn (d + 2) 93 (.agg p.cs.toArray) (.agg q.cs.toArray)).run Try.prog w = .ok (dEq p q) w := by
  rw [show d + 2 = (d + 1) + 1 from rfl, run_equalIn_agg w (d + 1) 93 _ _ (by unfold Program.fieldsOf; rw [Try.underlying93]) stood93]
  unfold Program.fieldsOf
  rw [Try.underlying93]
  have h0 := fun (r : Dn) w => partAt 5 _ Try.underlying5 rfl r.cs.toArray 0 (.int .u8 (r.d : Nat)) w rfl
  have h1 := fun (r : Dn) w => partAt 3 _ Try.underlying3 rfl r.cs.toArray 1 (.int .i64 r.s) w rfl
  have h2 := fun (r : Dn) w => partAt 3 _ Try.underlying3 rfl r.cs.toArray 2 (.int .i64 r.u) w rfl
  have e0 := fun w => run_equalIn_int w d 5 .u8 .u8 (p.d : Int) (q.d : Int) Try.underlying5
  have e1 := fun w => run_equalIn_int w d 3 .i64 .i64 p.s q.s Try.underlying3
  have e2 := fun w => run_equalIn_int w d 3 .i64 .i64 p.u q.u Try.underlying3
  have hz : ((p.d : Int) == (q.d : Int)) = (p.d == q.d) := by
    rw [Bool.eq_iff_iff, beq_iff_eq, beq_iff_eq]
    omega
  have n1 : ("Do" ≠ "_") = True := by simp
  have n2 : ("Slot" ≠ "_") = True := by simp
  have n3 : ("Urgency" ≠ "_") = True := by simp
  unfold dEq
  simp only [Op.eqFields, n1, n2, n3, if_true, Sem.run_bind, h0, e0, hz, Result.andThen_ok]
  cases (p.d == q.d) <;> cases hb : (p.s == q.s) <;> cases hc : (p.u == q.u) <;> simp [Sem.run_bind, h0, h1, h2, e0, e1, e2, hb, hc]
theorem run_neq_deed {o : Oper} {a : Act} {w : World} (x y : Operand) (ho : o.op = .binOp .neq 93 x y 93) (p q : Dn) (hx : a.eval x = .agg p.cs.toArray) (hy : a.eval y = .agg q.cs.toArray) :
    (execOp a.eval o).run Try.prog w = .ok (.value (.bool (!(dEq p q)))) w := by
  have he := eq_deed 9998 p q w
  unfold execOp
  simp only [ho, hx, hy, Sem.run_bind, run_eqGuard_agg w .neq 93 x y _ _ guard93, Result.andThen_ok, run_neq_struct w 93 _ _]
  rw [show (10000 : Nat) = 9998 + 2 from rfl, he]
  simp
end Go.Proofs.Ytkjloeefcaadlaa
/- Slices of deeds compared. -/
namespace Go.Proofs.Ytkjloeefcaadlaa
open Go.RowKit Go.Shelf Go.Cs
attribute [local go_sem] Oper.semAt_some
def eqE (L M : List Dn) : Bool := decide (L.length = M.length) && (List.range L.length).all fun i => dEq (L.getD i .no) (M.getD i .no)
set_option maxHeartbeats 2000000 in
theorem equal_deeds (v v' : Value) (L M : List Dn) (w : World) (hv : ReadsE w v L) (hv' : ReadsE w v' M) :
    Calls Try.prog 141 #[v, v'] w fun e w' => e = .returned (.bool (eqE L M)) ∧ New w w' := by
  obtain ⟨hl, ao, cap, rfl, hc⟩ := hv
  obtain ⟨hl', ao', cap', rfl, hc'⟩ := hv'
  by_cases hlen : L.length = M.length
  · obtain ⟨r, hr⟩ : ∃ r, eqE L M = r := ⟨_, rfl⟩
    have Hr := Lib.hid hr
    rw [hr]
    rw [← hlen] at hc' hl' ⊢
    obtain ⟨n, hn⟩ : ∃ n, L.length = n := ⟨_, rfl⟩
    have Hn := Lib.hid hn
    have Hlen := Lib.hid hlen
    rw [hn] at hl hc hc' ⊢
    have Hc := Lib.hid hc
    have Hc' := Lib.hid hc'
    clear hr hn hlen hc hc' hl'
    go_enter Try.func141, Try.ntmps141
    go_wp2_with fail
    go_loopw [5, 13] (fun _ c wr => ∃ k : Nat, k ≤ n ∧ c = .int .i64 k ∧ Hid (∀ i, i < k → dEq (L.getD i .no) (M.getD i .no) = true) ∧ New w wr) (fun _ c _ => n - (intOf c).toNat)
    case atStart => exact ⟨0, Nat.zero_le _, rfl, Lib.hid (fun i hi => by omega), Mods.refl _ _⟩
    case round =>
      obtain ⟨k, hk, rfl, hbef, hN⟩ := hrel
      by_cases hkn : k < n
      · have hkd : decide ((k : Int) < (n : Int)) = true := decide_eq_true (by omega)
        obtain ⟨b, o, rfl, hr⟩ := Hc.out k hkn
        obtain ⟨b', o', rfl, hr'⟩ := Hc'.out k hkn
        have hr : wr.drew.rangeAt b (o + k * 3) (L.getD k .no).cs := fun j v hv => hN.drew.cell (hr j v hv) id
        have hr' : wr.drew.rangeAt b' (o' + k * 3) (M.getD k .no).cs := fun j v hv => hN.drew.cell (hr' j v hv) id
        obtain ⟨p, hp⟩ : ∃ p, L.getD k .no = p := ⟨_, rfl⟩
        obtain ⟨q, hq⟩ : ∃ p, M.getD k .no = p := ⟨_, rfl⟩
        have Hp := Lib.hid hp
        have Hq := Lib.hid hq
        rw [hp] at hr
        rw [hq] at hr'
        clear hp hq
        go_upto_region 6 with fail
        refine (wpIn_wide (n := 0)).1 ?_
        refine wpIn_region_any (by kernel_rfl) ?_
        show wpAnyIn _ _ _ _ _ _ _ _ _ wr.drew
        refine any_take 0 (some 16) (.slice (some ⟨b, o, none⟩) n cap) rfl rfl (by kernel_rfl) (by kernel_rfl) (by kernel_rfl) (fun _ _ _ h => h) (.value rfl fun w => by go_simp) ?_
        refine any_take 1 (some 17) (.int .i64 k) rfl rfl (by kernel_rfl) (by kernel_rfl) (by kernel_rfl) (fun _ _ _ h => h) (.value rfl fun w => by go_simp) ?_
        refine any_take 2 (some 18) (.pointer (some ⟨b, o + k * 3, none⟩)) rfl rfl (by kernel_rfl) (by kernel_rfl) (by kernel_rfl) (fun _ _ _ h => h) (.value rfl fun w => by go_simp) ?_
        refine any_take 4 (some 20) (.slice (some ⟨b', o', none⟩) n cap') rfl rfl (by kernel_rfl) (by kernel_rfl) (by kernel_rfl) (fun _ _ _ h => h) (.value rfl fun w => by go_simp) ?_
        refine any_take 5 (some 21) (.int .i64 k) rfl rfl (by kernel_rfl) (by kernel_rfl) (by kernel_rfl) (fun _ _ _ h => h) (.value rfl fun w => by go_simp) ?_
        refine any_take 6 (some 22) (.pointer (some ⟨b', o' + k * 3, none⟩)) rfl rfl (by kernel_rfl) (by kernel_rfl) (by kernel_rfl) (fun _ _ _ h => h) (.value rfl fun w => by go_simp) ?_
        simp only [Act.put, List.setIfInBounds_toArray, List.set_cons_succ, List.set_cons_zero]
        refine wpAnyIn_all (rs := [3, 7]) (by kernel_rfl) (by simp) ?_
        simp only [List.mem_cons, List.not_mem_nil, or_false, forall_eq_or_imp, forall_eq]
        refine ⟨?ord1, ?ord2⟩
        case' ord1 =>
          refine opIn_value (some 19) (v := .agg p.cs.toArray) (w' := wr.drew) rfl rfl rfl rfl (run_load_mid 93 (.tmp 18) rfl b (o + k * 3) rfl p.cs _ hr Try.underlying93 rfl info93) ?_
          refine wpAnyIn_all (rs := [7]) (by kernel_rfl) (by simp) ?_
          simp only [List.mem_cons, List.not_mem_nil, or_false, forall_eq]
          refine opIn_value (some 23) (v := .agg q.cs.toArray) (w' := wr.drew) rfl rfl rfl rfl (run_load_mid 93 (.tmp 22) rfl b' (o' + k * 3) rfl q.cs _ hr' Try.underlying93 rfl info93) ?_
        case' ord2 =>
          refine opIn_value (some 23) (v := .agg q.cs.toArray) (w' := wr.drew) rfl rfl rfl rfl (run_load_mid 93 (.tmp 22) rfl b' (o' + k * 3) rfl q.cs _ hr' Try.underlying93 rfl info93) ?_
          refine wpAnyIn_all (rs := [3]) (by kernel_rfl) (by simp) ?_
          simp only [List.mem_cons, List.not_mem_nil, or_false, forall_eq]
          refine opIn_value (some 19) (v := .agg p.cs.toArray) (w' := wr.drew) rfl rfl rfl rfl (run_load_mid 93 (.tmp 18) rfl b (o + k * 3) rfl p.cs _ hr Try.underlying93 rfl info93) ?_
        all_goals
          simp only [Act.put, List.setIfInBounds_toArray, List.set_cons_succ, List.set_cons_zero]
          refine wpAnyIn_all (rs := [8]) (by kernel_rfl) (by simp) ?_
          simp only [List.mem_cons, List.not_mem_nil, or_false, forall_eq]
          refine opIn_value (some 24) (v := .bool (!(dEq p q))) (w' := wr.drew) rfl rfl rfl rfl (run_neq_deed (.tmp 19) (.tmp 23) rfl p q rfl rfl) ?_
          simp only [Act.put, List.setIfInBounds_toArray, List.set_cons_succ, List.set_cons_zero]
          refine wpAnyIn_done (by kernel_rfl) ?_ _
          obtain ⟨t, ht⟩ : ∃ t, dEq p q = t := ⟨_, rfl⟩
          have Ht := Lib.hid ht
          rw [ht]
          clear ht hr hr'
          cases t with
          | true =>
            have hnext : Hid (∀ i, i < k + 1 → dEq (L.getD i .no) (M.getD i .no) = true) := Lib.hid (fun i hi => by
              by_cases h : i < k
              · exact hbef.out i h
              · obtain rfl : i = k := by omega
                rw [Hp.out, Hq.out]; exact Ht.out)
            clear hbef
            go_wp2_with fail
            go_roundw
            case rel => exact ⟨k + 1, by omega, by go_num, hnext, hN.drew⟩
            case measure => simp [intOf]; omega
          | false =>
            have hR : r = false := by
              rw [← Hr.out, eqE]
              have : ((List.range L.length).all fun i => dEq (L.getD i .no) (M.getD i .no)) = false := by
                rw [List.all_eq_false]
                exact ⟨k, List.mem_range.2 (by rw [Hn.out]; exact hkn), by rw [Hp.out, Hq.out, Ht.out]; simp⟩
              rw [this, Bool.and_false]
            clear hbef
            go_wp2_with fail
            go_ret
            exact ⟨by rw [hR]; rfl, hN.drew⟩
      · obtain rfl : k = n := by omega
        have hkd : decide ((k : Int) < (k : Int)) = false := decide_eq_false (by omega)
        have hR : r = true := by
          rw [← Hr.out, eqE, decide_eq_true Hlen.out, Bool.true_and, List.all_eq_true]
          intro i hi
          exact hbef.out i (by have := List.mem_range.1 hi; have := Hn.out; omega)
        clear hbef
        go_wp2_with fail
        go_ret
        exact ⟨by rw [hR]; rfl, hN⟩
  · have hR : eqE L M = false := by rw [eqE, decide_eq_false hlen, Bool.false_and]
    rw [hR]
    obtain ⟨n, hn⟩ : ∃ n, L.length = n := ⟨_, rfl⟩
    obtain ⟨m, hm⟩ : ∃ n, M.length = n := ⟨_, rfl⟩
    rw [hn, hm] at hlen ⊢
    have e : ((n : Int) != (m : Int)) = true := by simp; omega
    have e' : (n != m) = true := by simpa using hlen
    clear hR hc hc' hn hm hlen
    go_enter Try.func141, Try.ntmps141
    go_wp2_with fail
    go_ret
    exact ⟨rfl, Mods.refl _ _⟩
end Go.Proofs.Ytkjloeefcaadlaa
/- A machine in memory. -/
namespace Go.Proofs.Ytkjloeefcaadlaa
open Go.RowKit Go.Shelf Go.Cs
theorem isD_eq : isD = isDeed := rfl
/-- The cells of a row of structs. -/
def flatF (n : Nat) (f : Nat → List Value) : List Value := (List.range n).flatMap f
theorem flatF_succ (n : Nat) (f : Nat → List Value) : flatF (n + 1) f = flatF n f ++ f n := by simp [flatF, List.range_succ]
theorem flatF_len {sz : Nat} {f : Nat → List Value} (h : ∀ i, (f i).length = sz) : ∀ n, (flatF n f).length = n * sz
  | 0 => by simp [flatF]
  | n + 1 => by rw [flatF_succ, List.length_append, flatF_len h n, h n, Nat.succ_mul]
theorem flatF_at {sz : Nat} (h0 : 0 < sz) {f : Nat → List Value} (h : ∀ i, (f i).length = sz) : ∀ n j, (flatF n f)[j]? = if j < n * sz then (f (j / sz))[j % sz]? else none
  | 0, j => by simp [flatF]
  | n + 1, j => by
    rw [flatF_succ]
    have hl := flatF_len h n
    by_cases hj : j < n * sz
    · rw [List.getElem?_append_left (by omega), flatF_at h0 h n j, if_pos hj, if_pos (by rw [Nat.succ_mul]; omega)]
    · rw [List.getElem?_append_right (by omega), hl]
      by_cases hj2 : j < n * sz + sz
      · rw [if_pos (by rw [Nat.succ_mul]; omega)]
        have e : j = (j - n * sz) + n * sz := by omega
        have e1 : j / sz = n := by
          rw [e, Nat.add_mul_div_right _ _ h0, Nat.div_eq_of_lt (by omega)]; omega
        have e2 : j % sz = j - n * sz := by
          conv => lhs; rw [e, Nat.add_mul_mod_self_right]
          exact Nat.mod_eq_of_lt (by omega)
        rw [e1, e2]
      · rw [if_neg (by rw [Nat.succ_mul]; omega), List.getElem?_eq_none (by rw [h n]; omega)]
theorem flatF_congr {n : Nat} {f g : Nat → List Value} (h : ∀ i, i < n → f i = g i) : flatF n f = flatF n g := by
  unfold flatF
  rw [List.flatMap_def, List.flatMap_def]
  congr 1
  apply List.map_congr_left
  intro i hi
  exact h i (List.mem_range.1 hi)
theorem flatF_set {sz : Nat} {f : Nat → List Value} (h : ∀ i, (f i).length = sz) {n i r : Nat} (hr : r < sz) (hi : i < n) (u : Value) : (flatF n f).set (i * sz + r) u = flatF n (fun k => if k = i then (f i).set r u else f k) := by
  have h0 : 0 < sz := by omega
  have h' : ∀ k, ((fun k => if k = i then (f i).set r u else f k) k).length = sz := by
    intro k
    dsimp only
    split
    · rw [List.length_set, h]
    · exact h k
  have e1 : (i * sz + r) / sz = i := by rw [Nat.add_comm, Nat.add_mul_div_right _ _ h0, Nat.div_eq_of_lt hr]; omega
  have e2 : (i * sz + r) % sz = r := by rw [Nat.add_comm, Nat.add_mul_mod_self_right]; exact Nat.mod_eq_of_lt hr
  have hlt : i * sz + r < n * sz := by
    have : (i + 1) * sz ≤ n * sz := Nat.mul_le_mul_right _ (by omega)
    rw [Nat.succ_mul] at this
    omega
  apply List.ext_getElem?
  intro j
  rw [List.getElem?_set, flatF_len h, flatF_at h0 h, flatF_at h0 h']
  by_cases hj : i * sz + r = j
  · subst hj
    rw [if_pos rfl, if_pos hlt, if_pos hlt, e1, e2, if_pos rfl, List.getElem?_set, if_pos rfl, h i, if_pos hr]
  · rw [if_neg hj]
    split
    · next hjn =>
      split
      · next hji =>
        rw [List.getElem?_set, if_neg, hji]
        intro e
        apply hj
        have := Nat.div_add_mod j sz
        rw [hji, Nat.mul_comm] at this
        omega
      · rfl
    · rfl
theorem flatF_one {n : Nat} {f : Nat → List Value} (h : ∀ i, i < n → ∀ u ∈ f i, u.oneCell' = true) : ∀ u ∈ flatF n f, u.oneCell' = true := by
  intro u hu
  unfold flatF at hu
  obtain ⟨i, hi, hp⟩ := List.mem_flatMap.1 hu
  exact h i (List.mem_range.1 hi) u hp
/-- A slice of structs of sz cells. -/
def ReadsF (W : World) (v : Value) (n sz : Nat) (f : Nat → List Value) : Prop :=
  n ≤ 2000000 ∧ ∃ ao cap, v = .slice ao n cap ∧ ∀ i, i < n → ∃ b o, ao = some ⟨b, o, none⟩ ∧ W.rangeAt b (o + i * sz) (f i)
theorem ReadsF.kept {W W' : World} {v : Value} {n sz : Nat} {f : Nat → List Value} (h : ReadsF W v n sz f) {S : Nat → Prop} (hN : Mods S W W') (hS : ∀ g, v.ownBlock = some g → ¬ S g) : ReadsF W' v n sz f := by
  obtain ⟨hl, ao, cap, rfl, hc⟩ := h
  refine ⟨hl, ao, cap, rfl, fun i hi => ?_⟩
  obtain ⟨b, o, rfl, h⟩ := hc i hi
  exact ⟨b, o, rfl, fun j v hv => hN.cell (h j v hv) (hS b rfl)⟩
theorem ReadsF.new {W W' : World} {v : Value} {n sz : Nat} {f : Nat → List Value} (h : ReadsF W v n sz f) (hN : New W W') : ReadsF W' v n sz f := h.kept hN fun _ _ => id
theorem ReadsE.kept {W W' : World} {v : Value} {L : List Dn} (h : ReadsE W v L) {S : Nat → Prop} (hN : Mods S W W') (hS : ∀ g, v.ownBlock = some g → ¬ S g) : ReadsE W' v L := by
  obtain ⟨hl, ao, cap, rfl, hc⟩ := h
  refine ⟨hl, ao, cap, rfl, fun i hi => ?_⟩
  obtain ⟨b, o, rfl, h⟩ := hc i hi
  exact ⟨b, o, rfl, fun j v hv => hN.cell (h j v hv) (hS b rfl)⟩
theorem ReadsE.kept0 {W W' : World} {v : Value} {L : List Dn} (h : ReadsE W v L) {S : Nat → Prop} (hN : Mods S W W') (hS : 0 < L.length → ∀ g, v.ownBlock = some g → ¬ S g) : ReadsE W' v L := by
  rcases Nat.eq_zero_or_pos L.length with h0 | h0
  · obtain ⟨hl, ao, cap, rfl, _⟩ := h
    exact ⟨hl, ao, cap, rfl, fun i hi => by omega⟩
  · exact h.kept hN (hS h0)
theorem ReadsE.lt {W : World} {v : Value} {L : List Dn} (h : ReadsE W v L) (h0 : 0 < L.length) {g : Nat} (hg : v.ownBlock = some g) : g < W.heap.size := by
  obtain ⟨hl, ao, cap, rfl, hc⟩ := h
  obtain ⟨b, o, rfl, hr⟩ := hc 0 h0
  cases hg
  exact World.block_lt_of_cell? W _ (hr 0 (.int .u8 ((L.getD 0 .no).d : Nat)) rfl)
theorem ReadsF.congr {W : World} {v : Value} {n sz : Nat} {f g : Nat → List Value} (h : ReadsF W v n sz f) (he : ∀ i, i < n → f i = g i) : ReadsF W v n sz g := by
  obtain ⟨hl, ao, cap, rfl, hc⟩ := h
  refine ⟨hl, ao, cap, rfl, fun i hi => ?_⟩
  rw [← he i hi]
  exact hc i hi
theorem add_at (g j : Nat) : (⟨g, 0, none⟩ : Addr).add j = ⟨g, j, none⟩ := by unfold Addr.add; split <;> simp_all
theorem rows_ofOwns {base sz : Nat} {e : TypeId} {W : World} {v : Value} {n : Nat} {f : Nat → List Value} (h0 : 0 < sz) (hf : ∀ i, (f i).length = sz) (h : W.ownsRow base e sz v n (flatF n f)) : ∃ ao cap, v = .slice ao n cap ∧ ∀ i, i < n → ∃ b o, ao = some ⟨b, o, none⟩ ∧ W.rangeAt b (o + i * sz) (f i) := by
  have h' := h
  obtain ⟨hl, (⟨hv, hn0⟩ | ⟨g, cap, cur, hv, hb, hg, hnc, hc, hs, ht⟩)⟩ := h'
  · subst hn0
    exact ⟨none, 0, hv, fun i hi => by omega⟩
  · refine ⟨some ⟨g, 0, none⟩, cap, hv, fun i hi => ⟨g, 0, rfl, fun j u hu => ?_⟩⟩
    have hj : j < sz := by
      rcases Nat.lt_or_ge j sz with h | h
      · exact h
      · rw [List.getElem?_eq_none (by rw [hf]; exact h)] at hu; cases hu
    have hlt : i * sz + j < n * sz := by
      have : (i + 1) * sz ≤ n * sz := Nat.mul_le_mul_right _ (by omega)
      rw [Nat.succ_mul] at this
      omega
    have e1 : (i * sz + j) / sz = i := by rw [Nat.add_comm, Nat.add_mul_div_right _ _ h0, Nat.div_eq_of_lt hj]; omega
    have e2 : (i * sz + j) % sz = j := by rw [Nat.add_comm, Nat.add_mul_mod_self_right]; exact Nat.mod_eq_of_lt hj
    have := World.ownsRow.cells h (g := g) (by rw [hv]; rfl) (i * sz + j) u (by rw [flatF_at h0 hf, if_pos hlt, e1, e2]; exact hu)
    rw [add_at] at this
    rw [Nat.zero_add]
    exact this
theorem ReadsF.ofOwns {base sz : Nat} {e : TypeId} {W : World} {v : Value} {n : Nat} {f : Nat → List Value} (h0 : 0 < sz) (hf : ∀ i, (f i).length = sz) (hn : n ≤ 2000000) (h : W.ownsRow base e sz v n (flatF n f)) : ReadsF W v n sz f :=
  ⟨hn, rows_ofOwns h0 hf h⟩
/-- What a clone of it asks. -/
theorem ReadsF.cells {W : World} {n sz cap : Nat} {f : Nat → List Value} {ao : Option Addr} (h0 : 0 < sz) (hf : ∀ i, (f i).length = sz) (h : ReadsF W (.slice ao n cap) n sz f) : (ao = none → n = 0) ∧ ∀ a, ao = some a → ∀ j u, (flatF n f)[j]? = some u → W.cell? (a.add j) = some u := by
  obtain ⟨hl, ao', cap', he, hc⟩ := h
  cases he
  constructor
  · rintro rfl
    rcases Nat.eq_zero_or_pos n with h | h
    · exact h
    · obtain ⟨b, o, h, _⟩ := hc 0 h; cases h
  · rintro a rfl j u hu
    rw [flatF_at h0 hf] at hu
    split at hu
    · next hj =>
      have hd : j / sz < n := (Nat.div_lt_iff_lt_mul h0).2 hj
      obtain ⟨b, o, he, hr⟩ := hc (j / sz) hd
      cases he
      have := hr (j % sz) u hu
      rw [Addr.add_mid]
      have e : j / sz * sz + j % sz = j := by rw [Nat.mul_comm]; exact Nat.div_add_mod j sz
      rw [show o + j = o + j / sz * sz + j % sz by omega]
      exact this
    · cases hu
/-- A thread's cells, a moment's. -/
def Th.cs (t : Th) (lv : Value) : List Value := [lv, .bool t.loaded, .int .u64 (t.seen : Nat), .int .i64 t.moment]
def Mo.cs (h : Mo) : List Value := [.int .i64 h.thread, .int .u8 (h.deed.d : Nat), .int .i64 h.deed.s, .int .i64 h.deed.u, .int .i64 h.beg, .int .i64 h.en, .int .i64 h.slot, .bool h.ok]
def thsF (L : List Th) (lv : Nat → Value) (i : Nat) : List Value := (L.getD i .no).cs (lv i)
def mosF (H : List Mo) (i : Nat) : List Value := (H.getD i .no).cs
theorem thsF_len (L : List Th) (lv : Nat → Value) (i : Nat) : (thsF L lv i).length = 4 := rfl
theorem mosF_len (H : List Mo) (i : Nat) : (mosF H i).length = 8 := rfl
theorem mosF_one (H : List Mo) : ∀ u ∈ flatF H.length (mosF H), u.oneCell' = true := flatF_one fun i _ u hu => by
  simp [mosF, Mo.cs] at hu
  rcases hu with rfl | rfl | rfl | rfl | rfl | rfl | rfl | rfl <;> rfl
/-- What a machine's rows are. -/
structure MaR (W : World) (m : Ma) (tv hv : Value) (lv : Nat → Value) : Prop where
  ths : ReadsF W tv m.ths.length 4 (thsF m.ths lv)
  left : ∀ i, i < m.ths.length → ReadsE W (lv i) (m.ths.getD i .no).left
  hist : ReadsF W hv m.hist.length 8 (mosF m.hist)
def maV (m : Ma) (tv hv : Value) : List Value := [.int .u64 (m.word : Nat), .int .i64 m.clock, tv, hv]
def ReadsM (W : World) (v : Value) (m : Ma) : Prop := ∃ tv hv lv, v = .agg (maV m tv hv).toArray ∧ MaR W m tv hv lv
theorem MaR.new {W W' : World} {m : Ma} {tv hv : Value} {lv : Nat → Value} (h : MaR W m tv hv lv) (hN : New W W') : MaR W' m tv hv lv :=
  ⟨h.ths.new hN, fun i hi => (h.left i hi).new hN, h.hist.new hN⟩
theorem ReadsM.new {W W' : World} {v : Value} {m : Ma} (h : ReadsM W v m) (hN : New W W') : ReadsM W' v m := by
  obtain ⟨tv, hv, lv, hv', h⟩ := h
  exact ⟨tv, hv, lv, hv', h.new hN⟩
/-- Rows in blocks of their own. -/
structure MaO (W : World) (N : Nat) (m : Ma) (tv hv : Value) (lv : Nat → Value) : Prop where
  ths : W.ownsRow N 100 4 tv m.ths.length (flatF m.ths.length (thsF m.ths lv))
  left : ∀ i, i < m.ths.length → ReadsE W (lv i) (m.ths.getD i .no).left
  apart : ∀ i, i < m.ths.length → 0 < (m.ths.getD i .no).left.length → ∀ g, (lv i).ownBlock = some g → tv.ownBlock ≠ some g ∧ hv.ownBlock ≠ some g
  caps : ∀ i, i < m.ths.length → ∃ ao cap, lv i = .slice ao (m.ths.getD i .no).left.length cap ∧ (m.ths.getD i .no).left.length ≤ cap
  hist : W.ownsRow N 95 8 hv m.hist.length (flatF m.hist.length (mosF m.hist))
  small : m.ths.length ≤ 2000000 ∧ m.hist.length ≤ 2000000
theorem MaO.reads {W : World} {N : Nat} {m : Ma} {tv hv : Value} {lv : Nat → Value} (h : MaO W N m tv hv lv) : MaR W m tv hv lv :=
  ⟨ReadsF.ofOwns (by decide) (thsF_len _ _) h.small.1 h.ths, h.left, ReadsF.ofOwns (by decide) (mosF_len _) h.small.2 h.hist⟩
theorem own_ne {W : World} {N N' : Nat} {e e' : TypeId} {sz sz' : Nat} {v v' : Value} {n n' : Nat} {xs xs' : List Value} (h : W.ownsRow N e sz v n xs) (h' : W.ownsRow N' e' sz' v' n' xs') (he : e ≠ e') {g : Nat} (hg : v.ownBlock = some g) : v'.ownBlock ≠ some g := by
  intro hg'
  rcases h.2 with ⟨rfl, _⟩ | ⟨b, cap, cur, rfl, _, hb, _⟩
  · cases hg
  · rcases h'.2 with ⟨rfl, _⟩ | ⟨b', cap', cur', rfl, _, hb', _⟩
    · cases hg'
    · cases hg
      cases hg'
      rw [hb] at hb'
      cases hb'
      exact he rfl
/-- In range. -/
def InD (p : Dn) : Prop := (-9223372036854775808 ≤ p.s ∧ p.s ≤ 9223372036854775807) ∧ -9223372036854775808 ≤ p.u ∧ p.u ≤ 9223372036854775807
def InLs (L : List Dn) : Prop := ∀ i, i < L.length → InD (L.getD i .no)
structure InM (m : Ma) : Prop where
  word : m.word < 18446744073709551616
  seen : ∀ i, i < m.ths.length → (m.ths.getD i .no).seen < 18446744073709551616
  left : ∀ i, i < m.ths.length → InLs (m.ths.getD i .no).left
end Go.Proofs.Ytkjloeefcaadlaa
