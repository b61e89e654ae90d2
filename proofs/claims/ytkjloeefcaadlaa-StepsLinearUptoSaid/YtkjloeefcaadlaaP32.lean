/- What a deed does to a word that may be: it may be, too; the document's word on it. -/
import Derived.Test.YtkjloeefcaadlaaP19
import Derived.Test.YtkjloeefcaadlaaP13
import Derived.Test.YtkjloeefcaadlaaP22
import Derived.Test.YtkjloeefcaadlaaP24
set_option linter.unusedSimpArgs false
set_option linter.unusedVariables false
namespace Go.Proofs.Ytkjloeefcaadlaa
open Go.RowKit Go.Shelf Go.Cs
theorem sd_push {l : List (Nat × Nat)} (h : OkL l) (s u : Int) : ∃ l' ok, OkL l' ∧ pushF (enc l) s u = (enc l', ok) ∧ (ok = false → l' = l) := by
  by_cases hc : canPush l s u
  · refine ⟨insL l s.toNat u.toNat, true, insL_ok h (by have := hc.1; have := hc.2.1; omega) (by have := hc.2.2.1; have := hc.2.2.2.1; omega) (fun p hp e => hc.2.2.2.2 p hp (by have := hc.1; omega)), push_enc_any h hc, fun h => by cases h⟩
  · exact ⟨l, false, h, push_enc_no h hc, fun _ => rfl⟩
theorem sd_out {l : List (Nat × Nat)} (h : OkL l) (s : Int) : ∃ l' ok, OkL l' ∧ outF (enc l) s = (enc l', ok) ∧ (ok = false → l' = l) := by
  cases hf : fi l s with
  | none => exact ⟨l, false, h, out_enc_no h (fi_none hf), fun _ => rfl⟩
  | some k =>
    obtain ⟨hk, h1, h2⟩ := fi_some hf
    have hok' : OkL (l.take k ++ l.getD k (0, 0) :: l.drop (k + 1)) := by rw [← h2]; exact h
    refine ⟨l.take k ++ l.drop (k + 1), true, ?_, okL_cut h hf, fun h => by cases h⟩
    rw [← delL_split hok', ← h2]
    exact delL_ok h _
theorem sd_turn {l : List (Nat × Nat)} (h : OkL l) (s u : Int) : ∃ l' ok, OkL l' ∧ turnF (enc l) s u = (enc l', ok) ∧ (ok = false → l' = l) := by
  cases hf : fi l s with
  | none => exact ⟨l, false, h, turn_enc_no h u (fi_none hf), fun _ => rfl⟩
  | some k =>
    obtain ⟨hk, h1, h2⟩ := fi_some hf
    have hok' : OkL (l.take k ++ l.getD k (0, 0) :: l.drop (k + 1)) := by rw [← h2]; exact h
    by_cases hbad : ((l.getD k (0, 0)).2 : Int) = u ∨ u < 0 ∨ 8 ≤ u
    · have ht := turn_enc_same hok' hbad
      rw [← h2, h1] at ht
      exact ⟨l, false, h, ht, fun _ => rfl⟩
    · obtain ⟨u', rfl⟩ := Int.eq_ofNat_of_zero_le (show 0 ≤ u by omega)
      have ht := turn_enc hok' (u := u') (by omega) (by omega)
      rw [← h2, h1] at ht
      have hdel : l.take k ++ l.drop (k + 1) = delL l (l.getD k (0, 0)).1 := by
        have := delL_split hok'
        rw [← h2] at this; exact this.symm
      exact ⟨_, true, insL_ok (by rw [hdel]; exact delL_ok h _) (h.inn (l.getD k (0, 0)) (by simp [List.getD, hk])).1 (by omega) (fun p hp => by rw [hdel] at hp; exact (delL_mem.1 hp).2), ht, fun h => by cases h⟩
theorem sd_best {l : List (Nat × Nat)} (h : OkL l) : ∃ (l' : List (Nat × Nat)) (s : Nat) (ok : Bool), OkL l' ∧ bestF (enc l) = (enc l', s, ok) ∧ (ok = false → l' = l) := by
  cases l with
  | nil => exact ⟨[], 0, false, h, best_enc_nil, fun _ => rfl⟩
  | cons p t => exact ⟨t, p.1, true, okL_tail h, best_enc_cons h, fun h => by cases h⟩
theorem DS_right (w : Nat) (p : Dn) (h : rightB w = true) : rightB (DS w p).1 = true := by
  obtain ⟨l, hl, rfl⟩ := enc_dec h
  unfold DS doesS
  split
  · split
    · obtain ⟨l', ok, h1, h2, _⟩ := sd_push hl p.s p.u
      rw [h2]; exact right_enc h1
    · exact h
  · split
    · split
      · obtain ⟨l', s, ok, h1, h2, _⟩ := sd_best hl
        rw [h2]; exact right_enc h1
      · exact h
    · split
      · split
        · obtain ⟨l', ok, h1, h2, _⟩ := sd_turn hl p.s p.u
          rw [h2]; exact right_enc h1
        · exact h
      · split
        · split
          · obtain ⟨l', ok, h1, h2, _⟩ := sd_out hl p.s
            rw [h2]; exact right_enc h1
          · exact h
        · exact h
theorem DS_no (w : Nat) (p : Dn) (h : (DS w p).2.2 = false) : (DS w p).1 = w := by
  unfold DS doesS at *
  split at h
  · next e1 =>
    rw [if_pos e1]
    split at h
    · cases h
    · next e2 => rw [if_neg e2]
  · next e1 =>
    rw [if_neg e1]
    split at h
    · next e2 =>
      rw [if_pos e2]
      split at h
      · cases h
      · next e3 => rw [if_neg e3]
    · next e2 =>
      rw [if_neg e2]
      split at h
      · next e3 =>
        rw [if_pos e3]
        split at h
        · cases h
        · next e4 => rw [if_neg e4]
      · next e3 =>
        rw [if_neg e3]
        split at h
        · next e4 =>
          rw [if_pos e4]
          split at h
          · cases h
          · next e5 => rw [if_neg e5]
        · next e4 => rw [if_neg e4]
/-- The document's word on what a deed does to a word that may be. -/
theorem does_refR (x : Nat) (hx : rightB x = true) (p : Dn) (w : World) : Calls Try.prog 54 #[.int .u64 x, .agg p.cs.toArray] w fun e w' => e = .returned (ansV (DS x p).1 (DS x p).2.1 (DS x p).2.2) ∧ New w w' := by
  obtain ⟨l, hl, rfl⟩ := enc_dec hx
  exact does_ref hl p.d p.s p.u w
end Go.Proofs.Ytkjloeefcaadlaa
/- Whether a moment may come next, by the document. -/
namespace Go.Proofs.Ytkjloeefcaadlaa
open Go.RowKit Go.Shelf Go.Cs
attribute [local go_sem] Oper.semAt_some
/-- Which are done, as eight truth values. -/
def dV (n left : Nat) : List Value := (List.range 8).map fun k => .bool (decide (k < n) && !(bit left k))
theorem dV_len (n left : Nat) : (dV n left).length = 8 := by simp [dV]
theorem dV_at {W : World} {B n left k : Nat} (h : W.heap[B]? = some (.cells (dV n left).toArray 103 (0, 0))) (hk : k < 8) : W.cell? ⟨B, k, none⟩ = some (.bool (decide (k < n) && !(bit left k))) := by
  rw [cell_of_row _ _ _ _ _ _ h]
  simp [dV, hk]
def waitK (H : List Mo) (i left k : Nat) : Bool := decide (k ≠ i) && (bit left k && (decide ((H.getD k .no).en ≠ -1) && decide ((H.getD k .no).en < (H.getD i .no).beg)))
theorem waits_yes {H : List Mo} {i left k : Nat} (hk : k < H.length) (h : waitK H i left k = true) : waitsM H i left = true := by
  unfold waitsM
  rw [List.any_eq_true]
  exact ⟨k, List.mem_range.2 hk, h⟩
theorem waits_none {H : List Mo} {i left : Nat} (h : ∀ k, k < H.length → waitK H i left k = false) : waitsM H i left = false := by
  unfold waitsM
  rw [List.any_eq_false]
  intro k hk
  have := h k (List.mem_range.1 hk)
  unfold waitK at this
  rw [this]
  simp
set_option maxRecDepth 100000 in
set_option maxHeartbeats 8000000 in
theorem ready_ref (hh : Value) (H : List Mo) (i left : Nat) (w : World) (hv : ReadsF w hh H.length 8 (mosF H)) (h8 : H.length ≤ 8) (hi : i < H.length) :
    Calls Try.prog 148 #[hh, .agg (dV H.length left).toArray, .int .i64 (i : Nat)] w fun e w' => e = .returned (.bool (bit left i && !(waitsM H i left))) ∧ New w w' := by
  obtain ⟨_, ao, hc, rfl, hcc⟩ := hv
  obtain ⟨hb, ho, rfl, hri⟩ := hcc i hi
  have HC := Lib.hid (fun k (hk : k < H.length) => show w.cell? ⟨hb, ho + k * 8 + 5, none⟩ = some (.int .i64 (H.getD k .no).en) from by
    obtain ⟨b, o, e, hr⟩ := hcc k hk
    cases e
    exact hr 5 _ rfl)
  have cb0 : w.cell? ⟨hb, ho + i * 8 + 4, none⟩ = some (.int .i64 (H.getD i .no).beg) := hri 4 _ rfl
  obtain ⟨bg, hbg⟩ : ∃ z, (H.getD i .no).beg = z := ⟨_, rfl⟩
  have Hbg := Lib.hid hbg
  rw [hbg] at cb0
  obtain ⟨r, hr⟩ : ∃ r, waitsM H i left = r := ⟨_, rfl⟩
  have Hr := Lib.hid hr
  rw [hr]
  obtain ⟨ib, hib⟩ : ∃ z, bit left i = z := ⟨_, rfl⟩
  have Hib := Lib.hid hib
  rw [hib]
  clear hib
  obtain ⟨n, hn⟩ : ∃ n, H.length = n := ⟨_, rfl⟩
  have Hn := Lib.hid hn
  rw [hn] at HC h8 hi ⊢
  have hD0 := World.alloc_heap_new w (.cells (dV n left).toArray 103)
  have hN0 : New w (w.alloc (.cells (dV n left).toArray 103)) := (Mods.refl _ _).alloc _
  obtain ⟨W0, hW0⟩ : ∃ W, w.alloc (.cells (dV n left).toArray 103) = W := ⟨_, rfl⟩
  rw [hW0] at hD0 hN0
  have HN0 := Lib.hid hN0
  have i0 : (0 : Int) ≤ (i : Int) := by omega
  have i1 : (i : Int) < (n : Int) := by omega
  have i8 : (i : Int) < 8 := by omega
  clear hcc hri hr hn hbg
  obtain ⟨DL, hDL⟩ : ∃ L, dV n left = L := ⟨_, rfl⟩
  have HDL := Lib.hid hDL
  rw [hDL] at hW0 hD0 ⊢
  clear hDL
  go_enter Try.func148, Try.ntmps148
  go_wp2_with fail
  try rw [hW0]
  clear hW0
  go_loopw [7] (fun c wr => ∃ k : Nat, k ≤ n ∧ c = .int .i64 (k : Nat) ∧ Hid (∀ q, q < k → waitK H i left q = false) ∧ New W0 wr) (fun c _ => n - (intOf c).toNat)
  case atStart => exact ⟨0, Nat.zero_le _, rfl, Lib.hid (fun q hq => by omega), Mods.refl _ _⟩
  case round =>
    obtain ⟨k, hk, rfl, hbef, hNr⟩ := hrel
    have hDr := hNr.heap hD0 id
    rw [← HDL.out] at hDr
    by_cases hkn : k < n
    · have hkd : decide ((k : Int) < (n : Int)) = true := decide_eq_true (by omega)
      have k0 : (0 : Int) ≤ (k : Int) := by omega
      have k1 : (k : Int) < (n : Int) := by omega
      have k8 : (k : Int) < 8 := by omega
      have cd := dV_at hDr (k := k) (by omega)
      have ce := (hN0.trans hNr).cell (HC.out k hkn) id
      have cb := (hN0.trans hNr).cell cb0 id
      rw [decide_eq_true hkn, Bool.true_and] at cd
      have hwk : waitK H i left k = (decide (k ≠ i) && (bit left k && (decide ((H.getD k .no).en ≠ -1) && decide ((H.getD k .no).en < bg)))) := by rw [← Hbg.out]; rfl
      obtain ⟨en, hen⟩ : ∃ z, (H.getD k .no).en = z := ⟨_, rfl⟩
      rw [hen] at ce hwk
      have Hwk := Lib.hid hwk
      obtain ⟨lb, hlb⟩ : ∃ z, decide (en < bg) = z := ⟨_, rfl⟩
      have hkH : k < H.length := by rw [Hn.out]; exact hkn
      clear hen hwk hDr
      obtain ⟨db, hdb⟩ : ∃ z, bit left k = z := ⟨_, rfl⟩
      have Hdb := Lib.hid hdb
      rw [hdb] at cd
      clear hdb
      go_upto_region 4 with fail
      cases db with
      | false =>
        have Hz : Hid (waitK H i left k = false) := Lib.hid (by rw [Hwk.out, Hdb.out]; simp)
        refine piece (fun a a' Wq => a' = (a.put (some 14) (.int .i64 (k : Nat)) |>.put (some 15) (.pointer (some ⟨w.heap.size, k, none⟩)) |>.put (some 16) (.bool true) |>.put (some 17) (.bool false) |>.put (some 18) (.bool false) |>.put (some 19) (undef) |>.put (some 20) (undef) |>.put (some 21) (undef) |>.put (some 22) (.bool false) |>.put (some 23) (.bool false) |>.put (some 24) (undef) |>.put (some 25) (undef) |>.put (some 26) (undef) |>.put (some 27) (undef) |>.put (some 28) (undef) |>.put (some 29) (undef) |>.put (some 30) (.bool false) |>.put (some 31) (.bool false) |>.put (some 32) (undef) |>.put (some 33) (undef) |>.put (some 34) (undef) |>.put (some 35) (undef) |>.put (some 36) (undef) |>.put (some 37) (undef) |>.put (some 38) (undef) |>.put (some 39) (undef) |>.put (some 40) (undef) |>.put (some 41) (undef) |>.put (some 42) (undef) |>.put (some 43) (.bool false)) ∧ Wq = wr.drew) ?_ ?_
        · refine wp_region_held (by kernel_rfl) (S := fun W => W = wr.drew) ?_
          show wpAnyH _ _ _ _ _ _ _ _ wr.drew
          replace cd := (Mods.refl (fun _ => False) wr).drew.cell cd id
          replace ce := (Mods.refl (fun _ => False) wr).drew.cell ce id
          replace cb := (Mods.refl (fun _ => False) wr).drew.cell cb id
          obtain ⟨Wd, hWd⟩ : ∃ Wd, wr.drew = Wd := ⟨_, rfl⟩
          rw [hWd] at cd ce cb ⊢
          have hS : Wd = Wd := rfl
          clear hWd
          refine anyH_take 0 (some 14) (.int .i64 (k : Nat)) rfl rfl (by kernel_rfl) (by kernel_rfl) (by kernel_rfl) (fun _ _ _ h => h.elim) (.inl ⟨by rfl, fun W hW => by have e : W = Wd := hW; subst e; go_simp⟩) hS ?_
          simp only [Act.put, List.setIfInBounds_toArray, List.set_cons_succ, List.set_cons_zero]
          refine anyH_take 1 (some 15) (.pointer (some ⟨w.heap.size, k, none⟩)) rfl rfl (by kernel_rfl) (by kernel_rfl) (by kernel_rfl) (fun _ _ _ h => h.elim) (.inl ⟨by rfl, fun W hW => by have e : W = Wd := hW; subst e; go_simp⟩) hS ?_
          simp only [Act.put, List.setIfInBounds_toArray, List.set_cons_succ, List.set_cons_zero]
          refine anyH_take 2 (some 16) (.bool true) rfl rfl (by kernel_rfl) (by kernel_rfl) (by kernel_rfl) (fun _ _ _ h => h.elim) (.inl ⟨by rfl, fun W hW => by have e : W = Wd := hW; subst e; go_simp⟩) hS ?_
          simp only [Act.put, List.setIfInBounds_toArray, List.set_cons_succ, List.set_cons_zero]
          refine anyH_take 3 (some 17) (.bool false) rfl rfl (by kernel_rfl) (by kernel_rfl) (by kernel_rfl) (fun _ _ _ h => h.elim) (.inl ⟨by rfl, fun W hW => by have e : W = Wd := hW; subst e; go_simp⟩) hS ?_
          simp only [Act.put, List.setIfInBounds_toArray, List.set_cons_succ, List.set_cons_zero]
          refine anyH_take 4 (some 18) (.bool false) rfl rfl (by kernel_rfl) (by kernel_rfl) (by kernel_rfl) (fun _ _ _ h => h.elim) (.inl ⟨by rfl, fun W hW => by have e : W = Wd := hW; subst e; go_simp⟩) hS ?_
          simp only [Act.put, List.setIfInBounds_toArray, List.set_cons_succ, List.set_cons_zero]
          refine anyH_take 5 (some 19) undef rfl rfl (by kernel_rfl) (by kernel_rfl) (by kernel_rfl) (fun _ _ _ h => h.elim) (.inr ⟨by rfl, rfl⟩) hS ?_
          simp only [Act.put, List.setIfInBounds_toArray, List.set_cons_succ, List.set_cons_zero]
          refine anyH_take 6 (some 20) undef rfl rfl (by kernel_rfl) (by kernel_rfl) (by kernel_rfl) (fun _ _ _ h => h.elim) (.inr ⟨by rfl, rfl⟩) hS ?_
          simp only [Act.put, List.setIfInBounds_toArray, List.set_cons_succ, List.set_cons_zero]
          refine anyH_take 7 (some 21) undef rfl rfl (by kernel_rfl) (by kernel_rfl) (by kernel_rfl) (fun _ _ _ h => h.elim) (.inr ⟨by rfl, rfl⟩) hS ?_
          simp only [Act.put, List.setIfInBounds_toArray, List.set_cons_succ, List.set_cons_zero]
          refine anyH_take 8 (some 22) (.bool false) rfl rfl (by kernel_rfl) (by kernel_rfl) (by kernel_rfl) (fun _ _ _ h => h.elim) (.inl ⟨by rfl, fun W hW => by have e : W = Wd := hW; subst e; go_simp⟩) hS ?_
          simp only [Act.put, List.setIfInBounds_toArray, List.set_cons_succ, List.set_cons_zero]
          refine anyH_take 9 (some 23) (.bool false) rfl rfl (by kernel_rfl) (by kernel_rfl) (by kernel_rfl) (fun _ _ _ h => h.elim) (.inl ⟨by rfl, fun W hW => by have e : W = Wd := hW; subst e; go_simp⟩) hS ?_
          simp only [Act.put, List.setIfInBounds_toArray, List.set_cons_succ, List.set_cons_zero]
          refine anyH_take 10 (some 24) undef rfl rfl (by kernel_rfl) (by kernel_rfl) (by kernel_rfl) (fun _ _ _ h => h.elim) (.inr ⟨by rfl, rfl⟩) hS ?_
          simp only [Act.put, List.setIfInBounds_toArray, List.set_cons_succ, List.set_cons_zero]
          refine anyH_take 11 (some 25) undef rfl rfl (by kernel_rfl) (by kernel_rfl) (by kernel_rfl) (fun _ _ _ h => h.elim) (.inr ⟨by rfl, rfl⟩) hS ?_
          simp only [Act.put, List.setIfInBounds_toArray, List.set_cons_succ, List.set_cons_zero]
          refine anyH_take 12 (some 26) undef rfl rfl (by kernel_rfl) (by kernel_rfl) (by kernel_rfl) (fun _ _ _ h => h.elim) (.inr ⟨by rfl, rfl⟩) hS ?_
          simp only [Act.put, List.setIfInBounds_toArray, List.set_cons_succ, List.set_cons_zero]
          refine anyH_take 13 (some 27) undef rfl rfl (by kernel_rfl) (by kernel_rfl) (by kernel_rfl) (fun _ _ _ h => h.elim) (.inr ⟨by rfl, rfl⟩) hS ?_
          simp only [Act.put, List.setIfInBounds_toArray, List.set_cons_succ, List.set_cons_zero]
          refine anyH_take 14 (some 28) undef rfl rfl (by kernel_rfl) (by kernel_rfl) (by kernel_rfl) (fun _ _ _ h => h.elim) (.inr ⟨by rfl, rfl⟩) hS ?_
          simp only [Act.put, List.setIfInBounds_toArray, List.set_cons_succ, List.set_cons_zero]
          refine anyH_take 15 (some 29) undef rfl rfl (by kernel_rfl) (by kernel_rfl) (by kernel_rfl) (fun _ _ _ h => h.elim) (.inr ⟨by rfl, rfl⟩) hS ?_
          simp only [Act.put, List.setIfInBounds_toArray, List.set_cons_succ, List.set_cons_zero]
          refine anyH_take 16 (some 30) (.bool false) rfl rfl (by kernel_rfl) (by kernel_rfl) (by kernel_rfl) (fun _ _ _ h => h.elim) (.inl ⟨by rfl, fun W hW => by have e : W = Wd := hW; subst e; go_simp⟩) hS ?_
          simp only [Act.put, List.setIfInBounds_toArray, List.set_cons_succ, List.set_cons_zero]
          refine anyH_take 17 (some 31) (.bool false) rfl rfl (by kernel_rfl) (by kernel_rfl) (by kernel_rfl) (fun _ _ _ h => h.elim) (.inl ⟨by rfl, fun W hW => by have e : W = Wd := hW; subst e; go_simp⟩) hS ?_
          simp only [Act.put, List.setIfInBounds_toArray, List.set_cons_succ, List.set_cons_zero]
          refine anyH_take 18 (some 32) undef rfl rfl (by kernel_rfl) (by kernel_rfl) (by kernel_rfl) (fun _ _ _ h => h.elim) (.inr ⟨by rfl, rfl⟩) hS ?_
          simp only [Act.put, List.setIfInBounds_toArray, List.set_cons_succ, List.set_cons_zero]
          refine anyH_take 19 (some 33) undef rfl rfl (by kernel_rfl) (by kernel_rfl) (by kernel_rfl) (fun _ _ _ h => h.elim) (.inr ⟨by rfl, rfl⟩) hS ?_
          simp only [Act.put, List.setIfInBounds_toArray, List.set_cons_succ, List.set_cons_zero]
          refine anyH_take 20 (some 34) undef rfl rfl (by kernel_rfl) (by kernel_rfl) (by kernel_rfl) (fun _ _ _ h => h.elim) (.inr ⟨by rfl, rfl⟩) hS ?_
          simp only [Act.put, List.setIfInBounds_toArray, List.set_cons_succ, List.set_cons_zero]
          refine anyH_take 21 (some 35) undef rfl rfl (by kernel_rfl) (by kernel_rfl) (by kernel_rfl) (fun _ _ _ h => h.elim) (.inr ⟨by rfl, rfl⟩) hS ?_
          simp only [Act.put, List.setIfInBounds_toArray, List.set_cons_succ, List.set_cons_zero]
          refine anyH_take 22 (some 36) undef rfl rfl (by kernel_rfl) (by kernel_rfl) (by kernel_rfl) (fun _ _ _ h => h.elim) (.inr ⟨by rfl, rfl⟩) hS ?_
          simp only [Act.put, List.setIfInBounds_toArray, List.set_cons_succ, List.set_cons_zero]
          refine anyH_take 23 (some 37) undef rfl rfl (by kernel_rfl) (by kernel_rfl) (by kernel_rfl) (fun _ _ _ h => h.elim) (.inr ⟨by rfl, rfl⟩) hS ?_
          simp only [Act.put, List.setIfInBounds_toArray, List.set_cons_succ, List.set_cons_zero]
          refine anyH_take 24 (some 38) undef rfl rfl (by kernel_rfl) (by kernel_rfl) (by kernel_rfl) (fun _ _ _ h => h.elim) (.inr ⟨by rfl, rfl⟩) hS ?_
          simp only [Act.put, List.setIfInBounds_toArray, List.set_cons_succ, List.set_cons_zero]
          refine anyH_take 25 (some 39) undef rfl rfl (by kernel_rfl) (by kernel_rfl) (by kernel_rfl) (fun _ _ _ h => h.elim) (.inr ⟨by rfl, rfl⟩) hS ?_
          simp only [Act.put, List.setIfInBounds_toArray, List.set_cons_succ, List.set_cons_zero]
          refine anyH_take 26 (some 40) undef rfl rfl (by kernel_rfl) (by kernel_rfl) (by kernel_rfl) (fun _ _ _ h => h.elim) (.inr ⟨by rfl, rfl⟩) hS ?_
          simp only [Act.put, List.setIfInBounds_toArray, List.set_cons_succ, List.set_cons_zero]
          refine anyH_take 27 (some 41) undef rfl rfl (by kernel_rfl) (by kernel_rfl) (by kernel_rfl) (fun _ _ _ h => h.elim) (.inr ⟨by rfl, rfl⟩) hS ?_
          simp only [Act.put, List.setIfInBounds_toArray, List.set_cons_succ, List.set_cons_zero]
          refine anyH_take 28 (some 42) undef rfl rfl (by kernel_rfl) (by kernel_rfl) (by kernel_rfl) (fun _ _ _ h => h.elim) (.inr ⟨by rfl, rfl⟩) hS ?_
          simp only [Act.put, List.setIfInBounds_toArray, List.set_cons_succ, List.set_cons_zero]
          refine anyH_take 29 (some 43) (.bool false) rfl rfl (by kernel_rfl) (by kernel_rfl) (by kernel_rfl) (fun _ _ _ h => h.elim) (.inl ⟨by rfl, fun W hW => by have e : W = Wd := hW; subst e; go_simp⟩) hS ?_
          simp only [Act.put, List.setIfInBounds_toArray, List.set_cons_succ, List.set_cons_zero]
          refine wpAnyH_done (by kernel_rfl) ?_ _
          exact ⟨rfl, rfl⟩
        · rintro a' Wz ⟨rfl, rfl⟩
          simp only [Act.put, List.setIfInBounds_toArray, List.set_cons_succ, List.set_cons_zero]
          have hnx : Hid (∀ q, q < k + 1 → waitK H i left q = false) := Lib.hid (fun q hq => by
            by_cases hqk : q < k
            · exact hbef.out q hqk
            · obtain rfl : q = k := by omega
              exact Hz.out)
          clear cd ce cb
          go_wp2_with fail
          go_roundw
          case rel => exact ⟨k + 1, by omega, by go_num, hnx, hNr.drew⟩
          case measure => simp [intOf]; omega
      | true =>
        by_cases hki : k = i
        · have Hz : Hid (waitK H i left k = false) := Lib.hid (by rw [Hwk.out]; simp [hki])
          have e1 : ((k : Int) != (i : Int)) = false := by rw [hki]; simp
          clear hki
          refine piece (fun a a' Wq => a' = (a.put (some 14) (.int .i64 (k : Nat)) |>.put (some 15) (.pointer (some ⟨w.heap.size, k, none⟩)) |>.put (some 16) (.bool false) |>.put (some 17) (.bool true) |>.put (some 18) (.bool true) |>.put (some 19) (.int .i64 (k : Nat)) |>.put (some 20) (.int .i64 (i : Nat)) |>.put (some 21) (.bool false) |>.put (some 22) (.bool false) |>.put (some 23) (.bool false) |>.put (some 24) (undef) |>.put (some 25) (undef) |>.put (some 26) (undef) |>.put (some 27) (undef) |>.put (some 28) (undef) |>.put (some 29) (undef) |>.put (some 30) (.bool false) |>.put (some 31) (.bool false) |>.put (some 32) (undef) |>.put (some 33) (undef) |>.put (some 34) (undef) |>.put (some 35) (undef) |>.put (some 36) (undef) |>.put (some 37) (undef) |>.put (some 38) (undef) |>.put (some 39) (undef) |>.put (some 40) (undef) |>.put (some 41) (undef) |>.put (some 42) (undef) |>.put (some 43) (.bool false)) ∧ Wq = wr.drew) ?_ ?_
          · refine wp_region_held (by kernel_rfl) (S := fun W => W = wr.drew) ?_
            show wpAnyH _ _ _ _ _ _ _ _ wr.drew
            replace cd := (Mods.refl (fun _ => False) wr).drew.cell cd id
            replace ce := (Mods.refl (fun _ => False) wr).drew.cell ce id
            replace cb := (Mods.refl (fun _ => False) wr).drew.cell cb id
            obtain ⟨Wd, hWd⟩ : ∃ Wd, wr.drew = Wd := ⟨_, rfl⟩
            rw [hWd] at cd ce cb ⊢
            have hS : Wd = Wd := rfl
            clear hWd
            refine anyH_take 0 (some 14) (.int .i64 (k : Nat)) rfl rfl (by kernel_rfl) (by kernel_rfl) (by kernel_rfl) (fun _ _ _ h => h.elim) (.inl ⟨by rfl, fun W hW => by have e : W = Wd := hW; subst e; go_simp⟩) hS ?_
            simp only [Act.put, List.setIfInBounds_toArray, List.set_cons_succ, List.set_cons_zero]
            refine anyH_take 1 (some 15) (.pointer (some ⟨w.heap.size, k, none⟩)) rfl rfl (by kernel_rfl) (by kernel_rfl) (by kernel_rfl) (fun _ _ _ h => h.elim) (.inl ⟨by rfl, fun W hW => by have e : W = Wd := hW; subst e; go_simp⟩) hS ?_
            simp only [Act.put, List.setIfInBounds_toArray, List.set_cons_succ, List.set_cons_zero]
            refine anyH_take 2 (some 16) (.bool false) rfl rfl (by kernel_rfl) (by kernel_rfl) (by kernel_rfl) (fun _ _ _ h => h.elim) (.inl ⟨by rfl, fun W hW => by have e : W = Wd := hW; subst e; go_simp⟩) hS ?_
            simp only [Act.put, List.setIfInBounds_toArray, List.set_cons_succ, List.set_cons_zero]
            refine anyH_take 3 (some 17) (.bool true) rfl rfl (by kernel_rfl) (by kernel_rfl) (by kernel_rfl) (fun _ _ _ h => h.elim) (.inl ⟨by rfl, fun W hW => by have e : W = Wd := hW; subst e; go_simp⟩) hS ?_
            simp only [Act.put, List.setIfInBounds_toArray, List.set_cons_succ, List.set_cons_zero]
            refine anyH_take 4 (some 18) (.bool true) rfl rfl (by kernel_rfl) (by kernel_rfl) (by kernel_rfl) (fun _ _ _ h => h.elim) (.inl ⟨by rfl, fun W hW => by have e : W = Wd := hW; subst e; go_simp⟩) hS ?_
            simp only [Act.put, List.setIfInBounds_toArray, List.set_cons_succ, List.set_cons_zero]
            refine anyH_take 5 (some 19) (.int .i64 (k : Nat)) rfl rfl (by kernel_rfl) (by kernel_rfl) (by kernel_rfl) (fun _ _ _ h => h.elim) (.inl ⟨by rfl, fun W hW => by have e : W = Wd := hW; subst e; go_simp⟩) hS ?_
            simp only [Act.put, List.setIfInBounds_toArray, List.set_cons_succ, List.set_cons_zero]
            refine anyH_take 6 (some 20) (.int .i64 (i : Nat)) rfl rfl (by kernel_rfl) (by kernel_rfl) (by kernel_rfl) (fun _ _ _ h => h.elim) (.inl ⟨by rfl, fun W hW => by have e : W = Wd := hW; subst e; go_simp⟩) hS ?_
            simp only [Act.put, List.setIfInBounds_toArray, List.set_cons_succ, List.set_cons_zero]
            refine anyH_take 7 (some 21) (.bool false) rfl rfl (by kernel_rfl) (by kernel_rfl) (by kernel_rfl) (fun _ _ _ h => h.elim) (.inl ⟨by rfl, fun W hW => by have e : W = Wd := hW; subst e; go_simp⟩) hS ?_
            simp only [Act.put, List.setIfInBounds_toArray, List.set_cons_succ, List.set_cons_zero]
            refine anyH_take 8 (some 22) (.bool false) rfl rfl (by kernel_rfl) (by kernel_rfl) (by kernel_rfl) (fun _ _ _ h => h.elim) (.inl ⟨by rfl, fun W hW => by have e : W = Wd := hW; subst e; go_simp⟩) hS ?_
            simp only [Act.put, List.setIfInBounds_toArray, List.set_cons_succ, List.set_cons_zero]
            refine anyH_take 9 (some 23) (.bool false) rfl rfl (by kernel_rfl) (by kernel_rfl) (by kernel_rfl) (fun _ _ _ h => h.elim) (.inl ⟨by rfl, fun W hW => by have e : W = Wd := hW; subst e; go_simp⟩) hS ?_
            simp only [Act.put, List.setIfInBounds_toArray, List.set_cons_succ, List.set_cons_zero]
            refine anyH_take 10 (some 24) undef rfl rfl (by kernel_rfl) (by kernel_rfl) (by kernel_rfl) (fun _ _ _ h => h.elim) (.inr ⟨by rfl, rfl⟩) hS ?_
            simp only [Act.put, List.setIfInBounds_toArray, List.set_cons_succ, List.set_cons_zero]
            refine anyH_take 11 (some 25) undef rfl rfl (by kernel_rfl) (by kernel_rfl) (by kernel_rfl) (fun _ _ _ h => h.elim) (.inr ⟨by rfl, rfl⟩) hS ?_
            simp only [Act.put, List.setIfInBounds_toArray, List.set_cons_succ, List.set_cons_zero]
            refine anyH_take 12 (some 26) undef rfl rfl (by kernel_rfl) (by kernel_rfl) (by kernel_rfl) (fun _ _ _ h => h.elim) (.inr ⟨by rfl, rfl⟩) hS ?_
            simp only [Act.put, List.setIfInBounds_toArray, List.set_cons_succ, List.set_cons_zero]
            refine anyH_take 13 (some 27) undef rfl rfl (by kernel_rfl) (by kernel_rfl) (by kernel_rfl) (fun _ _ _ h => h.elim) (.inr ⟨by rfl, rfl⟩) hS ?_
            simp only [Act.put, List.setIfInBounds_toArray, List.set_cons_succ, List.set_cons_zero]
            refine anyH_take 14 (some 28) undef rfl rfl (by kernel_rfl) (by kernel_rfl) (by kernel_rfl) (fun _ _ _ h => h.elim) (.inr ⟨by rfl, rfl⟩) hS ?_
            simp only [Act.put, List.setIfInBounds_toArray, List.set_cons_succ, List.set_cons_zero]
            refine anyH_take 15 (some 29) undef rfl rfl (by kernel_rfl) (by kernel_rfl) (by kernel_rfl) (fun _ _ _ h => h.elim) (.inr ⟨by rfl, rfl⟩) hS ?_
            simp only [Act.put, List.setIfInBounds_toArray, List.set_cons_succ, List.set_cons_zero]
            refine anyH_take 16 (some 30) (.bool false) rfl rfl (by kernel_rfl) (by kernel_rfl) (by kernel_rfl) (fun _ _ _ h => h.elim) (.inl ⟨by rfl, fun W hW => by have e : W = Wd := hW; subst e; go_simp⟩) hS ?_
            simp only [Act.put, List.setIfInBounds_toArray, List.set_cons_succ, List.set_cons_zero]
            refine anyH_take 17 (some 31) (.bool false) rfl rfl (by kernel_rfl) (by kernel_rfl) (by kernel_rfl) (fun _ _ _ h => h.elim) (.inl ⟨by rfl, fun W hW => by have e : W = Wd := hW; subst e; go_simp⟩) hS ?_
            simp only [Act.put, List.setIfInBounds_toArray, List.set_cons_succ, List.set_cons_zero]
            refine anyH_take 18 (some 32) undef rfl rfl (by kernel_rfl) (by kernel_rfl) (by kernel_rfl) (fun _ _ _ h => h.elim) (.inr ⟨by rfl, rfl⟩) hS ?_
            simp only [Act.put, List.setIfInBounds_toArray, List.set_cons_succ, List.set_cons_zero]
            refine anyH_take 19 (some 33) undef rfl rfl (by kernel_rfl) (by kernel_rfl) (by kernel_rfl) (fun _ _ _ h => h.elim) (.inr ⟨by rfl, rfl⟩) hS ?_
            simp only [Act.put, List.setIfInBounds_toArray, List.set_cons_succ, List.set_cons_zero]
            refine anyH_take 20 (some 34) undef rfl rfl (by kernel_rfl) (by kernel_rfl) (by kernel_rfl) (fun _ _ _ h => h.elim) (.inr ⟨by rfl, rfl⟩) hS ?_
            simp only [Act.put, List.setIfInBounds_toArray, List.set_cons_succ, List.set_cons_zero]
            refine anyH_take 21 (some 35) undef rfl rfl (by kernel_rfl) (by kernel_rfl) (by kernel_rfl) (fun _ _ _ h => h.elim) (.inr ⟨by rfl, rfl⟩) hS ?_
            simp only [Act.put, List.setIfInBounds_toArray, List.set_cons_succ, List.set_cons_zero]
            refine anyH_take 22 (some 36) undef rfl rfl (by kernel_rfl) (by kernel_rfl) (by kernel_rfl) (fun _ _ _ h => h.elim) (.inr ⟨by rfl, rfl⟩) hS ?_
            simp only [Act.put, List.setIfInBounds_toArray, List.set_cons_succ, List.set_cons_zero]
            refine anyH_take 23 (some 37) undef rfl rfl (by kernel_rfl) (by kernel_rfl) (by kernel_rfl) (fun _ _ _ h => h.elim) (.inr ⟨by rfl, rfl⟩) hS ?_
            simp only [Act.put, List.setIfInBounds_toArray, List.set_cons_succ, List.set_cons_zero]
            refine anyH_take 24 (some 38) undef rfl rfl (by kernel_rfl) (by kernel_rfl) (by kernel_rfl) (fun _ _ _ h => h.elim) (.inr ⟨by rfl, rfl⟩) hS ?_
            simp only [Act.put, List.setIfInBounds_toArray, List.set_cons_succ, List.set_cons_zero]
            refine anyH_take 25 (some 39) undef rfl rfl (by kernel_rfl) (by kernel_rfl) (by kernel_rfl) (fun _ _ _ h => h.elim) (.inr ⟨by rfl, rfl⟩) hS ?_
            simp only [Act.put, List.setIfInBounds_toArray, List.set_cons_succ, List.set_cons_zero]
            refine anyH_take 26 (some 40) undef rfl rfl (by kernel_rfl) (by kernel_rfl) (by kernel_rfl) (fun _ _ _ h => h.elim) (.inr ⟨by rfl, rfl⟩) hS ?_
            simp only [Act.put, List.setIfInBounds_toArray, List.set_cons_succ, List.set_cons_zero]
            refine anyH_take 27 (some 41) undef rfl rfl (by kernel_rfl) (by kernel_rfl) (by kernel_rfl) (fun _ _ _ h => h.elim) (.inr ⟨by rfl, rfl⟩) hS ?_
            simp only [Act.put, List.setIfInBounds_toArray, List.set_cons_succ, List.set_cons_zero]
            refine anyH_take 28 (some 42) undef rfl rfl (by kernel_rfl) (by kernel_rfl) (by kernel_rfl) (fun _ _ _ h => h.elim) (.inr ⟨by rfl, rfl⟩) hS ?_
            simp only [Act.put, List.setIfInBounds_toArray, List.set_cons_succ, List.set_cons_zero]
            refine anyH_take 29 (some 43) (.bool false) rfl rfl (by kernel_rfl) (by kernel_rfl) (by kernel_rfl) (fun _ _ _ h => h.elim) (.inl ⟨by rfl, fun W hW => by have e : W = Wd := hW; subst e; go_simp⟩) hS ?_
            simp only [Act.put, List.setIfInBounds_toArray, List.set_cons_succ, List.set_cons_zero]
            refine wpAnyH_done (by kernel_rfl) ?_ _
            exact ⟨rfl, rfl⟩
          · rintro a' Wz ⟨rfl, rfl⟩
            simp only [Act.put, List.setIfInBounds_toArray, List.set_cons_succ, List.set_cons_zero]
            have hnx : Hid (∀ q, q < k + 1 → waitK H i left q = false) := Lib.hid (fun q hq => by
              by_cases hqk : q < k
              · exact hbef.out q hqk
              · obtain rfl : q = k := by omega
                exact Hz.out)
            clear cd ce cb
            go_wp2_with fail
            go_roundw
            case rel => exact ⟨k + 1, by omega, by go_num, hnx, hNr.drew⟩
            case measure => simp [intOf]; omega
        · have e1 : ((k : Int) != (i : Int)) = true := by rw [bne_iff_ne]; omega
          by_cases hee : en = -1
          · have Hz : Hid (waitK H i left k = false) := Lib.hid (by rw [Hwk.out]; simp [hee])
            have e2 : (en != -1) = false := by rw [hee]; rfl
            refine piece (fun a a' Wq => a' = (a.put (some 14) (.int .i64 (k : Nat)) |>.put (some 15) (.pointer (some ⟨w.heap.size, k, none⟩)) |>.put (some 16) (.bool false) |>.put (some 17) (.bool true) |>.put (some 18) (.bool true) |>.put (some 19) (.int .i64 (k : Nat)) |>.put (some 20) (.int .i64 (i : Nat)) |>.put (some 21) (.bool true) |>.put (some 22) (.bool true) |>.put (some 23) (.bool true) |>.put (some 24) (.slice (some ⟨hb, ho, none⟩) n hc) |>.put (some 25) (.int .i64 (k : Nat)) |>.put (some 26) (.pointer (some ⟨hb, ho + k * 8, none⟩)) |>.put (some 27) (.pointer (some ⟨hb, ho + k * 8 + 5, none⟩)) |>.put (some 28) (.int .i64 en) |>.put (some 29) (.bool false) |>.put (some 30) (.bool false) |>.put (some 31) (.bool false) |>.put (some 32) (undef) |>.put (some 33) (undef) |>.put (some 34) (undef) |>.put (some 35) (undef) |>.put (some 36) (undef) |>.put (some 37) (undef) |>.put (some 38) (undef) |>.put (some 39) (undef) |>.put (some 40) (undef) |>.put (some 41) (undef) |>.put (some 42) (undef) |>.put (some 43) (.bool false)) ∧ Wq = wr.drew) ?_ ?_
            · refine wp_region_held (by kernel_rfl) (S := fun W => W = wr.drew) ?_
              show wpAnyH _ _ _ _ _ _ _ _ wr.drew
              replace cd := (Mods.refl (fun _ => False) wr).drew.cell cd id
              replace ce := (Mods.refl (fun _ => False) wr).drew.cell ce id
              replace cb := (Mods.refl (fun _ => False) wr).drew.cell cb id
              obtain ⟨Wd, hWd⟩ : ∃ Wd, wr.drew = Wd := ⟨_, rfl⟩
              rw [hWd] at cd ce cb ⊢
              have hS : Wd = Wd := rfl
              clear hWd
              refine anyH_take 0 (some 14) (.int .i64 (k : Nat)) rfl rfl (by kernel_rfl) (by kernel_rfl) (by kernel_rfl) (fun _ _ _ h => h.elim) (.inl ⟨by rfl, fun W hW => by have e : W = Wd := hW; subst e; go_simp⟩) hS ?_
              simp only [Act.put, List.setIfInBounds_toArray, List.set_cons_succ, List.set_cons_zero]
              refine anyH_take 1 (some 15) (.pointer (some ⟨w.heap.size, k, none⟩)) rfl rfl (by kernel_rfl) (by kernel_rfl) (by kernel_rfl) (fun _ _ _ h => h.elim) (.inl ⟨by rfl, fun W hW => by have e : W = Wd := hW; subst e; go_simp⟩) hS ?_
              simp only [Act.put, List.setIfInBounds_toArray, List.set_cons_succ, List.set_cons_zero]
              refine anyH_take 2 (some 16) (.bool false) rfl rfl (by kernel_rfl) (by kernel_rfl) (by kernel_rfl) (fun _ _ _ h => h.elim) (.inl ⟨by rfl, fun W hW => by have e : W = Wd := hW; subst e; go_simp⟩) hS ?_
              simp only [Act.put, List.setIfInBounds_toArray, List.set_cons_succ, List.set_cons_zero]
              refine anyH_take 3 (some 17) (.bool true) rfl rfl (by kernel_rfl) (by kernel_rfl) (by kernel_rfl) (fun _ _ _ h => h.elim) (.inl ⟨by rfl, fun W hW => by have e : W = Wd := hW; subst e; go_simp⟩) hS ?_
              simp only [Act.put, List.setIfInBounds_toArray, List.set_cons_succ, List.set_cons_zero]
              refine anyH_take 4 (some 18) (.bool true) rfl rfl (by kernel_rfl) (by kernel_rfl) (by kernel_rfl) (fun _ _ _ h => h.elim) (.inl ⟨by rfl, fun W hW => by have e : W = Wd := hW; subst e; go_simp⟩) hS ?_
              simp only [Act.put, List.setIfInBounds_toArray, List.set_cons_succ, List.set_cons_zero]
              refine anyH_take 5 (some 19) (.int .i64 (k : Nat)) rfl rfl (by kernel_rfl) (by kernel_rfl) (by kernel_rfl) (fun _ _ _ h => h.elim) (.inl ⟨by rfl, fun W hW => by have e : W = Wd := hW; subst e; go_simp⟩) hS ?_
              simp only [Act.put, List.setIfInBounds_toArray, List.set_cons_succ, List.set_cons_zero]
              refine anyH_take 6 (some 20) (.int .i64 (i : Nat)) rfl rfl (by kernel_rfl) (by kernel_rfl) (by kernel_rfl) (fun _ _ _ h => h.elim) (.inl ⟨by rfl, fun W hW => by have e : W = Wd := hW; subst e; go_simp⟩) hS ?_
              simp only [Act.put, List.setIfInBounds_toArray, List.set_cons_succ, List.set_cons_zero]
              refine anyH_take 7 (some 21) (.bool true) rfl rfl (by kernel_rfl) (by kernel_rfl) (by kernel_rfl) (fun _ _ _ h => h.elim) (.inl ⟨by rfl, fun W hW => by have e : W = Wd := hW; subst e; go_simp⟩) hS ?_
              simp only [Act.put, List.setIfInBounds_toArray, List.set_cons_succ, List.set_cons_zero]
              refine anyH_take 8 (some 22) (.bool true) rfl rfl (by kernel_rfl) (by kernel_rfl) (by kernel_rfl) (fun _ _ _ h => h.elim) (.inl ⟨by rfl, fun W hW => by have e : W = Wd := hW; subst e; go_simp⟩) hS ?_
              simp only [Act.put, List.setIfInBounds_toArray, List.set_cons_succ, List.set_cons_zero]
              refine anyH_take 9 (some 23) (.bool true) rfl rfl (by kernel_rfl) (by kernel_rfl) (by kernel_rfl) (fun _ _ _ h => h.elim) (.inl ⟨by rfl, fun W hW => by have e : W = Wd := hW; subst e; go_simp⟩) hS ?_
              simp only [Act.put, List.setIfInBounds_toArray, List.set_cons_succ, List.set_cons_zero]
              refine anyH_take 10 (some 24) (.slice (some ⟨hb, ho, none⟩) n hc) rfl rfl (by kernel_rfl) (by kernel_rfl) (by kernel_rfl) (fun _ _ _ h => h.elim) (.inl ⟨by rfl, fun W hW => by have e : W = Wd := hW; subst e; go_simp⟩) hS ?_
              simp only [Act.put, List.setIfInBounds_toArray, List.set_cons_succ, List.set_cons_zero]
              refine anyH_take 11 (some 25) (.int .i64 (k : Nat)) rfl rfl (by kernel_rfl) (by kernel_rfl) (by kernel_rfl) (fun _ _ _ h => h.elim) (.inl ⟨by rfl, fun W hW => by have e : W = Wd := hW; subst e; go_simp⟩) hS ?_
              simp only [Act.put, List.setIfInBounds_toArray, List.set_cons_succ, List.set_cons_zero]
              refine anyH_take 12 (some 26) (.pointer (some ⟨hb, ho + k * 8, none⟩)) rfl rfl (by kernel_rfl) (by kernel_rfl) (by kernel_rfl) (fun _ _ _ h => h.elim) (.inl ⟨by rfl, fun W hW => by have e : W = Wd := hW; subst e; go_simp⟩) hS ?_
              simp only [Act.put, List.setIfInBounds_toArray, List.set_cons_succ, List.set_cons_zero]
              refine anyH_take 13 (some 27) (.pointer (some ⟨hb, ho + k * 8 + 5, none⟩)) rfl rfl (by kernel_rfl) (by kernel_rfl) (by kernel_rfl) (fun _ _ _ h => h.elim) (.inl ⟨by rfl, fun W hW => by have e : W = Wd := hW; subst e; go_simp⟩) hS ?_
              simp only [Act.put, List.setIfInBounds_toArray, List.set_cons_succ, List.set_cons_zero]
              refine anyH_take 14 (some 28) (.int .i64 en) rfl rfl (by kernel_rfl) (by kernel_rfl) (by kernel_rfl) (fun _ _ _ h => h.elim) (.inl ⟨by rfl, fun W hW => by have e : W = Wd := hW; subst e; go_simp⟩) hS ?_
              simp only [Act.put, List.setIfInBounds_toArray, List.set_cons_succ, List.set_cons_zero]
              refine anyH_take 15 (some 29) (.bool false) rfl rfl (by kernel_rfl) (by kernel_rfl) (by kernel_rfl) (fun _ _ _ h => h.elim) (.inl ⟨by rfl, fun W hW => by have e : W = Wd := hW; subst e; go_simp⟩) hS ?_
              simp only [Act.put, List.setIfInBounds_toArray, List.set_cons_succ, List.set_cons_zero]
              refine anyH_take 16 (some 30) (.bool false) rfl rfl (by kernel_rfl) (by kernel_rfl) (by kernel_rfl) (fun _ _ _ h => h.elim) (.inl ⟨by rfl, fun W hW => by have e : W = Wd := hW; subst e; go_simp⟩) hS ?_
              simp only [Act.put, List.setIfInBounds_toArray, List.set_cons_succ, List.set_cons_zero]
              refine anyH_take 17 (some 31) (.bool false) rfl rfl (by kernel_rfl) (by kernel_rfl) (by kernel_rfl) (fun _ _ _ h => h.elim) (.inl ⟨by rfl, fun W hW => by have e : W = Wd := hW; subst e; go_simp⟩) hS ?_
              simp only [Act.put, List.setIfInBounds_toArray, List.set_cons_succ, List.set_cons_zero]
              refine anyH_take 18 (some 32) undef rfl rfl (by kernel_rfl) (by kernel_rfl) (by kernel_rfl) (fun _ _ _ h => h.elim) (.inr ⟨by rfl, rfl⟩) hS ?_
              simp only [Act.put, List.setIfInBounds_toArray, List.set_cons_succ, List.set_cons_zero]
              refine anyH_take 19 (some 33) undef rfl rfl (by kernel_rfl) (by kernel_rfl) (by kernel_rfl) (fun _ _ _ h => h.elim) (.inr ⟨by rfl, rfl⟩) hS ?_
              simp only [Act.put, List.setIfInBounds_toArray, List.set_cons_succ, List.set_cons_zero]
              refine anyH_take 20 (some 34) undef rfl rfl (by kernel_rfl) (by kernel_rfl) (by kernel_rfl) (fun _ _ _ h => h.elim) (.inr ⟨by rfl, rfl⟩) hS ?_
              simp only [Act.put, List.setIfInBounds_toArray, List.set_cons_succ, List.set_cons_zero]
              refine anyH_take 21 (some 35) undef rfl rfl (by kernel_rfl) (by kernel_rfl) (by kernel_rfl) (fun _ _ _ h => h.elim) (.inr ⟨by rfl, rfl⟩) hS ?_
              simp only [Act.put, List.setIfInBounds_toArray, List.set_cons_succ, List.set_cons_zero]
              refine anyH_take 22 (some 36) undef rfl rfl (by kernel_rfl) (by kernel_rfl) (by kernel_rfl) (fun _ _ _ h => h.elim) (.inr ⟨by rfl, rfl⟩) hS ?_
              simp only [Act.put, List.setIfInBounds_toArray, List.set_cons_succ, List.set_cons_zero]
              refine anyH_take 23 (some 37) undef rfl rfl (by kernel_rfl) (by kernel_rfl) (by kernel_rfl) (fun _ _ _ h => h.elim) (.inr ⟨by rfl, rfl⟩) hS ?_
              simp only [Act.put, List.setIfInBounds_toArray, List.set_cons_succ, List.set_cons_zero]
              refine anyH_take 24 (some 38) undef rfl rfl (by kernel_rfl) (by kernel_rfl) (by kernel_rfl) (fun _ _ _ h => h.elim) (.inr ⟨by rfl, rfl⟩) hS ?_
              simp only [Act.put, List.setIfInBounds_toArray, List.set_cons_succ, List.set_cons_zero]
              refine anyH_take 25 (some 39) undef rfl rfl (by kernel_rfl) (by kernel_rfl) (by kernel_rfl) (fun _ _ _ h => h.elim) (.inr ⟨by rfl, rfl⟩) hS ?_
              simp only [Act.put, List.setIfInBounds_toArray, List.set_cons_succ, List.set_cons_zero]
              refine anyH_take 26 (some 40) undef rfl rfl (by kernel_rfl) (by kernel_rfl) (by kernel_rfl) (fun _ _ _ h => h.elim) (.inr ⟨by rfl, rfl⟩) hS ?_
              simp only [Act.put, List.setIfInBounds_toArray, List.set_cons_succ, List.set_cons_zero]
              refine anyH_take 27 (some 41) undef rfl rfl (by kernel_rfl) (by kernel_rfl) (by kernel_rfl) (fun _ _ _ h => h.elim) (.inr ⟨by rfl, rfl⟩) hS ?_
              simp only [Act.put, List.setIfInBounds_toArray, List.set_cons_succ, List.set_cons_zero]
              refine anyH_take 28 (some 42) undef rfl rfl (by kernel_rfl) (by kernel_rfl) (by kernel_rfl) (fun _ _ _ h => h.elim) (.inr ⟨by rfl, rfl⟩) hS ?_
              simp only [Act.put, List.setIfInBounds_toArray, List.set_cons_succ, List.set_cons_zero]
              refine anyH_take 29 (some 43) (.bool false) rfl rfl (by kernel_rfl) (by kernel_rfl) (by kernel_rfl) (fun _ _ _ h => h.elim) (.inl ⟨by rfl, fun W hW => by have e : W = Wd := hW; subst e; go_simp⟩) hS ?_
              simp only [Act.put, List.setIfInBounds_toArray, List.set_cons_succ, List.set_cons_zero]
              refine wpAnyH_done (by kernel_rfl) ?_ _
              exact ⟨rfl, rfl⟩
            · rintro a' Wz ⟨rfl, rfl⟩
              simp only [Act.put, List.setIfInBounds_toArray, List.set_cons_succ, List.set_cons_zero]
              have hnx : Hid (∀ q, q < k + 1 → waitK H i left q = false) := Lib.hid (fun q hq => by
                by_cases hqk : q < k
                · exact hbef.out q hqk
                · obtain rfl : q = k := by omega
                  exact Hz.out)
              clear cd ce cb
              go_wp2_with fail
              go_roundw
              case rel => exact ⟨k + 1, by omega, by go_num, hnx, hNr.drew⟩
              case measure => simp [intOf]; omega
          · have e2 : (en != -1) = true := by rw [bne_iff_ne]; exact hee
            have Hkx : Hid (waitK H i left k = lb) := Lib.hid (by rw [Hwk.out, Hdb.out, decide_eq_true hki, decide_eq_true hee, hlb]; rfl)
            refine piece (fun a a' Wq => a' = (a.put (some 14) (.int .i64 (k : Nat)) |>.put (some 15) (.pointer (some ⟨w.heap.size, k, none⟩)) |>.put (some 16) (.bool false) |>.put (some 17) (.bool true) |>.put (some 18) (.bool true) |>.put (some 19) (.int .i64 (k : Nat)) |>.put (some 20) (.int .i64 (i : Nat)) |>.put (some 21) (.bool true) |>.put (some 22) (.bool true) |>.put (some 23) (.bool true) |>.put (some 24) (.slice (some ⟨hb, ho, none⟩) n hc) |>.put (some 25) (.int .i64 (k : Nat)) |>.put (some 26) (.pointer (some ⟨hb, ho + k * 8, none⟩)) |>.put (some 27) (.pointer (some ⟨hb, ho + k * 8 + 5, none⟩)) |>.put (some 28) (.int .i64 en) |>.put (some 29) (.bool true) |>.put (some 30) (.bool true) |>.put (some 31) (.bool true) |>.put (some 32) (.slice (some ⟨hb, ho, none⟩) n hc) |>.put (some 33) (.int .i64 (k : Nat)) |>.put (some 34) (.pointer (some ⟨hb, ho + k * 8, none⟩)) |>.put (some 35) (.pointer (some ⟨hb, ho + k * 8 + 5, none⟩)) |>.put (some 36) (.int .i64 en) |>.put (some 37) (.slice (some ⟨hb, ho, none⟩) n hc) |>.put (some 38) (.int .i64 (i : Nat)) |>.put (some 39) (.pointer (some ⟨hb, ho + i * 8, none⟩)) |>.put (some 40) (.pointer (some ⟨hb, ho + i * 8 + 4, none⟩)) |>.put (some 41) (.int .i64 bg) |>.put (some 42) (.bool lb) |>.put (some 43) (.bool lb)) ∧ Wq = wr.drew) ?_ ?_
            · refine wp_region_held (by kernel_rfl) (S := fun W => W = wr.drew) ?_
              show wpAnyH _ _ _ _ _ _ _ _ wr.drew
              replace cd := (Mods.refl (fun _ => False) wr).drew.cell cd id
              replace ce := (Mods.refl (fun _ => False) wr).drew.cell ce id
              replace cb := (Mods.refl (fun _ => False) wr).drew.cell cb id
              obtain ⟨Wd, hWd⟩ : ∃ Wd, wr.drew = Wd := ⟨_, rfl⟩
              rw [hWd] at cd ce cb ⊢
              have hS : Wd = Wd := rfl
              clear hWd
              refine anyH_take 0 (some 14) (.int .i64 (k : Nat)) rfl rfl (by kernel_rfl) (by kernel_rfl) (by kernel_rfl) (fun _ _ _ h => h.elim) (.inl ⟨by rfl, fun W hW => by have e : W = Wd := hW; subst e; go_simp⟩) hS ?_
              simp only [Act.put, List.setIfInBounds_toArray, List.set_cons_succ, List.set_cons_zero]
              refine anyH_take 1 (some 15) (.pointer (some ⟨w.heap.size, k, none⟩)) rfl rfl (by kernel_rfl) (by kernel_rfl) (by kernel_rfl) (fun _ _ _ h => h.elim) (.inl ⟨by rfl, fun W hW => by have e : W = Wd := hW; subst e; go_simp⟩) hS ?_
              simp only [Act.put, List.setIfInBounds_toArray, List.set_cons_succ, List.set_cons_zero]
              refine anyH_take 2 (some 16) (.bool false) rfl rfl (by kernel_rfl) (by kernel_rfl) (by kernel_rfl) (fun _ _ _ h => h.elim) (.inl ⟨by rfl, fun W hW => by have e : W = Wd := hW; subst e; go_simp⟩) hS ?_
              simp only [Act.put, List.setIfInBounds_toArray, List.set_cons_succ, List.set_cons_zero]
              refine anyH_take 3 (some 17) (.bool true) rfl rfl (by kernel_rfl) (by kernel_rfl) (by kernel_rfl) (fun _ _ _ h => h.elim) (.inl ⟨by rfl, fun W hW => by have e : W = Wd := hW; subst e; go_simp⟩) hS ?_
              simp only [Act.put, List.setIfInBounds_toArray, List.set_cons_succ, List.set_cons_zero]
              refine anyH_take 4 (some 18) (.bool true) rfl rfl (by kernel_rfl) (by kernel_rfl) (by kernel_rfl) (fun _ _ _ h => h.elim) (.inl ⟨by rfl, fun W hW => by have e : W = Wd := hW; subst e; go_simp⟩) hS ?_
              simp only [Act.put, List.setIfInBounds_toArray, List.set_cons_succ, List.set_cons_zero]
              refine anyH_take 5 (some 19) (.int .i64 (k : Nat)) rfl rfl (by kernel_rfl) (by kernel_rfl) (by kernel_rfl) (fun _ _ _ h => h.elim) (.inl ⟨by rfl, fun W hW => by have e : W = Wd := hW; subst e; go_simp⟩) hS ?_
              simp only [Act.put, List.setIfInBounds_toArray, List.set_cons_succ, List.set_cons_zero]
              refine anyH_take 6 (some 20) (.int .i64 (i : Nat)) rfl rfl (by kernel_rfl) (by kernel_rfl) (by kernel_rfl) (fun _ _ _ h => h.elim) (.inl ⟨by rfl, fun W hW => by have e : W = Wd := hW; subst e; go_simp⟩) hS ?_
              simp only [Act.put, List.setIfInBounds_toArray, List.set_cons_succ, List.set_cons_zero]
              refine anyH_take 7 (some 21) (.bool true) rfl rfl (by kernel_rfl) (by kernel_rfl) (by kernel_rfl) (fun _ _ _ h => h.elim) (.inl ⟨by rfl, fun W hW => by have e : W = Wd := hW; subst e; go_simp⟩) hS ?_
              simp only [Act.put, List.setIfInBounds_toArray, List.set_cons_succ, List.set_cons_zero]
              refine anyH_take 8 (some 22) (.bool true) rfl rfl (by kernel_rfl) (by kernel_rfl) (by kernel_rfl) (fun _ _ _ h => h.elim) (.inl ⟨by rfl, fun W hW => by have e : W = Wd := hW; subst e; go_simp⟩) hS ?_
              simp only [Act.put, List.setIfInBounds_toArray, List.set_cons_succ, List.set_cons_zero]
              refine anyH_take 9 (some 23) (.bool true) rfl rfl (by kernel_rfl) (by kernel_rfl) (by kernel_rfl) (fun _ _ _ h => h.elim) (.inl ⟨by rfl, fun W hW => by have e : W = Wd := hW; subst e; go_simp⟩) hS ?_
              simp only [Act.put, List.setIfInBounds_toArray, List.set_cons_succ, List.set_cons_zero]
              refine anyH_take 10 (some 24) (.slice (some ⟨hb, ho, none⟩) n hc) rfl rfl (by kernel_rfl) (by kernel_rfl) (by kernel_rfl) (fun _ _ _ h => h.elim) (.inl ⟨by rfl, fun W hW => by have e : W = Wd := hW; subst e; go_simp⟩) hS ?_
              simp only [Act.put, List.setIfInBounds_toArray, List.set_cons_succ, List.set_cons_zero]
              refine anyH_take 11 (some 25) (.int .i64 (k : Nat)) rfl rfl (by kernel_rfl) (by kernel_rfl) (by kernel_rfl) (fun _ _ _ h => h.elim) (.inl ⟨by rfl, fun W hW => by have e : W = Wd := hW; subst e; go_simp⟩) hS ?_
              simp only [Act.put, List.setIfInBounds_toArray, List.set_cons_succ, List.set_cons_zero]
              refine anyH_take 12 (some 26) (.pointer (some ⟨hb, ho + k * 8, none⟩)) rfl rfl (by kernel_rfl) (by kernel_rfl) (by kernel_rfl) (fun _ _ _ h => h.elim) (.inl ⟨by rfl, fun W hW => by have e : W = Wd := hW; subst e; go_simp⟩) hS ?_
              simp only [Act.put, List.setIfInBounds_toArray, List.set_cons_succ, List.set_cons_zero]
              refine anyH_take 13 (some 27) (.pointer (some ⟨hb, ho + k * 8 + 5, none⟩)) rfl rfl (by kernel_rfl) (by kernel_rfl) (by kernel_rfl) (fun _ _ _ h => h.elim) (.inl ⟨by rfl, fun W hW => by have e : W = Wd := hW; subst e; go_simp⟩) hS ?_
              simp only [Act.put, List.setIfInBounds_toArray, List.set_cons_succ, List.set_cons_zero]
              refine anyH_take 14 (some 28) (.int .i64 en) rfl rfl (by kernel_rfl) (by kernel_rfl) (by kernel_rfl) (fun _ _ _ h => h.elim) (.inl ⟨by rfl, fun W hW => by have e : W = Wd := hW; subst e; go_simp⟩) hS ?_
              simp only [Act.put, List.setIfInBounds_toArray, List.set_cons_succ, List.set_cons_zero]
              refine anyH_take 15 (some 29) (.bool true) rfl rfl (by kernel_rfl) (by kernel_rfl) (by kernel_rfl) (fun _ _ _ h => h.elim) (.inl ⟨by rfl, fun W hW => by have e : W = Wd := hW; subst e; go_simp⟩) hS ?_
              simp only [Act.put, List.setIfInBounds_toArray, List.set_cons_succ, List.set_cons_zero]
              refine anyH_take 16 (some 30) (.bool true) rfl rfl (by kernel_rfl) (by kernel_rfl) (by kernel_rfl) (fun _ _ _ h => h.elim) (.inl ⟨by rfl, fun W hW => by have e : W = Wd := hW; subst e; go_simp⟩) hS ?_
              simp only [Act.put, List.setIfInBounds_toArray, List.set_cons_succ, List.set_cons_zero]
              refine anyH_take 17 (some 31) (.bool true) rfl rfl (by kernel_rfl) (by kernel_rfl) (by kernel_rfl) (fun _ _ _ h => h.elim) (.inl ⟨by rfl, fun W hW => by have e : W = Wd := hW; subst e; go_simp⟩) hS ?_
              simp only [Act.put, List.setIfInBounds_toArray, List.set_cons_succ, List.set_cons_zero]
              refine anyH_take 18 (some 32) (.slice (some ⟨hb, ho, none⟩) n hc) rfl rfl (by kernel_rfl) (by kernel_rfl) (by kernel_rfl) (fun _ _ _ h => h.elim) (.inl ⟨by rfl, fun W hW => by have e : W = Wd := hW; subst e; go_simp⟩) hS ?_
              simp only [Act.put, List.setIfInBounds_toArray, List.set_cons_succ, List.set_cons_zero]
              refine anyH_take 19 (some 33) (.int .i64 (k : Nat)) rfl rfl (by kernel_rfl) (by kernel_rfl) (by kernel_rfl) (fun _ _ _ h => h.elim) (.inl ⟨by rfl, fun W hW => by have e : W = Wd := hW; subst e; go_simp⟩) hS ?_
              simp only [Act.put, List.setIfInBounds_toArray, List.set_cons_succ, List.set_cons_zero]
              refine anyH_take 20 (some 34) (.pointer (some ⟨hb, ho + k * 8, none⟩)) rfl rfl (by kernel_rfl) (by kernel_rfl) (by kernel_rfl) (fun _ _ _ h => h.elim) (.inl ⟨by rfl, fun W hW => by have e : W = Wd := hW; subst e; go_simp⟩) hS ?_
              simp only [Act.put, List.setIfInBounds_toArray, List.set_cons_succ, List.set_cons_zero]
              refine anyH_take 21 (some 35) (.pointer (some ⟨hb, ho + k * 8 + 5, none⟩)) rfl rfl (by kernel_rfl) (by kernel_rfl) (by kernel_rfl) (fun _ _ _ h => h.elim) (.inl ⟨by rfl, fun W hW => by have e : W = Wd := hW; subst e; go_simp⟩) hS ?_
              simp only [Act.put, List.setIfInBounds_toArray, List.set_cons_succ, List.set_cons_zero]
              refine anyH_take 22 (some 36) (.int .i64 en) rfl rfl (by kernel_rfl) (by kernel_rfl) (by kernel_rfl) (fun _ _ _ h => h.elim) (.inl ⟨by rfl, fun W hW => by have e : W = Wd := hW; subst e; go_simp⟩) hS ?_
              simp only [Act.put, List.setIfInBounds_toArray, List.set_cons_succ, List.set_cons_zero]
              refine anyH_take 23 (some 37) (.slice (some ⟨hb, ho, none⟩) n hc) rfl rfl (by kernel_rfl) (by kernel_rfl) (by kernel_rfl) (fun _ _ _ h => h.elim) (.inl ⟨by rfl, fun W hW => by have e : W = Wd := hW; subst e; go_simp⟩) hS ?_
              simp only [Act.put, List.setIfInBounds_toArray, List.set_cons_succ, List.set_cons_zero]
              refine anyH_take 24 (some 38) (.int .i64 (i : Nat)) rfl rfl (by kernel_rfl) (by kernel_rfl) (by kernel_rfl) (fun _ _ _ h => h.elim) (.inl ⟨by rfl, fun W hW => by have e : W = Wd := hW; subst e; go_simp⟩) hS ?_
              simp only [Act.put, List.setIfInBounds_toArray, List.set_cons_succ, List.set_cons_zero]
              refine anyH_take 25 (some 39) (.pointer (some ⟨hb, ho + i * 8, none⟩)) rfl rfl (by kernel_rfl) (by kernel_rfl) (by kernel_rfl) (fun _ _ _ h => h.elim) (.inl ⟨by rfl, fun W hW => by have e : W = Wd := hW; subst e; go_simp⟩) hS ?_
              simp only [Act.put, List.setIfInBounds_toArray, List.set_cons_succ, List.set_cons_zero]
              refine anyH_take 26 (some 40) (.pointer (some ⟨hb, ho + i * 8 + 4, none⟩)) rfl rfl (by kernel_rfl) (by kernel_rfl) (by kernel_rfl) (fun _ _ _ h => h.elim) (.inl ⟨by rfl, fun W hW => by have e : W = Wd := hW; subst e; go_simp⟩) hS ?_
              simp only [Act.put, List.setIfInBounds_toArray, List.set_cons_succ, List.set_cons_zero]
              refine anyH_take 27 (some 41) (.int .i64 bg) rfl rfl (by kernel_rfl) (by kernel_rfl) (by kernel_rfl) (fun _ _ _ h => h.elim) (.inl ⟨by rfl, fun W hW => by have e : W = Wd := hW; subst e; go_simp⟩) hS ?_
              simp only [Act.put, List.setIfInBounds_toArray, List.set_cons_succ, List.set_cons_zero]
              refine anyH_take 28 (some 42) (.bool lb) rfl rfl (by kernel_rfl) (by kernel_rfl) (by kernel_rfl) (fun _ _ _ h => h.elim) (.inl ⟨by rfl, fun W hW => by have e : W = Wd := hW; subst e; go_simp⟩) hS ?_
              simp only [Act.put, List.setIfInBounds_toArray, List.set_cons_succ, List.set_cons_zero]
              refine anyH_take 29 (some 43) (.bool lb) rfl rfl (by kernel_rfl) (by kernel_rfl) (by kernel_rfl) (fun _ _ _ h => h.elim) (.inl ⟨by rfl, fun W hW => by have e : W = Wd := hW; subst e; go_simp⟩) hS ?_
              simp only [Act.put, List.setIfInBounds_toArray, List.set_cons_succ, List.set_cons_zero]
              refine wpAnyH_done (by kernel_rfl) ?_ _
              exact ⟨rfl, rfl⟩
            · rintro a' Wz ⟨rfl, rfl⟩
              simp only [Act.put, List.setIfInBounds_toArray, List.set_cons_succ, List.set_cons_zero]
              cases lb with
              | true =>
                have hrf : Hid (r = true) := Lib.hid (by rw [← Hr.out]; exact waits_yes hkH Hkx.out)
                go_wp2_with fail
                go_ret
                exact ⟨by rw [hrf.out, Bool.not_true, Bool.and_false]; rfl, (HN0.out.trans hNr).drew⟩
              | false =>
                have hnx : Hid (∀ q, q < k + 1 → waitK H i left q = false) := Lib.hid (fun q hq => by
                  by_cases hqk : q < k
                  · exact hbef.out q hqk
                  · obtain rfl : q = k := by omega
                    exact Hkx.out)
                clear cd ce cb
                go_wp2_with fail
                go_roundw
                case rel => exact ⟨k + 1, by omega, by go_num, hnx, hNr.drew⟩
                case measure => simp [intOf]; omega
    · obtain rfl : n = k := by omega
      have hkd : decide ((n : Int) < (n : Int)) = false := decide_eq_false (by omega)
      have hrf : Hid (r = false) := Lib.hid (by rw [← Hr.out]; exact waits_none fun q hq => hbef.out q (by rw [← Hn.out]; exact hq))
      have cd := dV_at hDr (k := i) (by omega)
      rw [decide_eq_true hi, Bool.true_and] at cd
      rw [Hib.out] at cd
      clear hDr
      have HNr := Lib.hid (hN0.trans hNr)
      go_wp2_with fail
      go_ret
      exact ⟨by rw [hrf.out]; simp, HNr.out⟩
end Go.Proofs.Ytkjloeefcaadlaa
