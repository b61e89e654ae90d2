/- What a deed does to a word that may be: it may be, too; the document's word on it. -/
import Derived.Test.YtkjloeefcaadlaaP19
import Derived.Test.YtkjloeefcaadlaaP13
set_option linter.unusedSimpArgs false
set_option linter.unusedVariables false
namespace Go.Proofs.Ytkjloeefcaadlaa
open Go.RowKit Go.Shelf Go.Cs
theorem sd_push {l : List (Nat × Nat)} (h : OkL l) (s u : Int) : ∃ l' ok, OkL l' ∧ pushF (enc l) s u = (enc l', ok) ∧ (ok = false → l' = l) := by
  by_cases hc : canPush l s u
  · refine ⟨insL l s.toNat u.toNat, true, insL_ok h (by have := hc.1; have := hc.2.1; omega) (by have := hc.2.2.1; have := hc.2.2.2.1; omega) (fun p hp e => hc.2.2.2.2 p hp (by have := hc.1; omega)), push_enc_any h hc, fun h => by cases h⟩
  · exact ⟨l, false, h, push_enc_no h hc, fun _ => rfl⟩
theorem sd_out {l : List (Nat × Nat)} (h : OkL l) (s : Int) : ∃ l' ok, OkL l' ∧ outF (enc l) s = (enc l', ok) ∧ (ok = false → l' = l) := by
  cases hf : fi l s with
  | none => exact ⟨l, false, h, out_enc_no h (fi_none hf), fun _ => rfl⟩
  | some k =>
    obtain ⟨hk, h1, h2⟩ := fi_some hf
    have hok' : OkL (l.take k ++ l.getD k (0, 0) :: l.drop (k + 1)) := by rw [← h2]; exact h
    refine ⟨l.take k ++ l.drop (k + 1), true, ?_, okL_cut h hf, fun h => by cases h⟩
    rw [← delL_split hok', ← h2]
    exact delL_ok h _
theorem sd_turn {l : List (Nat × Nat)} (h : OkL l) (s u : Int) : ∃ l' ok, OkL l' ∧ turnF (enc l) s u = (enc l', ok) ∧ (ok = false → l' = l) := by
  cases hf : fi l s with
  | none => exact ⟨l, false, h, turn_enc_no h u (fi_none hf), fun _ => rfl⟩
  | some k =>
    obtain ⟨hk, h1, h2⟩ := fi_some hf
    have hok' : OkL (l.take k ++ l.getD k (0, 0) :: l.drop (k + 1)) := by rw [← h2]; exact h
    by_cases hbad : ((l.getD k (0, 0)).2 : Int) = u ∨ u < 0 ∨ 8 ≤ u
    · have ht := turn_enc_same hok' hbad
      rw [← h2, h1] at ht
      exact ⟨l, false, h, ht, fun _ => rfl⟩
    · obtain ⟨u', rfl⟩ := Int.eq_ofNat_of_zero_le (show 0 ≤ u by omega)
      have ht := turn_enc hok' (u := u') (by omega) (by omega)
      rw [← h2, h1] at ht
      have hdel : l.take k ++ l.drop (k + 1) = delL l (l.getD k (0, 0)).1 := by
        have := delL_split hok'
        rw [← h2] at this; exact this.symm
      exact ⟨_, true, insL_ok (by rw [hdel]; exact delL_ok h _) (h.inn (l.getD k (0, 0)) (by simp [List.getD, hk])).1 (by omega) (fun p hp => by rw [hdel] at hp; exact (delL_mem.1 hp).2), ht, fun h => by cases h⟩
theorem sd_best {l : List (Nat × Nat)} (h : OkL l) : ∃ (l' : List (Nat × Nat)) (s : Nat) (ok : Bool), OkL l' ∧ bestF (enc l) = (enc l', s, ok) ∧ (ok = false → l' = l) := by
  cases l with
  | nil => exact ⟨[], 0, false, h, best_enc_nil, fun _ => rfl⟩
  | cons p t => exact ⟨t, p.1, true, okL_tail h, best_enc_cons h, fun h => by cases h⟩
theorem DS_right (w : Nat) (p : Dn) (h : rightB w = true) : rightB (DS w p).1 = true := by
  obtain ⟨l, hl, rfl⟩ := enc_dec h
  unfold DS doesS
  split
  · split
    · obtain ⟨l', ok, h1, h2, _⟩ := sd_push hl p.s p.u
      rw [h2]; exact right_enc h1
    · exact h
  · split
    · split
      · obtain ⟨l', s, ok, h1, h2, _⟩ := sd_best hl
        rw [h2]; exact right_enc h1
      · exact h
    · split
      · split
        · obtain ⟨l', ok, h1, h2, _⟩ := sd_turn hl p.s p.u
          rw [h2]; exact right_enc h1
        · exact h
      · split
        · split
          · obtain ⟨l', ok, h1, h2, _⟩ := sd_out hl p.s
            rw [h2]; exact right_enc h1
          · exact h
        · exact h
theorem DS_no (w : Nat) (p : Dn) (h : (DS w p).2.2 = false) : (DS w p).1 = w := by
  unfold DS doesS at *
  split at h
  · next e1 =>
    rw [if_pos e1]
    split at h
    · cases h
    · next e2 => rw [if_neg e2]
  · next e1 =>
    rw [if_neg e1]
    split at h
    · next e2 =>
      rw [if_pos e2]
      split at h
      · cases h
      · next e3 => rw [if_neg e3]
    · next e2 =>
      rw [if_neg e2]
      split at h
      · next e3 =>
        rw [if_pos e3]
        split at h
        · cases h
        · next e4 => rw [if_neg e4]
      · next e3 =>
        rw [if_neg e3]
        split at h
        · next e4 =>
          rw [if_pos e4]
          split at h
          · cases h
          · next e5 => rw [if_neg e5]
        · next e4 => rw [if_neg e4]
/-- The document's word on what a deed does to a word that may be. -/
theorem does_refR (x : Nat) (hx : rightB x = true) (p : Dn) (w : World) : Calls Try.prog 54 #[.int .u64 x, .agg p.cs.toArray] w fun e w' => e = .returned (ansV (DS x p).1 (DS x p).2.1 (DS x p).2.2) ∧ New w w' := by
  obtain ⟨l, hl, rfl⟩ := enc_dec hx
  exact does_ref hl p.d p.s p.u w
end Go.Proofs.Ytkjloeefcaadlaa
