/- What a deed does to a word that may be: it may be, too; the document's word on it. -/
import Derived.Test.YtkjloeefcaadlaaM19
import Derived.Test.YtkjloeefcaadlaaM13
import Derived.Test.YtkjloeefcaadlaaM28
import Derived.Test.YtkjloeefcaadlaaM30
set_option linter.unusedSimpArgs false
set_option linter.unusedVariables false
namespace Go.Proofs.Ytkjloeefcaadlaa
open Go.RowKit Go.Shelf Go.Cs
theorem sd_push {l : List (Nat × Nat)} (h : OkL l) (s u : Int) : ∃ l' ok, OkL l' ∧ pushF (enc l) s u = (enc l', ok) ∧ (ok = false → l' = l) := by
  by_cases hc : canPush l s u
  · refine ⟨insL l s.toNat u.toNat, true, insL_ok h (by have := hc.1; have := hc.2.1; omega) (by have := hc.2.2.1; have := hc.2.2.2.1; omega) (fun p hp e => hc.2.2.2.2 p hp (by have := hc.1; omega)), push_enc_any h hc, fun h => by cases h⟩
  · exact ⟨l, false, h, push_enc_no h hc, fun _ => rfl⟩
theorem sd_out {l : List (Nat × Nat)} (h : OkL l) (s : Int) : ∃ l' ok, OkL l' ∧ outF (enc l) s = (enc l', ok) ∧ (ok = false → l' = l) := by
  cases hf : fi l s with
  | none => exact ⟨l, false, h, out_enc_no h (fi_none hf), fun _ => rfl⟩
  | some k =>
    obtain ⟨hk, h1, h2⟩ := fi_some hf
    have hok' : OkL (l.take k ++ l.getD k (0, 0) :: l.drop (k + 1)) := by rw [← h2]; exact h
    refine ⟨l.take k ++ l.drop (k + 1), true, ?_, okL_cut h hf, fun h => by cases h⟩
    rw [← delL_split hok', ← h2]
    exact delL_ok h _
theorem sd_turn {l : List (Nat × Nat)} (h : OkL l) (s u : Int) : ∃ l' ok, OkL l' ∧ turnF (enc l) s u = (enc l', ok) ∧ (ok = false → l' = l) := by
  cases hf : fi l s with
  | none => exact ⟨l, false, h, turn_enc_no h u (fi_none hf), fun _ => rfl⟩
  | some k =>
    obtain ⟨hk, h1, h2⟩ := fi_some hf
    have hok' : OkL (l.take k ++ l.getD k (0, 0) :: l.drop (k + 1)) := by rw [← h2]; exact h
    by_cases hbad : ((l.getD k (0, 0)).2 : Int) = u ∨ u < 0 ∨ 8 ≤ u
    · have ht := turn_enc_same hok' hbad
      rw [← h2, h1] at ht
      exact ⟨l, false, h, ht, fun _ => rfl⟩
    · obtain ⟨u', rfl⟩ := Int.eq_ofNat_of_zero_le (show 0 ≤ u by omega)
      have ht := turn_enc hok' (u := u') (by omega) (by omega)
      rw [← h2, h1] at ht
      have hdel : l.take k ++ l.drop (k + 1) = delL l (l.getD k (0, 0)).1 := by
        have := delL_split hok'
        rw [← h2] at this; exact this.symm
      exact ⟨_, true, insL_ok (by rw [hdel]; exact delL_ok h _) (h.inn (l.getD k (0, 0)) (by simp [List.getD, hk])).1 (by omega) (fun p hp => by rw [hdel] at hp; exact (delL_mem.1 hp).2), ht, fun h => by cases h⟩
theorem sd_best {l : List (Nat × Nat)} (h : OkL l) : ∃ (l' : List (Nat × Nat)) (s : Nat) (ok : Bool), OkL l' ∧ bestF (enc l) = (enc l', s, ok) ∧ (ok = false → l' = l) := by
  cases l with
  | nil => exact ⟨[], 0, false, h, best_enc_nil, fun _ => rfl⟩
  | cons p t => exact ⟨t, p.1, true, okL_tail h, best_enc_cons h, fun h => by cases h⟩
theorem DS_right (w : Nat) (p : Dn) (h : rightB w = true) : rightB (DS w p).1 = true := by
  obtain ⟨l, hl, rfl⟩ := enc_dec h
  unfold DS doesS
  split
  · split
    · obtain ⟨l', ok, h1, h2, _⟩ := sd_push hl p.s p.u
      rw [h2]; exact right_enc h1
    · exact h
  · split
    · split
      · obtain ⟨l', s, ok, h1, h2, _⟩ := sd_best hl
        rw [h2]; exact right_enc h1
      · exact h
    · split
      · split
        · obtain ⟨l', ok, h1, h2, _⟩ := sd_turn hl p.s p.u
          rw [h2]; exact right_enc h1
        · exact h
      · split
        · split
          · obtain ⟨l', ok, h1, h2, _⟩ := sd_out hl p.s
            rw [h2]; exact right_enc h1
          · exact h
        · exact h
theorem DS_no (w : Nat) (p : Dn) (h : (DS w p).2.2 = false) : (DS w p).1 = w := by
  unfold DS doesS at *
  split at h
  · next e1 =>
    rw [if_pos e1]
    split at h
    · cases h
    · next e2 => rw [if_neg e2]
  · next e1 =>
    rw [if_neg e1]
    split at h
    · next e2 =>
      rw [if_pos e2]
      split at h
      · cases h
      · next e3 => rw [if_neg e3]
    · next e2 =>
      rw [if_neg e2]
      split at h
      · next e3 =>
        rw [if_pos e3]
        split at h
        · cases h
        · next e4 => rw [if_neg e4]
      · next e3 =>
        rw [if_neg e3]
        split at h
        · next e4 =>
          rw [if_pos e4]
          split at h
          · cases h
          · next e5 => rw [if_neg e5]
        · next e4 => rw [if_neg e4]
/-- The document's word on what a deed does to a word that may be. -/
theorem does_refR (x : Nat) (hx : rightB x = true) (p : Dn) (w : World) : Calls Try.prog 54 #[.int .u64 x, .agg p.cs.toArray] w fun e w' => e = .returned (ansV (DS x p).1 (DS x p).2.1 (DS x p).2.2) ∧ New w w' := by
  obtain ⟨l, hl, rfl⟩ := enc_dec hx
  exact does_ref hl p.d p.s p.u w
end Go.Proofs.Ytkjloeefcaadlaa
/- StepsParts, walked. -/
namespace Go.Proofs.Ytkjloeefcaadlaa
open Go.RowKit Go.Shelf Go.Cs
attribute [local go_sem] Oper.semAt_some
theorem eqE_refl (l : List Dn) : eqE l l = true := by
  unfold eqE
  rw [decide_eq_true rfl, Bool.true_and, List.all_eq_true]
  intro i _
  exact dEq_iff.2 rfl
theorem thEq_refl (a : Th) : thEq a a = true := by simp [thEq, eqE_refl]
theorem mEq_refl (a : Mo) : mEq a a = true := by simp [mEq, dEq]
theorem eqH_refl (l : List Mo) : eqH l l = true := by
  unfold eqH
  rw [decide_eq_true rfl, Bool.true_and, List.all_eq_true]
  intro i _
  exact mEq_refl _
theorem eqT_refl (l : List Th) : eqT l l = true := by
  unfold eqT
  rw [decide_eq_true rfl, Bool.true_and, List.all_eq_true]
  intro i _
  exact thEq_refl _
theorem sameM_refl (m : Ma) : sameM m m = true := by simp [sameM, eqH_refl, eqT_refl]
set_option maxRecDepth 100000 in
set_option maxHeartbeats 4000000 in
theorem parts_great (x : Nat) (c : Int) (ao ho : Option Addr) (n cap h hcap : Nat) (Ls : Nat → Nat) (pa : Option Addr) (pn pc : Nat) (at' : Int) (w : World) (hsm : n ≤ 9223372036854775807) (hcl : ∀ i, i < n → i < 6 → ∃ b o la lc, ao = some ⟨b, o, none⟩ ∧ w.cell? ⟨b, o + i * 4, none⟩ = some (.slice la (Ls i) lc)) (hg : greatN n h Ls = true) :
    Calls Try.prog 13 #[.agg #[.int .u64 x, .int .i64 c, .slice ao n cap, .slice ho h hcap], .slice pa pn pc, .int .i64 at'] w fun e w' => e = .returned (.bool true) ∧ New w w' := by
  have HG := Lib.hid (fun W (hW : New w W) => great_G x c ao ho n cap h hcap Ls W hsm (fun i hi h6 => by
    obtain ⟨b, o, la, lc, h1, h2⟩ := hcl i hi h6
    exact ⟨b, o, la, lc, h1, hW.cell h2 id⟩))
  rw [hg] at HG
  have HK := Lib.hid wakes_any
  have hB : MB (w.alloc (.cells #[.int .u64 x, .int .i64 c, .slice ao n cap, .slice ho h hcap] 77)) w.heap.size x c (.slice ao n cap) (.slice ho h hcap) := World.alloc_heap_new w _
  have hN : New w (w.alloc (.cells #[.int .u64 x, .int .i64 c, .slice ao n cap, .slice ho h hcap] 77)) := (Mods.refl _ _).alloc _
  have HN := Lib.hid hN
  clear hcl hg hN
  unfold MB at hB
  go_enter Try.func13, Try.ntmps13
  go_wp2_with (refine op_value rfl (run_load_row 77 (.tmp 3) rfl w.heap.size rfl 77 #[.int .u64 x, .int .i64 c, .slice ao n cap, .slice ho h hcap] (0, 0) _ hB Try.underlying77 rfl info77) ?_)
  refine (HG.out _ HN.out).mono ?_
  rintro e w1 ⟨rfl, hN1⟩
  have HN1 := Lib.hid (HN.out.trans hN1)
  clear hN1 hB HN HG
  go_wp2_with fail
  refine (HK.out _).mono ?_
  rintro e w2 ⟨rfl, hN2⟩
  have HN2 := Lib.hid (HN1.out.trans hN2)
  clear hN2
  go_wp2_with fail
  go_ret
  exact ⟨rfl, HN2.out⟩
set_option maxRecDepth 100000 in
set_option maxHeartbeats 4000000 in
/-- Neither too great, and: may not be, or too many picks. -/
theorem parts_no (v : Value) (m : Ma) (pa : Option Addr) (pn pc : Nat) (at' : Int) (w : World) (hv : ReadsM w v m) (hx : m.word < 18446744073709551616) (hg : greatB m = false) (hno : rightM rightB m = false ∨ 60 < pn) :
    Calls Try.prog 13 #[v, .slice pa pn pc, .int .i64 at'] w fun e w' => e = .returned (.bool true) ∧ New w w' := by
  have HG := Lib.hid (fun W (hW : New w W) => great_S v m W (hv.new hW))
  rw [hg] at HG
  have HR := Lib.hid (fun W (hW : New w W) => right_ref18 v m W (hv.new hW) hx)
  obtain ⟨rm, hrm⟩ : ∃ b, rightM rightB m = b := ⟨_, rfl⟩
  rw [hrm] at HR hno
  have HK := Lib.hid wakes_any
  obtain ⟨ta, tc, ha, hc, lv, rfl, hR⟩ := hv.slices
  obtain ⟨n1, hn1⟩ : ∃ n, m.ths.length = n := ⟨_, rfl⟩
  obtain ⟨n2, hn2⟩ : ∃ n, m.hist.length = n := ⟨_, rfl⟩
  obtain ⟨n3, hn3⟩ : ∃ n, m.word = n := ⟨_, rfl⟩
  obtain ⟨n4, hn4⟩ : ∃ n, m.clock = n := ⟨_, rfl⟩
  rw [hn1, hn2, hn3, hn4] at HG HR ⊢
  clear hn1 hn2 hn3 hn4 hrm hR hv
  have hB : MB (w.alloc (.cells #[.int .u64 (n3 : Nat), .int .i64 n4, .slice ta n1 tc, .slice ha n2 hc] 77)) w.heap.size n3 n4 (.slice ta n1 tc) (.slice ha n2 hc) := World.alloc_heap_new w _
  have hN : New w (w.alloc (.cells #[.int .u64 (n3 : Nat), .int .i64 n4, .slice ta n1 tc, .slice ha n2 hc] 77)) := (Mods.refl _ _).alloc _
  have HN := Lib.hid hN
  clear hN
  unfold MB at hB
  go_enter Try.func13, Try.ntmps13
  go_wp2_with (refine op_value rfl (run_load_row 77 (.tmp 3) rfl w.heap.size rfl 77 #[.int .u64 (n3 : Nat), .int .i64 n4, .slice ta n1 tc, .slice ha n2 hc] (0, 0) _ hB Try.underlying77 rfl info77) ?_)
  refine (HG.out _ HN.out).mono ?_
  rintro e w1 ⟨rfl, hN1⟩
  have HN1 := Lib.hid (HN.out.trans hN1)
  have hB1 := hN1.heap hB id
  clear hN1 hB HN HG
  go_wp2_with (refine op_value_g rfl (run_load_row 77 (.tmp 3) rfl w.heap.size rfl 77 #[.int .u64 (n3 : Nat), .int .i64 n4, .slice ta n1 tc, .slice ha n2 hc] (0, 0) _ hB1 Try.underlying77 rfl info77) ?_)
  refine (HR.out _ HN1.out).mono ?_
  rintro e w2 ⟨rfl, hN2⟩
  have HN2 := Lib.hid (HN1.out.trans hN2)
  clear hN2 hB1 HN1
  cases rm with
  | false =>
    go_wp2_with fail
    refine (HK.out _).mono ?_
    rintro e w3 ⟨rfl, hN3⟩
    have HN3 := Lib.hid (HN2.out.trans hN3)
    clear hN3
    go_wp2_with fail
    go_ret
    exact ⟨rfl, HN3.out⟩
  | true =>
    have h60 : decide ((60 : Int) < (pn : Int)) = true := decide_eq_true (by
      rcases hno with h | h
      · cases h
      · omega)
    clear hno
    go_wp2_with fail
    refine (HK.out _).mono ?_
    rintro e w3 ⟨rfl, hN3⟩
    have HN3 := Lib.hid (HN2.out.trans hN3)
    clear hN3
    go_wp2_with fail
    go_ret
    exact ⟨rfl, HN3.out⟩
end Go.Proofs.Ytkjloeefcaadlaa
