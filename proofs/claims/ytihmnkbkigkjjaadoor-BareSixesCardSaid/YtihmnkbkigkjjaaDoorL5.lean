/- BareSixes, walked. -/
import Derived.Test.YtihmnkbkigkjjaaDoorZ15
namespace Go.Proofs.YtihmnkbkigkjjaaDoor
open Go.RowKit Go.Shelf Go.Cs
attribute [local go_sem] Oper.semAt_some
set_option linter.unusedVariables false
set_option linter.unusedSimpArgs false
set_option maxHeartbeats 4000000 in
set_option maxRecDepth 100000 in
theorem sixes_law (s : ByteArray) (w : World) (hs : s.size ≤ 9223372036854775807) (hT : Tab w) :
    Calls Tryd.prog 5 #[.string s] w fun e w' => e = .returned (.bool true) ∧ New w w' := by
  have HW := Lib.hid (fun W (hN : New w W) => (wakes_any W (hT.new hN)).mono fun e w' h => show e = .returned (.bool true) ∧ New w w' from ⟨h.1, hN.trans h.2⟩)
  have hN0 : New w w := Mods.refl _ _
  clear hT
  by_cases hgreat : 3000 < s.size
  · have hd : decide ((3000 : Int) < (s.size : Int)) = true := decide_eq_true (by omega)
    clear hgreat
    go_enter Tryd.func5, Tryd.ntmps5
    go_wp2_with fail
    refine (HW.out _ hN0).mono ?_
    rintro e w1 ⟨rfl, hN1⟩
    go_wp2_with fail
    go_ret
    exact ⟨rfl, hN1⟩
  have hd : decide ((3000 : Int) < (s.size : Int)) = false := decide_eq_false (by omega)
  have hs1 : s.size ≤ 3000 := by omega
  clear hgreat hs
  have hz := Bare.sixes_len (bl s)
  rw [bl_len] at hz
  have H1 := Lib.hid (fun W (hN : New w W) => (sixes_any s W (by omega)).mono fun e w' h => show _ ∧ New w w' from ⟨h.1, hN.trans h.2⟩)
  have H2 := Lib.hid (fun W (hN : New w W) => (unsix_any (tx (Bare.sixes (bl s))) W (by rw [tx_size]; omega)).mono fun e w' h => show _ ∧ New w w' from ⟨h.1, hN.trans h.2⟩)
  rw [bl_tx, Bare.unsix_sixes] at H2
  have H3 := Lib.hid (fun W (hN : New w W) => (unsix_any s W (by omega)).mono fun e w' h => show _ ∧ New w w' from ⟨h.1, hN.trans h.2⟩)
  unfold unsixV at H2 H3
  simp only at H2
  rw [tx_bl] at H2
  have htz : (tx (Bare.sixes (bl s))).size = (s.size + 2) / 3 * 4 := by rw [tx_size, hz]
  obtain ⟨t, ht⟩ : ∃ t, tx (Bare.sixes (bl s)) = t := ⟨_, rfl⟩
  rw [ht] at H1 H2 htz
  have hlen : ((t.size : Int) == ((s.size : Int) + 2) / 3 * 4) = true := by rw [beq_iff_eq]; omega
  clear ht hz htz
  have hse : (s.toList == s.toList) = true := by simp
  cases hr : Bare.unsix (bl s) with
  | none =>
    rw [hr] at H3
    simp only at H3
    clear hr
    go_enter Tryd.func5, Tryd.ntmps5
    go_wp2_with (first | (go_at_call 11; with_reducible refine (H1.out _ (by assumption)).mono ?_; rintro e w1 ⟨rfl, hN1⟩) | (go_at_call 12; with_reducible refine (H2.out _ (by assumption)).mono ?_; rintro e w2 ⟨rfl, hN2⟩) | (go_at_call 12; with_reducible refine (H3.out _ (by assumption)).mono ?_; rintro e w3 ⟨rfl, hN3⟩) | (go_at_call 7; refine (HW.out _ (by assumption)).mono ?_; rintro e w4 ⟨rfl, hN4⟩))
    go_ret
    exact ⟨rfl, by assumption⟩
  | some y =>
    have hys := Bare.sixes_unsix hr
    have hyl : y.length ≤ 3000 := by
      have := Bare.sixes_len y
      rw [hys, bl_len] at this
      omega
    rw [hr] at H3
    simp only at H3
    have H4 := Lib.hid (fun W (hN : New w W) => (sixes_any (tx y) W (by rw [tx_size]; omega)).mono fun e w' h => show _ ∧ New w w' from ⟨h.1, hN.trans h.2⟩)
    rw [bl_tx, hys, tx_bl] at H4
    obtain ⟨yt, hyt⟩ : ∃ t, tx y = t := ⟨_, rfl⟩
    rw [hyt] at H3 H4
    clear hr hys hyt
    go_enter Tryd.func5, Tryd.ntmps5
    go_wp2_with (first | (go_at_call 11; with_reducible refine (H1.out _ (by assumption)).mono ?_; rintro e w1 ⟨rfl, hN1⟩) | (go_at_call 12; with_reducible refine (H2.out _ (by assumption)).mono ?_; rintro e w2 ⟨rfl, hN2⟩) | (go_at_call 12; with_reducible refine (H3.out _ (by assumption)).mono ?_; rintro e w3 ⟨rfl, hN3⟩) | (go_at_call 11; with_reducible refine (H4.out _ (by assumption)).mono ?_; rintro e w3 ⟨rfl, hN3⟩) | (go_at_call 7; refine (HW.out _ (by assumption)).mono ?_; rintro e w4 ⟨rfl, hN4⟩))
    go_ret
    exact ⟨rfl, by assumption⟩
end Go.Proofs.YtihmnkbkigkjjaaDoor
