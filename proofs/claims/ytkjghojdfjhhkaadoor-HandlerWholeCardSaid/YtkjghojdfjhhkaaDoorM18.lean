/- RequestAnswers, walked. -/
import Derived.Test.YtkjghojdfjhhkaaDoorM15
set_option linter.unusedSimpArgs false
set_option linter.unusedVariables false
namespace Go.Proofs.YtkjghojdfjhhkaaDoor
open Go.RowKit Go.Shelf Go.Cs
attribute [local go_sem] Oper.semAt_some
/-- The digits read so far. -/
def accN (n : Int) (k : Nat) : Int := if k = 0 then 0 else if k = 1 then n / 100 else if k = 2 then n / 10 else n
theorem accs_all : ∀ k : Fin 400, (digs ((k.1 + 200 : Nat) : Int)).size = 3 ∧ ∀ i : Fin 3, 10 * accN ((k.1 + 200 : Nat) : Int) i.1 + ((gb (digs ((k.1 + 200 : Nat) : Int)) i.1).toNat : Int) - 48 = accN ((k.1 + 200 : Nat) : Int) (i.1 + 1) := by decide +kernel
theorem accs_at (n : Int) (h0 : ¬ n < 200) (h1 : n ≤ 599) : (digs n).size = 3 ∧ ∀ i, i < 3 → 10 * accN n i + ((gb (digs n) i).toNat : Int) - 48 = accN n (i + 1) := by
  obtain ⟨k, rfl⟩ : ∃ k : Nat, n = ((k + 200 : Nat) : Int) := ⟨(n - 200).toNat, by omega⟩
  have h := accs_all ⟨k, by omega⟩
  exact ⟨h.1, fun i hi => h.2 ⟨i, hi⟩⟩
theorem accN_bound (n : Int) (h0 : ¬ n < 200) (h1 : n ≤ 599) (k : Nat) : 0 ≤ accN n k ∧ accN n k ≤ 599 := by
  unfold accN
  split
  · omega
  · split
    · omega
    · split <;> omega
set_option maxHeartbeats 4000000 in
set_option maxRecDepth 100000 in
theorem answers_law (n : Int) (lv : Value) (L : List Fd) (w : World) (h0 : -9223372036854775808 ≤ n) (h1 : n ≤ 9223372036854775807) (hl : ReadsU w lv L) (hL : ReachL L) (hc : CapOk lv) (hT : Tab w) :
    Calls Tryd.prog 11 #[.int .i64 n, lv] w fun e w' => e = .returned (.bool true) ∧ New w w' := by
  have HG := Lib.hid (great_any lv L w hl hL)
  have HW := Lib.hid (fun W (hN : New w W) => wakes_any W (hT.new hN))
  obtain ⟨lo, lcap, rfl⟩ : ∃ lo lcap, lv = .slice lo L.length lcap := by obtain ⟨_, lo, lcap, e, _⟩ := hl; exact ⟨lo, lcap, e⟩
  cases hg : greatL L with
  | true =>
    rw [hg] at HG
    clear hg hl hL hc hT h0 h1
    go_enter Tryd.func11, Tryd.ntmps11
    go_wp2_with fail
    refine HG.out.mono ?_
    rintro e w1 ⟨rfl, hN1⟩
    go_wp2_with fail
    refine (HW.out _ hN1).mono ?_
    rintro e w2 ⟨rfl, hN2⟩
    go_wp2_with fail
    go_ret
    exact ⟨rfl, hN1.trans hN2⟩
  | false =>
    rw [hg] at HG
    obtain ⟨hlen, hsum, hsm⟩ := small_of hg
    have hR := hl.small (by omega)
    have HA := Lib.hid (fun W (hN : New w W) => answer_any n h0 h1 _ L W (hR.new hN) hsm hc (hT.new hN) (by omega))
    have HTr := Lib.hid (fun W (hN : New w W) => trailers_any _ L W (hR.new hN) hsm)
    have HR := Lib.hid hR
    have hbad : (n < 200 ∨ 600 ≤ n ∨ trailersB L = false) ∨ ¬ (n < 200 ∨ 600 ≤ n ∨ trailersB L = false) := Classical.em _
    clear hg hl hL hc hT h0 h1 hsum
    obtain ⟨ln, hln⟩ : ∃ x, L.length = x := ⟨_, rfl⟩
    rw [hln] at HG HA HTr HR hlen ⊢
    have Hln := Lib.hid hln
    clear hln hR
    rcases hbad with hbad | hgood
    · have hA : answerL n L = none := by rw [answerL, if_pos hbad]
      rw [hA] at HA
      have hdec : Hid ((decide (200 ≤ n) = false) ∨ (decide (200 ≤ n) = true ∧ decide (n ≤ 599) = false) ∨ (decide (200 ≤ n) = true ∧ decide (n ≤ 599) = true ∧ trailersB L = false)) := Lib.hid (by
        simp only [decide_eq_false_iff_not, decide_eq_true_eq]
        rcases hbad with h | h | h
        · left; omega
        · by_cases h2 : 200 ≤ n
          · right; left; omega
          · left; omega
        · by_cases h2 : 200 ≤ n
          · by_cases h3 : n ≤ 599
            · exact .inr (.inr ⟨h2, h3, h⟩)
            · right; left; omega
          · left; omega)
      clear hA hbad
      go_enter Tryd.func11, Tryd.ntmps11
      go_wp2_with fail
      refine HG.out.mono ?_
      rintro e w1 ⟨rfl, hN1⟩
      go_wp2_with fail
      refine (HA.out _ hN1).mono ?_
      rintro e w2 ⟨v, rfl, ⟨hOr, -⟩, -, hN2⟩
      obtain ⟨vo, vc, rfl⟩ := hOr.slice
      have hN := hN1.trans hN2
      clear hOr HA HG
      rcases hdec.out with d1 | ⟨d1, d2⟩ | ⟨d1, d2, d3⟩
      · go_wp2_with fail
        refine (HW.out _ hN).mono ?_
        rintro e w3 ⟨rfl, hN3⟩
        go_wp2_with fail
        go_ret
        exact ⟨rfl, hN.trans hN3⟩
      · go_wp2_with fail
        refine (HW.out _ hN).mono ?_
        rintro e w3 ⟨rfl, hN3⟩
        go_wp2_with fail
        go_ret
        exact ⟨rfl, hN.trans hN3⟩
      · rw [d3] at HTr
        clear d3
        go_wp2_with fail
        refine (HTr.out _ hN).mono ?_
        rintro e w3 ⟨rfl, hN3⟩
        have hN' := hN.trans hN3
        go_wp2_with fail
        refine (HW.out _ hN').mono ?_
        rintro e w4 ⟨rfl, hN4⟩
        go_wp2_with fail
        go_ret
        exact ⟨rfl, hN'.trans hN4⟩
    · have hA : answerL n L = some (⟨nStatus, digs n⟩ :: L) := by rw [answerL, if_neg hgood]
      rw [hA] at HA
      have hn0 : ¬ n < 200 := fun h => hgood (.inl h)
      have hn1 : n ≤ 599 := by have := fun h => hgood (.inr (.inl h)); omega
      have htb : trailersB L = true := by
        cases h : trailersB L with
        | true => rfl
        | false => exact absurd (.inr (.inr h)) hgood
      rw [htb] at HTr
      obtain ⟨hz, hstep⟩ := accs_at n hn0 hn1
      have hbd := accN_bound n hn0 hn1
      have Hlast : Hid (accN n 3 = n) := Lib.hid rfl
      have Hfirst : Hid (accN n 0 = 0) := Lib.hid rfl
      have Hstep := Lib.hid hstep
      have Hbd := Lib.hid hbd
      obtain ⟨ds, hds⟩ : ∃ x, digs n = x := ⟨_, rfl⟩
      rw [hds] at hz Hstep HA
      have d1 : decide (200 ≤ n) = true := decide_eq_true (by omega)
      have d2 : decide (n ≤ 599) = true := decide_eq_true (by omega)
      have hw1 : IntKind.i64.wrap ((ln : Int) + 1) = (ln : Int) + 1 := wrap_small (by omega) (by omega)
      clear hA hgood htb hds hstep hbd hn0
      go_enter Tryd.func11, Tryd.ntmps11
      go_wp2_with fail
      refine HG.out.mono ?_
      rintro e w1 ⟨rfl, hN1⟩
      go_wp2_with fail
      refine (HA.out _ hN1).mono ?_
      rintro e w2 ⟨v, rfl, ⟨hOr, -⟩, hCap, hN2⟩
      have hN := hN1.trans hN2
      clear HA HG
      go_wp2_with fail
      refine (HTr.out _ hN).mono ?_
      rintro e w3 ⟨rfl, hN3⟩
      have hN' := hN.trans hN3
      have hOr' : ReadsL w3 v (⟨nStatus, ds⟩ :: L) := hOr.new hN3
      obtain ⟨vo, vc, rfl⟩ := hOr'.slice
      obtain ⟨b, o, rfl, hc1, hc2⟩ := hOr'.at (k := 0) (by simp)
      have hF : Hid (0 < ln → ReadsL w3 (.slice (some ⟨b, o + 2, none⟩) ln (vc - 1)) L) := Lib.hid fun h => by
        have := hOr'.drop (k := 0 + 1) (by simp [Hln.out, h])
        simpa [Hln.out] using this
      clear hOr hOr'
      simp only [List.getD_cons_zero, Nat.zero_mul, Nat.add_zero] at hc1 hc2
      obtain ⟨hvc, -⟩ := hCap _ _ _ rfl
      rw [List.length_cons, Hln.out] at hvc
      have hLn : (⟨nStatus, ds⟩ :: L).length = ln + 1 := by rw [List.length_cons, Hln.out]
      rw [hLn]
      clear hLn
      unfold nStatus at hc1
      have HF1 : Hid (∀ ao c, (0 < ln → ReadsL w3 (.slice ao ln c) L) → Calls Tryd.prog 18 #[.slice ao ln c, .slice lo ln lcap] w3 fun e w' => e = .returned (.bool true) ∧ New w3 w') := Lib.hid fun ao c hx => by
        have hx' : ReadsL w3 (.slice ao ln c) L := by
          by_cases h : 0 < ln
          · exact hx h
          · have hl0 : L.length = 0 := by rw [Hln.out]; omega
            obtain rfl : L = [] := List.length_eq_zero_iff.1 hl0
            obtain rfl : ln = 0 := by omega
            exact ReadsL.nil _ _ _
        exact (fields_any _ _ L L w3 hx' (HR.out.new hN')).mono fun e w' h => ⟨by rw [h.1, decide_eq_true rfl], h.2⟩
      have hzd : decide ((ds.size : Int) = 3) = true := decide_eq_true (by omega)
      go_wp2_with fail
      all_goals
        refine (HF1.out _ _ (fun h => by first | omega | exact hF.out h)).mono ?_
        rintro e w4 ⟨rfl, hN4⟩
        have hN4' := hN'.trans hN4
        have hd2 := hN4.cell hc2 id
        clear hF HF1 hc1 hc2
        go_wp2_with fail
        go_loop [7, 8] (fun s c => ∃ k : Nat, k ≤ 3 ∧ c = .int .i64 k ∧ s = .int .i64 (accN n k)) (fun _ c => 3 - (intOf c).toNat)
        case atStart => exact ⟨0, Nat.zero_le _, rfl, by rw [Hfirst.out]⟩
        case round =>
          obtain ⟨k, hk, rfl, rfl⟩ := hrel
          by_cases hlt : k < 3
          · have hix := run_idx ds k (by omega)
            have HS := Lib.hid (Hstep.out k hlt)
            have hb := Hbd.out k
            have hg : (gb ds k).toNat < 256 := UInt8.toNat_lt _
            obtain ⟨a, ha⟩ : ∃ x, accN n k = x := ⟨_, rfl⟩
            obtain ⟨g, hgg⟩ : ∃ x, (gb ds k).toNat = x := ⟨_, rfl⟩
            rw [ha] at HS hb ⊢
            rw [hgg] at HS hix hg
            clear ha hgg
            go_wp2_with fail
            go_round
            case rel => exact ⟨k + 1, by omega, by go_num, by rw [← HS.out]⟩
            case measure => simp [intOf]; omega
          · obtain rfl : k = 3 := by omega
            rw [Hlast.out]
            go_wp2_with fail
            refine (HW.out _ hN4').mono ?_
            rintro e w5 ⟨rfl, hN5⟩
            go_wp2_with fail
            go_ret
            exact ⟨rfl, hN4'.trans hN5⟩
end Go.Proofs.YtkjghojdfjhhkaaDoor
