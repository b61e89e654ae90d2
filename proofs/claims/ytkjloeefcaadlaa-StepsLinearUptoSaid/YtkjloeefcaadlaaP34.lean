/- Histories that are linear, by the document. -/
import Derived.Test.YtkjloeefcaadlaaP33
set_option linter.unusedSimpArgs false
set_option linter.unusedVariables false
namespace Go.Proofs.Ytkjloeefcaadlaa
open Go.RowKit Go.Shelf Go.Cs
attribute [local go_sem] Oper.semAt_some
theorem orders_ref (hh : Value) (H : List Mo) (tw : Nat) (h8 : H.length ≤ 8) : ∀ f, FromAtR hh H tw f
  | 0 => fun _ _ _ _ _ _ h => absurd h (Nat.not_lt_zero _)
  | f + 1 => orders_step hh H tw f h8 (orders_ref hh H tw h8 f)
theorem dV_full {n : Nat} (h8 : n ≤ 8) : dV n (2 ^ n - 1) = [.bool false, .bool false, .bool false, .bool false, .bool false, .bool false, .bool false, .bool false] := by
  apply List.ext_getElem (by simp [dV])
  intro k h1 h2
  have hk : k < 8 := by simpa using h2
  have hb := bit_full ⟨n, by omega⟩ ⟨k, hk⟩
  dsimp only at hb
  simp only [dV, List.getElem_map, List.getElem_range, hb]
  have e : (decide (k < n) && !(decide (k < n))) = false := by cases decide (k < n) <;> rfl
  rw [e]
  match k, hk with
  | 0, _ => rfl
  | 1, _ => rfl
  | 2, _ => rfl
  | 3, _ => rfl
  | 4, _ => rfl
  | 5, _ => rfl
  | 6, _ => rfl
  | 7, _ => rfl
set_option maxRecDepth 100000 in
set_option maxHeartbeats 4000000 in
theorem linear_ref (x tw : Nat) (hh : Value) (H : List Mo) (w : World) (hv : ReadsF w hh H.length 8 (mosF H)) (hx : x < 18446744073709551616) :
    Calls Try.prog 51 #[.int .u64 x, hh, .int .u64 tw] w fun e w' => e = .returned (.bool (linM DS rightB x H tw)) ∧ New w w' := by
  have HG := Lib.hid (right_gen x hx)
  have HV := Lib.hid hv
  have HO := Lib.hid (fun (h8 : H.length ≤ 8) (hr : rightB x = true) W (hW : New w W) => orders_ref hh H tw h8 9 x (2 ^ H.length - 1) W (hv.new hW) hr (full_lt ⟨H.length, by omega⟩) (by have := cnt_le8 ⟨2 ^ H.length - 1, full_lt ⟨H.length, by omega⟩⟩; dsimp only at this; omega))
  obtain ⟨_, ao, hc, rfl, hcc⟩ := hv
  have HC := Lib.hid hcc
  obtain ⟨r, hr⟩ : ∃ r, linM DS rightB x H tw = r := ⟨_, rfl⟩
  have Hr := Lib.hid hr
  rw [hr]
  obtain ⟨rb, hrb⟩ : ∃ b, rightB x = b := ⟨_, rfl⟩
  have Hrb := Lib.hid hrb
  rw [hrb] at HG
  obtain ⟨n, hn⟩ : ∃ n, H.length = n := ⟨_, rfl⟩
  have Hn := Lib.hid hn
  rw [hn] at HC ⊢
  clear hr hrb hn hcc
  by_cases h8 : 8 < n
  · have d8 : decide ((8 : Int) < (n : Int)) = true := decide_eq_true (by omega)
    have hrf : Hid (r = false) := Lib.hid (by
      rw [← Hr.out]
      unfold linM
      rw [decide_eq_false (by rw [Hn.out]; omega)]
      rfl)
    go_enter Try.func51, Try.ntmps51
    go_wp2_with fail
    go_ret
    exact ⟨by rw [hrf.out]; rfl, Mods.refl _ _⟩
  have d8 : decide ((8 : Int) < (n : Int)) = false := decide_eq_false (by omega)
  go_enter Try.func51, Try.ntmps51
  go_upto_region 1 with fail
  go_wp2_with fail
  refine (HG.out _).mono ?_
  rintro e w1 ⟨rfl, hN1⟩
  have HN1 := Lib.hid hN1
  clear hN1 HG
  cases rb with
  | false =>
    have hrf : Hid (r = false) := Lib.hid (by
      rw [← Hr.out]
      unfold linM
      rw [Hrb.out]
      simp)
    go_wp2_with fail
    go_ret
    exact ⟨by rw [hrf.out]; rfl, HN1.out⟩
  | true =>
    go_upto_region 3 with fail
    go_wp2_with fail
    go_loopw [7] (fun c wr => ∃ k : Nat, k ≤ n ∧ c = .int .i64 (k : Nat) ∧ Hid (∀ q, q < k → isD (H.getD q .no).deed.d = true) ∧ Hid (New w wr)) (fun c _ => n - (intOf c).toNat)
    case atStart => exact ⟨0, Nat.zero_le _, rfl, Lib.hid (fun q hq => by omega), HN1⟩
    case round =>
      obtain ⟨k, hk, rfl, hbef, hNr⟩ := hrel
      by_cases hkn : k < n
      · have hkd : decide ((k : Int) < (n : Int)) = true := decide_eq_true (by omega)
        have k0 : (0 : Int) ≤ (k : Int) := by omega
        have k1 : (k : Int) < (n : Int) := by omega
        obtain ⟨b, o, hae, hrd0⟩ := HC.out k hkn
        subst hae
        obtain ⟨p, hp⟩ : ∃ p, H.getD k .no = p := ⟨_, rfl⟩
        have Hp := Lib.hid hp
        have hrd : wr.rangeAt b (o + k * 8 + 1) p.deed.cs := fun j v hj => hNr.out.cell (by
          have h1 := hrd0 (1 + j) v (by
            show (H.getD k .no).cs[1 + j]? = some v
            rw [hp]
            unfold Dn.cs at hj
            match j, hj with
            | 0, hj => exact hj
            | 1, hj => exact hj
            | 2, hj => exact hj)
          rw [show o + k * 8 + 1 + j = o + k * 8 + (1 + j) by omega]
          exact h1) id
        have HD := Lib.hid (deed_ref p.deed.d p.deed.s p.deed.u)
        obtain ⟨c, hcc⟩ : ∃ c, isDeed p.deed.d = c := ⟨_, rfl⟩
        rw [hcc] at HD
        have Hc := Lib.hid hcc
        clear hcc hp hrd0
        go_upto_region 6 with fail
        go_wp2_with (refine op_value rfl (run_load_mid 93 (.tmp 25) rfl b (o + k * 8 + 1) rfl p.deed.cs _ hrd Try.underlying93 rfl info93) ?_)
        refine (HD.out _).mono ?_
        rintro e w2 ⟨rfl, hN2⟩
        have HN2 := Lib.hid (hNr.out.trans hN2)
        clear hN2 HD hrd hNr
        cases c with
        | false =>
          have hrf : Hid (r = false) := Lib.hid (by
            rw [← Hr.out]
            unfold linM
            have : (H.all fun h => isD h.deed.d) = false := by
              rw [List.all_eq_false]
              exact ⟨_, getD_mem (d := .no) (by rw [Hn.out]; exact hkn), by rw [Hp.out, show isD p.deed.d = false from Hc.out]; simp⟩
            rw [this]
            simp)
          go_wp2_with fail
          go_ret
          exact ⟨by rw [hrf.out]; rfl, HN2.out⟩
        | true =>
          have hnx : Hid (∀ q, q < k + 1 → isD (H.getD q .no).deed.d = true) := Lib.hid (fun q hq => by
            by_cases hqk : q < k
            · exact hbef.out q hqk
            · obtain rfl : q = k := by omega
              rw [Hp.out]
              exact Hc.out)
          go_wp2_with fail
          go_roundw
          case rel => exact ⟨k + 1, by omega, by go_num, hnx, HN2⟩
          case measure => simp [intOf]; omega
      · obtain rfl : n = k := by omega
        have hkd : decide ((n : Int) < (n : Int)) = false := decide_eq_false (by omega)
        have hh8 : H.length ≤ 8 := by rw [Hn.out]; omega
        have hcall := HO.out hh8 Hrb.out wr hNr.out
        rw [Hn.out, dV_full (by omega)] at hcall
        have hrv : fromM DS H tw 9 x (2 ^ n - 1) = r := by
          rw [← Hr.out]
          unfold linM
          have : (H.all fun h => isD h.deed.d) = true := by
            rw [List.all_eq_true]
            intro h hh
            obtain ⟨i, hi, rfl⟩ := List.getElem_of_mem hh
            have := hbef.out i (by rw [← Hn.out]; exact hi)
            simpa [List.getD, hi] using this
          rw [this, Hrb.out, decide_eq_true hh8, Hn.out]
          rfl
        rw [hrv] at hcall
        have HCALL := Lib.hid hcall
        clear hcall hrv
        go_wp2_with fail
        refine HCALL.out.mono ?_
        rintro e w3 ⟨rfl, hN3⟩
        have HN3 := Lib.hid (hNr.out.trans hN3)
        clear hN3 HCALL
        go_wp2_with fail
        go_ret
        exact ⟨rfl, HN3.out⟩
end Go.Proofs.Ytkjloeefcaadlaa
