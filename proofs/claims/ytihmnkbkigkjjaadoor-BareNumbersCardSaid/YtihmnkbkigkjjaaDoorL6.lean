/- BareNumbers, walked. -/
import Derived.Test.YtihmnkbkigkjjaaDoorZ15
namespace Go.Proofs.YtihmnkbkigkjjaaDoor
open Go.RowKit Go.Shelf Go.Cs
attribute [local go_sem] Oper.semAt_some
set_option linter.unusedVariables false
set_option linter.unusedSimpArgs false
theorem num_right (k n : Int) (hk : k = 1 ∨ k = 2) : Bare.rightI ⟨k, n, [], false⟩ = (decide (-999999999999999 ≤ n) && decide (n ≤ 999999999999999)) := by
  unfold Bare.rightI
  rw [if_pos hk]
  show (decide _ && (decide _ && (true && true))) = _
  rw [Bool.and_true, Bool.and_true]
  rfl
theorem num_one (n : Int) : Bare.printI ⟨1, n, [], false⟩ = if -999999999999999 ≤ n ∧ n ≤ 999999999999999 then some (Lib.itoa n) else none := by
  unfold Bare.printI
  rw [num_right 1 n (.inl rfl)]
  by_cases h : -999999999999999 ≤ n ∧ n ≤ 999999999999999
  · rw [if_pos h]; simp [h.1, h.2]
  · rw [if_neg h, if_pos (by simpa using h)]
theorem num_two (n : Int) : Bare.printI ⟨2, n, [], false⟩ = if -999999999999999 ≤ n ∧ n ≤ 999999999999999 then some (Bare.decimal n) else none := by
  unfold Bare.printI
  rw [num_right 2 n (.inr rfl)]
  by_cases h : -999999999999999 ≤ n ∧ n ≤ 999999999999999
  · rw [if_pos h]; simp [h.1, h.2]
  · rw [if_neg h, if_pos (by simpa using h)]
theorem gb_tx {l : Bare.Bs} {k : Nat} {c : UInt8} (h : l[k]? = some c) : gb (tx l) k = c := by
  have hk : k < l.length := (List.getElem?_eq_some_iff.1 h).1
  have := gb_get (tx l) k (by rw [tx_size]; exact hk)
  rw [bl_tx, h] at this
  exact (Option.some.inj this).symm
theorem nat_dig (l : Bare.Bs) (n : Nat) (h : (tx l).size ≤ n) : l.length ≤ n := by rwa [tx_size] at h
set_option maxHeartbeats 2000000 in
set_option maxRecDepth 100000 in
theorem numbers_law (n : Int) (w : World) (h0 : -9223372036854775808 ≤ n) (h1 : n ≤ 9223372036854775807) (hT : Tab w) :
    Calls Tryd.prog 6 #[.int .i64 n] w fun e w' => e = .returned (.bool true) ∧ New w w' := by
  have HW := Lib.hid (fun W (hN : New w W) => wakes_any W (hT.new hN))
  have hN0 : New w w := Mods.refl _ _
  have HP1 := Lib.hid (fun W (hN : New w W) => print_any ⟨1, n, [], false⟩ (show (0 : Int) ≤ 1 by decide) (show 0 ≤ 10000 by decide) W (hT.new hN))
  have HP2 := Lib.hid (fun W (hN : New w W) => print_any ⟨2, n, [], false⟩ (show (0 : Int) ≤ 2 by decide) (show 0 ≤ 10000 by decide) W (hT.new hN))
  have HP3 := Lib.hid (fun (m : Int) W (hN : New w W) => print_any ⟨1, m, [], false⟩ (show (0 : Int) ≤ 1 by decide) (show 0 ≤ 10000 by decide) W (hT.new hN))
  rw [num_one] at HP1
  rw [num_two] at HP2
  simp only [num_one] at HP3
  unfold bv bcs at HP1 HP2 HP3
  simp only [show tx [] = (⟨#[]⟩ : ByteArray) from rfl] at HP1 HP2 HP3
  by_cases hmay : -999999999999999 ≤ n ∧ n ≤ 999999999999999
  case neg =>
    rw [if_neg hmay] at HP1 HP2
    unfold printV at HP1 HP2
    simp only at HP1 HP2
    by_cases hlo : -999999999999999 ≤ n
    · have d1 : decide ((-999999999999999 : Int) ≤ n) = true := decide_eq_true hlo
      have d2 : decide (n ≤ (999999999999999 : Int)) = false := decide_eq_false (fun h => hmay ⟨hlo, h⟩)
      clear hmay hlo HP3
      go_enter Tryd.func6, Tryd.ntmps6
      go_wp2_with fail
      refine (HP1.out _ hN0).mono ?_
      rintro e w1 ⟨rfl, hN1⟩
      go_wp2_with fail
      refine (HP2.out _ hN1).mono ?_
      rintro e w2 ⟨rfl, hN2⟩
      have hN2 := hN1.trans hN2
      go_wp2_with fail
      refine (HW.out _ hN2).mono ?_
      rintro e w3 ⟨rfl, hN3⟩
      go_wp2_with fail
      go_ret
      exact ⟨rfl, hN2.trans hN3⟩
    · have d1 : decide ((-999999999999999 : Int) ≤ n) = false := decide_eq_false hlo
      clear hmay hlo HP3
      go_enter Tryd.func6, Tryd.ntmps6
      go_wp2_with fail
      refine (HP1.out _ hN0).mono ?_
      rintro e w1 ⟨rfl, hN1⟩
      go_wp2_with fail
      refine (HP2.out _ hN1).mono ?_
      rintro e w2 ⟨rfl, hN2⟩
      have hN2 := hN1.trans hN2
      go_wp2_with fail
      refine (HW.out _ hN2).mono ?_
      rintro e w3 ⟨rfl, hN3⟩
      go_wp2_with fail
      go_ret
      exact ⟨rfl, hN2.trans hN3⟩
  rw [if_pos hmay] at HP1 HP2
  unfold printV at HP1 HP2
  simp only at HP1 HP2
  have d1 : decide ((-999999999999999 : Int) ≤ n) = true := decide_eq_true hmay.1
  have d2 : decide (n ≤ (999999999999999 : Int)) = true := decide_eq_true hmay.2
  obtain ⟨p, hp, hp1, hp3, hpl, hp0⟩ := Bare.decimal_parts n
  have hno := Bare.ahead_no n
  have hwh := Bare.decimal_whole n
  have hxs : (tx (Bare.decimal n)).size = (Bare.ahead n).length + 1 + p.length := by rw [tx_size, hp, List.length_append, List.length_cons]; omega
  have hat : ∀ (k : Nat) (h : k < (Bare.ahead n).length), gb (tx (Bare.decimal n)) k ≠ 46 := fun k h => by
    rw [gb_tx (c := (Bare.ahead n)[k]) (by rw [hp, List.getElem?_append_left h, List.getElem?_eq_getElem h])]
    exact hno _ (List.getElem_mem h)
  have hpt : gb (tx (Bare.decimal n)) (Bare.ahead n).length = 46 := gb_tx (by rw [hp, List.getElem?_append_right (Nat.le_refl _), Nat.sub_self]; rfl)
  have hys : 0 < (tx (Lib.itoa n)).size := by rw [tx_size]; exact List.length_pos_iff.2 (Bare.itoa_ne n)
  have hlast : p.length ≠ 1 → gb (tx (Bare.decimal n)) ((Bare.ahead n).length + p.length) ≠ 48 := fun hne h => by
    rcases hpl with h1 | h1
    · exact hne h1
    · refine h1 ?_
      have hd : (Bare.decimal n)[(Bare.ahead n).length + p.length]? = p[p.length - 1]? := by
        rw [hp, List.getElem?_append_right (by omega)]
        have : (Bare.ahead n).length + p.length - (Bare.ahead n).length = (p.length - 1) + 1 := by omega
        rw [this, List.getElem?_cons_succ]
      rw [List.getLast?_eq_getElem?, List.getElem?_eq_getElem (show p.length - 1 < p.length by omega)]
      rw [List.getElem?_eq_getElem (show p.length - 1 < p.length by omega)] at hd
      rw [gb_tx hd] at h
      rw [h]
  replace hwh : n.tmod 1000 = 0 → n ≠ 0 → tx (Bare.decimal n) = tx (Lib.itoa (n.tdiv 1000)) ++ ⟨#[46, 48]⟩ := fun h h' => by
    rw [hwh (by have := Int.natAbs_tmod n 1000; rw [h] at this; exact this.symm) h', cat_bl, bl_tx]
    done
  have hsm : (Bare.ahead n).length ≤ 1000000 := by
    have := nat_dig _ _ (dec_size (n.natAbs / 1000) (by omega))
    show List.length (_ ++ _) ≤ _
    rw [List.length_append]
    have : (if n < 0 then ([45] : Bare.Bs) else []).length ≤ 1 := by split <;> simp
    omega
  replace hp0 : n.tmod 1000 = 0 → p.length = 1 := fun h => by rw [hp0 (by have := Int.natAbs_tmod n 1000; rw [h] at this; exact this.symm)]; rfl
  obtain ⟨x, hx⟩ : ∃ x, tx (Bare.decimal n) = x := ⟨_, rfl⟩
  rw [hx] at HP2 hxs hat hpt hlast hwh
  obtain ⟨y, hy⟩ : ∃ y, tx (Lib.itoa n) = y := ⟨_, rfl⟩
  rw [hy] at HP1 hys
  obtain ⟨m, hm⟩ : ∃ m, (Bare.ahead n).length = m := ⟨_, rfl⟩
  rw [hm] at hxs hat hpt hlast hsm
  obtain ⟨pl, hpl2⟩ : ∃ m, p.length = m := ⟨_, rfl⟩
  rw [hpl2] at hxs hlast hp1 hp3 hp0
  clear hpl2 hm hy hx hno hp
  have hym : (y.size : Int) ≠ 0 := by omega
  have dy : decide ((0 : Int) < (y.size : Int)) = true := decide_eq_true (by omega)
  go_enter Tryd.func6, Tryd.ntmps6
  go_wp2_with fail
  refine (HP1.out _ hN0).mono ?_
  rintro e w1 ⟨rfl, hN1⟩
  go_wp2_with fail
  refine (HP2.out _ hN1).mono ?_
  rintro e w2 ⟨rfl, hN2⟩
  have hN2 := hN1.trans hN2
  have ht0 : -999999999999999 ≤ n.tdiv 1000 ∧ n.tdiv 1000 ≤ 999999999999999 := by
    have := Int.natAbs_tdiv n 1000
    have h2 : n.natAbs.div (Int.natAbs 1000) = n.natAbs / 1000 := rfl
    rw [h2] at this
    omega
  replace HP3 := HP3.out (n.tdiv 1000)
  rw [if_pos ht0] at HP3
  unfold printV at HP3
  simp only at HP3
  obtain ⟨z, hz⟩ : ∃ z, tx (Lib.itoa (n.tdiv 1000)) = z := ⟨_, rfl⟩
  rw [hz] at HP3 hwh
  obtain ⟨tn, htn⟩ : ∃ t, n.tdiv 1000 = t := ⟨_, rfl⟩
  rw [htn] at HP3 ht0
  obtain ⟨rm, hrm⟩ : ∃ t, n.tmod 1000 = t := ⟨_, rfl⟩
  rw [hrm] at hwh hp0
  replace HP3 := Lib.hid HP3
  replace hwh := Lib.hid hwh
  replace hp0 := Lib.hid hp0
  replace hlast := Lib.hid hlast
  replace hat := Lib.hid hat
  replace hpt := Lib.hid hpt
  have hzs : rm = 0 → n ≠ 0 → z.size ≤ x.size := fun a b => by rw [hwh.out a b, ByteArray.size_append]; omega
  replace hzs := Lib.hid hzs
  clear hz
  replace hxs := Lib.hid hxs
  have hpls := Lib.hid (And.intro hp1 hp3)
  clear hpl hp1 hp3 hmay hym
  go_wp2_with fail
  go_loop [8] (fun c => ∃ k : Nat, k ≤ m ∧ c = .int .i64 k) (fun c => m - (intOf c).toNat)
  case atStart => exact ⟨0, Nat.zero_le _, rfl⟩
  case round =>
    obtain ⟨k, hk, rfl⟩ := hrel
    have hkx : k < x.size := by have := hxs.out; omega
    have hkd : decide ((k : Int) < (x.size : Int)) = true := decide_eq_true (by omega)
    have hix := run_idx x k hkx
    by_cases hlt : k < m
    · have hne := hat.out k hlt
      have hne : (gb x k).toNat ≠ 46 := fun h => hne (UInt8.toNat_inj.1 (by rw [h]; rfl))
      obtain ⟨c, hc⟩ : ∃ c, (gb x k).toNat = c := ⟨_, rfl⟩
      rw [hc] at hix hne
      have hci : ((c : Int) == 46) = false := by have : (c : Int) ≠ 46 := fun h => hne (Int.ofNat_inj.1 h); simpa using this
      clear hne hc
      go_wp2_with fail
      go_round
      case rel => exact ⟨k + 1, by omega, by go_num⟩
      case measure => simp [intOf]; omega
    · obtain rfl : k = m := by omega
      replace hix : ∀ W, (Instr.index 9 (.string x) (.int .i64 (k : Nat))).run Tryd.prog W = .ok (.int .u8 46) W := fun W => by rw [hix, hpt.out]; rfl
      have hk6 : (k : Int) ≤ 1000000 := by omega
      obtain ⟨q, hq⟩ : ∃ q, q = k + pl := ⟨_, rfl⟩
      have hx' := hxs.out
      have hp' := hpls.out
      have e1 : (x.size : Int) - 1 = (q : Int) := by omega
      have dq : decide ((q : Int) ≤ (k : Int)) = false := decide_eq_false (by omega)
      have hkq : k < q := by omega
      have hq6 : (q : Int) ≤ 1000010 := by omega
      have hixq := run_idx x q (by omega)
      have hlq : pl ≠ 1 → (gb x q).toNat ≠ 48 := fun h h2 => hlast.out h (by rw [← hq]; exact UInt8.toNat_inj.1 (by rw [h2]; rfl))
      obtain ⟨L, hL⟩ : ∃ c, (gb x q).toNat = c := ⟨_, rfl⟩
      rw [hL] at hixq hlq
      clear hL
      by_cases hr0 : rm = 0
      · have hpl1 := hp0.out hr0
        have e2 : (x.size : Int) - (k : Int) = 2 := by omega
        have b0 : (rm == 0) = true := by simpa using hr0
        by_cases hn0 : n = 0
        · have c0 : (n == 0) = true := by simpa using hn0
          clear hn0 hlt hk hx' hp' hxs hpls hlast hlq hp0 hwh hpl1 hr0 hq
          go_wp2_with fail
          refine (HW.out _ hN2).mono ?_
          rintro e w3 ⟨rfl, hN3⟩
          go_wp2_with fail
          go_ret
          exact ⟨rfl, hN2.trans hN3⟩
        · have c0 : (n == 0) = false := by simpa using hn0
          have hxz := hwh.out hr0 hn0
          have hzs := hzs.out hr0 hn0
          have hz6 : z.size ≤ 1000100 := by omega
          clear hzs hn0 hlt hk hx' hp' hxs hpls hlast hlq hp0 hwh hpl1 hr0 hq
          replace hxz : x.toList = (z ++ ⟨#[46, 48]⟩).toList := by rw [hxz]
          go_wp2_with fail
          refine (HP3.out _ hN2).mono ?_
          rintro e w3 ⟨rfl, hN3⟩
          have hN3 := hN2.trans hN3
          go_wp2_with fail
          refine (HW.out _ hN3).mono ?_
          rintro e w4 ⟨rfl, hN4⟩
          go_wp2_with fail
          go_ret
          exact ⟨rfl, hN3.trans hN4⟩
      · have b0 : (rm == 0) = false := by simpa using hr0
        by_cases hpl1 : pl = 1
        · have e2 : (x.size : Int) - (k : Int) = 2 := by omega
          clear hlt hk hx' hp' hxs hpls hlast hlq hp0 hwh hpl1 hr0 hq
          go_wp2_with fail
          refine (HW.out _ hN2).mono ?_
          rintro e w3 ⟨rfl, hN3⟩
          go_wp2_with fail
          go_ret
          exact ⟨rfl, hN2.trans hN3⟩
        · have hL := hlq hpl1
          have hL8 : ((L : Int) == 48) = false := by have : (L : Int) ≠ 48 := fun h => hL (Int.ofNat_inj.1 h); simpa using this
          obtain ⟨r, hr⟩ : ∃ r, r = pl + 1 := ⟨_, rfl⟩
          have e2 : (x.size : Int) - (k : Int) = (r : Int) := by omega
          have dr4 : decide ((4 : Int) < (r : Int)) = false := decide_eq_false (by omega)
          have dr2 : decide ((2 : Int) < (r : Int)) = true := decide_eq_true (by omega)
          have hr6 : (r : Int) ≤ 1000010 := by omega
          clear hlt hk hx' hp' hxs hpls hlast hlq hp0 hwh hpl1 hr0 hq hL hr
          go_wp2_with fail
          refine (HW.out _ hN2).mono ?_
          rintro e w3 ⟨rfl, hN3⟩
          go_wp2_with fail
          go_ret
          exact ⟨rfl, hN2.trans hN3⟩
end Go.Proofs.YtihmnkbkigkjjaaDoor
