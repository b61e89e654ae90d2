/- Numbers' texts (the program). -/
import Derived.Test.YtihmnkbkigkjjaaDoorZ8
import Derived.Lib.AppendIntMem
namespace Go.Proofs.YtihmnkbkigkjjaaDoor
open Go.RowKit Go.Shelf Go.Cs
attribute [local go_sem] Oper.semAt_some
set_option linter.unusedVariables false
set_option linter.unusedSimpArgs false
theorem itoa_any (n : Int) (h0 : -9223372036854775808 ≤ n) (h1 : n ≤ 9223372036854775807) (w : World) (hT : Tab w) :
    Calls Tryd.prog 14 #[.int .i64 n] w fun e w' => e = .returned (.string (tx (Lib.itoa n))) ∧ New w w' :=
  (Tryd.strconv_Itoa n h0 h1 w hT.pow).mono (by
    rintro e w' ⟨he, k, os, hw⟩
    exact ⟨he, by rw [hw]; exact Mods.below (Lib.below_grow w.heap.size w (Nat.le_refl _) k os) (Nat.le_refl _)⟩)
theorem cat_bl (a b : ByteArray) : a ++ b = tx (bl a ++ bl b) := by
  apply ByteArray.ext
  rw [ByteArray.data_append]
  apply Array.toList_inj.1
  rw [Array.toList_append]
theorem itoa_nat (n : Nat) : Lib.itoa (n : Int) = Lib.decDigits n := by
  unfold Lib.itoa
  rw [if_neg (by omega)]
  simp
theorem dec_size (n : Nat) (h : n ≤ 999999999999999) : (tx (Lib.decDigits n)).size ≤ 15 := by
  rw [tx_size]
  exact Bare.dec_len n 14 (by have := Bare.most_pow; omega)
theorem rep1_tx (c : UInt8) (new : Bare.Bs) (hc : new ≠ [c]) (s : ByteArray) (w : World) (hs : s.size ≤ 1000000) (hnew : new.length ≤ 10) (hT : Tab w) :
    Calls Tryd.prog 16 #[.string s, .string (tx [c]), .string (tx new)] w fun e w' => e = .returned (.string (tx (Bare.rep1 c new (bl s)))) ∧ New w w' := by
  obtain ⟨m, hm⟩ := hT.max
  have hcount := Lib.countB_mul_le (tx [c]) (by rw [tx_size]; simp) s.size s (Nat.le_refl _)
  rw [tx_size, List.length_singleton, Nat.mul_one] at hcount
  have hb : Lib.countB s (tx [c]) * (tx new).size ≤ 1000000 * 10 := by
    rw [tx_size]
    exact Nat.mul_le_mul (by omega) hnew
  refine (Tryd.strings_ReplaceAll s (tx [c]) (tx new) m w (by omega) hm (by rw [tx_size]; simp) (by omega)).mono ?_
  rintro e w' ⟨he, hB⟩
  refine ⟨?_, Mods.below hB (Nat.le_refl _)⟩
  rw [he, show (tx [c]).data.toList = [c] from rfl, show (tx new).data.toList = new from rfl, Bare.replaceAll_one c new _ hc]
set_option maxHeartbeats 4000000 in
theorem decimal_any (n : Int) (h0 : -999999999999999 ≤ n) (h1 : n ≤ 999999999999999) (w : World) (hT : Tab w) :
    Calls Tryd.prog 15 #[.int .i64 n] w fun e w' => e = .returned (.string (tx (Bare.decimal n))) ∧ New w w' := by
  have hN0 : New w w := Mods.refl _ _
  obtain ⟨m, hm⟩ : ∃ m : Nat, n.natAbs = m := ⟨_, rfl⟩
  have hml : m ≤ 999999999999999 := by omega
  have hd := Bare.decimal_fin n
  rw [hm] at hd
  rw [hd]
  clear hd
  have HI1 := Lib.hid (fun W (hN : New w W) => itoa_any ((1000 + m % 1000 : Nat) : Int) (by omega) (by omega) W (hT.new hN))
  have HI2 := Lib.hid (fun W (hN : New w W) => itoa_any ((m / 1000 : Nat) : Int) (by omega) (by omega) W (hT.new hN))
  rw [itoa_nat] at HI1 HI2
  have h4 := Bare.dec4 (m % 1000) (by omega)
  have hl4 : (Lib.decDigits (1000 + m % 1000)).length = 4 := by
    have h := congrArg List.length h4
    rw [List.length_drop] at h
    simp at h
    omega
  have hsl : ∀ W, (Instr.slice 9 (.string (tx (Lib.decDigits (1000 + m % 1000)))) (some (.int .i64 1)) none none).run Tryd.prog W = .ok (.string (tx ((Lib.decDigits (1000 + m % 1000)).drop 1))) W := fun W => run_sl_l (tx (Lib.decDigits (1000 + m % 1000))) 1 (by rw [tx_size]; omega) W
  have HTr := Lib.hid (fun W => (Tryd.strings_TrimRight_one (tx ((Lib.decDigits (1000 + m % 1000)).drop 1)) 48 (by decide) W (by rw [tx_size, List.length_drop]; omega)).mono fun e w' h => show e = .returned (.string (tx (Bare.trimR 48 ((Lib.decDigits (1000 + m % 1000)).drop 1)))) ∧ W = w' from ⟨by rw [h.1, ← trimB_lib], h.2.symm⟩)
  unfold Bare.fin
  have hz2 := dec_size (m / 1000) (by omega)
  obtain ⟨D4, hD4⟩ : ∃ x, tx (Lib.decDigits (1000 + m % 1000)) = x := ⟨_, rfl⟩
  obtain ⟨D3, hD3⟩ : ∃ x, (Lib.decDigits (1000 + m % 1000)).drop 1 = x := ⟨_, rfl⟩
  have hl3 : D3.length = 3 := by rw [← hD3, List.length_drop]; omega
  rw [hD4] at HI1 hsl
  rw [hD3] at hsl HTr ⊢
  have htl : (Bare.trimR 48 D3).length ≤ 3 := by
    obtain ⟨k, hk⟩ := Bare.trimR_spec 48 D3
    have := congrArg List.length hk
    rw [List.length_append] at this
    omega
  obtain ⟨P, hP⟩ : ∃ x, Bare.trimR 48 D3 = x := ⟨_, rfl⟩
  rw [hP] at HTr htl ⊢
  have hem := tx_empty P
  have hPz := tx_size P
  obtain ⟨pt, hpt⟩ : ∃ x, tx P = x := ⟨_, rfl⟩
  obtain ⟨wt, hwt⟩ : ∃ x, tx (Lib.decDigits (m / 1000)) = x := ⟨_, rfl⟩
  obtain ⟨d3, hd3⟩ : ∃ x, tx D3 = x := ⟨_, rfl⟩
  have hwl : Lib.decDigits (m / 1000) = bl wt := by rw [← hwt]
  have hpl : P = bl pt := by rw [← hpt]
  rw [hpt] at HTr hem hPz
  rw [hwt] at HI2 hz2
  rw [hd3] at hsl HTr
  rw [hwl]
  clear h4 hl4 hD4 hD3 hP hpt hwt hd3 hwl hl3
  have hptz : pt.size ≤ 3 := by omega
  have hrem : (m : Int) % 1000 = ((m % 1000 : Nat) : Int) := by omega
  have hquo : (m : Int) / 1000 = ((m / 1000 : Nat) : Int) := by omega
  have e1 : ((1000 + m % 1000 : Nat) : Int) = 1000 + (m : Int) % 1000 := by omega
  have e2 : ((m / 1000 : Nat) : Int) = (m : Int) / 1000 := by omega
  rw [e1] at HI1
  rw [e2] at HI2
  have hmb : (m : Int) ≤ 999999999999999 := by omega
  clear e1 e2 hrem hquo htl hPz
  have hNat : ∀ l : Bare.Bs, True := fun _ => trivial
  by_cases hneg : n < 0
  · obtain rfl : n = -(m : Int) := by omega
    rw [if_pos hneg]
    have hm0 : 0 < m := by omega
    clear hneg h0 h1 hm hml
    cases hP0 : P.isEmpty <;> rw [hP0] at hem
    · go_enter Tryd.func15, Tryd.ntmps15
      go_wp2_with (first | (go_at_call 14; with_reducible refine (HI1.out _ hN0).mono ?_; rintro e w1 ⟨rfl, hN1⟩) | (go_at_call 14; with_reducible refine (HI2.out _ hN1).mono ?_; rintro e w2 ⟨rfl, hN2⟩) | (go_at_call 28; refine (HTr.out _).mono ?_; rintro e w' ⟨rfl, rfl⟩))
      go_ret
      refine ⟨congrArg (fun x => Ending.returned (.string x)) (?_ : ⟨#[45]⟩ ++ wt ++ ⟨#[46]⟩ ++ pt = _), hN1.trans hN2⟩
      simp only [cat_bl]
      exact congrArg tx (by show [45] ++ bl wt ++ [46] ++ bl pt = _; simp)
    · go_enter Tryd.func15, Tryd.ntmps15
      go_wp2_with (first | (go_at_call 14; with_reducible refine (HI1.out _ hN0).mono ?_; rintro e w1 ⟨rfl, hN1⟩) | (go_at_call 14; with_reducible refine (HI2.out _ hN1).mono ?_; rintro e w2 ⟨rfl, hN2⟩) | (go_at_call 28; refine (HTr.out _).mono ?_; rintro e w' ⟨rfl, rfl⟩))
      go_ret
      refine ⟨congrArg (fun x => Ending.returned (.string x)) (?_ : ⟨#[45]⟩ ++ wt ++ ⟨#[46]⟩ ++ ⟨#[48]⟩ = _), hN1.trans hN2⟩
      simp only [cat_bl]
      exact congrArg tx (by show [45] ++ bl wt ++ [46] ++ [48] = _; simp)
  · obtain rfl : n = (m : Int) := by omega
    rw [if_neg hneg]
    have dn : decide ((m : Int) < 0) = false := decide_eq_false hneg
    clear hneg h0 h1 hm hml
    cases hP0 : P.isEmpty <;> rw [hP0] at hem
    · go_enter Tryd.func15, Tryd.ntmps15
      go_wp2_with (first | (go_at_call 14; with_reducible refine (HI1.out _ hN0).mono ?_; rintro e w1 ⟨rfl, hN1⟩) | (go_at_call 14; with_reducible refine (HI2.out _ hN1).mono ?_; rintro e w2 ⟨rfl, hN2⟩) | (go_at_call 28; refine (HTr.out _).mono ?_; rintro e w' ⟨rfl, rfl⟩))
      go_ret
      refine ⟨congrArg (fun x => Ending.returned (.string x)) (?_ : wt ++ ⟨#[46]⟩ ++ pt = _), hN1.trans hN2⟩
      simp only [cat_bl]
      exact congrArg tx (by show bl wt ++ [46] ++ bl pt = _; simp)
    · go_enter Tryd.func15, Tryd.ntmps15
      go_wp2_with (first | (go_at_call 14; with_reducible refine (HI1.out _ hN0).mono ?_; rintro e w1 ⟨rfl, hN1⟩) | (go_at_call 14; with_reducible refine (HI2.out _ hN1).mono ?_; rintro e w2 ⟨rfl, hN2⟩) | (go_at_call 28; refine (HTr.out _).mono ?_; rintro e w' ⟨rfl, rfl⟩))
      go_ret
      refine ⟨congrArg (fun x => Ending.returned (.string x)) (?_ : wt ++ ⟨#[46]⟩ ++ ⟨#[48]⟩ = _), hN1.trans hN2⟩
      simp only [cat_bl]
      exact congrArg tx (by show bl wt ++ [46] ++ [48] = _; simp)
end Go.Proofs.YtihmnkbkigkjjaaDoor
