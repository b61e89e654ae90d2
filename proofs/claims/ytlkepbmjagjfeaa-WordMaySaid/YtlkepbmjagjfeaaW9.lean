/- The law of which words may not be, walked. -/
import Derived.Test.YtlkepbmjagjfeaaW7
import Derived.Test.YtlkepbmjagjfeaaW8
namespace Go.Proofs.Ytlkepbmjagjfeaa
open Go.RowKit Go.Shelf Go.Cs
attribute [local go_sem] Oper.semAt_some
set_option maxRecDepth 100000 in
set_option maxHeartbeats 1000000 in
theorem may_wakes (x : Nat) (b : Int) (hx : x < 18446744073709551616) (h1 : -9223372036854775808 ≤ b) (h2 : b ≤ 9223372036854775807) (h : rightB x = false ∨ b < 0 ∨ 63 < b) (w : World) :
    Calls Try.prog 5 #[.int .u64 x, .int .i64 b] w fun e w' => e = .returned (.bool true) ∧ New w w' := by
  have HR := Lib.hid (right_any x hx)
  obtain ⟨r, hr⟩ : ∃ r, rightB x = r := ⟨_, rfl⟩
  rw [hr] at HR h
  clear hr
  cases r with
  | false =>
    clear h
    go_enter Try.func5, Try.ntmps5
    go_wp2_with fail
    refine (HR.out _).mono ?_
    rintro e w1 ⟨rfl, hN1⟩
    go_wp2_with fail
    refine (wakes_any _).mono ?_
    rintro e w2 ⟨rfl, hN2⟩
    go_wp2_with fail
    go_ret
    exact ⟨rfl, hN1.trans hN2⟩
  | true =>
    rcases h with h | h | h
    · cases h
    · go_enter Try.func5, Try.ntmps5
      go_wp2_with fail
      refine (HR.out _).mono ?_
      rintro e w1 ⟨rfl, hN1⟩
      go_wp2_with fail
      refine (wakes_any _).mono ?_
      rintro e w2 ⟨rfl, hN2⟩
      go_wp2_with fail
      go_ret
      exact ⟨rfl, hN1.trans hN2⟩
    · have h0 : ¬ b < 0 := by omega
      go_enter Try.func5, Try.ntmps5
      go_wp2_with fail
      refine (HR.out _).mono ?_
      rintro e w1 ⟨rfl, hN1⟩
      go_wp2_with fail
      refine (wakes_any _).mono ?_
      rintro e w2 ⟨rfl, hN2⟩
      go_wp2_with fail
      go_ret
      exact ⟨rfl, hN1.trans hN2⟩
theorem twiceX_lt {x n s : Nat} (hn : n < 8) (hs : s < 8) : twiceX x n s < 18446744073709551616 := by
  unfold twiceX
  have hp : 2 ^ (7 * n) ≤ 2 ^ 49 := Nat.pow_le_pow_right (n := 2) (by decide) (by omega)
  have h1 : (120 + s) * 2 ^ (7 * n) ≤ 127 * 2 ^ 49 := Nat.mul_le_mul (by omega) hp
  have h2 : x % 2 ^ 60 ||| (120 + s) * 2 ^ (7 * n) < 2 ^ 60 := Nat.or_lt_two_pow (Nat.mod_lt _ (by decide)) (by omega)
  omega
theorem twice_val (x n s : Nat) (hx : x < 18446744073709551616) (hn : n < 8) (hs : s < 8) :
    IntKind.u64.wrap (bits .or .u64 (bits .and .u64 (x : Int) 1152921504606846975) (IntKind.u64.wrap ((120 + (s : Int)) * 2 ^ (7 * n))) + ((n : Int) + 1) * 1152921504606846976) = (twiceX x n s : Int) := by
  have hp : 2 ^ (7 * n) ≤ 2 ^ 49 := Nat.pow_le_pow_right (n := 2) (by decide) (by omega)
  have h1 : (120 + s) * 2 ^ (7 * n) ≤ 127 * 2 ^ 49 := Nat.mul_le_mul (by omega) hp
  have e1 : bits .and .u64 (x : Int) 1152921504606846975 = ((x % 2 ^ 60 : Nat) : Int) := by
    rw [show (1152921504606846975 : Int) = ((1152921504606846975 : Nat) : Int) from rfl, and_u64 x _ hx (by decide)]
    congr 1
    exact nat_mask60 x
  have e2 : (120 + (s : Int)) * 2 ^ (7 * n) = (((120 + s) * 2 ^ (7 * n) : Nat) : Int) := by rw [cast_pow, Int.natCast_mul]; rfl
  have e3 : ((n : Int) + 1) * 1152921504606846976 = (((n + 1) * 2 ^ 60 : Nat) : Int) := by simp only [Nat.reducePow]; omega
  have e4 : IntKind.u64.wrap (((120 + s) * 2 ^ (7 * n) : Nat) : Int) = (((120 + s) * 2 ^ (7 * n) : Nat) : Int) := by rw [wrapN, Nat.mod_eq_of_lt (by omega)]
  have e5 : bits .or .u64 ((x % 2 ^ 60 : Nat) : Int) (((120 + s) * 2 ^ (7 * n) : Nat) : Int) = ((x % 2 ^ 60 ||| (120 + s) * 2 ^ (7 * n) : Nat) : Int) := or_u64 _ _ (by omega) (by omega)
  rw [e1, e2, e4, e5, e3, ← Int.natCast_add, wrapN]
  exact congrArg Nat.cast (Nat.mod_eq_of_lt (twiceX_lt (x := x) hn hs))
set_option maxRecDepth 100000 in
set_option maxHeartbeats 2000000 in
theorem may_walk (x b : Nat) (hx : x < 18446744073709551616) (hb : b < 64) (hr : rightB x = true) (w : World) :
    Calls Try.prog 5 #[.int .u64 x, .int .i64 b] w fun e w' => e = .returned (.bool true) ∧ New w w' := by
  have hR := right_any x hx
  rw [hr] at hR
  have HR := Lib.hid hR
  obtain ⟨n, hn⟩ : ∃ n, x / 2 ^ 60 = n := ⟨_, rfl⟩
  have hn8 : n ≤ 8 := by rw [← hn]; exact right_le hr
  obtain ⟨o, ho⟩ : ∃ o, x ^^^ 2 ^ b = o := ⟨_, rfl⟩
  have hp64 : 2 ^ b < 18446744073709551616 := Nat.lt_of_lt_of_le (Nat.pow_lt_pow_right (by decide) hb) (Nat.le_refl _)
  have ho64 : o < 18446744073709551616 := by rw [← ho]; exact Nat.xor_lt_two_pow (n := 64) hx hp64
  have hO := right_any o ho64
  have f1 : 56 ≤ b → rightB o = false := fun h => by rw [← ho]; exact may_high hr h
  have f2 : 7 * n ≤ b → rightB o = false := fun h => by rw [← ho]; exact may_beyond hr hn h
  have f3 : b / 7 < n → b % 7 = 6 → rightB o = false := fun h h' => by rw [← ho]; exact may_there hr hn h h'
  obtain ⟨t, ht⟩ : ∃ t, 2 ^ b = t := ⟨_, rfl⟩
  have e2 : bits .xor .u64 (x : Int) (t : Int) = (o : Int) := by rw [← ht, xor_u64 x _ hx hp64, ho]
  have e1 : IntKind.u64.wrap (2 ^ b) = (t : Int) := by rw [cast_pow, wrapN, Nat.mod_eq_of_lt hp64, ht]
  have e3 : (x : Int) / 1152921504606846976 = (n : Int) := by rw [← hn]; rfl
  have hA : 0 < n → n < 8 → ∀ w, Calls Try.prog 19 #[.int .u64 x, .int .i64 ((n : Int) - 1)] w fun e w' => e = .returned (.tuple #[.int .i64 (place x (n - 1) % 8 : Nat), .int .i64 (place x (n - 1) / 8 % 8 : Nat), .bool true]) ∧ New w w' := fun d0 d8 w => by
    have h := at_any' x ((n : Int) - 1) hx w
    have hm : manyN x = n := by unfold manyN; rw [hr, ← hn]; rfl
    rw [atF, if_pos (by rw [hm]; omega), show ((n : Int) - 1).toNat = n - 1 by omega] at h
    exact h
  obtain ⟨s, hs, hs8⟩ : ∃ s, place x (n - 1) % 8 = s ∧ s < 8 := ⟨_, rfl, Nat.mod_lt _ (by decide)⟩
  obtain ⟨u, hu, hu8⟩ : ∃ s, place x (n - 1) / 8 % 8 = s ∧ s < 8 := ⟨_, rfl, Nat.mod_lt _ (by decide)⟩
  rw [hs, hu] at hA
  have hT : 0 < n → n < 8 → ∀ w, Calls Try.prog 18 #[.int .u64 (twiceX x n s)] w fun e w' => e = .returned (.bool false) ∧ New w w' := fun d0 d8 w => by
    have h := right_any _ (twiceX_lt (x := x) d8 hs8) w
    rwa [show rightB (twiceX x n s) = false by rw [← hs]; exact may_twice hr hn d0 d8] at h
  have HA := Lib.hid hA
  have HT := Lib.hid hT
  clear hR hA hT hs hu hn ht hp64
  go_enter Try.func5, Try.ntmps5
  go_wp2_with fail
  refine (HR.out _).mono ?_
  rintro e w1 ⟨rfl, hN1⟩
  by_cases c1 : 56 ≤ b
  · rw [f1 c1] at hO
    have HO := Lib.hid hO
    clear hO f1 f2 f3 ho
    go_wp2_with fail
    refine (HO.out _).mono ?_
    rintro e w2 ⟨rfl, hN2⟩
    have hNN := hN1.trans hN2
    by_cases d0 : 0 < n
    · by_cases d8 : n < 8
      · go_wp2_with fail
        refine (HA.out d0 d8 _).mono ?_
        rintro e w3 ⟨rfl, hN3⟩
        go_wp2_with fail
        rw [twice_val x n s hx d8 hs8]
        refine (HT.out d0 d8 _).mono ?_
        rintro e w4 ⟨rfl, hN4⟩
        go_wp2_with fail
        refine (wakes_any _).mono ?_
        rintro e w5 ⟨rfl, hN5⟩
        go_wp2_with fail
        go_ret
        exact ⟨rfl, ((hNN.trans hN3).trans hN4).trans hN5⟩
      · first
        | (exfalso; omega)
        | (go_wp2_with fail
           refine (wakes_any _).mono ?_
           rintro e w5 ⟨rfl, hN5⟩
           go_wp2_with fail
           go_ret
           exact ⟨rfl, hNN.trans hN5⟩)
    · first
      | (exfalso; omega)
      | (go_wp2_with fail
         refine (wakes_any _).mono ?_
         rintro e w5 ⟨rfl, hN5⟩
         go_wp2_with fail
         go_ret
         exact ⟨rfl, hNN.trans hN5⟩)
  · by_cases c2 : n ≤ b / 7
    · rw [f2 (by omega)] at hO
      have HO := Lib.hid hO
      clear hO f1 f2 f3 ho
      go_wp2_with fail
      refine (HO.out _).mono ?_
      rintro e w2 ⟨rfl, hN2⟩
      have hNN := hN1.trans hN2
      clear hN2
      by_cases c3 : b % 7 = 6
      · have c3' : (((b : Int) % 7) == 6) = true := by simp; omega
        go_wp2_with fail
        refine (HO.out _).mono ?_
        rintro e w2' ⟨rfl, hN2'⟩
        have hNN := hNN.trans hN2'
        by_cases d0 : 0 < n
        · by_cases d8 : n < 8
          · go_wp2_with fail
            refine (HA.out d0 d8 _).mono ?_
            rintro e w3 ⟨rfl, hN3⟩
            go_wp2_with fail
            rw [twice_val x n s hx d8 hs8]
            refine (HT.out d0 d8 _).mono ?_
            rintro e w4 ⟨rfl, hN4⟩
            go_wp2_with fail
            refine (wakes_any _).mono ?_
            rintro e w5 ⟨rfl, hN5⟩
            go_wp2_with fail
            go_ret
            exact ⟨rfl, ((hNN.trans hN3).trans hN4).trans hN5⟩
          · first
            | (exfalso; omega)
            | (go_wp2_with fail
               refine (wakes_any _).mono ?_
               rintro e w5 ⟨rfl, hN5⟩
               go_wp2_with fail
               go_ret
               exact ⟨rfl, hNN.trans hN5⟩)
        · first
          | (exfalso; omega)
          | (go_wp2_with fail
             refine (wakes_any _).mono ?_
             rintro e w5 ⟨rfl, hN5⟩
             go_wp2_with fail
             go_ret
             exact ⟨rfl, hNN.trans hN5⟩)
      · have c3' : (((b : Int) % 7) == 6) = false := by simp; omega
        by_cases d0 : 0 < n
        · by_cases d8 : n < 8
          · go_wp2_with fail
            refine (HA.out d0 d8 _).mono ?_
            rintro e w3 ⟨rfl, hN3⟩
            go_wp2_with fail
            rw [twice_val x n s hx d8 hs8]
            refine (HT.out d0 d8 _).mono ?_
            rintro e w4 ⟨rfl, hN4⟩
            go_wp2_with fail
            refine (wakes_any _).mono ?_
            rintro e w5 ⟨rfl, hN5⟩
            go_wp2_with fail
            go_ret
            exact ⟨rfl, ((hNN.trans hN3).trans hN4).trans hN5⟩
          · first
            | (exfalso; omega)
            | (go_wp2_with fail
               refine (wakes_any _).mono ?_
               rintro e w5 ⟨rfl, hN5⟩
               go_wp2_with fail
               go_ret
               exact ⟨rfl, hNN.trans hN5⟩)
        · first
          | (exfalso; omega)
          | (go_wp2_with fail
             refine (wakes_any _).mono ?_
             rintro e w5 ⟨rfl, hN5⟩
             go_wp2_with fail
             go_ret
             exact ⟨rfl, hNN.trans hN5⟩)
    · by_cases c3 : b % 7 = 6
      · rw [f3 (by omega) c3] at hO
        have HO := Lib.hid hO
        have c3' : (((b : Int) % 7) == 6) = true := by simp; omega
        clear hO f1 f2 f3 ho
        go_wp2_with fail
        refine (HO.out _).mono ?_
        rintro e w2 ⟨rfl, hN2⟩
        have hNN := hN1.trans hN2
        by_cases d0 : 0 < n
        · by_cases d8 : n < 8
          · go_wp2_with fail
            refine (HA.out d0 d8 _).mono ?_
            rintro e w3 ⟨rfl, hN3⟩
            go_wp2_with fail
            rw [twice_val x n s hx d8 hs8]
            refine (HT.out d0 d8 _).mono ?_
            rintro e w4 ⟨rfl, hN4⟩
            go_wp2_with fail
            refine (wakes_any _).mono ?_
            rintro e w5 ⟨rfl, hN5⟩
            go_wp2_with fail
            go_ret
            exact ⟨rfl, ((hNN.trans hN3).trans hN4).trans hN5⟩
          · first
            | (exfalso; omega)
            | (go_wp2_with fail
               refine (wakes_any _).mono ?_
               rintro e w5 ⟨rfl, hN5⟩
               go_wp2_with fail
               go_ret
               exact ⟨rfl, hNN.trans hN5⟩)
        · first
          | (exfalso; omega)
          | (go_wp2_with fail
             refine (wakes_any _).mono ?_
             rintro e w5 ⟨rfl, hN5⟩
             go_wp2_with fail
             go_ret
             exact ⟨rfl, hNN.trans hN5⟩)
      · have c3' : (((b : Int) % 7) == 6) = false := by simp; omega
        clear hO f1 f2 f3 ho
        have hNN := hN1
        by_cases d0 : 0 < n
        · by_cases d8 : n < 8
          · go_wp2_with fail
            refine (HA.out d0 d8 _).mono ?_
            rintro e w3 ⟨rfl, hN3⟩
            go_wp2_with fail
            rw [twice_val x n s hx d8 hs8]
            refine (HT.out d0 d8 _).mono ?_
            rintro e w4 ⟨rfl, hN4⟩
            go_wp2_with fail
            refine (wakes_any _).mono ?_
            rintro e w5 ⟨rfl, hN5⟩
            go_wp2_with fail
            go_ret
            exact ⟨rfl, ((hNN.trans hN3).trans hN4).trans hN5⟩
          · first
            | (exfalso; omega)
            | (go_wp2_with fail
               refine (wakes_any _).mono ?_
               rintro e w5 ⟨rfl, hN5⟩
               go_wp2_with fail
               go_ret
               exact ⟨rfl, hNN.trans hN5⟩)
        · first
          | (exfalso; omega)
          | (go_wp2_with fail
             refine (wakes_any _).mono ?_
             rintro e w5 ⟨rfl, hN5⟩
             go_wp2_with fail
             go_ret
             exact ⟨rfl, hNN.trans hN5⟩)
theorem may_all (x : Nat) (b : Int) (hx : x < 18446744073709551616) (h1 : -9223372036854775808 ≤ b) (h2 : b ≤ 9223372036854775807) (w : World) :
    Calls Try.prog 5 #[.int .u64 x, .int .i64 b] w fun e w' => e = .returned (.bool true) ∧ New w w' := by
  by_cases h : rightB x = true ∧ 0 ≤ b ∧ b ≤ 63
  · obtain ⟨hr, h0, h63⟩ := h
    obtain ⟨b, rfl⟩ := Int.eq_ofNat_of_zero_le h0
    exact may_walk x b hx (by omega) hr w
  · refine may_wakes x b hx h1 h2 ?_ w
    by_cases hr : rightB x = true
    · by_cases h0 : b < 0
      · exact .inr (.inl h0)
      · exact .inr (.inr (by
          by_cases h3 : 63 < b
          · exact h3
          · exact absurd ⟨hr, by omega, by omega⟩ h))
    · exact .inl (by simpa using hr)
end Go.Proofs.Ytlkepbmjagjfeaa
