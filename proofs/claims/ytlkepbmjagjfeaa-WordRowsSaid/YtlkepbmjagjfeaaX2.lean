/- The law that a word that may be is told by its rows, walked. -/
import Derived.Test.YtlkepbmjagjfeaaX1
import Derived.Test.YtlkepbmjagjfeaaW7
namespace Go.Proofs.Ytlkepbmjagjfeaa
open Go.RowKit Go.Shelf Go.Cs
attribute [local go_sem] Oper.semAt_some
/-- What Rows answers: eight slices that read as the rows. -/
def RowsR (x : Nat) (w : World) (e : Ending) (w' : World) : Prop := ∃ vs : List Value, e = .returned (.agg vs.toArray) ∧ vs.length = 8 ∧ (∀ u, u < 8 → ReadsI .i64 w' (vs.getD u undef) (rowsF x u)) ∧ New w w'
theorem rows_reads (x : Nat) (hx : x < 18446744073709551616) (w : World) : Calls Try.prog 15 #[.int .u64 x] w (RowsR x w) := by
  refine (rows_any x hx w).mono fun e w' h => ?_
  obtain ⟨v, rfl, ⟨vs, rfl, hl, hr⟩, hN⟩ := h
  exact ⟨vs, rfl, hl, fun u hu => .ofOwns (hr u hu), hN⟩
theorem rowsF_in (x u : Nat) (s : Int) (h : s ∈ rowsF x u) : 0 ≤ s ∧ s < 8 := by
  unfold rowsF at h
  split at h
  · rw [rowsX, List.mem_map] at h
    obtain ⟨j, _, rfl⟩ := h
    omega
  · cases h
theorem of_rows_any (x : Nat) (vs : List Value) (hl : vs.length = 8) (w : World) (hr : ∀ u, u < 8 → ReadsI .i64 w (vs.getD u undef) (rowsF x u)) :
    Calls Try.prog 16 #[.agg vs.toArray] w fun e w' => e = .returned (pair (if rightB x then x else 0, true)) ∧ New w w' := by
  have h := of_any vs hl (rowsF x) (fun u s hs => by have := rowsF_in x u s hs; omega) w hr
  have e : ofF (rowsF x) = (if rightB x then x else 0, true) := by
    cases hb : rightB x with
    | true => simpa using of_rows hb
    | false =>
      have : rowsF x = fun _ => [] := by funext u; unfold rowsF; rw [hb]; rfl
      rw [this]; simpa using of_none
  rwa [e] at h
def part (x n k : Nat) : Nat := n * 2 ^ 60 + x % 2 ^ (7 * k)
theorem part_lt {x n k : Nat} (hn : n ≤ 8) (hk : k ≤ 8) : part x n k < 18446744073709551616 := by
  have hp : 2 ^ (7 * k) ≤ 2 ^ 56 := Nat.pow_le_pow_right (n := 2) (by decide) (by omega)
  have := Nat.mod_lt x (Nat.two_pow_pos (7 * k))
  unfold part
  omega
theorem part_next {x n k : Nat} (h : rightB x = true) (hn : x / 2 ^ 60 = n) (hk : k < n) :
    bits .or .u64 (part x n k : Int) (IntKind.u64.wrap ((64 + 8 * ((place x k / 8 % 8 : Nat) : Int) + ((place x k % 8 : Nat) : Int)) * 2 ^ (7 * k))) = (part x n (k + 1) : Int) := by
  obtain ⟨a1, a2, a3⟩ := right_top h hn
  have ht := stt_there a3 hk
  have hpl := place_lt x k
  have e1 : (64 + 8 * ((place x k / 8 % 8 : Nat) : Int) + ((place x k % 8 : Nat) : Int)) = (place x k : Int) := by omega
  have hp : 2 ^ (7 * k) ≤ 2 ^ 49 := Nat.pow_le_pow_right (n := 2) (by decide) (by omega)
  have hm : place x k * 2 ^ (7 * k) ≤ 127 * 2 ^ 49 := Nat.mul_le_mul (by omega) hp
  rw [e1, cast_pow, ← Int.natCast_mul, wrapN, Nat.mod_eq_of_lt (by omega), or_u64 _ _ (part_lt a1 (by omega)) (by omega)]
  congr 1
  have hlow := Nat.mod_lt x (Nat.two_pow_pos (7 * k))
  unfold part
  have j1 : n * 2 ^ 60 + x % 2 ^ (7 * k) = n * 2 ^ 60 ||| x % 2 ^ (7 * k) := (nat_join 60 _ _ (Nat.mul_mod_left _ _) (by omega)).symm
  rw [j1, Nat.or_assoc, Nat.or_comm (x % 2 ^ (7 * k)), nat_join (7 * k) _ _ (Nat.mul_mod_left _ _) hlow, trunc_succ, Nat.add_comm (x % 2 ^ (7 * k))]
  exact nat_join 60 _ _ (Nat.mul_mod_left _ _) (by omega)
theorem part_zero (x n : Nat) : part x n 0 = n * 2 ^ 60 := by simp [part, Nat.mod_one]
theorem part_all {x n : Nat} (h : rightB x = true) (hn : x / 2 ^ 60 = n) : part x n n = x := trunc_all h hn
set_option maxRecDepth 100000 in
set_option maxHeartbeats 2000000 in
theorem back_no (x : Nat) (hx : x < 18446744073709551616) (hr : rightB x = false) (w : World) :
    Calls Try.prog 4 #[.int .u64 x] w fun e w' => e = .returned (.bool true) ∧ New w w' := by
  have hR := right_any x hx
  have hM := many_any x hx
  have hO := of_rows_any x
  rw [hr] at hR hO
  rw [show manyN x = 0 by unfold manyN; rw [hr]; rfl] at hM
  simp only [Bool.false_eq_true, if_false, pair] at hO
  have HR := Lib.hid hR
  have HM := Lib.hid hM
  have HO := Lib.hid hO
  clear hR hM hO hr
  go_enter Try.func4, Try.ntmps4
  go_wp2_with fail
  refine (rows_reads x hx _).mono ?_
  rintro e w1 ⟨vs, rfl, hl, hrd, hN1⟩
  go_wp2_with fail
  refine (HO.out vs hl _ hrd).mono ?_
  rintro e w2 ⟨rfl, hN2⟩
  go_wp2_with fail
  refine (HM.out _).mono ?_
  rintro e w3 ⟨rfl, hN3⟩
  go_wp2_with fail
  refine (HR.out _).mono ?_
  rintro e w4 ⟨rfl, hN4⟩
  go_wp2_with fail
  refine (wakes_any _).mono ?_
  rintro e w5 ⟨rfl, hN5⟩
  go_wp2_with fail
  go_ret
  exact ⟨rfl, (((hN1.trans hN2).trans hN3).trans hN4).trans hN5⟩
set_option maxRecDepth 100000 in
set_option maxHeartbeats 2000000 in
theorem back_yes (x : Nat) (hx : x < 18446744073709551616) (hr : rightB x = true) (w : World) :
    Calls Try.prog 4 #[.int .u64 x] w fun e w' => e = .returned (.bool true) ∧ New w w' := by
  obtain ⟨n, hn⟩ : ∃ n, x / 2 ^ 60 = n := ⟨_, rfl⟩
  obtain ⟨a1, a2, a3⟩ := right_top hr hn
  have hR := right_any x hx
  have hM := many_any x hx
  have hO := of_rows_any x
  have hm : manyN x = n := by unfold manyN; rw [hr, ← hn]; rfl
  rw [hr] at hR hO
  rw [hm] at hM
  simp only [if_true, pair] at hO
  have hA : ∀ k, k < n → ∀ w, Calls Try.prog 19 #[.int .u64 x, .int .i64 k] w fun e w' => e = .returned (.tuple #[.int .i64 (place x k % 8 : Nat), .int .i64 (place x k / 8 % 8 : Nat), .bool true]) ∧ New w w' := fun k hk w => by
    have h := at_any' x k hx w
    rw [atF, if_pos (by rw [hm]; omega), Int.toNat_natCast] at h
    exact h
  have hB : ∀ w, Calls Try.prog 19 #[.int .u64 x, .int .i64 n] w fun e w' => e = .returned (.tuple #[.int .i64 0, .int .i64 0, .bool false]) ∧ New w w' := fun w => by
    have h := at_any' x n hx w
    rw [atF, if_neg (by rw [hm]; omega)] at h
    exact h
  have hF : ∀ k, k < n → ∀ w, Calls Try.prog 20 #[.int .u64 x, .int .i64 (place x k % 8 : Nat)] w fun e w' => e = .returned (.tuple #[.int .i64 k, .bool true]) ∧ New w w' := fun k hk w => by
    have h := find_any x (place x k % 8 : Nat) hx w
    rw [find_slot hr hn hk] at h
    exact h
  have hP : ∀ k, k < n → _ := fun k hk => part_next hr hn hk
  have e3 : (x : Int) / 1152921504606846976 = (n : Int) := by rw [← hn]; rfl
  have p0 : (n : Int) * 1152921504606846976 = (part x n 0 : Int) := by rw [part_zero]; simp
  have HE := Lib.hid (part_all hr hn)
  have HR := Lib.hid hR
  have HM := Lib.hid hM
  have HO := Lib.hid hO
  have HA := Lib.hid hA
  have HB := Lib.hid hB
  have HF := Lib.hid hF
  have HP := Lib.hid hP
  clear hR hM hO hA hB hF hP hr hn hm a2 a3
  go_enter Try.func4, Try.ntmps4
  go_wp2_with fail
  refine (rows_reads x hx _).mono ?_
  rintro e w1 ⟨vs, rfl, hl, hrd, hN1⟩
  go_wp2_with fail
  refine (HO.out vs hl _ hrd).mono ?_
  rintro e w2 ⟨rfl, hN2⟩
  go_wp2_with fail
  refine (HM.out _).mono ?_
  rintro e w3 ⟨rfl, hN3⟩
  go_wp2_with fail
  refine (HR.out _).mono ?_
  rintro e w4 ⟨rfl, hN4⟩
  have hNN := ((hN1.trans hN2).trans hN3).trans hN4
  clear hN1 hN2 hN3 hN4 hl
  have Hrd := Lib.hid hrd
  clear hrd
  go_wp2_with fail
  go_loopw [6, 7] (fun p i wr => ∃ k : Nat, k ≤ n ∧ i = .int .i64 k ∧ p = .int .u64 (part x n k) ∧ New w wr) (fun _ i _ => n - (intOf i).toNat)
  case atStart => exact ⟨0, Nat.zero_le _, rfl, rfl, hNN⟩
  case round =>
    obtain ⟨k, hk, rfl, rfl, hN⟩ := hrel
    clear hNN p0
    by_cases hlt : k < n
    · have hA := HA.out k hlt
      have hF := HF.out k hlt
      have hP := HP.out k hlt
      have hpl := place_lt x k
      obtain ⟨sl, hsl, hsl8⟩ : ∃ s, place x k % 8 = s ∧ s < 8 := ⟨_, rfl, Nat.mod_lt _ (by decide)⟩
      obtain ⟨u, hu, hu8⟩ : ∃ s, place x k / 8 % 8 = s ∧ s < 8 := ⟨_, rfl, Nat.mod_lt _ (by decide)⟩
      rw [hsl] at hA hF hP
      rw [hu] at hA hP
      have hA := Lib.hid hA
      have hF := Lib.hid hF
      clear hsl hu
      go_wp2_with fail
      refine (hA.out _).mono ?_
      rintro e w5 ⟨rfl, hN5⟩
      go_wp2_with fail
      refine (hF.out _).mono ?_
      rintro e w6 ⟨rfl, hN6⟩
      have hN := (hN.trans hN5).trans hN6
      clear hN5 hN6
      go_wp2_with fail
      go_roundw
      case rel => exact ⟨k + 1, by omega, by go_num, rfl, hN⟩
      case measure => simp [intOf]; omega
    · obtain rfl : n = k := by omega
      rw [HE.out]
      go_wp2_with fail
      refine (HB.out _).mono ?_
      rintro e w5 ⟨rfl, hN5⟩
      have hN := hN.trans hN5
      clear hN5
      go_wp2_with fail
      refine (wakes_any _).mono ?_
      rintro e w6 ⟨rfl, hN6⟩
      have hN := hN.trans hN6
      clear hN6
      go_wp2_with fail
      go_ret
      exact ⟨rfl, hN⟩
theorem back_all (x : Nat) (hx : x < 18446744073709551616) (w : World) :
    Calls Try.prog 4 #[.int .u64 x] w fun e w' => e = .returned (.bool true) ∧ New w w' := by
  cases hr : rightB x with
  | true => exact back_yes x hx hr w
  | false => exact back_no x hx hr w
end Go.Proofs.Ytlkepbmjagjfeaa
