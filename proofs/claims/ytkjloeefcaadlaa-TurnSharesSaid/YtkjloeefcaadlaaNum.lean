/- Numbers: shifts and bits of words of 64 bits, told of natural numbers. -/
import Derived.WalkKit
import Derived.Laws.BitsAllLaws
namespace Go.Cs
open Go.RowKit

theorem cast_pow (s : Nat) : ((2 : Int) ^ s) = ((2 ^ s : Nat) : Int) := by simp

theorem div_cast (x s : Nat) : (x : Int) / 2 ^ s = ((x / 2 ^ s : Nat) : Int) := by rw [cast_pow]; rfl

theorem div_min (x s : Nat) (hx : x < 18446744073709551616) : x / 2 ^ min s 64 = x / 2 ^ s := by
  by_cases h : s ≤ 64
  · rw [Nat.min_eq_left h]
  · rw [Nat.min_eq_right (by omega), Nat.div_eq_of_lt (by exact hx), Nat.div_eq_of_lt]
    exact Nat.lt_of_lt_of_le hx (Nat.pow_le_pow_right (show 2 > 0 by decide) (show 64 ≤ s by omega))

theorem shr_u64 (x s : Nat) (hx : x < 18446744073709551616) (yk : IntKind) :
    Op.shift .shr .u64 (x : Int) yk (s : Int) = pure (.int .u64 ((x / 2 ^ s : Nat) : Int)) := by
  rw [shift_shr_any .u64 yk _ _ (by omega)]
  simp only [Int.toNat_natCast, IntKind.bits]
  rw [div_cast, div_min x s hx]

theorem shl_u64 (x s : Nat) (yk : IntKind) :
    Op.shift .shl .u64 (x : Int) yk (s : Int) = pure (.int .u64 ((x * 2 ^ s % 18446744073709551616 : Nat) : Int)) := by
  unfold Op.shift
  rw [if_neg (by omega)]
  simp only [Int.toNat_natCast, IntKind.bits, IntKind.wrap_u64]
  have e : ((x : Int) * 2 ^ min s 64) % 18446744073709551616 = ((x * 2 ^ s % 18446744073709551616 : Nat) : Int) := by
    by_cases h : s ≤ 64
    · rw [Nat.min_eq_left h, cast_pow, ← Int.natCast_mul, show (18446744073709551616 : Int) = ((18446744073709551616 : Nat) : Int) from rfl, ← Int.natCast_emod]
    · rw [Nat.min_eq_right (by omega)]
      obtain ⟨d, rfl⟩ : ∃ d, s = 64 + d := ⟨s - 64, by omega⟩
      rw [Nat.pow_add, ← Nat.mul_assoc, Nat.mul_right_comm, show (2 : Nat) ^ 64 = 18446744073709551616 from rfl, Nat.mul_mod_left]
      rw [show (2 : Int) ^ 64 = 18446744073709551616 from rfl, Int.mul_emod_left]
      rfl
  rw [e]

theorem and_u64 (a b : Nat) (ha : a < 18446744073709551616) (hb : b < 18446744073709551616) : bits .and .u64 (a : Int) (b : Int) = ((a &&& b : Nat) : Int) := u64_and_nat a b ha hb
theorem or_u64 (a b : Nat) (ha : a < 18446744073709551616) (hb : b < 18446744073709551616) : bits .or .u64 (a : Int) (b : Int) = ((a ||| b : Nat) : Int) := u64_or_nat a b ha hb
theorem xor_u64 (a b : Nat) (ha : a < 18446744073709551616) (hb : b < 18446744073709551616) : bits .xor .u64 (a : Int) (b : Int) = ((a ^^^ b : Nat) : Int) := u64_xor_nat a b ha hb
theorem andNot_u64 (a b : Nat) (ha : a < 18446744073709551616) (hb : b < 18446744073709551616) : bits .andNot .u64 (a : Int) (b : Int) = ((a &&& (18446744073709551615 - b) : Nat) : Int) := u64_andNot_nat a b ha hb
theorem and7 (a : Nat) (ha : a < 18446744073709551616) : bits .and .u64 (a : Int) 7 = ((a % 8 : Nat) : Int) := by
  rw [← nat_mask3]; exact and_u64 a 7 ha (by decide)
theorem and127 (a : Nat) (ha : a < 18446744073709551616) : bits .and .u64 (a : Int) 127 = ((a % 128 : Nat) : Int) := by
  rw [← nat_mask7]; exact and_u64 a 127 ha (by decide)
theorem and64 (a : Nat) (ha : a < 18446744073709551616) : bits .and .u64 (a : Int) 64 = ((a / 64 % 2 * 64 : Nat) : Int) := by
  rw [show ((64 : Int)) = ((64 : Nat) : Int) from rfl, and_u64 a 64 ha (by decide)]
  congr 1
  exact nat_bit 6 a
theorem wrap64_nat (a : Nat) (h : a < 9223372036854775808) : wrap64 (a : Int) = (a : Int) := IntWalk.wrap64_in _ ⟨by omega, by omega⟩
theorem div_lt64 (x s : Nat) (hx : x < 18446744073709551616) : x / 2 ^ s < 18446744073709551616 := Nat.lt_of_le_of_lt (Nat.div_le_self _ _) hx
theorem and7_i64 (n : Int) (h1 : -9223372036854775808 ≤ n) (h2 : n ≤ 9223372036854775807) : bits .and .i64 n 7 = n % 8 := by
  have e : (BitVec.ofInt 64 n &&& BitVec.ofInt 64 7).toNat = (n % 8).toNat := by
    rw [BitVec.toNat_and, BitVec.toNat_ofInt, BitVec.toNat_ofInt]
    have : (7 % ((2 ^ 64 : Nat) : Int)).toNat = 7 := rfl
    rw [this, nat_mask3]
    simp only [Nat.reducePow]
    omega
  show IntKind.i64.wrap ((BitVec.ofInt 64 n &&& BitVec.ofInt 64 7).toNat : Int) = n % 8
  rw [e, IntKind.wrap_i64]
  omega
theorem and_mask (y m : Nat) : y &&& (2 ^ m - 1) = y % 2 ^ m := Nat.and_two_pow_sub_one_eq_mod y m
theorem xor_low (y m : Nat) : y ^^^ (y % 2 ^ m) = y - y % 2 ^ m := by
  have e : y - y % 2 ^ m = y / 2 ^ m * 2 ^ m := by have := Nat.div_add_mod y (2 ^ m); rw [Nat.mul_comm] at this; omega
  rw [e]
  apply Nat.eq_of_testBit_eq
  intro i
  rw [Nat.testBit_xor, Nat.testBit_mod_two_pow, Nat.testBit_mul_two_pow, Nat.testBit_div_two_pow]
  by_cases h : i < m
  · simp [h, Nat.not_le.2 h]
  · rw [Nat.add_comm]; simp [h, Nat.not_lt.1 h]
end Go.Cs
