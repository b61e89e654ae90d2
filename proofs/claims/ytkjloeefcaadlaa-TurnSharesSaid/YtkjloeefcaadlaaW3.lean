/- A word: a slot is found; a slot is pushed. -/
import Derived.Test.YtkjloeefcaadlaaW2
namespace Go.Proofs.Ytkjloeefcaadlaa
open Go.RowKit Go.Shelf Go.Cs
attribute [local go_sem] Oper.semAt_some
set_option maxHeartbeats 400000 in
theorem find1_any (p B : Nat) (s : Int) (W : World) (hp : p < 128) (hB : W.cell? ⟨B, 0, none⟩ = some (.int .i64 s)) :
    Calls Try.prog 162 #[.int .u64 p, .pointer (some ⟨B, 0, none⟩)] W fun e W' => e = .returned (.bool (((p % 8 : Nat) : Int) == s)) ∧ New W W' := by
  have H := Lib.hid (slot_any p)
  obtain ⟨q, hq⟩ : ∃ q, p % 8 = q := ⟨_, rfl⟩
  rw [hq] at H ⊢
  clear hq
  go_enter Try.func162, Try.ntmps162
  go_wp2
  go_quiet ((go_at_call 125; exact Calls.quiet_of_same ((H.out _ (by omega)).mono fun e w' h => ⟨h.1, h.2.symm⟩)))
  go_wp2
  go_ret
  exact ⟨rfl, (Mods.refl _ _).drewN _⟩
set_option maxHeartbeats 400000 in
theorem push1_any (p B : Nat) (u : Int) (W : World) (hp : p < 128) (hB : W.cell? ⟨B, 0, none⟩ = some (.int .i64 u)) :
    Calls Try.prog 129 #[.int .u64 p, .pointer (some ⟨B, 0, none⟩)] W fun e W' => e = .returned (.bool (decide (u < ((p / 8 % 8 : Nat) : Int)))) ∧ New W W' := by
  have H := Lib.hid (urgency_any p)
  obtain ⟨q, hq⟩ : ∃ q, p / 8 % 8 = q := ⟨_, rfl⟩
  rw [hq] at H ⊢
  clear hq
  go_enter Try.func129, Try.ntmps129
  go_wp2
  go_quiet ((go_at_call 130; exact Calls.quiet_of_same ((H.out _ (by omega)).mono fun e w' h => ⟨h.1, h.2.symm⟩)))
  go_wp2
  go_ret
  exact ⟨rfl, (Mods.refl _ _).drewN _⟩
def findK (x : Nat) (s : Int) : Option Nat := firstK x (fun p => ((p % 8 : Nat) : Int) == s)
set_option maxHeartbeats 400000 in
theorem find_any (x : Nat) (s : Int) (hx : x < 18446744073709551616) (w : World) :
    Calls Try.prog 131 #[.int .u64 x, .int .i64 s] w fun e w' => e = .returned (optT (findK x s)) ∧ New w w' := by
  have hf := first_any x hx 162 #[.pointer (some ⟨w.heap.size, 0, none⟩)] (fun p => ((p % 8 : Nat) : Int) == s) (w.alloc (.cells #[.int .i64 s] 3)) (enters_of Try.func162 (by kernel_rfl) rfl)
    (fun p W hp hN => find1_any p _ s W hp (hN.boxed (Boxed.new w 3 _) id).cell)
  have Hf := Lib.hid hf
  clear hf
  obtain ⟨r, hr⟩ : ∃ r, findK x s = r := ⟨_, rfl⟩
  have hr' : firstK x (fun p => ((p % 8 : Nat) : Int) == s) = r := hr
  rw [hr'] at Hf
  rw [hr]
  clear hr hr'
  go_enter Try.func131, Try.ntmps131
  go_wp2_with fail
  refine Hf.out.mono ?_
  rintro e w1 ⟨rfl, hN⟩
  unfold optT
  go_wp2
  go_ret2
  exact ⟨rfl, ((Mods.refl _ _).alloc _).trans hN⟩
def numB (n : Int) : Bool := n == n % 8
theorem number_any (n : Int) (w : World) (h1 : -9223372036854775808 ≤ n) (h2 : n ≤ 9223372036854775807) :
    Calls Try.prog 132 #[.int .i64 n] w fun e w' => e = .returned (.bool (numB n)) ∧ w = w' := by
  have hb := and7_i64 n h1 h2
  obtain ⟨q, hq⟩ : ∃ q, n % 8 = q := ⟨_, rfl⟩
  unfold numB
  rw [hq] at hb ⊢
  clear hq
  go_enter Try.func132, Try.ntmps132
  go_wp2
  go_ret
  exact ⟨rfl, rfl⟩
def firstU (x : Nat) (u : Int) : Option Nat := firstK x (fun p => decide (u < ((p / 8 % 8 : Nat) : Int)))
theorem firstK_lt {x k : Nat} {so : Nat → Bool} (h : firstK x so = some k) : rightB x = true ∧ k < x / 2 ^ 60 := by
  unfold firstK at h
  split at h
  · exact ⟨‹_›, by have := List.mem_of_find?_eq_some h; simpa using this⟩
  · cases h
def pushK (x : Nat) (u : Int) : Nat := (firstU x u).getD (manyN x)
theorem pushK_le (x : Nat) (u : Int) : pushK x u ≤ 8 := by
  unfold pushK
  cases h : firstU x u with
  | none => exact manyN_le x
  | some k => have := firstK_lt h; have := right_le this.1; simp; omega
def pushOk (x : Nat) (s u : Int) : Bool := (findK x s).isNone && rightB x && numB s && numB u
def pushX (x s u k : Nat) : Nat :=
  ((x / 2 ^ 60 + 1) * 2 ^ 60 ||| (x % 2 ^ 60 - x % 2 ^ 60 % 2 ^ (7 * k)) * 128 % 18446744073709551616) ||| ((64 ||| u * 8) ||| s) * 2 ^ (7 * k) ||| x % 2 ^ 60 % 2 ^ (7 * k)
theorem wrapN (a : Nat) : IntKind.u64.wrap (a : Int) = ((a % 18446744073709551616 : Nat) : Int) := by rw [IntKind.wrap_u64]; rfl
theorem push_val (x s u k : Nat) (hx : x < 18446744073709551616) (hn : x / 2 ^ 60 ≤ 8) (hs : s < 8) (hu : u < 8) (hk : k ≤ 8) :
    bits .or .u64 (bits .or .u64 (bits .or .u64 (((x : Int) / 1152921504606846976 + 1) * 1152921504606846976) (IntKind.u64.wrap (((x % 1152921504606846976 - x % 1152921504606846976 % 2 ^ (7 * k) : Nat) : Int) * 128)))
      (IntKind.u64.wrap (bits .or .u64 (bits .or .u64 64 ((u : Int) * 8)) (s : Int) * 2 ^ (7 * k)))) ((x : Int) % 1152921504606846976 % 2 ^ (7 * k)) = (pushX x s u k : Int) := by
  have hp : 2 ^ (7 * k) ≤ 2 ^ 56 := Nat.pow_le_pow_right (n := 2) (by decide) (by omega)
  have e1 : ((x : Int) / 1152921504606846976 + 1) * 1152921504606846976 = (((x / 2 ^ 60 + 1) * 2 ^ 60 : Nat) : Int) := by simp only [Nat.reducePow]; omega
  have e2 : ((x % 1152921504606846976 - x % 1152921504606846976 % 2 ^ (7 * k) : Nat) : Int) * 128 = (((x % 2 ^ 60 - x % 2 ^ 60 % 2 ^ (7 * k)) * 128 : Nat) : Int) := by rw [Int.natCast_mul]; rfl
  have e3 : (u : Int) * 8 = ((u * 8 : Nat) : Int) := by omega
  have e4 : (x : Int) % 1152921504606846976 % 2 ^ (7 * k) = ((x % 2 ^ 60 % 2 ^ (7 * k) : Nat) : Int) := by rw [cast_pow]; rfl
  have l1 : 64 ||| u * 8 < 128 := Nat.or_lt_two_pow (n := 7) (by decide) (by omega)
  have l2 : (64 ||| u * 8) ||| s < 128 := Nat.or_lt_two_pow (n := 7) l1 (by omega)
  have l3 : ((64 ||| u * 8) ||| s) * 2 ^ (7 * k) < 18446744073709551616 := Nat.lt_of_lt_of_le (Nat.mul_lt_mul_of_lt_of_le l2 hp (by decide)) (by decide)
  have l4 : (x / 2 ^ 60 + 1) * 2 ^ 60 < 18446744073709551616 := by simp only [Nat.reducePow] at hn ⊢; omega
  have l5 : x % 2 ^ 60 % 2 ^ (7 * k) < 18446744073709551616 := Nat.lt_of_le_of_lt (Nat.mod_le _ _) (by omega)
  rw [e1, e2, wrapN, e3, e4, show (64 : Int) = ((64 : Nat) : Int) from rfl, or_u64 64 (u * 8) (by decide) (by omega), or_u64 (64 ||| u * 8) s (by omega) (by omega), cast_pow, ← Int.natCast_mul, wrapN, Nat.mod_eq_of_lt l3,
    or_u64 _ _ l4 (Nat.mod_lt _ (by decide)), or_u64 _ _ (Nat.or_lt_two_pow (n := 64) l4 (Nat.mod_lt _ (by decide))) l3, or_u64 _ _ (Nat.or_lt_two_pow (n := 64) (Nat.or_lt_two_pow (n := 64) l4 (Nat.mod_lt _ (by decide))) l3) l5]
  rfl
theorem firstU_any (x B : Nat) (u : Int) (hx : x < 18446744073709551616) (w : World) (hB : Boxed w B 3 (.int .i64 u)) :
    Calls Try.prog 128 #[.int .u64 x, .func (.func 129) #[] #[.pointer (some ⟨B, 0, none⟩)]] w fun e w' => e = .returned (optT (firstU x u)) ∧ New w w' :=
  first_any x hx 129 #[.pointer (some ⟨B, 0, none⟩)] (fun p => decide (u < ((p / 8 % 8 : Nat) : Int))) w (enters_of Try.func129 (by kernel_rfl) rfl)
    (fun p W hp hN => push1_any p _ u W hp (hN.boxed hB id).cell)
set_option maxHeartbeats 1000000 in
theorem push_yes (x s u : Nat) (hx : x < 18446744073709551616) (hR : rightB x = true) (hF : findK x s = none) (hs : s < 8) (hu : u < 8) (w : World) :
    Calls Try.prog 71 #[.int .u64 x, .int .i64 s, .int .i64 u] w fun e w' => e = .returned (.tuple #[.int .u64 (pushX x s u (pushK x u) : Nat), .bool true]) ∧ New w w' := by
  have hM := many_any x hx
  have hK := pushK_le x u
  have hk' : pushK x u = (firstU x u).getD (manyN x) := rfl
  have hRt := right_any x hx
  have hFd := find_any x s hx
  have hN := fun (m : Nat) (hm : m < 8) w => number_any (m : Int) w (by omega) (by omega)
  have hN' : ∀ (m : Nat) (hm : m < 8) w, Calls Try.prog 132 #[.int .i64 m] w fun e w' => e = .returned (.bool true) ∧ w = w' := fun m hm w => by
    have := hN m hm w
    rwa [show numB m = true by simp [numB]; omega] at this
  have hP := fun k hk w => parted_any x k hk hx w
  rw [hR] at hRt
  rw [hF] at hFd
  obtain ⟨k, hk⟩ : ∃ k, pushK x u = k := ⟨_, rfl⟩
  obtain ⟨m, hm⟩ : ∃ m, manyN x = m := ⟨_, rfl⟩
  obtain ⟨f, hf⟩ : ∃ f, firstU x u = f := ⟨_, rfl⟩
  have hfu := firstU_any x w.heap.size u hx
  rw [hf] at hfu
  rw [hk, hf, hm] at hk'
  rw [hk] at hK ⊢
  rw [hm] at hM
  have HM := Lib.hid hM
  have HRt := Lib.hid hRt
  have HFd := Lib.hid hFd
  have HN := Lib.hid hN'
  have HP := Lib.hid hP
  have Hfu := Lib.hid hfu
  have Hk' := Lib.hid hk'
  have hn9 : x / 2 ^ 60 ≤ 8 := right_le hR
  obtain ⟨r, hr⟩ : ∃ r, pushX x s u k = r := ⟨_, rfl⟩
  have Hr := Lib.hid hr
  rw [hr]
  clear hM hRt hFd hN hN' hP hfu hk' hk hm hf hF hR hr
  go_enter Try.func71, Try.ntmps71
  go_wp2_with fail
  refine (HM.out _).mono ?_
  rintro e w1 ⟨rfl, hN1⟩
  have b1 := hN1.boxed (Boxed.new w 3 (.int .i64 u)) id
  go_wp2_with fail
  refine (Hfu.out _ b1).mono ?_
  rintro e w2 ⟨rfl, hN2⟩
  have b2 := hN2.boxed b1 id
  have hNN := (((Mods.refl _ w).alloc _).trans hN1).trans hN2
  have c2 := b2.cell
  clear hN1 hN2 b1 b2
  have hf : f = none ∧ m = k ∨ f = some k := by
    cases f with
    | none => exact .inl ⟨rfl, by simpa using Hk'.out.symm⟩
    | some f => exact .inr (by rw [Hk'.out]; rfl)
  clear Hk'
  rcases hf with ⟨rfl, rfl⟩ | rfl
  all_goals
    simp only [optT, Option.getD_none, Option.isSome_none, Option.getD_some, Option.isSome_some]
    go_wp2_with fail
    refine (HFd.out _).mono ?_
    rintro e w3 ⟨rfl, hN3⟩
    have c3 := hN3.cell c2 id
    simp only [optT, Option.getD_none, Option.isSome_none]
    go_wp2_with fail
    refine (HRt.out _).mono ?_
    rintro e w4 ⟨rfl, hN4⟩
    have c4 := hN4.cell c3 id
    have hNN := (hNN.trans hN3).trans hN4
    clear hN3 hN4 c2 c3
    go_wp2_with fail
    refine (HN.out s hs _).mono ?_
    rintro e w5 ⟨rfl, rfl⟩
    go_wp2_with fail
    refine (HN.out u hu _).mono ?_
    rintro e w5 ⟨rfl, rfl⟩
    go_wp2_with fail
    refine (HP.out _ hK _).mono ?_
    rintro e w5 ⟨rfl, rfl⟩
    go_wp2_with fail
    go_ret2
    exact ⟨by rw [push_val x s u _ hx hn9 hs hu hK, Hr.out]; rfl, hNN⟩
end Go.Proofs.Ytkjloeefcaadlaa
