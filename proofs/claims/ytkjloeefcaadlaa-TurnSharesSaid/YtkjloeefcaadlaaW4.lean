/- A word: a slot is pushed, or not; taken out; the best one; turned. -/
import Derived.Test.YtkjloeefcaadlaaW3
namespace Go.Proofs.Ytkjloeefcaadlaa
open Go.RowKit Go.Shelf Go.Cs
attribute [local go_sem] Oper.semAt_some
set_option maxHeartbeats 1000000 in
theorem push_no (x : Nat) (s u : Int) (hx : x < 18446744073709551616) (h1 : -9223372036854775808 ≤ s) (h2 : s ≤ 9223372036854775807) (h3 : -9223372036854775808 ≤ u) (h4 : u ≤ 9223372036854775807) (hno : pushOk x s u = false) (w : World) :
    Calls Try.prog 71 #[.int .u64 x, .int .i64 s, .int .i64 u] w fun e w' => e = .returned (.tuple #[.int .u64 x, .bool false]) ∧ New w w' := by
  have hM := many_any x hx
  have hRt := right_any x hx
  have hFd := find_any x s hx
  have hS := fun w => number_any s w h1 h2
  have hU := fun w => number_any u w h3 h4
  have hfu := firstU_any x w.heap.size u hx
  unfold pushOk at hno
  obtain ⟨m, hm⟩ : ∃ m, manyN x = m := ⟨_, rfl⟩
  obtain ⟨f, hf⟩ : ∃ f, firstU x u = f := ⟨_, rfl⟩
  obtain ⟨d, hd⟩ : ∃ d, findK x s = d := ⟨_, rfl⟩
  obtain ⟨b, hb⟩ : ∃ d, rightB x = d := ⟨_, rfl⟩
  obtain ⟨bs, hbs⟩ : ∃ d, numB s = d := ⟨_, rfl⟩
  obtain ⟨bu, hbu⟩ : ∃ d, numB u = d := ⟨_, rfl⟩
  rw [hm] at hM
  rw [hf] at hfu
  rw [hd] at hFd hno
  rw [hb] at hRt hno
  rw [hbs] at hS hno
  rw [hbu] at hU hno
  have HM := Lib.hid hM
  have HRt := Lib.hid hRt
  have HFd := Lib.hid hFd
  have HS := Lib.hid hS
  have HU := Lib.hid hU
  have Hfu := Lib.hid hfu
  have Hno := Lib.hid hno
  clear hM hRt hFd hS hU hfu hno hm hf hd hb hbs hbu
  go_enter Try.func71, Try.ntmps71
  go_wp2_with fail
  refine (HM.out _).mono ?_
  rintro e w1 ⟨rfl, hN1⟩
  have b1 := hN1.boxed (Boxed.new w 3 (.int .i64 u)) id
  go_wp2_with fail
  refine (Hfu.out _ b1).mono ?_
  rintro e w2 ⟨rfl, hN2⟩
  have b2 := hN2.boxed b1 id
  have hNN := (((Mods.refl _ w).alloc _).trans hN1).trans hN2
  have c2 := b2.cell
  clear hN1 hN2 b1 b2 HM Hfu
  cases f
  all_goals
    simp only [optT, Option.getD_none, Option.isSome_none, Option.getD_some, Option.isSome_some]
    go_wp2_with fail
    refine (HFd.out _).mono ?_
    rintro e w3 ⟨rfl, hN3⟩
    have c3 := hN3.cell c2 id
    have hNN := hNN.trans hN3
    clear hN3 c2
    cases d with
    | some d =>
      simp only [optT, Option.getD_some, Option.isSome_some]
      go_wp2_with fail
      go_ret2
      exact ⟨rfl, hNN⟩
    | none =>
      simp only [optT, Option.getD_none, Option.isSome_none]
      go_wp2_with fail
      refine (HRt.out _).mono ?_
      rintro e w4 ⟨rfl, hN4⟩
      have c4 := hN4.cell c3 id
      have hNN := hNN.trans hN4
      clear hN4 c3
      cases b with
      | false =>
        go_wp2_with fail
        go_ret2
        exact ⟨rfl, hNN⟩
      | true =>
        go_wp2_with fail
        refine (HS.out _).mono ?_
        rintro e w5 ⟨rfl, rfl⟩
        cases bs with
        | false =>
          go_wp2_with fail
          go_ret2
          exact ⟨rfl, hNN⟩
        | true =>
          go_wp2_with fail
          refine (HU.out _).mono ?_
          rintro e w5 ⟨rfl, rfl⟩
          cases bu with
          | false =>
            go_wp2_with fail
            go_ret2
            exact ⟨rfl, hNN⟩
          | true => exact absurd Hno.out (by simp)
def pair (r : Nat × Bool) : Value := .tuple #[.int .u64 r.1, .bool r.2]
def pushF (x : Nat) (s u : Int) : Nat × Bool := if pushOk x s u then (pushX x s.toNat u.toNat (pushK x u), true) else (x, false)
theorem numB_iff {n : Int} : numB n = true ↔ 0 ≤ n ∧ n < 8 := by simp [numB]; omega
theorem push_any (x : Nat) (s u : Int) (hx : x < 18446744073709551616) (h1 : -9223372036854775808 ≤ s) (h2 : s ≤ 9223372036854775807) (h3 : -9223372036854775808 ≤ u) (h4 : u ≤ 9223372036854775807) (w : World) :
    Calls Try.prog 71 #[.int .u64 x, .int .i64 s, .int .i64 u] w fun e w' => e = .returned (pair (pushF x s u)) ∧ New w w' := by
  unfold pushF
  cases ho : pushOk x s u with
  | false => exact push_no x s u hx h1 h2 h3 h4 ho w
  | true =>
    simp only [pushOk, Bool.and_eq_true, Option.isNone_iff_eq_none] at ho
    obtain ⟨⟨⟨hf, hr⟩, hs⟩, hu⟩ := ho
    obtain ⟨hs0, hs8⟩ := numB_iff.1 hs
    obtain ⟨hu0, hu8⟩ := numB_iff.1 hu
    obtain ⟨s, rfl⟩ := Int.eq_ofNat_of_zero_le hs0
    obtain ⟨u, rfl⟩ := Int.eq_ofNat_of_zero_le hu0
    exact push_yes x s u hx hr hf (by omega) (by omega) w
def outX (x k : Nat) : Nat :=
  ((x / 2 ^ 60 - 1) * 2 ^ 60 ||| (x % 2 ^ 60 - x % 2 ^ 60 % 2 ^ (7 * k)) / 2 ^ (7 * (k + 1)) * 2 ^ (7 * k) % 18446744073709551616) ||| x % 2 ^ 60 % 2 ^ (7 * k)
theorem out_val (x k : Nat) (hx : x < 18446744073709551616) (hk : k < x / 2 ^ 60) (hn : x / 2 ^ 60 ≤ 8) :
    bits .or .u64 (bits .or .u64 (((x : Int) / 1152921504606846976 - 1) * 1152921504606846976) (IntKind.u64.wrap (((x % 1152921504606846976 - x % 1152921504606846976 % 2 ^ (7 * k) : Nat) : Int) / 2 ^ (7 * (k + 1)) * 2 ^ (7 * k))))
      ((x : Int) % 1152921504606846976 % 2 ^ (7 * k)) = (outX x k : Int) := by
  have e1 : ((x : Int) / 1152921504606846976 - 1) * 1152921504606846976 = (((x / 2 ^ 60 - 1) * 2 ^ 60 : Nat) : Int) := by simp only [Nat.reducePow] at hk ⊢; omega
  have e2 : ((x % 1152921504606846976 - x % 1152921504606846976 % 2 ^ (7 * k) : Nat) : Int) / 2 ^ (7 * (k + 1)) * 2 ^ (7 * k) = (((x % 2 ^ 60 - x % 2 ^ 60 % 2 ^ (7 * k)) / 2 ^ (7 * (k + 1)) * 2 ^ (7 * k) : Nat) : Int) := by
    rw [div_cast, cast_pow, ← Int.natCast_mul]
  have e4 : (x : Int) % 1152921504606846976 % 2 ^ (7 * k) = ((x % 2 ^ 60 % 2 ^ (7 * k) : Nat) : Int) := by rw [cast_pow]; rfl
  have l4 : (x / 2 ^ 60 - 1) * 2 ^ 60 < 18446744073709551616 := by simp only [Nat.reducePow] at hn ⊢; omega
  have l5 : x % 2 ^ 60 % 2 ^ (7 * k) < 18446744073709551616 := Nat.lt_of_le_of_lt (Nat.mod_le _ _) (by omega)
  rw [e1, e2, wrapN, e4, or_u64 _ _ l4 (Nat.mod_lt _ (by decide)), or_u64 _ _ (Nat.or_lt_two_pow (n := 64) l4 (Nat.mod_lt _ (by decide))) l5]
  rfl
def outF (x : Nat) (s : Int) : Nat × Bool := match findK x s with
  | some k => (outX x k, true)
  | none => (x, false)
set_option maxHeartbeats 1000000 in
theorem out_any (x : Nat) (s : Int) (hx : x < 18446744073709551616) (w : World) :
    Calls Try.prog 78 #[.int .u64 x, .int .i64 s] w fun e w' => e = .returned (pair (outF x s)) ∧ New w w' := by
  have hFd := find_any x s hx
  have hP := fun k hk w => parted_any x k hk hx w
  have hk8 : ∀ k, findK x s = some k → k < x / 2 ^ 60 ∧ x / 2 ^ 60 ≤ 8 := fun k hk => ⟨(firstK_lt hk).2, right_le (firstK_lt hk).1⟩
  unfold outF
  obtain ⟨d, hd⟩ : ∃ d, findK x s = d := ⟨_, rfl⟩
  rw [hd] at hFd hk8 ⊢
  have HFd := Lib.hid hFd
  have HP := Lib.hid hP
  clear hFd hP hd
  cases d with
  | none =>
    have Hk8 := Lib.hid hk8
    clear hk8
    simp only [pair]
    go_enter Try.func78, Try.ntmps78
    go_wp2_with fail
    refine (HFd.out _).mono ?_
    rintro e w1 ⟨rfl, hN1⟩
    simp only [optT, Option.getD_none, Option.isSome_none]
    go_wp2_with fail
    go_ret2
    exact ⟨rfl, hN1⟩
  | some k =>
    obtain ⟨hk, hn⟩ := hk8 k rfl
    clear hk8
    simp only [pair]
    go_enter Try.func78, Try.ntmps78
    go_wp2_with fail
    refine (HFd.out _).mono ?_
    rintro e w1 ⟨rfl, hN1⟩
    simp only [optT, Option.getD_some, Option.isSome_some]
    go_wp2_with fail
    refine (HP.out k (by omega) _).mono ?_
    rintro e w2 ⟨rfl, rfl⟩
    go_wp2_with fail
    go_ret2
    exact ⟨by rw [out_val x k hx hk hn]; rfl, hN1⟩
def atF (x : Nat) (k : Int) : Nat × Nat × Bool := if 0 ≤ k ∧ k < manyN x then (place x k.toNat % 8, place x k.toNat / 8 % 8, true) else (0, 0, false)
def trip (r : Nat × Nat × Bool) : Value := .tuple #[.int .i64 r.1, .int .i64 r.2.1, .bool r.2.2]
theorem at_any' (x : Nat) (k : Int) (hx : x < 18446744073709551616) (w : World) :
    Calls Try.prog 134 #[.int .u64 x, .int .i64 k] w fun e w' => e = .returned (trip (atF x k)) ∧ New w w' :=
  (at_any x k hx w).mono fun e w' ⟨h, hN⟩ => ⟨by rw [h, atF]; split <;> rfl, hN⟩
theorem outX_lt (x k : Nat) (hn : x / 2 ^ 60 ≤ 8) : outX x k < 18446744073709551616 :=
  Nat.or_lt_two_pow (n := 64) (Nat.or_lt_two_pow (n := 64) (by simp only [Nat.reducePow] at hn ⊢; omega) (Nat.mod_lt _ (by decide))) (Nat.lt_of_le_of_lt (Nat.mod_le _ _) (by omega))
theorem outF_lt (x : Nat) (s : Int) (hx : x < 18446744073709551616) : (outF x s).1 < 18446744073709551616 := by
  unfold outF
  split
  · rename_i h; exact outX_lt _ _ (right_le (firstK_lt h).1)
  · exact hx
def bestF (x : Nat) : Nat × Nat × Bool := if (atF x 0).2.2 then ((outF x (atF x 0).1).1, (atF x 0).1, true) else (x, (atF x 0).1, false)
def trip' (r : Nat × Nat × Bool) : Value := .tuple #[.int .u64 r.1, .int .i64 r.2.1, .bool r.2.2]
set_option maxHeartbeats 1000000 in
theorem best_any (x : Nat) (hx : x < 18446744073709551616) (w : World) :
    Calls Try.prog 74 #[.int .u64 x] w fun e w' => e = .returned (trip' (bestF x)) ∧ New w w' := by
  have hA := fun w => at_any' x 0 hx w
  have hO := fun s w => out_any x s hx w
  unfold bestF
  obtain ⟨⟨s, u, b⟩, ha⟩ : ∃ d, atF x 0 = d := ⟨_, rfl⟩
  rw [ha] at hA ⊢
  have hO' := hO s
  obtain ⟨⟨o, ob⟩, ho⟩ : ∃ d, outF x s = d := ⟨_, rfl⟩
  rw [ho] at hO'
  dsimp only
  rw [ho]
  simp only [trip, trip', pair] at hA hO' ⊢
  have HA := Lib.hid hA
  have HO := Lib.hid hO'
  clear hA hO hO' ha ho
  cases b with
  | false =>
    go_enter Try.func74, Try.ntmps74
    go_wp2_with fail
    refine (HA.out _).mono ?_
    rintro e w1 ⟨rfl, hN1⟩
    go_wp2_with fail
    go_ret3
    exact ⟨rfl, hN1⟩
  | true =>
    go_enter Try.func74, Try.ntmps74
    go_wp2_with fail
    refine (HA.out _).mono ?_
    rintro e w1 ⟨rfl, hN1⟩
    go_wp2_with fail
    refine (HO.out _).mono ?_
    rintro e w2 ⟨rfl, hN2⟩
    go_wp2_with fail
    go_ret3
    exact ⟨rfl, hN1.trans hN2⟩
/-- What Turn does: not there, or no urgency, or of it already: as it is. -/
def turnF (x : Nat) (s u : Int) : Nat × Bool :=
  if (outF x s).2 && numB u && !(((atF x ((findK x s).getD 0 : Nat)).2.1 : Int) == u) then pushF (outF x s).1 s u else (x, false)
set_option maxHeartbeats 1000000 in
theorem turn_any (x : Nat) (s u : Int) (hx : x < 18446744073709551616) (h1 : -9223372036854775808 ≤ s) (h2 : s ≤ 9223372036854775807) (h3 : -9223372036854775808 ≤ u) (h4 : u ≤ 9223372036854775807) (w : World) :
    Calls Try.prog 76 #[.int .u64 x, .int .i64 s, .int .i64 u] w fun e w' => e = .returned (pair (turnF x s u)) ∧ New w w' := by
  have hO := fun w => out_any x s hx w
  have hF := fun w => find_any x s hx w
  have hA := fun k w => at_any' x k hx w
  have hU := fun w => number_any u w h3 h4
  have hP := fun w => push_any (outF x s).1 s u (outF_lt x s hx) h1 h2 h3 h4 w
  unfold turnF
  obtain ⟨k, hk⟩ : ∃ k, (findK x s).getD 0 = k := ⟨_, rfl⟩
  have hA' := hA (k : Nat)
  obtain ⟨⟨a, ua, b⟩, ha⟩ : ∃ d, atF x (k : Nat) = d := ⟨_, rfl⟩
  rw [ha] at hA'
  rw [hk, ha]
  obtain ⟨⟨o, ob⟩, ho⟩ : ∃ d, outF x s = d := ⟨_, rfl⟩
  rw [ho] at hO hP ⊢
  dsimp only at hP ⊢
  obtain ⟨⟨q, qb⟩, hq⟩ : ∃ d, pushF o s u = d := ⟨_, rfl⟩
  rw [hq] at hP ⊢
  have hF' : ∀ w, Calls Try.prog 131 #[.int .u64 x, .int .i64 s] w fun e w' => e = .returned (.tuple #[.int .i64 k, .bool (findK x s).isSome]) ∧ New w w' := fun w => (hF w).mono fun e w' ⟨h, hN⟩ => ⟨by rw [h, optT, hk], hN⟩
  obtain ⟨fs, hfs⟩ : ∃ d, (findK x s).isSome = d := ⟨_, rfl⟩
  rw [hfs] at hF'
  obtain ⟨n, hn⟩ : ∃ d, numB u = d := ⟨_, rfl⟩
  rw [hn] at hU ⊢
  obtain ⟨eq, heq⟩ : ∃ d, ((ua : Int) == u) = d := ⟨_, rfl⟩
  rw [heq]
  simp only [trip, pair] at hA' hO hP ⊢
  have HO := Lib.hid hO
  have HF := Lib.hid hF'
  have HA := Lib.hid hA'
  have HU := Lib.hid hU
  have HP := Lib.hid hP
  clear hO hF hA hU hP hA' hF' hk ha ho hq hfs hn
  go_enter Try.func76, Try.ntmps76
  go_wp2_with fail
  refine (HO.out _).mono ?_
  rintro e w1 ⟨rfl, hN1⟩
  go_wp2_with fail
  refine (HF.out _).mono ?_
  rintro e w2 ⟨rfl, hN2⟩
  go_wp2_with fail
  refine (HA.out _).mono ?_
  rintro e w3 ⟨rfl, hN3⟩
  have hNN := (hN1.trans hN2).trans hN3
  clear hN1 hN2 hN3
  cases ob with
  | false =>
    go_wp2_with fail
    go_ret2
    exact ⟨rfl, hNN⟩
  | true =>
    go_wp2_with fail
    refine (HU.out _).mono ?_
    rintro e w5 ⟨rfl, rfl⟩
    cases n with
    | false =>
      go_wp2_with fail
      go_ret2
      exact ⟨rfl, hNN⟩
    | true =>
      cases eq with
      | true =>
        go_wp2_with fail
        go_ret2
        exact ⟨rfl, hNN⟩
      | false =>
        go_wp2_with fail
        refine (HP.out _).mono ?_
        rintro e w5 ⟨rfl, hN5⟩
        go_wp2_with fail
        go_ret2
        exact ⟨rfl, hNN.trans hN5⟩
end Go.Proofs.Ytkjloeefcaadlaa
