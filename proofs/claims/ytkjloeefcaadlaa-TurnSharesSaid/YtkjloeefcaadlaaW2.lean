/- A word: how many, who is where, the first place that is so. -/
import Derived.Test.YtkjloeefcaadlaaW1
import Derived.Deep.QuietTactic
import Derived.BigQuiet
namespace Go.Proofs.Ytkjloeefcaadlaa
open Go.RowKit Go.Shelf Go.Cs
attribute [local go_sem] Oper.semAt_some
def manyN (x : Nat) : Nat := if rightB x then x / 2 ^ 60 else 0
theorem right_le {x : Nat} (h : rightB x = true) : x / 2 ^ 60 ≤ 8 := by simp [rightB] at h; exact h.1.1
theorem manyN_le (x : Nat) : manyN x ≤ 8 := by 
  unfold manyN
  split
  · exact right_le ‹_›
  · omega
theorem many_any (x : Nat) (hx : x < 18446744073709551616) (w : World) : Calls Try.prog 80 #[.int .u64 x] w fun e w' => e = .returned (.int .i64 (manyN x : Nat)) ∧ New w w' := by
  obtain ⟨m, hm⟩ : ∃ m, manyN x = m := ⟨_, rfl⟩
  rw [hm]
  unfold manyN at hm
  obtain ⟨b, hb⟩ : ∃ b, rightB x = b := ⟨_, rfl⟩
  rw [hb] at hm
  have hR := right_any x hx w
  rw [hb] at hR
  have HR := Lib.hid hR
  have h8 : b = true → x / 2 ^ 60 ≤ 8 := fun h => right_le (hb.trans h)
  clear hR hb
  cases b with
  | false =>
    simp at hm
    subst hm
    go_enter Try.func80, Try.ntmps80
    go_wp2_with (go_at_call 65; refine HR.out.mono ?_; rintro e w1 ⟨rfl, hN⟩)
    go_ret
    exact ⟨rfl, hN⟩
  | true =>
    have hn : (x : Int) / 1152921504606846976 = (m : Int) := by simp at hm; omega
    have h8' : m ≤ 8 := by have := h8 rfl; simp at hm; omega
    clear hm h8
    go_enter Try.func80, Try.ntmps80
    go_wp2_with (go_at_call 65; refine HR.out.mono ?_; rintro e w1 ⟨rfl, hN⟩)
    go_ret
    exact ⟨rfl, hN⟩
set_option maxHeartbeats 400000 in
theorem parted_any (x k : Nat) (hk : k ≤ 8) (hx : x < 18446744073709551616) (w : World) :
    Calls Try.prog 133 #[.int .u64 x, .int .i64 k] w fun e w' => e = .returned (.tuple #[.int .u64 (x % 2 ^ 60 % 2 ^ (7 * k) : Nat), .int .u64 (x % 2 ^ 60 - x % 2 ^ 60 % 2 ^ (7 * k) : Nat)]) ∧ w = w' := by
  have e1 : bits .andNot .u64 (x : Int) 17293822569102704640 = ((x % 2 ^ 60 : Nat) : Int) := by
    rw [show (17293822569102704640 : Int) = ((17293822569102704640 : Nat) : Int) from rfl, andNot_u64 x _ hx (by decide)]
    congr 1
    exact nat_mask60 x
  obtain ⟨y, hy, hy60⟩ : ∃ y, x % 2 ^ 60 = y ∧ y < 18446744073709551616 := ⟨_, rfl, by omega⟩
  rw [hy] at e1 ⊢
  clear hy
  obtain ⟨t, ht, ht64, ht0⟩ : ∃ t, 2 ^ (7 * k) = t ∧ t < 18446744073709551616 ∧ 1 ≤ t := ⟨_, rfl, Nat.lt_of_le_of_lt (Nat.pow_le_pow_right (n := 2) (by decide) (show 7 * k ≤ 56 by omega)) (by decide), Nat.one_le_two_pow⟩
  have e2 : IntKind.u64.wrap (2 ^ (7 * k)) = (t : Int) := by rw [IntKind.wrap_u64, cast_pow, ht]; omega
  obtain ⟨lo, hlo, hlo64⟩ : ∃ lo, y % 2 ^ (7 * k) = lo ∧ lo < 18446744073709551616 := ⟨_, rfl, Nat.lt_of_le_of_lt (Nat.mod_le _ _) hy60⟩
  have e3 : bits .and .u64 (y : Int) ((t : Int) - 1) = (lo : Int) := by
    rw [show (t : Int) - 1 = ((t - 1 : Nat) : Int) by omega, and_u64 y (t - 1) hy60 (by omega), ← ht, and_mask, hlo]
  obtain ⟨hi, hhi⟩ : ∃ hi, y - lo = hi := ⟨_, rfl⟩
  have e4 : bits .xor .u64 (y : Int) (lo : Int) = (hi : Int) := by
    rw [xor_u64 y lo hy60 hlo64, ← hhi, ← hlo, xor_low]
  rw [hlo, hhi]
  clear hlo hhi ht
  go_enter Try.func133, Try.ntmps133
  go_wp2
  go_ret2
  exact ⟨rfl, rfl⟩
set_option maxHeartbeats 400000 in
theorem at_any (x : Nat) (k : Int) (hx : x < 18446744073709551616) (w : World) :
    Calls Try.prog 134 #[.int .u64 x, .int .i64 k] w fun e w' => e = .returned (if 0 ≤ k ∧ k < manyN x then .tuple #[.int .i64 (place x k.toNat % 8 : Nat), .int .i64 (place x k.toNat / 8 % 8 : Nat), .bool true] else .tuple #[.int .i64 0, .int .i64 0, .bool false]) ∧ New w w' := by
  have HM := Lib.hid (many_any x hx)
  have hm8 := manyN_le x
  obtain ⟨m, hm⟩ : ∃ m, manyN x = m := ⟨_, rfl⟩
  rw [hm] at HM hm8 ⊢
  clear hm
  by_cases h0 : k < 0
  · rw [if_neg (by omega)]
    go_enter Try.func134, Try.ntmps134
    go_wp2
    go_ret3
    exact ⟨rfl, Mods.refl _ _⟩
  by_cases h1 : k < m
  · rw [if_pos (by omega)]
    obtain ⟨j, rfl⟩ := Int.eq_ofNat_of_zero_le (Int.not_lt.1 h0)
    rw [Int.toNat_natCast]
    obtain ⟨p, hp, hp64⟩ : ∃ p, x / 2 ^ (7 * j) = p ∧ p < 18446744073709551616 := ⟨_, rfl, div_lt64 x _ hx⟩
    have he : (x : Int) / 2 ^ (7 * j) = (p : Int) := by rw [← hp]; exact div_cast x _
    have e1 : place x j % 8 = p % 8 := by rw [place, hp]; omega
    have e2 : place x j / 8 % 8 = p / 8 % 8 := by rw [place, hp]; omega
    rw [e1, e2]
    clear hp e1 e2
    have H1 := Lib.hid (slot_any p)
    have H2 := Lib.hid (urgency_any p)
    obtain ⟨a, ha⟩ : ∃ a, p % 8 = a := ⟨_, rfl⟩
    obtain ⟨b, hb⟩ : ∃ a, p / 8 % 8 = a := ⟨_, rfl⟩
    rw [ha] at H1 ⊢
    rw [hb] at H2 ⊢
    clear ha hb
    go_enter Try.func134, Try.ntmps134
    go_wp2_with (first | (go_at_call 80; refine (HM.out _).mono ?_; rintro e w1 ⟨rfl, hN⟩) | (go_at_call 125; refine (H1.out _ hp64).mono ?_; rintro e w2 ⟨rfl, rfl⟩) | (go_at_call 130; refine (H2.out _ hp64).mono ?_; rintro e w2 ⟨rfl, rfl⟩))
    go_ret3
    exact ⟨rfl, hN⟩
  · rw [if_neg (by omega)]
    go_enter Try.func134, Try.ntmps134
    go_wp2_with (go_at_call 80; refine (HM.out _).mono ?_; rintro e w1 ⟨rfl, hN⟩)
    go_ret3
    exact ⟨rfl, hN⟩
/-- The first place that is so. -/
def firstK (x : Nat) (so : Nat → Bool) : Option Nat := if rightB x then (List.range (x / 2 ^ 60)).find? (fun k => so (place x k)) else none
theorem places_at {x k : Nat} {p : Nat × Nat} (hp : (places x)[k]? = some p) : k < x / 2 ^ 60 ∧ p = (k, place x k) := by
  rw [places, List.getElem?_map] at hp
  obtain ⟨j, hj, rfl⟩ := Option.map_eq_some_iff.1 hp
  obtain ⟨h1, h2⟩ := List.getElem?_eq_some_iff.1 hj
  simp at h1 h2
  subst h2
  exact ⟨h1, rfl⟩
theorem find_range {n j : Nat} {f : Nat → Bool} (hj : j < n) (ht : f j = true) (hf : ∀ i, i < j → f i = false) : (List.range n).find? f = some j := by
  induction n with
  | zero => omega
  | succ n ih =>
    rw [List.range_succ, List.find?_append]
    by_cases h : j < n
    · rw [ih h]; rfl
    · obtain rfl : j = n := by omega
      rw [List.find?_eq_none.2 (fun i hi => by rw [hf i (List.mem_range.1 hi)]; simp)]
      simp [ht]
def optT (o : Option Nat) : Value := .tuple #[.int .i64 (o.getD 0 : Nat), .bool o.isSome]
set_option maxHeartbeats 400000 in
theorem first_any (x : Nat) (hx : x < 18446744073709551616) (g : Nat) (lb : Array Value) (so : Nat → Bool) (w : World)
    (eg : ∀ args w, (callFunc g args).run Try.prog w = .ok (.enter g args) w)
    (hso : ∀ p W, p < 128 → New w W → Calls Try.prog g (#[.int .u64 p] ++ lb) W fun e W' => e = .returned (.bool (so p)) ∧ New W W') :
    Calls Try.prog 128 #[.int .u64 x, .func (.func g) #[] lb] w fun e w' => e = .returned (optT (firstK x so)) ∧ New w w' := by
  have Hso := Lib.hid hso
  clear hso
  have HR := Lib.hid (right_any x hx)
  obtain ⟨r, hr⟩ : ∃ r, firstK x so = r := ⟨_, rfl⟩
  have Hr := Lib.hid hr
  rw [hr]
  clear hr
  obtain ⟨b, hb⟩ : ∃ b, rightB x = b := ⟨_, rfl⟩
  rw [hb] at HR
  have Hb := Lib.hid hb
  clear hb
  refine calls_of_marks Try.func128 rfl ?_
  simp only [Try.ntmps128, List.size_toArray, List.length_cons, List.length_nil, Nat.reduceAdd, Nat.reduceSub, Array.replicate_succ, Array.replicate_zero, List.push_toArray, List.append_toArray, List.nil_append, List.cons_append]
  go_wp2_with fail
  obtain ⟨W0, hW0⟩ : ∃ W0, ((w.alloc (.cells #[.func (.func g) #[] lb] 28)).alloc (.cells #[.int .i64 0] 3)).alloc (.cells #[.bool false] 4) = W0 := ⟨_, rfl⟩
  have hN0 : New w W0 := by rw [← hW0]; exact (((Mods.refl _ _).alloc _).alloc _).alloc _
  have hsz : W0.heap.size = w.heap.size + 3 := by rw [← hW0]; simp
  have hb0 : Boxed W0 w.heap.size 28 (.func (.func g) #[] lb) := by rw [← hW0]; exact ((Boxed.new w _ _).alloc _).alloc _
  have hb1 : Boxed W0 (w.heap.size + 1) 3 (.int .i64 0) := by rw [← hW0]; exact (boxed1 w _ _ _).alloc _
  have hb2 : Boxed W0 (w.heap.size + 1 + 1) 4 (.bool false) := by rw [← hW0]; exact boxed2 w _ _ _ _
  rw [hW0]
  clear hW0
  refine (HR.out _).mono ?_
  rintro e w1 ⟨rfl, hN1⟩
  have k0 := hN1.boxed hb0 id
  have k1 := hN1.boxed hb1 id
  have k2 := hN1.boxed hb2 id
  have hsz1 : w.heap.size + 3 ≤ w1.heap.size := by have := hN1.size; omega
  have hNw := hN0.trans hN1
  clear hN0 hN1 hb0 hb1 hb2 hsz
  cases b with
  | false =>
    obtain ⟨c1, f1⟩ := k1.both
    obtain ⟨c2, f2⟩ := k2.both
    go_wp2_with fail
    refine marks_none (v := optT r) rfl ?_ ⟨rfl, (hNw.setCell (p := ⟨w.heap.size + 1, 0, none⟩) (.inl (by simp)) _).setCell (p := ⟨w.heap.size + 1 + 1, 0, none⟩) (.inl (by simp; omega)) _⟩
    obtain rfl : r = none := by rw [← Hr.out, firstK, Hb.out]; rfl
    have r1 := ((k1.set (.int .i64 0)).other (B' := w.heap.size + 1 + 1) (by omega) (.bool false)).cell
    have r2 := ((k2.other (B' := w.heap.size + 1) (by omega) (.int .i64 0)).set (.bool false)).cell
    simp [results, Try.f128, go_sem, r1, r2, optT]
  | true =>
    go_wp2_with fail
    refine (places_any x _).mono ?_
    rintro e w2 ⟨rfl, hw2⟩
    have m0 := k0.alloc (.cells #[.int .u64 x] 22)
    have m1 := k1.alloc (.cells #[.int .u64 x] 22)
    have m2 := k2.alloc (.cells #[.int .u64 x] 22)
    have mp := Boxed.new w1 22 (.int .u64 x)
    have hNv := hNw.alloc (.cells #[.int .u64 x] 22)
    have hsz2 : w2.heap.size = w1.heap.size + 1 := by rw [← hw2]; simp
    obtain ⟨B, hB, hB3⟩ : ∃ B, w1.heap.size = B ∧ w.heap.size + 3 ≤ B := ⟨_, rfl, hsz1⟩
    rw [hw2] at m0 m1 m2 mp hNv
    rw [hB] at mp hsz2 ⊢
    clear k0 k1 k2 hNw hsz1 hw2 hB
    go_wp2_with fail
    refine wp_rangeList (gf := 161) (lb := #[.pointer (some ⟨B, 0, none⟩)]) rfl (enters_of Try.func161 (by kernel_rfl) rfl) (places x) encP (fun b => b = w.heap.size + 1 ∨ b = w.heap.size + 1 + 1)
      (fun W hW => places1_iter _ x hx _ (by omega) W (hW.boxed mp id).cell) (fun _ => rfl)
      (fun k W => (∀ j, j < k → so (place x j) = false) ∧ Boxed W w.heap.size 28 (.func (.func g) #[] lb) ∧ Boxed W (w.heap.size + 1) 3 (.int .i64 0) ∧ Boxed W (w.heap.size + 1 + 1) 4 (.bool false) ∧ Mods (fun b => b = w.heap.size + 1 ∨ b = w.heap.size + 1 + 1) w2 W)
      (fun c k W => c = .ret ∧ ∃ j, (j + 1 = k ∧ so (place x j) = true ∧ ∀ i, i < j → so (place x i) = false) ∧ Boxed W (w.heap.size + 1) 3 (.int .i64 (j : Nat)) ∧ Boxed W (w.heap.size + 1 + 1) 4 (.bool true) ∧ Mods (fun b => b = w.heap.size + 1 ∨ b = w.heap.size + 1 + 1) w2 W)
      (fun k => .and (.pure _) (.and (.boxed _ _ _) (.and (.boxed _ _ _) (.and (.boxed _ _ _) (.mods (Nat.le_refl _))))))
      (fun c k => .and (.pure _) (.ex fun j => .and (.pure _) (.and (.boxed _ _ _) (.and (.boxed _ _ _) (.mods (Nat.le_refl _))))))
      ⟨by omega, m0, m1, m2, Mods.refl _ _⟩
      (fun p t => (((t.setIfInBounds 13 (.int .i64 p.1)).setIfInBounds 14 (.int .u64 p.2)).setIfInBounds 6 (.int .i64 p.1)).setIfInBounds 7 (.int .u64 p.2)) ?assign ?body ?done ?stop
    case assign =>
      rintro l ⟨p1, p2⟩ W K hK
      simp only [encP] at hK ⊢
      gi_wp2
      exact hK
    case body =>
      rintro l k p W hp hl _ ⟨hbefore, n0, n1, n2, hM⟩
      clear m0 m1 m2 mp
      obtain ⟨hk, rfl⟩ := places_at hp
      clear hp
      have hp128 := place_lt x k
      obtain ⟨q, hq⟩ : ∃ q, place x k = q := ⟨_, rfl⟩
      have Hq := Lib.hid hq
      rw [hq] at hp128 ⊢
      clear hq
      have c0 := n0.cell
      have hcall := Hso.out q W hp128 (((hNv.mono (fun _ f => f.elim)).trans hM).new (by omega))
      have Hcall := Lib.hid hcall
      clear hcall
      gi_wp2
      refine at_round Hcall.out ?_
      rintro e W2 ⟨rfl, hN2⟩
      have n1' := hN2.boxed n1 id
      have n2' := hN2.boxed n2 id
      have n0' := hN2.boxed n0 id
      have hM2 : Mods (fun b => b = w.heap.size + 1 ∨ b = w.heap.size + 1 + 1) W W2 := Mods.ofNew hN2
      have Hbefore := Lib.hid hbefore
      clear hN2 n1 n2 n0 c0 hbefore
      obtain ⟨t, ht⟩ : ∃ t, so q = t := ⟨_, rfl⟩
      have Ht := Lib.hid ht
      rw [ht]
      clear ht
      obtain ⟨c1, f1⟩ := n1'.both
      obtain ⟨c2, f2⟩ := n2'.both
      cases t with
      | true =>
        gi_wp2
        refine ⟨(hM2.setCell (p := ⟨w.heap.size + 1, 0, none⟩) (.inr (.inl rfl)) _).setCell (p := ⟨w.heap.size + 1 + 1, 0, none⟩) (.inr (.inr rfl)) _, rfl, k, ⟨rfl, by rw [Hq.out]; exact Ht.out, Hbefore.out⟩,
          (n1'.set _).other (by omega) _, (n2'.other (by omega) _).set _, ((hM.trans hM2).setCell (p := ⟨w.heap.size + 1, 0, none⟩) (.inr (.inl rfl)) _).setCell (p := ⟨w.heap.size + 1 + 1, 0, none⟩) (.inr (.inr rfl)) _⟩
      | false =>
        gi_wp2
        refine ⟨hM2, fun j hj => ?_, n0', n1', n2', hM.trans hM2⟩
        rcases Nat.lt_or_ge j k with h | h
        · exact Hbefore.out j h
        · obtain rfl : j = k := by omega
          rw [Hq.out]; exact Ht.out
    case done =>
      rintro W ⟨hall, _, n1, n2, hM⟩ hD
      obtain ⟨c1, f1⟩ := n1.both
      obtain ⟨c2, f2⟩ := n2.both
      have Hall := Lib.hid hall
      clear hall
      go_wp2_with fail
      have p1 := ((n1.set (.int .i64 0)).other (B' := w.heap.size + 1 + 1) (by omega) (.bool false))
      have p2 := ((n2.other (B' := w.heap.size + 1) (by omega) (.int .i64 0)).set (.bool false))
      have hMM := (((Mods.ofNew hNv).trans hM).setCell (p := ⟨w.heap.size + 1, 0, none⟩) (.inr (.inl rfl)) (.int .i64 0)).setCell (p := ⟨w.heap.size + 1 + 1, 0, none⟩) (.inr (.inr rfl)) (.bool false)
      have hD' := (((KeepsOthers.setCell W ⟨w.heap.size + 1, 0, none⟩ (.int .i64 0)).trans (KeepsOthers.setCell _ ⟨w.heap.size + 1 + 1, 0, none⟩ (.bool false))).same _ _ hD rfl)
      have q1 := (Stab.boxed (B := 0) _ _ _ _ _ p1 (Quiet.putObj (.deferred none) hD' rfl (Nat.zero_le _))).cell
      have q2 := (Stab.boxed (B := 0) _ _ _ _ _ p2 (Quiet.putObj (.deferred none) hD' rfl (Nat.zero_le _))).cell
      refine marks_one rfl hD' (v := optT r) ?_ ⟨rfl, (hMM.new (by omega)).putObj (by omega) _⟩
      obtain rfl : r = none := by
        rw [← Hr.out, firstK, Hb.out, if_pos rfl, List.find?_eq_none]
        intro j hj
        rw [List.mem_range] at hj
        rw [Hall.out j (by rw [places_len]; exact hj)]; simp
      simp [results, Try.f128, go_sem, q1, q2, optT]
    case stop =>
      rintro c k W hk ⟨rfl, j, ⟨hj, hjt, hjf⟩, n1, n2, hM⟩ hD
      refine wp_ret ?_
      have q1 := (Stab.boxed (B := 0) _ _ _ _ _ n1 (Quiet.putObj (.deferred none) hD rfl (Nat.zero_le _))).cell
      have q2 := (Stab.boxed (B := 0) _ _ _ _ _ n2 (Quiet.putObj (.deferred none) hD rfl (Nat.zero_le _))).cell
      refine marks_one rfl hD (v := optT r) ?_ ⟨rfl, (((Mods.ofNew hNv).trans hM).new (by omega)).putObj (by omega) _⟩
      obtain rfl : r = some j := by
        rw [← Hr.out, firstK, Hb.out, if_pos rfl]
        exact find_range (by rw [places_len] at hk; omega) hjt hjf
      simp [results, Try.f128, go_sem, q1, q2, optT]
end Go.Proofs.Ytkjloeefcaadlaa
