/- The document's own words: a place, the list, the word of a list; which may be. -/
import Derived.Test.YtkjloeefcaadlaaX2
import Derived.Test.YtkjloeefcaadlaaArr
namespace Go.Proofs.Ytkjloeefcaadlaa
open Go.RowKit Go.Shelf Go.Cs
attribute [local go_sem] Oper.semAt_some
theorem info55 : (Try.prog.info? 126).map (fun i => (i.zero, i.size, i.bytes)) = some (some (.agg #[.int .i64 0, .int .i64 0]), 2, 16) := by kernel_rfl
theorem place_ref (x k : Nat) (hx : x < 18446744073709551616) (hk : k < 8) (w : World) :
    Calls Try.prog 127 #[.int .u64 x, .int .i64 k] w fun e w' => e = .returned (.int .i64 (place x k : Nat)) ∧ w = w' := by
  have hp := place_lt x k
  obtain ⟨p, hpx, hp64⟩ : ∃ p, x / 2 ^ (7 * k) = p ∧ p < 18446744073709551616 := ⟨_, rfl, div_lt64 x _ hx⟩
  have he : (x : Int) / 2 ^ (7 * k) = (p : Int) := by rw [← hpx]; exact div_cast x _
  have e1 : place x k = p % 128 := by rw [place, hpx]
  have e2 := and127 p hp64
  rw [← e1] at e2
  obtain ⟨q, hq⟩ : ∃ q, place x k = q := ⟨_, rfl⟩
  rw [hq] at hp e2 ⊢
  clear hpx e1 hq
  go_enter Try.func127, Try.ntmps127
  go_wp2
  go_ret
  exact ⟨rfl, rfl⟩
/-- The places as cells: a slot, an urgency each. -/
def cells2 (x n : Nat) : List Value := (List.range n).flatMap fun k => [.int .i64 (place x k % 8 : Nat), .int .i64 (place x k / 8 % 8 : Nat)]
theorem cells2_succ (x n : Nat) : cells2 x (n + 1) = cells2 x n ++ [.int .i64 (place x n % 8 : Nat), .int .i64 (place x n / 8 % 8 : Nat)] := by
  unfold cells2
  rw [List.range_succ, List.flatMap_append]
  simp
theorem cells2_len (x n : Nat) : (cells2 x n).length = 2 * n := by
  induction n with
  | zero => rfl
  | succ n ih => rw [cells2_succ, List.length_append, ih]; simp; omega
theorem list_ref (x n : Nat) (hx : x < 18446744073709551616) (hn : x / 2 ^ 60 = n) (h8 : n ≤ 8) (w : World) :
    Calls Try.prog 67 #[.int .u64 x] w fun e w' => ∃ v, e = .returned v ∧ w'.ownsRow w.heap.size 126 2 v n (cells2 x n) ∧ New w w' := by
  have HP := Lib.hid (place_ref x)
  have he : (x : Int) / 1152921504606846976 = (n : Int) := by simp only [Nat.reducePow] at hn; omega
  have hmin : min n 8 = n := by omega
  obtain ⟨i0, hi, hz0, hz1, hz2⟩ := info_parts info55
  go_enter Try.func67, Try.ntmps67
  go_wp2
  go_loopw [3, 4, 5] (fun v c d wr => ∃ k : Nat, k ≤ n ∧ c = .int .i64 k ∧ wr.ownsRow w.heap.size 126 2 v k (cells2 x k) ∧ New w wr) (fun _ c _ _ => n - (intOf c).toNat)
  case atStart => exact ⟨0, Nat.zero_le _, rfl, World.ownsRow_nil _ _ _ _, Mods.refl _ _⟩
  case round =>
    obtain ⟨k, hk, rfl, hown, hN⟩ := hrel
    by_cases hlt : k < n
    · have hq128 := place_lt x k
      have hcs := cells2_succ x k
      have HPk := HP.out k hx (by omega)
      obtain ⟨q, hq⟩ : ∃ q, place x k = q := ⟨_, rfl⟩
      rw [hq] at hq128 hcs HPk
      have e1 : ((q : Int).tmod 8) = ((q % 8 : Nat) : Int) := by rw [Int.tmod_eq_emod_of_nonneg (by omega)]; rfl
      have e2 : ((q : Int).tdiv 8) = ((q / 8 : Nat) : Int) := by rw [Int.tdiv_eq_ediv_of_nonneg (by omega)]; rfl
      have e3 : (((q / 8 : Nat) : Int).tmod 8) = ((q / 8 % 8 : Nat) : Int) := by rw [Int.tmod_eq_emod_of_nonneg (by omega)]; rfl
      obtain ⟨r, hr, hr8⟩ : ∃ r, q % 8 = r ∧ r < 8 := ⟨_, rfl, Nat.mod_lt _ (by decide)⟩
      obtain ⟨d, hd, hd16⟩ : ∃ r, q / 8 = r ∧ r < 16 := ⟨_, rfl, by omega⟩
      rw [hd] at e2 e3 hcs
      obtain ⟨t, ht, ht8⟩ : ∃ r, d % 8 = r ∧ r < 8 := ⟨_, rfl, Nat.mod_lt _ (by decide)⟩
      rw [hr] at e1 hcs
      rw [ht] at e3 hcs
      have HPk := Lib.hid HPk
      clear hq hr ht hd
      go_wp2_with fail
      refine (HPk.out _).mono ?_
      rintro e w1 ⟨rfl, rfl⟩
      go_wp2_with (at_builtin; refine wpList_append_own _ rfl _ _ 123 rfl w.heap.size 126 i0 _ 2 16 Try.underlying123 hi hz0 hz1 hz2 rfl (by decide) _ _ _ rfl (hown.alloc _) ⟨wr.heap.size, 0, none⟩ 1 1 [.int .i64 r, .int .i64 t] rfl rfl ?c1 ?c2 ?c3 ?c4 ?c5 ?_)
      case c1 =>
        intro j u hj
        match j, hj with
        | 0, hj => simp at hj; subst hj; simp [Addr.add]
        | 1, hj => simp at hj; subst hj; simp [Addr.add]
      case c2 => intro u hu; simp at hu; rcases hu with rfl | rfl <;> rfl
      case c3 => unfold maxLen; omega
      case c4 => omega
      case c5 => have := hN.size; simp; omega
      intro v' w2 hown' hgrow _
      rw [← hcs] at hown'
      have hN2 := (hN.alloc (.cells #[.int .i64 r, .int .i64 t] 126)).grown hgrow (by intro g hg; have := (hown.alloc (.cells #[.int .i64 r, .int .i64 t] 126)).lt g hg; omega)
      clear hgrow hown hN hcs
      go_wp2
      go_roundw
      case rel => exact ⟨k + 1, by omega, by go_num, hown', hN2⟩
      case measure => simp [intOf]; omega
    · go_wp2_with fail
      obtain rfl : k = n := by omega
      go_ret
      exact ⟨_, rfl, hown, hN⟩
end Go.Proofs.Ytkjloeefcaadlaa
