/- Rows in memory of their own; where a number stands; the same numbers. -/
import Derived.Test.YtcelhdlppimfbaaR4
import Derived.Test.YtcelhdlppimfbaaShelf
import Derived.Deep.QuietTactic
import Derived.BigQuiet
namespace Go.Proofs.Ytcelhdlppimfbaa
open Go.RowKit Go.Shelf Go.Cs
attribute [local go_sem] Oper.semAt_some
theorem clone_any (v : Value) (L : List Int) (w : World) (h : ReadsI .i64 w v L) (hL : L.length ≤ 17592186044416) :
    Calls Try.prog 29 #[v] w fun e w' => ∃ v', e = .returned v' ∧ w'.ownsRow w.heap.size 3 1 v' L.length (L.map (Value.int .i64)) ∧ New w w' := by
  obtain ⟨_, ao, cap, rfl, hc⟩ := h
  cases L with
  | nil =>
    cases ao with
    | none =>
      refine (Try.slices_Clone_int_nil _ _ w).mono ?_
      rintro e w' ⟨rfl, rfl⟩
      exact ⟨_, rfl, World.ownsRow_nil _ _ _ _, Mods.refl _ _⟩
    | some a =>
      refine (Try.slices_Clone_int_zero a cap w).mono ?_
      rintro e w' ⟨v', rfl, hown, _, hb⟩
      exact ⟨_, rfl, hown, Mods.below hb (Nat.le_refl _)⟩
  | cons n l =>
    obtain ⟨b, o, rfl, _⟩ := hc 0 (by simp)
    refine (Try.slices_Clone_int b o (n :: l).length cap (n :: l) w (Nat.le_refl _) (by omega) (fun j hj => ?_)).mono ?_
    · obtain ⟨b', o', e, hcell⟩ := hc j hj
      simp only [Option.some.injEq, Addr.mk.injEq, and_true] at e
      obtain ⟨rfl, rfl⟩ := e
      exact hcell
    · rintro e w' ⟨v', rfl, hown, _, hb⟩
      rw [List.take_length] at hown
      exact ⟨_, rfl, hown, Mods.below hb (Nat.le_refl _)⟩
/-- Where a number stands first. -/
def idxI (L : List Int) (n : Int) : Int := match L.findIdx? (· == n) with | some k => k | none => -1
theorem index_any (v : Value) (L : List Int) (m : Int) (w : World) (h : ReadsI .i64 w v L) :
    Calls Try.prog 24 #[v, .int .i64 m] w fun e w' => e = .returned (.int .i64 (idxI L m)) ∧ New w w' := by
  obtain ⟨hlen, ao, cap, rfl, hc⟩ := h
  obtain ⟨n, hn⟩ : ∃ n, L.length = n := ⟨_, rfl⟩
  rw [hn] at hlen hc ⊢
  have Hc := Lib.hid hc
  have Hn := Lib.hid hn
  clear hc hn
  go_enter Try.func24, Try.ntmps24
  go_wp2_with fail
  go_loopw [8] (fun c wr => ∃ k : Nat, k ≤ n ∧ c = .int .i64 k ∧ Hid (∀ j x, j < k → L[j]? = some x → (x == m) = false) ∧ New w wr) (fun c _ => n - (intOf c).toNat)
  case atStart => exact ⟨0, by omega, rfl, (fun j x hj => by omega), Mods.refl _ _⟩
  case round =>
    obtain ⟨k, hk, rfl, hno, hN⟩ := hrel
    by_cases hkn : k < n
    · obtain ⟨b1, o1, rfl, h1⟩ := Hc.out k hkn
      have h1 := hN.cell h1 id
      have hx : L[k]? = some (L.getD k 0) := by have := Hn.out; simp [List.getD, show k < L.length by omega]
      obtain ⟨z, hz⟩ : ∃ z, L.getD k 0 = z := ⟨_, rfl⟩
      rw [hz] at h1 hx
      by_cases hzm : m = z
      · have hq : (m == z) = true := by simp [hzm]
        have hR : idxI L m = k := by
          have : L.findIdx? (· == m) = some k := by
            obtain ⟨hk', hxx⟩ := List.getElem?_eq_some_iff.1 hx
            rw [List.findIdx?_eq_some_iff_getElem]
            exact ⟨hk', by rw [hxx]; simp [hzm], fun j hj => by have := hno.out j _ hj (List.getElem?_eq_getElem (by omega)); simpa using this⟩
          unfold idxI; rw [this]
        have HR := Lib.hid hR
        clear hz hx hzm hno hR
        go_wp2_with fail
        go_ret
        exact ⟨by rw [HR.out]; rfl, hN⟩
      · have hq : (m == z) = false := by simp [hzm]
        have hnext : Hid (∀ j x, j < k + 1 → L[j]? = some x → (x == m) = false) := Lib.hid (fun j x hj hx' => by
          by_cases hjk : j < k
          · exact hno.out j x hjk hx'
          · obtain rfl : j = k := by omega
            rw [hx] at hx'; cases hx'
            simp; exact fun e => hzm e.symm)
        clear hz hx hzm hno
        go_wp2_with fail
        go_roundw
        case rel => exact ⟨k + 1, by omega, by go_num, hnext, hN⟩
        case measure => simp [intOf]; omega
    · have hR : idxI L m = -1 := by
        have : L.findIdx? (· == m) = none := by
          rw [List.findIdx?_eq_none_iff]
          intro x hx
          obtain ⟨j, hj⟩ := List.getElem?_of_mem hx
          exact hno.out j x (by have := (List.getElem?_eq_some_iff.1 hj).1; have := Hn.out; omega) hj
        unfold idxI; rw [this]
      have HR := Lib.hid hR
      clear hR hno
      go_wp2_with fail
      go_ret
      exact ⟨by rw [HR.out]; rfl, hN⟩
end Go.Proofs.Ytcelhdlppimfbaa
