/- The document's word of a list, and which may be. -/
import Derived.Test.YtkjloeefcaadlaaC1
import Derived.Deep.QuietTactic
import Derived.BigQuiet
namespace Go.Proofs.Ytkjloeefcaadlaa
open Go.RowKit Go.Shelf Go.Cs
attribute [local go_sem] Oper.semAt_some
/-- A slice of the first places of a word. -/
def Reads2 (x n : Nat) (W : World) (v : Value) : Prop :=
  ∃ ao cap, v = .slice ao n cap ∧ ∀ k, k < n → ∃ b, ao = some ⟨b, 0, none⟩ ∧ W.cell? ⟨b, k * 2, none⟩ = some (.int .i64 (place x k % 8 : Nat)) ∧ W.cell? ⟨b, k * 2 + 1, none⟩ = some (.int .i64 (place x k / 8 % 8 : Nat))
theorem cells2_at (x n k : Nat) (hk : k < n) : (cells2 x n)[k * 2]? = some (.int .i64 (place x k % 8 : Nat)) ∧ (cells2 x n)[k * 2 + 1]? = some (.int .i64 (place x k / 8 % 8 : Nat)) := by
  induction n with
  | zero => omega
  | succ n ih =>
    rw [cells2_succ]
    by_cases h : k < n
    · obtain ⟨h1, h2⟩ := ih h
      have := cells2_len x n
      rw [List.getElem?_append_left (by omega), List.getElem?_append_left (by omega)]
      exact ⟨h1, h2⟩
    · obtain rfl : k = n := by omega
      have := cells2_len x k
      rw [List.getElem?_append_right (by omega), List.getElem?_append_right (by omega), this]
      simp [Nat.mul_comm]
theorem Reads2.ofOwns {base x n : Nat} {W : World} {v : Value} (h : W.ownsRow base 126 2 v n (cells2 x n)) : Reads2 x n W v := by
  have hc := fun g => World.ownsRow.cells (g := g) h
  obtain ⟨_, ⟨rfl, rfl⟩ | ⟨g, cap, cur, rfl, _⟩⟩ := h
  · exact ⟨none, 0, rfl, fun k hk => by omega⟩
  · refine ⟨some ⟨g, 0, none⟩, cap, rfl, fun k hk => ⟨g, rfl, ?_⟩⟩
    obtain ⟨h1, h2⟩ := cells2_at x n k hk
    have a1 := hc g rfl _ _ h1
    have a2 := hc g rfl _ _ h2
    simp only [Addr.add, Nat.zero_add] at a1 a2
    refine ⟨?_, by simpa using a2⟩
    split at a1
    · rename_i h0; rw [show k * 2 = 0 from by simpa using h0]; exact a1
    · exact a1
theorem word_ref (x n : Nat) (hr : rightB x = true) (hn : x / 2 ^ 60 = n) (v : Value) (w : World) (hv : Reads2 x n w v) :
    Calls Try.prog 68 #[v] w fun e w' => e = .returned (.int .u64 (x : Nat)) ∧ New w w' := by
  obtain ⟨a1, a2, a3⟩ := right_top hr hn
  obtain ⟨ao, cap, rfl, hc⟩ := hv
  have hz := part_zero x n
  have hs : IntKind.u64.wrap ((n : Int) * 1152921504606846976) = (part x n 0 : Int) := by
    rw [hz, show ((n : Int) * 1152921504606846976) = ((n * 2 ^ 60 : Nat) : Int) by simp, wrapN, Nat.mod_eq_of_lt (by omega)]
  obtain ⟨p0, hp0⟩ : ∃ p, part x n 0 = p := ⟨_, rfl⟩
  rw [hp0] at hs
  clear hz
  go_enter Try.func68, Try.ntmps68
  go_wp2
  go_loopw [3, 4] (fun p i wr => ∃ k : Nat, k ≤ n ∧ i = .int .i64 k ∧ p = .int .u64 (part x n k) ∧ New w wr) (fun _ i _ => n - (intOf i).toNat)
  case atStart => exact ⟨0, Nat.zero_le _, rfl, by rw [hp0], Mods.refl _ _⟩
  case round =>
    obtain ⟨k, hk, rfl, rfl, hN⟩ := hrel
    clear hs hp0
    by_cases hlt : k < n
    · obtain ⟨b, rfl, h1, h2⟩ := hc k hlt
      have h1 := hN.cell h1 id
      have h2 := hN.cell h2 id
      have hP := part_next hr hn hlt
      obtain ⟨sl, hsl, hsl8⟩ : ∃ s, place x k % 8 = s ∧ s < 8 := ⟨_, rfl, Nat.mod_lt _ (by decide)⟩
      obtain ⟨u, hu, hu8⟩ : ∃ s, place x k / 8 % 8 = s ∧ s < 8 := ⟨_, rfl, Nat.mod_lt _ (by decide)⟩
      rw [hsl] at hP h1
      rw [hu] at hP h2
      clear hsl hu hc
      go_wp2
      go_quiet (fail)
      go_wp2
      go_roundw
      case rel => exact ⟨k + 1, by omega, by go_num, rfl, hN.drewN _⟩
      case measure => simp [intOf]; omega
    · obtain rfl : n = k := by omega
      have hpa := part_all hr hn
      rw [hpa]
      go_wp2
      go_ret
      exact ⟨rfl, hN⟩
theorem right_ref (x : Nat) (hx : x < 18446744073709551616) (hr : rightB x = true) (w : World) :
    Calls Try.prog 19 #[.int .u64 x] w fun e w' => e = .returned (.bool true) ∧ New w w' := by
  obtain ⟨n, hn⟩ : ∃ n, x / 2 ^ 60 = n := ⟨_, rfl⟩
  obtain ⟨a1, a2, a3⟩ := right_top hr hn
  have HL := Lib.hid (list_ref x n hx hn a1)
  have HW := Lib.hid (word_ref x n hr hn)
  have hp : ∀ k i, k < i → i < n → place x k / 8 % 8 ≤ place x i / 8 % 8 ∧ place x k % 8 ≠ place x i % 8 := fun k i h1 h2 => stt_pair a3 h1 h2
  have Hp := Lib.hid hp
  clear hp a2 a3 hr
  go_enter Try.func19, Try.ntmps19
  go_wp2_with fail
  refine (HL.out _).mono ?_
  rintro e w1 ⟨v, rfl, hown, hN1⟩
  have hv := Reads2.ofOwns hown
  clear hown
  go_wp2_with fail
  refine (HW.out v _ hv).mono ?_
  rintro e w2 ⟨rfl, hN2⟩
  have hN := hN1.trans hN2
  have hv2 : Reads2 x n w2 v := by
    obtain ⟨ao, cap, rfl, hc⟩ := hv
    refine ⟨ao, cap, rfl, fun k hk => ?_⟩
    obtain ⟨b, rfl, h1, h2⟩ := hc k hk
    exact ⟨b, rfl, hN2.cell h1 id, hN2.cell h2 id⟩
  obtain ⟨ao, cap, rfl, hc⟩ := hv2
  clear hv hN1 hN2 hn HL HW
  have Hc := Lib.hid hc
  clear hc
  go_wp2
  go_loopw [4, 5] (fun i _ wr => ∃ k : Nat, k ≤ n ∧ i = .int .i64 k ∧ New w2 wr) (fun i _ _ => n - (intOf i).toNat)
  case atStart => exact ⟨0, Nat.zero_le _, rfl, Mods.refl _ _⟩
  case round =>
    obtain ⟨i, hi, rfl, hNi⟩ := hrel
    by_cases hlt : i < n
    · go_wp2
      obtain ⟨wo, hwo⟩ : ∃ wo, wr = wo := ⟨_, rfl⟩
      rw [hwo] at hNi ⊢
      clear hwo wr
      go_loopw [5] (fun c wr => ∃ k : Nat, k ≤ i ∧ c = .int .i64 k ∧ New wo wr) (fun c _ => i - (intOf c).toNat)
      case atStart => exact ⟨0, Nat.zero_le _, rfl, Mods.refl _ _⟩
      case round =>
        obtain ⟨k, hk, rfl, hNk⟩ := hrel
        by_cases hlk : k < i
        · obtain ⟨b, rfl, h1, h2⟩ := Hc.out k (by omega)
          obtain ⟨b', hb', h3, h4⟩ := Hc.out i hlt
          simp only [Option.some.injEq, Addr.mk.injEq, and_true] at hb'
          subst hb'
          obtain ⟨p1, p2⟩ := Hp.out k i hlk hlt
          have hNN := hNi.trans hNk
          have h1 := hNN.cell h1 id
          have h2 := hNN.cell h2 id
          have h3 := hNN.cell h3 id
          have h4 := hNN.cell h4 id
          obtain ⟨s1, hs1⟩ : ∃ s, place x k % 8 = s := ⟨_, rfl⟩
          obtain ⟨u1, hu1⟩ : ∃ s, place x k / 8 % 8 = s := ⟨_, rfl⟩
          obtain ⟨s2, hs2⟩ : ∃ s, place x i % 8 = s := ⟨_, rfl⟩
          obtain ⟨u2, hu2⟩ : ∃ s, place x i / 8 % 8 = s := ⟨_, rfl⟩
          rw [hs1] at h1 p2
          rw [hu1] at h2 p1
          rw [hs2] at h3 p2
          rw [hu2] at h4 p1
          clear hs1 hu1 hs2 hu2
          have hkn : k < n := by omega
          have q1 : ((s1 : Int) == (s2 : Int)) = false := beq_eq_false_iff_ne.2 (by omega)
          have q2 : decide ((u2 : Int) < (u1 : Int)) = false := decide_eq_false (by omega)
          go_wp2
          go_quiet (fail)
          go_wp2
          go_roundw
          case rel => exact ⟨k + 1, by omega, by go_num, hNk.drewN _⟩
          case measure => simp [intOf]; omega
        · go_wp2
          go_roundw
          case rel => exact ⟨i + 1, by omega, by go_num, hNi.trans hNk⟩
          case measure => simp [intOf]; omega
    · go_wp2
      go_ret
      exact ⟨rfl, hN.trans hNi⟩
end Go.Proofs.Ytkjloeefcaadlaa
