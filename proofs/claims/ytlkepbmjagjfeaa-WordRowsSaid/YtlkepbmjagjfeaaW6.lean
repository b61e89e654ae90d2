/- The word of rows. -/
import Derived.Test.YtlkepbmjagjfeaaW5
namespace Go.Proofs.Ytlkepbmjagjfeaa
open Go.RowKit Go.Shelf Go.Cs
attribute [local go_sem] Oper.semAt_some
/-- One row pushed, slot by slot. -/
def ofRow (u : Nat) : Nat → List Int → Option Nat
  | x, [] => some x
  | x, s :: l => if (pushF x s u).2 then ofRow u (pushF x s u).1 l else none
def ofRows (X : Nat → List Int) : Nat → Nat → Option Nat
  | _, 0 => some 0
  | n, u + 1 => match ofRows X n u with
    | some x => ofRow u x (X u)
    | none => none
def ofF (X : Nat → List Int) : Nat × Bool := match ofRows X 8 8 with
  | some x => (x, true)
  | none => (0, false)
theorem ofRow_append (u x : Nat) (l m : List Int) : ofRow u x (l ++ m) = (ofRow u x l).bind (fun y => ofRow u y m) := by
  induction l generalizing x with
  | nil => rfl
  | cons s l ih =>
    simp only [List.cons_append, ofRow]
    split
    · exact ih _
    · rfl
theorem ofRows_none {X : Nat → List Int} {u : Nat} (h : ofRows X 8 u = none) : ∀ v, u ≤ v → ofRows X 8 v = none := by
  intro v hv
  induction v with
  | zero => obtain rfl : u = 0 := by omega
            exact h
  | succ v ih =>
    rcases Nat.lt_or_ge v u with h1 | h1
    · obtain rfl : u = v + 1 := by omega
      exact h
    · rw [ofRows, ih h1]
theorem ofF_none {X : Nat → List Int} {u x : Nat} (hu : u < 8) (h : ofRows X 8 u = some x) (hn : ofRow u x (X u) = none) : ofF X = (0, false) := by
  have : ofRows X 8 (u + 1) = none := by rw [ofRows, h]; exact hn
  rw [ofF, ofRows_none this 8 (by omega)]
theorem pushF_lt (x : Nat) (s u : Int) (hx : x < 18446744073709551616) : (pushF x s u).1 < 18446744073709551616 := by
  unfold pushF
  split
  · rename_i ho
    simp only [pushOk, Bool.and_eq_true, Option.isNone_iff_eq_none] at ho
    obtain ⟨⟨⟨_, hr⟩, hs⟩, hu⟩ := ho
    have hs := numB_iff.1 hs
    have hu := numB_iff.1 hu
    have hn := right_le hr
    have hk := pushK_le x u
    have hp : 2 ^ (7 * pushK x u) ≤ 2 ^ 56 := Nat.pow_le_pow_right (n := 2) (by decide) (by omega)
    have l1 : 64 ||| u.toNat * 8 < 128 := Nat.or_lt_two_pow (n := 7) (by decide) (by omega)
    have l2 : (64 ||| u.toNat * 8) ||| s.toNat < 128 := Nat.or_lt_two_pow (n := 7) l1 (by omega)
    have l3 : ((64 ||| u.toNat * 8) ||| s.toNat) * 2 ^ (7 * pushK x u) < 18446744073709551616 := Nat.lt_of_lt_of_le (Nat.mul_lt_mul_of_lt_of_le l2 hp (by decide)) (by decide)
    exact Nat.or_lt_two_pow (n := 64) (Nat.or_lt_two_pow (n := 64) (Nat.or_lt_two_pow (n := 64) (by simp only [Nat.reducePow] at hn ⊢; omega) (Nat.mod_lt _ (by decide))) l3) (Nat.lt_of_le_of_lt (Nat.mod_le _ _) (by omega))
  · exact hx
theorem idx26 (vs : List Value) (hl : vs.length = 8) (u : Nat) (hu : u < 8) (w : World) : (Instr.index 26 (.agg vs.toArray) (.int .i64 (u : Int))).run Try.prog w = .ok (vs.getD u undef) w :=
  run_index_arr Try.underlying26 Try.underlying25 rfl (by kernel_rfl) hu (by simp [List.getD, show u < vs.length by omega]) w
set_option maxRecDepth 100000 in
set_option maxHeartbeats 2000000 in
theorem of_any (vs : List Value) (hl : vs.length = 8) (X : Nat → List Int) (hX : ∀ u s, s ∈ X u → -9223372036854775808 ≤ s ∧ s ≤ 9223372036854775807) (w : World) (hr : ∀ u, u < 8 → ReadsI .i64 w (vs.getD u undef) (X u)) :
    Calls Try.prog 16 #[.agg vs.toArray] w fun e w' => e = .returned (pair (ofF X)) ∧ New w w' := by
  have HX := Lib.hid hX
  have Hr := Lib.hid hr
  have hi' : (Try.prog.info? 26).map (·.size) = some vs.length := by rw [hl]; exact info26
  clear hX hr
  go_enter Try.func16, Try.ntmps16
  go_wp2_with (refine op_value rfl (run_load_row 26 (.tmp 1) rfl w.heap.size rfl 26 _ (0, 0) _ (World.alloc_heap_new w (.cells vs.toArray 26)) Try.underlying26 rfl hi') ?_)
  obtain ⟨W0, hW0⟩ : ∃ W0, w.alloc (.cells vs.toArray 26) = W0 := ⟨_, rfl⟩
  have hN0 : New w W0 := by rw [← hW0]; exact (Mods.refl _ _).alloc _
  rw [hW0]
  clear hW0
  go_loopw [2, 9] (fun c i wr => ∃ u x : Nat, u ≤ 8 ∧ x < 18446744073709551616 ∧ i = .int .i64 u ∧ c = .int .u64 x ∧ Hid (ofRows X 8 u = some x) ∧ New w wr) (fun _ i _ => 8 - (intOf i).toNat)
  case atStart => exact ⟨0, 0, by omega, by omega, rfl, rfl, rfl, hN0⟩
  case round =>
    obtain ⟨u, x, hu, hx, rfl, rfl, hof, hN⟩ := hrel
    by_cases hu8 : u < 8
    · obtain ⟨v, hv, hlen, ao, cap, rfl, hcell⟩ : ∃ v, (∀ w, (Instr.index 26 (.agg vs.toArray) (.int .i64 (u : Int))).run Try.prog w = .ok v w) ∧ ReadsI .i64 wr v (X u) := ⟨_, idx26 vs hl u hu8, (Hr.out u hu8).new hN⟩
      obtain ⟨n, hn⟩ : ∃ n, (X u).length = n := ⟨_, rfl⟩
      rw [hn] at hv hlen hcell
      have Hcell := Lib.hid hcell
      clear hcell
      have hud : decide ((u : Int) < 8) = true := by simp; omega
      go_wp2_with fail
      obtain ⟨wo, rfl⟩ : ∃ wo : World, wo = wr := ⟨_, rfl⟩
      go_loopw [2, 15] (fun c i wi => ∃ j y : Nat, j ≤ n ∧ y < 18446744073709551616 ∧ i = .int .i64 j ∧ c = .int .u64 y ∧ Hid (ofRow u x ((X u).take j) = some y) ∧ New wo wi) (fun _ i _ => n - (intOf i).toNat)
      case atStart => exact ⟨0, x, by omega, hx, rfl, rfl, rfl, Mods.refl _ _⟩
      case round =>
        obtain ⟨j, y, hj, hy, rfl, rfl, hrow, hN'⟩ := hrel
        by_cases hjn : j < n
        · obtain ⟨b, o, rfl, hc⟩ := Hcell.out j hjn
          have hc' := hN'.cell hc id
          have hjl : j < (X u).length := by omega
          obtain ⟨h1, h2⟩ := HX.out u ((X u).getD j 0) (by simp [List.getD, hjl])
          have htake : (X u).take (j + 1) = (X u).take j ++ [(X u).getD j 0] := by rw [List.take_succ_eq_append_getElem hjl]; simp [List.getD, hjl]
          have hsucc : ofRow u x ((X u).take (j + 1)) = ofRow u y [(X u).getD j 0] := by rw [htake, ofRow_append, hrow.out]; rfl
          obtain ⟨s, hs⟩ : ∃ s, (X u).getD j 0 = s := ⟨_, rfl⟩
          rw [hs] at h1 h2 hc' hsucc
          have hp := fun w => push_any y s u hy h1 h2 (by omega) (by omega) w
          have hlt := pushF_lt y s u hy
          obtain ⟨⟨y', ok⟩, hq⟩ : ∃ q, pushF y s u = q := ⟨_, rfl⟩
          simp only [ofRow, hq] at hsucc hlt
          rw [hq] at hp
          simp only [pair] at hp
          have Hp := Lib.hid hp
          have Hsucc := Lib.hid hsucc
          clear hp hsucc hq hs hc htake
          go_wp2_with fail
          refine (Hp.out _).mono ?_
          rintro e w1 ⟨rfl, hN1⟩
          cases ok with
          | true =>
            go_wp2_with fail
            go_roundw
            case rel => exact ⟨j + 1, y', by omega, hlt, by go_num, rfl, show _ = _ by rw [Hsucc.out]; rfl, hN'.trans hN1⟩
            case measure => simp [intOf]; omega
          | false =>
            go_wp2_with fail
            go_ret2
            have hno : ofRow u x (X u) = none := by
              have e : X u = (X u).take (j + 1) ++ (X u).drop (j + 1) := (List.take_append_drop _ _).symm
              rw [e, ofRow_append, Hsucc.out]; rfl
            exact ⟨by rw [ofF_none hu8 hof.out hno]; rfl, hN.trans (hN'.trans hN1)⟩
        · have hnext : Hid (ofRows X 8 (u + 1) = some y) := by
            show ofRows X 8 (u + 1) = some y
            obtain rfl : j = n := by omega
            have := hrow.out
            rw [List.take_of_length_le (by omega)] at this
            rw [ofRows, hof.out]
            exact this
          go_wp2_with fail
          go_roundw
          case rel => exact ⟨u + 1, y, by omega, hy, by go_num, rfl, hnext, hN.trans hN'⟩
          case measure => simp [intOf]; omega
    · go_wp2_with fail
      go_ret2
      obtain rfl : u = 8 := by omega
      exact ⟨by rw [ofF, hof.out]; rfl, hN⟩
end Go.Proofs.Ytlkepbmjagjfeaa
