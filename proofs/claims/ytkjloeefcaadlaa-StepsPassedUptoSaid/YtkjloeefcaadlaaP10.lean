/- A deed done to a word, whatever it is. -/
import Derived.Test.YtkjloeefcaadlaaP09
import Derived.Test.YtkjloeefcaadlaaP04
import Derived.Test.YtkjloeefcaadlaaP02
import Derived.Deep.QuietTactic
import Derived.BigQuiet
import Derived.Laws.LoneSync
import Derived.Test.YtkjloeefcaadlaaP01
set_option linter.unusedSimpArgs false
set_option linter.unusedVariables false
namespace Go.Proofs.Ytkjloeefcaadlaa
open Go.RowKit Go.Shelf Go.Cs
attribute [local go_sem] Oper.semAt_some
set_option maxRecDepth 100000 in
set_option maxHeartbeats 2000000 in
theorem does_not (x d : Nat) (s u : Int) (hdeed : isDeed d = false) (w : World) :
    Calls Try.prog 93 #[.int .u64 x, dv d s u] w fun e w' => e = .returned (ansV x 0 false) ∧ New w w' := by
  have HD := Lib.hid does_any
  unfold dv
  go_enter Try.func93, Try.ntmps93
  go_upto_region 1 with fail
  obtain ⟨W0, hW0⟩ : ∃ W0, (w.alloc (.cells #[.int .u8 (d : Nat), .int .i64 s, .int .i64 u] 93)).alloc (.cells #[.int .i64 0, .bool false] 89) = W0 := ⟨_, rfl⟩
  obtain ⟨hN0, hP0, hR0⟩ := made2 w d s u W0 hW0
  rw [hW0]
  clear hW0
  refine (wpIn_wide (n := 0)).1 ?_
  refine wpIn_region_any (by kernel_rfl) ?_
  show wpAnyIn _ _ _ _ _ _ _ _ _ W0.drew
  have hNd : New w W0.drew := hN0.drew
  have hPd : W0.drew.heap[w.heap.size]? = some (.cells #[.int .u8 (d : Nat), .int .i64 s, .int .i64 u] 93 (0, 0)) := hP0
  have hRd : W0.drew.heap[w.heap.size + 1]? = some (.cells #[.int .i64 0, .bool false] 89 (0, 0)) := hR0
  have hcd : W0.drew.cell? ⟨w.heap.size, 0, none⟩ = some (.int .u8 (d : Nat)) := by rw [cell_of_row _ _ _ _ _ _ hPd]; rfl
  obtain ⟨Wd, hWd⟩ : ∃ W, W0.drew = W := ⟨_, rfl⟩
  rw [hWd] at hNd hcd hPd hRd ⊢
  clear hWd hN0 hP0 hR0
  refine any_take 1 (some 10) (.pointer (some ⟨w.heap.size, 0, none⟩)) rfl rfl (by kernel_rfl) (by kernel_rfl) (by kernel_rfl) (fun _ _ _ h => h) (.value rfl fun w => by go_simp) ?_
  simp only [Act.put, List.setIfInBounds_toArray, List.set_cons_succ, List.set_cons_zero]
  refine wpAnyIn_all (rs := [0, 2]) (by kernel_rfl) (by simp) ?_
  simp only [List.mem_cons, List.not_mem_nil, or_false, forall_eq_or_imp, forall_eq]
  refine ⟨?ord1, ?ord2⟩
  case' ord1 =>
    refine opIn_call' (some 9) rfl rfl rfl rfl 139 #[] (by go_simp) ((HD.out _).mono ?_)
    rintro e w1 ⟨M, b1, b3, b4, rfl, hM, hN1⟩
    refine ⟨_, rfl, ?_⟩
    have hc1 := hN1.cell hcd id
    refine wpAnyIn_all (rs := [2]) (by kernel_rfl) (by simp) ?_
    simp only [List.mem_cons, List.not_mem_nil, or_false, forall_eq]
    refine opIn_value (some 11) (v := .int .u8 (d : Nat)) (w' := w1) rfl rfl rfl rfl (by go_simp) ?_
  case' ord2 =>
    refine opIn_value (some 11) (v := .int .u8 (d : Nat)) (w' := Wd) rfl rfl rfl rfl (by go_simp) ?_
    refine wpAnyIn_all (rs := [0]) (by kernel_rfl) (by simp) ?_
    simp only [List.mem_cons, List.not_mem_nil, or_false, forall_eq]
    refine opIn_call' (some 9) rfl rfl rfl rfl 139 #[] (by go_simp) ((HD.out _).mono ?_)
    rintro e w1 ⟨M, b1, b3, b4, rfl, hM, hN1⟩
    refine ⟨_, rfl, ?_⟩
  all_goals
    simp only [Act.put, List.setIfInBounds_toArray, List.set_cons_succ, List.set_cons_zero]
    refine wpAnyIn_all (rs := [3]) (by kernel_rfl) (by simp) ?_
    simp only [List.mem_cons, List.not_mem_nil, or_false, forall_eq]
    have hlk := look_deed hM d
    refine opIn_value (some 12) (v := dval d b1 b3 b4) (w' := w1) rfl rfl rfl rfl (by go_simp) ?_
    simp only [Act.put, List.setIfInBounds_toArray, List.set_cons_succ, List.set_cons_zero]
    refine wpAnyIn_all (rs := [4]) (by kernel_rfl) (by simp) ?_
    simp only [List.mem_cons, List.not_mem_nil, or_false, forall_eq]
    refine opIn_value (some 6) (v := dval d b1 b3 b4) (w' := w1) rfl rfl rfl rfl (by go_simp) ?_
    simp only [Act.put, List.setIfInBounds_toArray, List.set_cons_succ, List.set_cons_zero]
    refine wpAnyIn_done (by kernel_rfl) ?_ _
    have hR1 := hN1.heap hRd id
    have hN1' := hNd.trans hN1
    clear hPd hRd hNd hcd hlk hN1 hM
    go_wp2_with (first | (refine op_value rfl (run_neq_is (.tmp 13) rfl d b1 b3 b4 rfl hdeed) ?_) | (refine op_skip rfl (run_store_row 89 (.tmp 5) (.tmp 27) rfl (w.heap.size + 1) rfl 89 [.int .i64 0, .bool false] [.int .i64 0, .bool false] rfl hR1 info89 rfl (by simp [Value.oneCell'])) ?_))
    have h2 := setRow_heap w1 (w.heap.size + 1) _ [.int .i64 0, .bool false].toArray 89 (0, 0) hR1
    exact bodyPost_ret (v := .tuple #[.int .u64 (x : Nat), .agg #[.int .i64 0, .bool false]]) (results_2cell (fn := Try.f93) (p := 5) (q := 4) (v := .int .u64 (x : Nat)) rfl _ _ (w.heap.size + 1) 89 _ (0, 0) _ rfl h2 Try.underlying89 rfl info89 rfl) rfl ⟨rfl, hN1'.setRow (by omega) _⟩
/-- What a deed does, whatever it is. -/
theorem does_S (x d : Nat) (s u : Int) (hx : x < 18446744073709551616) (h1 : -9223372036854775808 ≤ s) (h2 : s ≤ 9223372036854775807) (h3 : -9223372036854775808 ≤ u) (h4 : u ≤ 9223372036854775807) (w : World) :
    Calls Try.prog 93 #[.int .u64 x, dv d s u] w fun e w' => e = .returned (ansV (doesS x d s u).1 (doesS x d s u).2.1 (doesS x d s u).2.2) ∧ New w w' := by
  unfold doesS
  by_cases d1 : d = 1
  · subst d1
    refine (does_yes x 1 s u (pushF x s u).1 0 (pushF x s u).2 rfl (fun W M b1 b3 b4 hM => ⟨166, #[.pointer (some ⟨b1, 0, none⟩)], rfl, enters_of Try.func166 (by kernel_rfl) rfl, clo_any 71 b1 x 1 s u (pushF x s u) W hM.push (enters_of Try.func71 (by kernel_rfl) rfl) (fun w => push_any x s u hx h1 h2 h3 h4 w)⟩) w).mono fun e w' ⟨he, hN⟩ => ⟨by rw [he]; cases hb : (pushF x s u).2 <;> simp, hN⟩
  by_cases d2 : d = 2
  · subst d2
    refine (does_yes x 2 s u (bestF x).1 (bestF x).2.1 (bestF x).2.2 rfl (fun W M b1 b3 b4 hM => ⟨168, #[], rfl, enters_of Try.func168 (by kernel_rfl) rfl, bestS1 x 2 s u hx W⟩) w).mono fun e w' ⟨he, hN⟩ => ⟨by rw [he]; cases hb : (bestF x).2.2 <;> simp, hN⟩
  by_cases d3 : d = 3
  · subst d3
    refine (does_yes x 3 s u (turnF x s u).1 0 (turnF x s u).2 rfl (fun W M b1 b3 b4 hM => ⟨166, #[.pointer (some ⟨b3, 0, none⟩)], rfl, enters_of Try.func166 (by kernel_rfl) rfl, clo_any 76 b3 x 3 s u (turnF x s u) W hM.turn (enters_of Try.func76 (by kernel_rfl) rfl) (fun w => turn_any x s u hx h1 h2 h3 h4 w)⟩) w).mono fun e w' ⟨he, hN⟩ => ⟨by rw [he]; cases hb : (turnF x s u).2 <;> simp, hN⟩
  by_cases d4 : d = 4
  · subst d4
    refine (does_yes x 4 s u (outF x s).1 0 (outF x s).2 rfl (fun W M b1 b3 b4 hM => ⟨166, #[.pointer (some ⟨b4, 0, none⟩)], rfl, enters_of Try.func166 (by kernel_rfl) rfl, clo_any 167 b4 x 4 s u (outF x s) W hM.out (enters_of Try.func167 (by kernel_rfl) rfl) (fun w => outS1 x s u hx w)⟩) w).mono fun e w' ⟨he, hN⟩ => ⟨by rw [he]; cases hb : (outF x s).2 <;> simp, hN⟩
  · refine (does_not x d s u (by simp [isDeed, d1, d2, d3, d4]) w).mono fun e w' ⟨he, hN⟩ => ⟨by rw [he, if_neg d1, if_neg d2, if_neg d3, if_neg d4], hN⟩
end Go.Proofs.Ytkjloeefcaadlaa
/- The document's own words: a place, the list, the word of a list; which may be. -/
namespace Go.Proofs.Ytkjloeefcaadlaa
open Go.RowKit Go.Shelf Go.Cs
attribute [local go_sem] Oper.semAt_some
theorem info55 : (Try.prog.info? 126).map (fun i => (i.zero, i.size, i.bytes)) = some (some (.agg #[.int .i64 0, .int .i64 0]), 2, 16) := by kernel_rfl
theorem place_ref (x k : Nat) (hx : x < 18446744073709551616) (hk : k < 8) (w : World) :
    Calls Try.prog 127 #[.int .u64 x, .int .i64 k] w fun e w' => e = .returned (.int .i64 (place x k : Nat)) ∧ w = w' := by
  have hp := place_lt x k
  obtain ⟨p, hpx, hp64⟩ : ∃ p, x / 2 ^ (7 * k) = p ∧ p < 18446744073709551616 := ⟨_, rfl, div_lt64 x _ hx⟩
  have he : (x : Int) / 2 ^ (7 * k) = (p : Int) := by rw [← hpx]; exact div_cast x _
  have e1 : place x k = p % 128 := by rw [place, hpx]
  have e2 := and127 p hp64
  rw [← e1] at e2
  obtain ⟨q, hq⟩ : ∃ q, place x k = q := ⟨_, rfl⟩
  rw [hq] at hp e2 ⊢
  clear hpx e1 hq
  go_enter Try.func127, Try.ntmps127
  go_wp2
  go_ret
  exact ⟨rfl, rfl⟩
/-- The places as cells: a slot, an urgency each. -/
def cells2 (x n : Nat) : List Value := (List.range n).flatMap fun k => [.int .i64 (place x k % 8 : Nat), .int .i64 (place x k / 8 % 8 : Nat)]
theorem cells2_succ (x n : Nat) : cells2 x (n + 1) = cells2 x n ++ [.int .i64 (place x n % 8 : Nat), .int .i64 (place x n / 8 % 8 : Nat)] := by
  unfold cells2
  rw [List.range_succ, List.flatMap_append]
  simp
theorem cells2_len (x n : Nat) : (cells2 x n).length = 2 * n := by
  induction n with
  | zero => rfl
  | succ n ih => rw [cells2_succ, List.length_append, ih]; simp; omega
theorem list_ref (x n : Nat) (hx : x < 18446744073709551616) (hn : x / 2 ^ 60 = n) (h8 : n ≤ 8) (w : World) :
    Calls Try.prog 67 #[.int .u64 x] w fun e w' => ∃ v, e = .returned v ∧ w'.ownsRow w.heap.size 126 2 v n (cells2 x n) ∧ New w w' := by
  have HP := Lib.hid (place_ref x)
  have he : (x : Int) / 1152921504606846976 = (n : Int) := by simp only [Nat.reducePow] at hn; omega
  have hmin : min n 8 = n := by omega
  obtain ⟨i0, hi, hz0, hz1, hz2⟩ := info_parts info55
  go_enter Try.func67, Try.ntmps67
  go_wp2
  go_loopw [3, 4, 5] (fun v c d wr => ∃ k : Nat, k ≤ n ∧ c = .int .i64 k ∧ wr.ownsRow w.heap.size 126 2 v k (cells2 x k) ∧ New w wr) (fun _ c _ _ => n - (intOf c).toNat)
  case atStart => exact ⟨0, Nat.zero_le _, rfl, World.ownsRow_nil _ _ _ _, Mods.refl _ _⟩
  case round =>
    obtain ⟨k, hk, rfl, hown, hN⟩ := hrel
    by_cases hlt : k < n
    · have hq128 := place_lt x k
      have hcs := cells2_succ x k
      have HPk := HP.out k hx (by omega)
      obtain ⟨q, hq⟩ : ∃ q, place x k = q := ⟨_, rfl⟩
      rw [hq] at hq128 hcs HPk
      have e1 : ((q : Int).tmod 8) = ((q % 8 : Nat) : Int) := by rw [Int.tmod_eq_emod_of_nonneg (by omega)]; rfl
      have e2 : ((q : Int).tdiv 8) = ((q / 8 : Nat) : Int) := by rw [Int.tdiv_eq_ediv_of_nonneg (by omega)]; rfl
      have e3 : (((q / 8 : Nat) : Int).tmod 8) = ((q / 8 % 8 : Nat) : Int) := by rw [Int.tmod_eq_emod_of_nonneg (by omega)]; rfl
      obtain ⟨r, hr, hr8⟩ : ∃ r, q % 8 = r ∧ r < 8 := ⟨_, rfl, Nat.mod_lt _ (by decide)⟩
      obtain ⟨d, hd, hd16⟩ : ∃ r, q / 8 = r ∧ r < 16 := ⟨_, rfl, by omega⟩
      rw [hd] at e2 e3 hcs
      obtain ⟨t, ht, ht8⟩ : ∃ r, d % 8 = r ∧ r < 8 := ⟨_, rfl, Nat.mod_lt _ (by decide)⟩
      rw [hr] at e1 hcs
      rw [ht] at e3 hcs
      have HPk := Lib.hid HPk
      clear hq hr ht hd
      go_wp2_with fail
      refine (HPk.out _).mono ?_
      rintro e w1 ⟨rfl, rfl⟩
      go_wp2_with (at_builtin; refine wpList_append_own _ rfl _ _ 123 rfl w.heap.size 126 i0 _ 2 16 Try.underlying123 hi hz0 hz1 hz2 rfl (by decide) _ _ _ rfl (hown.alloc _) ⟨wr.heap.size, 0, none⟩ 1 1 [.int .i64 r, .int .i64 t] rfl rfl ?c1 ?c2 ?c3 ?c4 ?c5 ?_)
      case c1 =>
        intro j u hj
        match j, hj with
        | 0, hj => simp at hj; subst hj; simp [Addr.add]
        | 1, hj => simp at hj; subst hj; simp [Addr.add]
      case c2 => intro u hu; simp at hu; rcases hu with rfl | rfl <;> rfl
      case c3 => unfold maxLen; omega
      case c4 => omega
      case c5 => have := hN.size; simp; omega
      intro v' w2 hown' hgrow _
      rw [← hcs] at hown'
      have hN2 := (hN.alloc (.cells #[.int .i64 r, .int .i64 t] 126)).grown hgrow (by intro g hg; have := (hown.alloc (.cells #[.int .i64 r, .int .i64 t] 126)).lt g hg; omega)
      clear hgrow hown hN hcs
      go_wp2
      go_roundw
      case rel => exact ⟨k + 1, by omega, by go_num, hown', hN2⟩
      case measure => simp [intOf]; omega
    · go_wp2_with fail
      obtain rfl : k = n := by omega
      go_ret
      exact ⟨_, rfl, hown, hN⟩
end Go.Proofs.Ytkjloeefcaadlaa
/- The document's word of a list, and which may be. -/
namespace Go.Proofs.Ytkjloeefcaadlaa
open Go.RowKit Go.Shelf Go.Cs
attribute [local go_sem] Oper.semAt_some
/-- A slice of the first places of a word. -/
def Reads2 (x n : Nat) (W : World) (v : Value) : Prop :=
  ∃ ao cap, v = .slice ao n cap ∧ ∀ k, k < n → ∃ b, ao = some ⟨b, 0, none⟩ ∧ W.cell? ⟨b, k * 2, none⟩ = some (.int .i64 (place x k % 8 : Nat)) ∧ W.cell? ⟨b, k * 2 + 1, none⟩ = some (.int .i64 (place x k / 8 % 8 : Nat))
theorem cells2_at (x n k : Nat) (hk : k < n) : (cells2 x n)[k * 2]? = some (.int .i64 (place x k % 8 : Nat)) ∧ (cells2 x n)[k * 2 + 1]? = some (.int .i64 (place x k / 8 % 8 : Nat)) := by
  induction n with
  | zero => omega
  | succ n ih =>
    rw [cells2_succ]
    by_cases h : k < n
    · obtain ⟨h1, h2⟩ := ih h
      have := cells2_len x n
      rw [List.getElem?_append_left (by omega), List.getElem?_append_left (by omega)]
      exact ⟨h1, h2⟩
    · obtain rfl : k = n := by omega
      have := cells2_len x k
      rw [List.getElem?_append_right (by omega), List.getElem?_append_right (by omega), this]
      simp [Nat.mul_comm]
theorem Reads2.ofOwns {base x n : Nat} {W : World} {v : Value} (h : W.ownsRow base 126 2 v n (cells2 x n)) : Reads2 x n W v := by
  have hc := fun g => World.ownsRow.cells (g := g) h
  obtain ⟨_, ⟨rfl, rfl⟩ | ⟨g, cap, cur, rfl, _⟩⟩ := h
  · exact ⟨none, 0, rfl, fun k hk => by omega⟩
  · refine ⟨some ⟨g, 0, none⟩, cap, rfl, fun k hk => ⟨g, rfl, ?_⟩⟩
    obtain ⟨h1, h2⟩ := cells2_at x n k hk
    have a1 := hc g rfl _ _ h1
    have a2 := hc g rfl _ _ h2
    simp only [Addr.add, Nat.zero_add] at a1 a2
    refine ⟨?_, by simpa using a2⟩
    split at a1
    · rename_i h0; rw [show k * 2 = 0 from by simpa using h0]; exact a1
    · exact a1
theorem word_ref (x n : Nat) (hr : rightB x = true) (hn : x / 2 ^ 60 = n) (v : Value) (w : World) (hv : Reads2 x n w v) :
    Calls Try.prog 68 #[v] w fun e w' => e = .returned (.int .u64 (x : Nat)) ∧ New w w' := by
  obtain ⟨a1, a2, a3⟩ := right_top hr hn
  obtain ⟨ao, cap, rfl, hc⟩ := hv
  have hz := part_zero x n
  have hs : IntKind.u64.wrap ((n : Int) * 1152921504606846976) = (part x n 0 : Int) := by
    rw [hz, show ((n : Int) * 1152921504606846976) = ((n * 2 ^ 60 : Nat) : Int) by simp, wrapN, Nat.mod_eq_of_lt (by omega)]
  obtain ⟨p0, hp0⟩ : ∃ p, part x n 0 = p := ⟨_, rfl⟩
  rw [hp0] at hs
  clear hz
  go_enter Try.func68, Try.ntmps68
  go_wp2
  go_loopw [3, 4] (fun p i wr => ∃ k : Nat, k ≤ n ∧ i = .int .i64 k ∧ p = .int .u64 (part x n k) ∧ New w wr) (fun _ i _ => n - (intOf i).toNat)
  case atStart => exact ⟨0, Nat.zero_le _, rfl, by rw [hp0], Mods.refl _ _⟩
  case round =>
    obtain ⟨k, hk, rfl, rfl, hN⟩ := hrel
    clear hs hp0
    by_cases hlt : k < n
    · obtain ⟨b, rfl, h1, h2⟩ := hc k hlt
      have h1 := hN.cell h1 id
      have h2 := hN.cell h2 id
      have hP := part_next hr hn hlt
      obtain ⟨sl, hsl, hsl8⟩ : ∃ s, place x k % 8 = s ∧ s < 8 := ⟨_, rfl, Nat.mod_lt _ (by decide)⟩
      obtain ⟨u, hu, hu8⟩ : ∃ s, place x k / 8 % 8 = s ∧ s < 8 := ⟨_, rfl, Nat.mod_lt _ (by decide)⟩
      rw [hsl] at hP h1
      rw [hu] at hP h2
      clear hsl hu hc
      go_wp2
      go_quiet (fail)
      go_wp2
      go_roundw
      case rel => exact ⟨k + 1, by omega, by go_num, rfl, hN.drewN _⟩
      case measure => simp [intOf]; omega
    · obtain rfl : n = k := by omega
      have hpa := part_all hr hn
      rw [hpa]
      go_wp2
      go_ret
      exact ⟨rfl, hN⟩
theorem right_ref (x : Nat) (hx : x < 18446744073709551616) (hr : rightB x = true) (w : World) :
    Calls Try.prog 19 #[.int .u64 x] w fun e w' => e = .returned (.bool true) ∧ New w w' := by
  obtain ⟨n, hn⟩ : ∃ n, x / 2 ^ 60 = n := ⟨_, rfl⟩
  obtain ⟨a1, a2, a3⟩ := right_top hr hn
  have HL := Lib.hid (list_ref x n hx hn a1)
  have HW := Lib.hid (word_ref x n hr hn)
  have hp : ∀ k i, k < i → i < n → place x k / 8 % 8 ≤ place x i / 8 % 8 ∧ place x k % 8 ≠ place x i % 8 := fun k i h1 h2 => stt_pair a3 h1 h2
  have Hp := Lib.hid hp
  clear hp a2 a3 hr
  go_enter Try.func19, Try.ntmps19
  go_wp2_with fail
  refine (HL.out _).mono ?_
  rintro e w1 ⟨v, rfl, hown, hN1⟩
  have hv := Reads2.ofOwns hown
  clear hown
  go_wp2_with fail
  refine (HW.out v _ hv).mono ?_
  rintro e w2 ⟨rfl, hN2⟩
  have hN := hN1.trans hN2
  have hv2 : Reads2 x n w2 v := by
    obtain ⟨ao, cap, rfl, hc⟩ := hv
    refine ⟨ao, cap, rfl, fun k hk => ?_⟩
    obtain ⟨b, rfl, h1, h2⟩ := hc k hk
    exact ⟨b, rfl, hN2.cell h1 id, hN2.cell h2 id⟩
  obtain ⟨ao, cap, rfl, hc⟩ := hv2
  clear hv hN1 hN2 hn HL HW
  have Hc := Lib.hid hc
  clear hc
  go_wp2
  go_loopw [4, 5] (fun i _ wr => ∃ k : Nat, k ≤ n ∧ i = .int .i64 k ∧ New w2 wr) (fun i _ _ => n - (intOf i).toNat)
  case atStart => exact ⟨0, Nat.zero_le _, rfl, Mods.refl _ _⟩
  case round =>
    obtain ⟨i, hi, rfl, hNi⟩ := hrel
    by_cases hlt : i < n
    · go_wp2
      obtain ⟨wo, hwo⟩ : ∃ wo, wr = wo := ⟨_, rfl⟩
      rw [hwo] at hNi ⊢
      clear hwo wr
      go_loopw [5] (fun c wr => ∃ k : Nat, k ≤ i ∧ c = .int .i64 k ∧ New wo wr) (fun c _ => i - (intOf c).toNat)
      case atStart => exact ⟨0, Nat.zero_le _, rfl, Mods.refl _ _⟩
      case round =>
        obtain ⟨k, hk, rfl, hNk⟩ := hrel
        by_cases hlk : k < i
        · obtain ⟨b, rfl, h1, h2⟩ := Hc.out k (by omega)
          obtain ⟨b', hb', h3, h4⟩ := Hc.out i hlt
          simp only [Option.some.injEq, Addr.mk.injEq, and_true] at hb'
          subst hb'
          obtain ⟨p1, p2⟩ := Hp.out k i hlk hlt
          have hNN := hNi.trans hNk
          have h1 := hNN.cell h1 id
          have h2 := hNN.cell h2 id
          have h3 := hNN.cell h3 id
          have h4 := hNN.cell h4 id
          obtain ⟨s1, hs1⟩ : ∃ s, place x k % 8 = s := ⟨_, rfl⟩
          obtain ⟨u1, hu1⟩ : ∃ s, place x k / 8 % 8 = s := ⟨_, rfl⟩
          obtain ⟨s2, hs2⟩ : ∃ s, place x i % 8 = s := ⟨_, rfl⟩
          obtain ⟨u2, hu2⟩ : ∃ s, place x i / 8 % 8 = s := ⟨_, rfl⟩
          rw [hs1] at h1 p2
          rw [hu1] at h2 p1
          rw [hs2] at h3 p2
          rw [hu2] at h4 p1
          clear hs1 hu1 hs2 hu2
          have hkn : k < n := by omega
          have q1 : ((s1 : Int) == (s2 : Int)) = false := beq_eq_false_iff_ne.2 (by omega)
          have q2 : decide ((u2 : Int) < (u1 : Int)) = false := decide_eq_false (by omega)
          go_wp2
          go_quiet (fail)
          go_wp2
          go_roundw
          case rel => exact ⟨k + 1, by omega, by go_num, hNk.drewN _⟩
          case measure => simp [intOf]; omega
        · go_wp2
          go_roundw
          case rel => exact ⟨i + 1, by omega, by go_num, hNi.trans hNk⟩
          case measure => simp [intOf]; omega
    · go_wp2
      go_ret
      exact ⟨rfl, hN.trans hNi⟩
end Go.Proofs.Ytkjloeefcaadlaa
/- The document's words of lists of places, for any list. -/
namespace Go.Proofs.Ytkjloeefcaadlaa
open Go.RowKit Go.Shelf Go.Cs
attribute [local go_sem] Oper.semAt_some
def cellsP (l : List (Nat × Nat)) : List Value := l.flatMap fun p => [.int .i64 (p.1 : Nat), .int .i64 (p.2 : Nat)]
theorem cells2_dec (x n : Nat) : cells2 x n = cellsP (dec x n) := by
  unfold cells2 cellsP dec
  rw [List.flatMap_map]
theorem dec_in (x n : Nat) : InL (dec x n) := fun p hp => by
  unfold dec at hp
  obtain ⟨k, _, rfl⟩ := List.mem_map.1 hp
  exact ⟨Nat.mod_lt _ (by decide), Nat.mod_lt _ (by decide)⟩
theorem dec_enc {l : List (Nat × Nat)} (h : InL l) (h8 : l.length ≤ 8) : dec (enc l) l.length = l := by
  refine List.ext_getElem (by simp [dec]) (fun k hk hk' => ?_)
  have hp := place_at h h8 hk'
  have hm := h (l.getD k (0, 0)) (by simp [List.getD, hk'])
  have e : (dec (enc l) l.length)[k] = (place (enc l) k % 8, place (enc l) k / 8 % 8) := by simp [dec]
  rw [e, hp, digit_slot hm, digit_urgency hm]
  simp [List.getD, hk']
theorem encT_take {l : List (Nat × Nat)} {k : Nat} (hk : k < l.length) : encT (l.take (k + 1)) = encT (l.take k) + 2 ^ (7 * k) * digit (l.getD k (0, 0)) := by
  rw [List.take_succ_eq_append_getElem hk, encT_append]
  simp [encT, List.getD, hk, Nat.min_eq_left (Nat.le_of_lt hk)]
theorem enc_next {l : List (Nat × Nat)} (h : InL l) (h8 : l.length ≤ 8) {k s u : Nat} (hk : k < l.length) (hs : (l.getD k (0, 0)).1 = s) (hu : (l.getD k (0, 0)).2 = u) :
    bits .or .u64 ((l.length * 2 ^ 60 + encT (l.take k) : Nat) : Int) (IntKind.u64.wrap ((64 + 8 * ((u : Nat) : Int) + ((s : Nat) : Int)) * 2 ^ (7 * k))) = ((l.length * 2 ^ 60 + encT (l.take (k + 1)) : Nat) : Int) := by
  have hm := h (l.getD k (0, 0)) (by simp [List.getD, hk])
  have hd := digit_lt hm
  have hdd : digit (l.getD k (0, 0)) = 64 + 8 * u + s := by unfold digit; rw [hs, hu]
  rw [hs, hu] at hm
  have hlow : encT (l.take k) < 2 ^ (7 * k) := by
    have := encT_lt (l := l.take k) (fun p hp => h p (List.mem_of_mem_take hp))
    rwa [List.length_take, Nat.min_eq_left (Nat.le_of_lt hk)] at this
  have hp : 2 ^ (7 * k) ≤ 2 ^ 49 := Nat.pow_le_pow_right (n := 2) (by decide) (by omega)
  have hmm : (64 + 8 * u + s) * 2 ^ (7 * k) ≤ 127 * 2 ^ 49 := Nat.mul_le_mul (by omega) hp
  have hn : l.length * 2 ^ 60 ≤ 8 * 2 ^ 60 := Nat.mul_le_mul h8 (Nat.le_refl _)
  have e1 : (64 + 8 * ((u : Nat) : Int) + ((s : Nat) : Int)) = ((64 + 8 * u + s : Nat) : Int) := by omega
  rw [e1, cast_pow, ← Int.natCast_mul, wrapN, Nat.mod_eq_of_lt (by omega), or_u64 _ _ (by omega) (by omega), encT_take hk, hdd]
  congr 1
  have j1 : l.length * 2 ^ 60 + encT (l.take k) = l.length * 2 ^ 60 ||| encT (l.take k) := (nat_join 60 _ _ (Nat.mul_mod_left _ _) (by omega)).symm
  rw [j1, Nat.or_assoc, Nat.or_comm (encT (l.take k)), nat_join (7 * k) _ _ (Nat.mul_mod_left _ _) hlow, Nat.add_comm _ (encT (l.take k)), Nat.mul_comm (64 + 8 * u + s)]
  exact nat_join 60 _ _ (Nat.mul_mod_left _ _) (by rw [Nat.mul_comm (2 ^ (7 * k))]; omega)
/-- A slice of places that reads as the list. -/
def ReadsP (l : List (Nat × Nat)) (W : World) (v : Value) : Prop :=
  ∃ ao cap, v = .slice ao l.length cap ∧ ∀ k, k < l.length → ∃ b, ao = some ⟨b, 0, none⟩ ∧ W.cell? ⟨b, k * 2, none⟩ = some (.int .i64 (l.getD k (0, 0)).1) ∧ W.cell? ⟨b, k * 2 + 1, none⟩ = some (.int .i64 (l.getD k (0, 0)).2)
theorem ReadsP.new {l : List (Nat × Nat)} {W W' : World} {v : Value} (h : ReadsP l W v) (hN : New W W') : ReadsP l W' v := by
  obtain ⟨ao, cap, e, hc⟩ := h
  refine ⟨ao, cap, e, fun k hk => ?_⟩
  obtain ⟨b, e2, h1, h2⟩ := hc k hk
  exact ⟨b, e2, hN.cell h1 id, hN.cell h2 id⟩
theorem cellsP_at (l : List (Nat × Nat)) (k : Nat) (hk : k < l.length) : (cellsP l)[k * 2]? = some (.int .i64 (l.getD k (0, 0)).1) ∧ (cellsP l)[k * 2 + 1]? = some (.int .i64 (l.getD k (0, 0)).2) := by
  induction l generalizing k with
  | nil => simp at hk
  | cons p t ih =>
    cases k with
    | zero => exact ⟨rfl, rfl⟩
    | succ k =>
      have := ih k (by simpa using hk)
      unfold cellsP at this ⊢
      rw [List.flatMap_cons]
      simpa [Nat.succ_mul] using this
theorem cellsP_len (l : List (Nat × Nat)) : (cellsP l).length = l.length * 2 := by
  induction l with
  | nil => rfl
  | cons p t ih =>
    unfold cellsP at ih ⊢
    rw [List.flatMap_cons]
    simp [ih]; omega
theorem ReadsP.ofOwns {base n : Nat} {l : List (Nat × Nat)} {W : World} {v : Value} (hn : n = l.length) (h : W.ownsRow base 126 2 v n (cellsP l)) : ReadsP l W v := by
  subst hn
  have hc := fun g => World.ownsRow.cells (g := g) h
  obtain ⟨_, ⟨rfl, h0⟩ | ⟨g, cap, cur, rfl, _⟩⟩ := h
  · exact ⟨none, 0, by rw [h0], fun k hk => by omega⟩
  · refine ⟨some ⟨g, 0, none⟩, cap, rfl, fun k hk => ⟨g, rfl, ?_⟩⟩
    obtain ⟨h1, h2⟩ := cellsP_at l k hk
    have a1 := hc g rfl _ _ h1
    have a2 := hc g rfl _ _ h2
    rw [Addr.add_lit, Nat.zero_add] at a1 a2
    exact ⟨a1, a2⟩
set_option maxRecDepth 100000 in
theorem list_over (x m : Nat) (hx : x < 18446744073709551616) (hm : x / 2 ^ 60 = m) (h9 : 8 < m) (w : World) :
    Calls Try.prog 67 #[.int .u64 x] w fun e w' => ∃ v, e = .returned v ∧ w'.ownsRow w.heap.size 126 2 v 8 (cells2 x 8) ∧ New w w' := by
  have HP := Lib.hid (place_ref x)
  have he : (x : Int) / 1152921504606846976 = (m : Int) := by simp only [Nat.reducePow] at hm; omega
  have h9' : (8 : Int) < (m : Int) := by omega
  clear hm
  obtain ⟨i0, hi, hz0, hz1, hz2⟩ := info_parts info55
  go_enter Try.func67, Try.ntmps67
  go_wp2
  go_loopw [3, 4, 5] (fun v c d wr => ∃ k : Nat, k ≤ 8 ∧ c = .int .i64 k ∧ wr.ownsRow w.heap.size 126 2 v k (cells2 x k) ∧ New w wr) (fun _ c _ _ => 8 - (intOf c).toNat)
  case atStart => exact ⟨0, Nat.zero_le _, rfl, World.ownsRow_nil _ _ _ _, Mods.refl _ _⟩
  case round =>
    obtain ⟨k, hk, rfl, hown, hN⟩ := hrel
    by_cases hlt : k < 8
    · have hq128 := place_lt x k
      have hcs := cells2_succ x k
      have HPk := HP.out k hx (by omega)
      obtain ⟨q, hq⟩ : ∃ q, place x k = q := ⟨_, rfl⟩
      rw [hq] at hq128 hcs HPk
      have e1 : ((q : Int).tmod 8) = ((q % 8 : Nat) : Int) := by rw [Int.tmod_eq_emod_of_nonneg (by omega)]; rfl
      have e2 : ((q : Int).tdiv 8) = ((q / 8 : Nat) : Int) := by rw [Int.tdiv_eq_ediv_of_nonneg (by omega)]; rfl
      have e3 : (((q / 8 : Nat) : Int).tmod 8) = ((q / 8 % 8 : Nat) : Int) := by rw [Int.tmod_eq_emod_of_nonneg (by omega)]; rfl
      obtain ⟨r, hr, hr8⟩ : ∃ r, q % 8 = r ∧ r < 8 := ⟨_, rfl, Nat.mod_lt _ (by decide)⟩
      obtain ⟨d, hd, hd16⟩ : ∃ r, q / 8 = r ∧ r < 16 := ⟨_, rfl, by omega⟩
      rw [hd] at e2 e3 hcs
      obtain ⟨t, ht, ht8⟩ : ∃ r, d % 8 = r ∧ r < 8 := ⟨_, rfl, Nat.mod_lt _ (by decide)⟩
      rw [hr] at e1 hcs
      rw [ht] at e3 hcs
      have HPk := Lib.hid HPk
      clear hq hr ht hd
      go_wp2_with fail
      refine (HPk.out _).mono ?_
      rintro e w1 ⟨rfl, rfl⟩
      go_wp2_with (at_builtin; refine wpList_append_own _ rfl _ _ 123 rfl w.heap.size 126 i0 _ 2 16 Try.underlying123 hi hz0 hz1 hz2 rfl (by decide) _ _ _ rfl (hown.alloc _) ⟨wr.heap.size, 0, none⟩ 1 1 [.int .i64 r, .int .i64 t] rfl rfl ?c1 ?c2 ?c3 ?c4 ?c5 ?_)
      case c1 =>
        intro j u hj
        match j, hj with
        | 0, hj => simp at hj; subst hj; simp [Addr.add]
        | 1, hj => simp at hj; subst hj; simp [Addr.add]
      case c2 => intro u hu; simp at hu; rcases hu with rfl | rfl <;> rfl
      case c3 => unfold maxLen; omega
      case c4 => omega
      case c5 => have := hN.size; simp; omega
      intro v' w2 hown' hgrow _
      rw [← hcs] at hown'
      have hN2 := (hN.alloc (.cells #[.int .i64 r, .int .i64 t] 126)).grown hgrow (by intro g hg; have := (hown.alloc (.cells #[.int .i64 r, .int .i64 t] 126)).lt g hg; omega)
      clear hgrow hown hN hcs
      go_wp2
      go_roundw
      case rel => exact ⟨k + 1, by omega, by go_num, hown', hN2⟩
      case measure => simp [intOf]; omega
    · go_wp2_with fail
      obtain rfl : k = 8 := by omega
      go_ret
      exact ⟨_, rfl, hown, hN⟩
theorem list_gen (x n : Nat) (hx : x < 18446744073709551616) (hn : min (x / 2 ^ 60) 8 = n) (w : World) :
    Calls Try.prog 67 #[.int .u64 x] w fun e w' => ∃ v, e = .returned v ∧ w'.ownsRow w.heap.size 126 2 v n (cellsP (dec x n)) ∧ New w w' := by
  rw [← cells2_dec]
  by_cases h : x / 2 ^ 60 ≤ 8
  · exact list_ref x n hx (by omega) (by omega) w
  · obtain rfl : n = 8 := by omega
    exact list_over x _ hx rfl (by omega) w
theorem word_gen (l : List (Nat × Nat)) (h : InL l) (h8 : l.length ≤ 8) (v : Value) (w : World) (hv : ReadsP l w v) :
    Calls Try.prog 68 #[v] w fun e w' => e = .returned (.int .u64 (enc l : Nat)) ∧ New w w' := by
  obtain ⟨ao, cap, rfl, hc⟩ := hv
  have Hnext := Lib.hid (fun k s u hk hs hu => enc_next h h8 (k := k) (s := s) (u := u) hk hs hu)
  have Hin := Lib.hid (fun k (hk : k < l.length) => h (l.getD k (0, 0)) (by simp [List.getD, hk]))
  have Hall := Lib.hid (show l.length * 2 ^ 60 + encT (l.take l.length) = enc l by rw [List.take_length]; rfl)
  have Hzero := Lib.hid (show l.length * 2 ^ 60 + encT (l.take 0) = l.length * 2 ^ 60 by simp [encT])
  obtain ⟨P, hP⟩ : ∃ P : Nat → Nat, ∀ k, l.length * 2 ^ 60 + encT (l.take k) = P k := ⟨_, fun _ => rfl⟩
  obtain ⟨n, hn⟩ : ∃ n, l.length = n := ⟨_, rfl⟩
  simp only [hP] at Hnext Hall Hzero
  rw [hn] at hc h8 Hin Hall Hzero Hnext ⊢
  have hs : IntKind.u64.wrap ((n : Int) * 1152921504606846976) = (P 0 : Int) := by
    rw [Hzero.out, show ((n : Int) * 1152921504606846976) = ((n * 2 ^ 60 : Nat) : Int) by simp, wrapN, Nat.mod_eq_of_lt (by omega)]
  have Hc := Lib.hid hc
  obtain ⟨p0, hp0⟩ : ∃ p, P 0 = p := ⟨_, rfl⟩
  rw [hp0] at hs
  have Hp0 := Lib.hid hp0
  clear hc h hP hn hp0
  go_enter Try.func68, Try.ntmps68
  go_wp2
  go_loopw [3, 4] (fun p i wr => ∃ k : Nat, k ≤ n ∧ i = .int .i64 k ∧ p = .int .u64 (P k) ∧ New w wr) (fun _ i _ => n - (intOf i).toNat)
  case atStart => exact ⟨0, Nat.zero_le _, rfl, by rw [Hp0.out], Mods.refl _ _⟩
  case round =>
    obtain ⟨k, hk, rfl, rfl, hN⟩ := hrel
    clear hs
    by_cases hlt : k < n
    · obtain ⟨b, rfl, h1, h2⟩ := Hc.out k hlt
      have h1 := hN.cell h1 id
      have h2 := hN.cell h2 id
      obtain ⟨hsl8, hu8⟩ := Hin.out k hlt
      have hnx := Hnext.out k _ _ hlt rfl rfl
      obtain ⟨sl, hsl⟩ : ∃ s, (l.getD k (0, 0)).1 = s := ⟨_, rfl⟩
      obtain ⟨u, hu⟩ : ∃ s, (l.getD k (0, 0)).2 = s := ⟨_, rfl⟩
      rw [hsl] at hsl8 h1 hnx
      rw [hu] at hu8 h2 hnx
      obtain ⟨p, hp⟩ : ∃ p, P k = p := ⟨_, rfl⟩
      obtain ⟨p', hp'⟩ : ∃ p, P (k + 1) = p := ⟨_, rfl⟩
      rw [hp, hp'] at hnx
      rw [hp]
      have Hp' := Lib.hid hp'
      clear hsl hu hp hp'
      go_wp2
      go_quiet (fail)
      go_wp2
      go_roundw
      case rel => exact ⟨k + 1, by omega, by go_num, by rw [Hp'.out], hN.drewN _⟩
      case measure => simp [intOf]; omega
    · obtain rfl : k = n := by omega
      go_wp2
      go_ret
      exact ⟨by rw [Hall.out]; rfl, hN⟩
end Go.Proofs.Ytkjloeefcaadlaa
/- The document's own words of a word: which may be, of any word; how many, who is where. -/
namespace Go.Proofs.Ytkjloeefcaadlaa
open Go.RowKit Go.Shelf Go.Cs
attribute [local go_sem] Oper.semAt_some
/-- Two places that may not both be so. -/
def badP (l : List (Nat × Nat)) (k i : Nat) : Bool := (l.getD k (0, 0)).1 == (l.getD i (0, 0)).1 || decide ((l.getD i (0, 0)).2 < (l.getD k (0, 0)).2)
theorem okL_of {l : List (Nat × Nat)} (h : InL l) (hb : ∀ k i, k < i → i < l.length → badP l k i = false) : OkL l := by
  refine ⟨h, List.pairwise_iff_getElem.2 (fun k i hk hi hki => ?_)⟩
  have := hb k i hki hi
  unfold badP at this
  simp only [List.getD, List.getElem?_eq_getElem hk, List.getElem?_eq_getElem hi, Option.getD_some, Bool.or_eq_false_iff, beq_eq_false_iff_ne, decide_eq_false_iff_not] at this
  exact ⟨this.1, by omega⟩
theorem okL_no {l : List (Nat × Nat)} (h : OkL l) {k i : Nat} (hki : k < i) (hi : i < l.length) : badP l k i = false := by
  have := List.pairwise_iff_getElem.1 h.pair k i (by omega) hi hki
  unfold badP
  simp only [List.getD, List.getElem?_eq_getElem (show k < l.length by omega), List.getElem?_eq_getElem hi, Option.getD_some, Bool.or_eq_false_iff, beq_eq_false_iff_ne, decide_eq_false_iff_not]
  exact ⟨this.1, by omega⟩
theorem right_list {x : Nat} (h : rightB x = true) : OkL (dec x (min (x / 2 ^ 60) 8)) ∧ enc (dec x (min (x / 2 ^ 60) 8)) = x := by
  obtain ⟨l, hl, rfl⟩ := enc_dec h
  have e := enc_div hl.inn hl.len
  rw [e, Nat.min_eq_left hl.len, dec_enc hl.inn hl.len]
  exact ⟨hl, rfl⟩
set_option maxRecDepth 100000 in
set_option maxHeartbeats 1000000 in
theorem right_gen (x : Nat) (hx : x < 18446744073709551616) (w : World) :
    Calls Try.prog 19 #[.int .u64 x] w fun e w' => e = .returned (.bool (rightB x)) ∧ New w w' := by
  obtain ⟨n, hn⟩ : ∃ n, min (x / 2 ^ 60) 8 = n := ⟨_, rfl⟩
  have HL := Lib.hid (list_gen x n hx hn)
  have hlen : (dec x n).length = n := by simp [dec]
  have hrl := fun h => right_list (x := x) h
  rw [hn] at hrl
  have hin := dec_in x n
  have HW := Lib.hid (word_gen (dec x n) hin (by omega))
  obtain ⟨l, hl⟩ : ∃ l, dec x n = l := ⟨_, rfl⟩
  rw [hl] at HL hlen hrl hin HW
  have n8 : n ≤ 8 := by omega
  obtain ⟨b, hb⟩ : ∃ b, rightB x = b := ⟨_, rfl⟩
  rw [hb] at hrl ⊢
  by_cases hy : enc l = x
  · have Hno : Hid (b = true → ∀ k i, k < i → i < n → badP l k i = false) := Lib.hid (fun h k i h1 h2 => okL_no (hrl h).1 h1 (by omega))
    have Hyes : Hid ((∀ k i, k < i → i < n → badP l k i = false) → b = true) := Lib.hid (fun h => by
      have := right_enc (okL_of hin (fun k i h1 h2 => h k i h1 (by omega)))
      rw [hy, hb] at this; exact this)
    rw [hy] at HW
    have Hlen := Lib.hid hlen
    clear hrl hin hl hy hb hn hlen
    go_enter Try.func19, Try.ntmps19
    go_wp2_with fail
    refine (HL.out _).mono ?_
    rintro e w1 ⟨v, rfl, hown, hN1⟩
    have hv := ReadsP.ofOwns Hlen.out.symm hown
    clear hown
    go_wp2_with fail
    refine (HW.out v _ hv).mono ?_
    rintro e w2 ⟨rfl, hN2⟩
    have hN := hN1.trans hN2
    obtain ⟨ao, cap, rfl, hc⟩ := hv.new hN2
    have hlen := Hlen.out
    rw [hlen] at hc ⊢
    clear hv hN1 hN2 HL HW hlen
    have Hc := Lib.hid hc
    clear hc
    go_wp2
    go_loopw [4, 5] (fun i _ wr => ∃ k : Nat, k ≤ n ∧ i = .int .i64 k ∧ Hid (∀ a c, a < c → c < k → badP l a c = false) ∧ New w2 wr) (fun i _ _ => n - (intOf i).toNat)
    case atStart => exact ⟨0, Nat.zero_le _, rfl, (fun a c _ h => by omega), Mods.refl _ _⟩
    case round =>
      obtain ⟨i, hi, rfl, hbef, hNi⟩ := hrel
      by_cases hlt : i < n
      · go_wp2
        obtain ⟨wo, hwo⟩ : ∃ wo, wr = wo := ⟨_, rfl⟩
        rw [hwo] at hNi ⊢
        clear hwo wr
        go_loopw [5] (fun c wr => ∃ k : Nat, k ≤ i ∧ c = .int .i64 k ∧ Hid (∀ a, a < k → badP l a i = false) ∧ New wo wr) (fun c _ => i - (intOf c).toNat)
        case atStart => exact ⟨0, Nat.zero_le _, rfl, (fun a h => by omega), Mods.refl _ _⟩
        case round =>
          obtain ⟨k, hk, rfl, hrow, hNk⟩ := hrel
          by_cases hlk : k < i
          · obtain ⟨b1, rfl, h1, h2⟩ := Hc.out k (by omega)
            obtain ⟨b2, hb2, h3, h4⟩ := Hc.out i hlt
            simp only [Option.some.injEq, Addr.mk.injEq, and_true] at hb2
            subst hb2
            have hNN := hNi.trans hNk
            have h1 := hNN.cell h1 id
            have h2 := hNN.cell h2 id
            have h3 := hNN.cell h3 id
            have h4 := hNN.cell h4 id
            have hbad : badP l k i = ((l.getD k (0, 0)).1 == (l.getD i (0, 0)).1 || decide ((l.getD i (0, 0)).2 < (l.getD k (0, 0)).2)) := rfl
            obtain ⟨t, ht⟩ : ∃ t, badP l k i = t := ⟨_, rfl⟩
            rw [ht] at hbad
            obtain ⟨s1, hs1⟩ : ∃ s, (l.getD k (0, 0)).1 = s := ⟨_, rfl⟩
            obtain ⟨u1, hu1⟩ : ∃ s, (l.getD k (0, 0)).2 = s := ⟨_, rfl⟩
            obtain ⟨s2, hs2⟩ : ∃ s, (l.getD i (0, 0)).1 = s := ⟨_, rfl⟩
            obtain ⟨u2, hu2⟩ : ∃ s, (l.getD i (0, 0)).2 = s := ⟨_, rfl⟩
            rw [hs1] at h1 hbad
            rw [hu1] at h2 hbad
            rw [hs2] at h3 hbad
            rw [hu2] at h4 hbad
            clear hs1 hu1 hs2 hu2
            have hkn : k < n := by omega
            have Ht := Lib.hid ht
            clear ht
            by_cases e1 : s1 = s2
            · have q1 : ((s1 : Int) == (s2 : Int)) = true := by rw [e1]; simp
              have htt : t = true := by rw [hbad, e1]; simp
              have hbf : b = false := by
                cases b with
                | false => rfl
                | true =>
                  have h1 := Hno.out rfl k i hlk hlt
                  have h2 := Ht.out
                  rw [htt, h1] at h2
                  exact h2.symm
              clear hbad e1
              go_wp2
              go_quiet (fail)
              go_wp2
              go_ret
              exact ⟨by rw [hbf]; rfl, (hN.trans hNN).drewN _⟩
            · have q1 : ((s1 : Int) == (s2 : Int)) = false := beq_eq_false_iff_ne.2 (by omega)
              by_cases e2 : u2 < u1
              · have q2 : decide ((u2 : Int) < (u1 : Int)) = true := decide_eq_true (by omega)
                have htt : t = true := by rw [hbad]; simp [e2]
                have hbf : b = false := by
                  cases b with
                  | false => rfl
                  | true =>
                    have h1 := Hno.out rfl k i hlk hlt
                    have h2 := Ht.out
                    rw [htt, h1] at h2
                    exact h2.symm
                clear hbad e1
                go_wp2
                go_quiet (fail)
                go_wp2
                go_ret
                exact ⟨by rw [hbf]; rfl, (hN.trans hNN).drewN _⟩
              · have q2 : decide ((u2 : Int) < (u1 : Int)) = false := decide_eq_false (by omega)
                have htf : t = false := by rw [hbad]; simp [e1, e2]
                have hnext : Hid (∀ a, a < k + 1 → badP l a i = false) := Lib.hid (fun a ha => by
                  by_cases h : a < k
                  · exact hrow.out a h
                  · obtain rfl : a = k := by omega
                    exact Ht.out.trans htf)
                clear hbad hrow htf Ht
                go_wp2
                go_quiet (fail)
                go_wp2
                go_roundw
                case rel => exact ⟨k + 1, by omega, by go_num, hnext, hNk.drewN _⟩
                case measure => simp [intOf]; omega
          · obtain rfl : k = i := by omega
            have hnext : Hid (∀ a c, a < c → c < k + 1 → badP l a c = false) := Lib.hid (fun a c h1 h2 => by
              by_cases h : c < k
              · exact hbef.out a c h1 h
              · obtain rfl : c = k := by omega
                exact hrow.out a h1)
            clear hrow hbef
            go_wp2
            go_roundw
            case rel => exact ⟨k + 1, by omega, by go_num, hnext, hNi.trans hNk⟩
            case measure => simp [intOf]; omega
      · obtain rfl : i = n := by omega
        have hbt := Hyes.out hbef.out
        clear hbef
        go_wp2
        go_ret
        exact ⟨by rw [hbt]; rfl, hN.trans hNi⟩
  · have hbf : b = false := by
      cases b with
      | false => rfl
      | true => exact absurd (hrl rfl).2 hy
    have hl64 : enc l ≠ x := hy
    obtain ⟨y, hyy⟩ : ∃ y, enc l = y := ⟨_, rfl⟩
    rw [hyy] at HW hl64
    have hne : ((y : Int) != (x : Int)) = true := by simp; omega
    have Hlen := Lib.hid hlen
    subst hbf
    clear hrl hin hl hy hb hn hlen hyy hl64
    go_enter Try.func19, Try.ntmps19
    go_wp2_with fail
    refine (HL.out _).mono ?_
    rintro e w1 ⟨v, rfl, hown, hN1⟩
    have hv := ReadsP.ofOwns Hlen.out.symm hown
    clear hown
    go_wp2_with fail
    refine (HW.out v _ hv).mono ?_
    rintro e w2 ⟨rfl, hN2⟩
    clear hv
    go_wp2_with fail
    go_ret
    exact ⟨rfl, hN1.trans hN2⟩
end Go.Proofs.Ytkjloeefcaadlaa
/- The queue's word, read, written, exchanged. -/
namespace Go.Proofs.Ytkjloeefcaadlaa
open Go.RowKit Go.Shelf Go.Cs
attribute [local go_sem] Oper.semAt_some
theorem load_any (Q : Nat) (x : Int) (w : World) (h : Boxed w Q 121 (.int .u64 x)) :
    Calls Try.prog 79 #[.pointer (some ⟨Q, 0, none⟩)] w fun e w' => e = .returned (.int .u64 x) ∧ w = w' := by
  have hc := h.cell
  have hl := run_call_load (P := Try.prog) Try.func135 (by kernel_rfl) (by kernel_rfl) (by kernel_rfl) .u64 (by kernel_rfl) hc
  go_enter Try.func79, Try.ntmps79
  go_wp2
  go_ret
  exact ⟨rfl, rfl⟩
theorem store_any (Q : Nat) (x y : Int) (w : World) (h : Boxed w Q 121 (.int .u64 x)) :
    Calls Try.prog 66 #[.pointer (some ⟨Q, 0, none⟩), .int .u64 y] w fun e w' => e = .returned (.tuple #[]) ∧ w.setCell ⟨Q, 0, none⟩ (.int .u64 y) = w' := by
  have hc := h.cell
  have hf := h.frozen
  have hl := run_call_store (P := Try.prog) Try.func126 (by kernel_rfl) (by kernel_rfl) (by kernel_rfl) (by kernel_rfl) (k := .u64) (y := y) hc hf
  go_enter Try.func66, Try.ntmps66
  go_wp2
  go_end0
  exact ⟨rfl, rfl⟩
theorem cas_any (Q : Nat) (x y : Int) (w : World) (h : Boxed w Q 121 (.int .u64 x)) :
    Calls Try.prog 119 #[.pointer (some ⟨Q, 0, none⟩), .int .u64 x, .int .u64 y] w fun e w' => e = .returned (.bool true) ∧ w.setCell ⟨Q, 0, none⟩ (.int .u64 y) = w' := by
  have hc := h.cell
  have hf := h.frozen
  have hl := run_call_cas_hit (P := Try.prog) Try.func160 (by kernel_rfl) (by kernel_rfl) (by kernel_rfl) .u64 (by kernel_rfl) (y := y) hc hf
  go_enter Try.func119, Try.ntmps119
  go_wp2
  go_ret
  exact ⟨rfl, rfl⟩
theorem new_any (w : World) : Calls Try.prog 57 #[] w fun e w' => e = .returned (.pointer (some ⟨w.heap.size, 0, none⟩)) ∧ w.alloc (.cells #[.int .u64 0] 121) = w' := by
  go_enter Try.func57, Try.ntmps57
  go_wp2
  go_ret
  exact ⟨rfl, rfl⟩
/-- What a step leaves. -/
def StepR (Q : Nat) (x y : Int) (ok : Bool) (R : World → Prop) (e : Ending) (w' : World) : Prop := e = .returned (.bool ok) ∧ ∃ W1, R W1 ∧ Boxed W1 Q 121 (.int .u64 x) ∧ w' = if ok then W1.setCell ⟨Q, 0, none⟩ (.int .u64 y) else W1
set_option maxRecDepth 100000 in
theorem step_any (Q : Nat) (x y : Int) (ok : Bool) (g : Nat) (lb : Array Value) (w : World) (R : World → Prop) (h : Boxed w Q 121 (.int .u64 x))
    (eg : ∀ args w, (callFunc g args).run Try.prog w = .ok (.enter g args) w)
    (hdo : Calls Try.prog g (#[.int .u64 x] ++ lb) w fun e W => e = .returned (.tuple #[.int .u64 y, .bool ok]) ∧ Boxed W Q 121 (.int .u64 x) ∧ R W) :
    Calls Try.prog 69 #[.pointer (some ⟨Q, 0, none⟩), .func (.func g) #[] lb] w (StepR Q x y ok R) := by
  have Hdo := Lib.hid hdo
  have HL := Lib.hid (load_any Q x w h)
  clear hdo h
  cases ok with
  | true =>
    go_enter Try.func69, Try.ntmps69
    go_wp2_with fail
    go_step3
    go_wp2_with fail
    go_step3
    go_wp2_with fail
    refine HL.out.mono ?_
    rintro e w1 ⟨rfl, rfl⟩
    go_wp2_with fail
    refine Hdo.out.mono ?_
    rintro e w1 ⟨rfl, hb, hR⟩
    have HC := Lib.hid (cas_any Q x y w1 hb)
    go_wp2_with fail
    refine HC.out.mono ?_
    rintro e w2 ⟨rfl, rfl⟩
    go_wp2_with fail
    rw [Exit.noGoto_ret]
    go_ret
    exact ⟨rfl, w1, hR, hb, rfl⟩
  | false =>
    go_enter Try.func69, Try.ntmps69
    go_wp2_with fail
    go_step3
    go_wp2_with fail
    go_step3
    go_wp2_with fail
    refine HL.out.mono ?_
    rintro e w1 ⟨rfl, rfl⟩
    go_wp2_with fail
    refine Hdo.out.mono ?_
    rintro e w1 ⟨rfl, hb, hR⟩
    go_wp2_with fail
    rw [Exit.noGoto_ret]
    go_ret
    exact ⟨rfl, w1, hR, hb, rfl⟩
end Go.Proofs.Ytkjloeefcaadlaa
/- A queue's deeds. -/
namespace Go.Proofs.Ytkjloeefcaadlaa
open Go.RowKit Go.Shelf Go.Cs
attribute [local go_sem] Oper.semAt_some
/-- A queue's answer, and the word behind it. -/
def QR (w : World) (Q z : Nat) (v : Value) (e : Ending) (w' : World) : Prop := e = .returned v ∧ Mods (fun b => b = Q) w w' ∧ Boxed w' Q 121 (.int .u64 z)
theorem boxed_lt {W : World} {B : Nat} {t : TypeId} {v : Value} (h : Boxed W B t v) : B < W.heap.size := (Array.getElem?_eq_some_iff.1 h).1
/-- The word behind a step: that one, if it went. -/
def aft (x : Nat) (r : Nat × Bool) : Nat := if r.2 then r.1 else x
theorem step_q {Q x y : Nat} {ok : Bool} {w0 w w' : World} {e : Ending} {R : World → Prop} (h0 : New w0 w) (hR : ∀ W, R W → New w W) (h : StepR Q x y ok R e w') :
    e = .returned (.bool ok) ∧ Mods (fun b => b = Q) w0 w' ∧ Boxed w' Q 121 (.int .u64 ((if ok then y else x : Nat) : Int)) := by
  obtain ⟨rfl, W1, hr, hb, rfl⟩ := h
  have hM : Mods (fun b => b = Q) w0 W1 := (Mods.ofNew h0).trans (Mods.ofNew (hR _ hr))
  cases ok with
  | true => exact ⟨rfl, hM.setCell (p := ⟨Q, 0, none⟩) (.inr rfl) _, hb.set _⟩
  | false => exact ⟨rfl, hM, hb⟩
theorem push1 (x : Nat) (s u : Int) (hx : x < 18446744073709551616) (hx_s1 : -9223372036854775808 ≤ s) (hx_s2 : s ≤ 9223372036854775807) (hx_u1 : -9223372036854775808 ≤ u) (hx_u2 : u ≤ 9223372036854775807) (B0 B1 : Nat) (w : World) (hb0 : Boxed w B0 3 (.int .i64 s)) (hb1 : Boxed w B1 3 (.int .i64 u)) :
    Calls Try.prog 70 #[.int .u64 x, .pointer (some ⟨B0, 0, none⟩), .pointer (some ⟨B1, 0, none⟩)] w fun e w' => e = .returned (pair (pushF x s u)) ∧ New w w' := by
  have HP := Lib.hid (push_any x s u hx hx_s1 hx_s2 hx_u1 hx_u2)
  have c0 := hb0.cell
  have c1 := hb1.cell
  obtain ⟨y, hy⟩ : ∃ y, pushF x s u = y := ⟨_, rfl⟩
  obtain ⟨y, ok⟩ := y
  rw [hy] at HP ⊢
  clear hy hb0 hb1
  go_enter Try.func70, Try.ntmps70
  go_wp2_with fail
  refine (HP.out _).mono ?_
  rintro e w1 ⟨rfl, hN⟩
  unfold pair
  go_wp2_with fail
  go_ret2
  exact ⟨rfl, hN⟩
theorem push_q (Q x : Nat) (s u : Int) (w : World) (h : Boxed w Q 121 (.int .u64 x)) (hx : x < 18446744073709551616) (hx_s1 : -9223372036854775808 ≤ s) (hx_s2 : s ≤ 9223372036854775807) (hx_u1 : -9223372036854775808 ≤ u) (hx_u2 : u ≤ 9223372036854775807) :
    Calls Try.prog 20 #[.pointer (some ⟨Q, 0, none⟩), .int .i64 s, .int .i64 u] w (QR w Q (aft x (pushF x s u)) (.bool (pushF x s u).2)) := by
  obtain ⟨r, hr⟩ : ∃ r, pushF x s u = r := ⟨_, rfl⟩
  obtain ⟨y, ok⟩ := r
  rw [hr]
  have hN : New w ((w.alloc (.cells #[.int .i64 s] 3)).alloc (.cells #[.int .i64 u] 3)) := (((Mods.refl _ _).alloc _).alloc _)
  have hb := hN.boxed h id
  have b0 : Boxed ((w.alloc (.cells #[.int .i64 s] 3)).alloc (.cells #[.int .i64 u] 3)) w.heap.size 3 (.int .i64 s) := (Boxed.new w _ _).alloc _
  have b1 : Boxed ((w.alloc (.cells #[.int .i64 s] 3)).alloc (.cells #[.int .i64 u] 3)) (w.heap.size + 1) 3 (.int .i64 u) := boxed1 w _ _ _
  have HS := Lib.hid ((step_any Q x y ok 70 #[.pointer (some ⟨w.heap.size, 0, none⟩), .pointer (some ⟨w.heap.size + 1, 0, none⟩)] _ (New ((w.alloc (.cells #[.int .i64 s] 3)).alloc (.cells #[.int .i64 u] 3))) hb (enters_of Try.func70 (by kernel_rfl) rfl)
    ((push1 x s u hx hx_s1 hx_s2 hx_u1 hx_u2 _ _ _ b0 b1).mono fun e W ⟨he, hW⟩ => ⟨by rw [he, hr]; rfl, hW.boxed hb id, hW⟩)).mono fun e w' h => step_q hN (fun _ h => h) h)
  clear hb b0 b1 hN h hr
  go_enter Try.func20, Try.ntmps20
  go_wp2_with fail
  refine HS.out.mono ?_
  rintro e w1 ⟨rfl, hM, hB⟩
  go_wp2_with fail
  go_ret
  exact ⟨rfl, hM, hB⟩
theorem turn1 (x : Nat) (s u : Int) (hx : x < 18446744073709551616) (hx_s1 : -9223372036854775808 ≤ s) (hx_s2 : s ≤ 9223372036854775807) (hx_u1 : -9223372036854775808 ≤ u) (hx_u2 : u ≤ 9223372036854775807) (B0 B1 : Nat) (w : World) (hb0 : Boxed w B0 3 (.int .i64 s)) (hb1 : Boxed w B1 3 (.int .i64 u)) :
    Calls Try.prog 75 #[.int .u64 x, .pointer (some ⟨B0, 0, none⟩), .pointer (some ⟨B1, 0, none⟩)] w fun e w' => e = .returned (pair (turnF x s u)) ∧ New w w' := by
  have HP := Lib.hid (turn_any x s u hx hx_s1 hx_s2 hx_u1 hx_u2)
  have c0 := hb0.cell
  have c1 := hb1.cell
  obtain ⟨y, hy⟩ : ∃ y, turnF x s u = y := ⟨_, rfl⟩
  obtain ⟨y, ok⟩ := y
  rw [hy] at HP ⊢
  clear hy hb0 hb1
  go_enter Try.func75, Try.ntmps75
  go_wp2_with fail
  refine (HP.out _).mono ?_
  rintro e w1 ⟨rfl, hN⟩
  unfold pair
  go_wp2_with fail
  go_ret2
  exact ⟨rfl, hN⟩
theorem turn_q (Q x : Nat) (s u : Int) (w : World) (h : Boxed w Q 121 (.int .u64 x)) (hx : x < 18446744073709551616) (hx_s1 : -9223372036854775808 ≤ s) (hx_s2 : s ≤ 9223372036854775807) (hx_u1 : -9223372036854775808 ≤ u) (hx_u2 : u ≤ 9223372036854775807) :
    Calls Try.prog 24 #[.pointer (some ⟨Q, 0, none⟩), .int .i64 s, .int .i64 u] w (QR w Q (aft x (turnF x s u)) (.bool (turnF x s u).2)) := by
  obtain ⟨r, hr⟩ : ∃ r, turnF x s u = r := ⟨_, rfl⟩
  obtain ⟨y, ok⟩ := r
  rw [hr]
  have hN : New w ((w.alloc (.cells #[.int .i64 s] 3)).alloc (.cells #[.int .i64 u] 3)) := (((Mods.refl _ _).alloc _).alloc _)
  have hb := hN.boxed h id
  have b0 : Boxed ((w.alloc (.cells #[.int .i64 s] 3)).alloc (.cells #[.int .i64 u] 3)) w.heap.size 3 (.int .i64 s) := (Boxed.new w _ _).alloc _
  have b1 : Boxed ((w.alloc (.cells #[.int .i64 s] 3)).alloc (.cells #[.int .i64 u] 3)) (w.heap.size + 1) 3 (.int .i64 u) := boxed1 w _ _ _
  have HS := Lib.hid ((step_any Q x y ok 75 #[.pointer (some ⟨w.heap.size, 0, none⟩), .pointer (some ⟨w.heap.size + 1, 0, none⟩)] _ (New ((w.alloc (.cells #[.int .i64 s] 3)).alloc (.cells #[.int .i64 u] 3))) hb (enters_of Try.func75 (by kernel_rfl) rfl)
    ((turn1 x s u hx hx_s1 hx_s2 hx_u1 hx_u2 _ _ _ b0 b1).mono fun e W ⟨he, hW⟩ => ⟨by rw [he, hr]; rfl, hW.boxed hb id, hW⟩)).mono fun e w' h => step_q hN (fun _ h => h) h)
  clear hb b0 b1 hN h hr
  go_enter Try.func24, Try.ntmps24
  go_wp2_with fail
  refine HS.out.mono ?_
  rintro e w1 ⟨rfl, hM, hB⟩
  go_wp2_with fail
  go_ret
  exact ⟨rfl, hM, hB⟩
theorem out1 (x : Nat) (s : Int) (hx : x < 18446744073709551616)  (B0 : Nat) (w : World) (hb0 : Boxed w B0 3 (.int .i64 s)) :
    Calls Try.prog 77 #[.int .u64 x, .pointer (some ⟨B0, 0, none⟩)] w fun e w' => e = .returned (pair (outF x s)) ∧ New w w' := by
  have HP := Lib.hid (out_any x s hx )
  have c0 := hb0.cell
  obtain ⟨y, hy⟩ : ∃ y, outF x s = y := ⟨_, rfl⟩
  obtain ⟨y, ok⟩ := y
  rw [hy] at HP ⊢
  clear hy hb0
  go_enter Try.func77, Try.ntmps77
  go_wp2_with fail
  refine (HP.out _).mono ?_
  rintro e w1 ⟨rfl, hN⟩
  unfold pair
  go_wp2_with fail
  go_ret2
  exact ⟨rfl, hN⟩
theorem out_q (Q x : Nat) (s : Int) (w : World) (h : Boxed w Q 121 (.int .u64 x)) (hx : x < 18446744073709551616)  :
    Calls Try.prog 26 #[.pointer (some ⟨Q, 0, none⟩), .int .i64 s] w (QR w Q (aft x (outF x s)) (.bool (outF x s).2)) := by
  obtain ⟨r, hr⟩ : ∃ r, outF x s = r := ⟨_, rfl⟩
  obtain ⟨y, ok⟩ := r
  rw [hr]
  have hN : New w (w.alloc (.cells #[.int .i64 s] 3)) := ((Mods.refl _ _).alloc _)
  have hb := hN.boxed h id
  have b0 : Boxed (w.alloc (.cells #[.int .i64 s] 3)) w.heap.size 3 (.int .i64 s) := Boxed.new w _ _
  have HS := Lib.hid ((step_any Q x y ok 77 #[.pointer (some ⟨w.heap.size, 0, none⟩)] _ (New (w.alloc (.cells #[.int .i64 s] 3))) hb (enters_of Try.func77 (by kernel_rfl) rfl)
    ((out1 x s hx  _ _ b0).mono fun e W ⟨he, hW⟩ => ⟨by rw [he, hr]; rfl, hW.boxed hb id, hW⟩)).mono fun e w' h => step_q hN (fun _ h => h) h)
  clear hb b0 hN h hr
  go_enter Try.func26, Try.ntmps26
  go_wp2_with fail
  refine HS.out.mono ?_
  rintro e w1 ⟨rfl, hM, hB⟩
  go_wp2_with fail
  go_ret
  exact ⟨rfl, hM, hB⟩
theorem best1 (x B : Nat) (v : Value) (hx : x < 18446744073709551616) (w : World) (hb : Boxed w B 3 v) :
    Calls Try.prog 73 #[.int .u64 x, .pointer (some ⟨B, 0, none⟩)] w fun e w' => e = .returned (.tuple #[.int .u64 (bestF x).1, .bool (bestF x).2.2]) ∧ Boxed w' B 3 (.int .i64 (bestF x).2.1) ∧ Mods (fun b => b = B) w w' := by
  have HP := Lib.hid (best_any x hx)
  obtain ⟨y, hy⟩ : ∃ y, bestF x = y := ⟨_, rfl⟩
  obtain ⟨y, s, ok⟩ := y
  rw [hy] at HP ⊢
  have Hb := Lib.hid hb
  clear hy hb
  go_enter Try.func73, Try.ntmps73
  go_wp2_with fail
  refine (HP.out _).mono ?_
  rintro e w1 ⟨rfl, hN⟩
  have hb1 := hN.boxed Hb.out id
  obtain ⟨c1, f1⟩ := hb1.both
  have hb2 := Lib.hid (hb1.set (.int .i64 (s : Nat)))
  have hM : Mods (fun b => b = B) w (w1.setCell ⟨B, 0, none⟩ (.int .i64 (s : Nat))) := Mods.setCell (S := fun b => b = B) (Mods.ofNew hN) (p := ⟨B, 0, none⟩) (.inr rfl) _
  have HM := Lib.hid hM
  clear hb1 hN hM
  unfold trip'
  go_wp2_with fail
  go_ret2
  exact ⟨rfl, hb2.out, HM.out⟩
theorem best_q (Q x : Nat) (w : World) (h : Boxed w Q 121 (.int .u64 x)) (hx : x < 18446744073709551616) :
    Calls Try.prog 22 #[.pointer (some ⟨Q, 0, none⟩)] w (QR w Q (aft x ((bestF x).1, (bestF x).2.2)) (.tuple #[.int .i64 (bestF x).2.1, .bool (bestF x).2.2])) := by
  obtain ⟨r, hr⟩ : ∃ r, bestF x = r := ⟨_, rfl⟩
  obtain ⟨y, s, ok⟩ := r
  rw [hr]
  have hQ := boxed_lt h
  have hN : New w (w.alloc (.cells #[.int .i64 0] 3)) := (Mods.refl _ _).alloc _
  have hb := hN.boxed h id
  have b0 : Boxed (w.alloc (.cells #[.int .i64 0] 3)) w.heap.size 3 (.int .i64 0) := Boxed.new w _ _
  have HS := Lib.hid (step_any Q x y ok 73 #[.pointer (some ⟨w.heap.size, 0, none⟩)] _ (fun W => New w W ∧ Boxed W w.heap.size 3 (.int .i64 s)) hb (enters_of Try.func73 (by kernel_rfl) rfl)
    ((best1 x _ _ hx _ b0).mono fun e W ⟨he, hW, hM⟩ => ⟨by rw [he, hr], hM.boxed hb (by omega), ((Mods.ofNew hN).trans hM).new (fun k hk => by omega), by rw [hr] at hW; exact hW⟩))
  have HQ := Lib.hid hQ
  clear hb b0 hN h hr hQ
  go_enter Try.func22, Try.ntmps22
  go_wp2_with fail
  refine HS.out.mono ?_
  rintro e w1 ⟨rfl, W1, ⟨hN, hB⟩, hb, hw⟩
  have key : Mods (fun b => b = Q) w w1 ∧ Boxed w1 Q 121 (.int .u64 ((if ok then y else x : Nat) : Int)) ∧ Boxed w1 w.heap.size 3 (.int .i64 s) := by
    have hQ := HQ.out
    cases ok with
    | true =>
      subst hw
      exact ⟨Mods.setCell (S := fun b => b = Q) (Mods.ofNew hN) (p := ⟨Q, 0, none⟩) (.inr rfl) _, hb.set _, hB.other (by omega) _⟩
    | false =>
      subst hw
      exact ⟨Mods.ofNew hN, hb, hB⟩
  obtain ⟨hM, hQb, hsb⟩ := key
  obtain ⟨c1, f1⟩ := hsb.both
  have hne := HQ.out
  have hM2 : Mods (fun b => b = Q) w (w1.setCell ⟨w.heap.size, 0, none⟩ (.int .i64 s)) := hM.setCell (p := ⟨w.heap.size, 0, none⟩) (.inl (Nat.le_refl _)) _
  have hq2 := hQb.other (B' := w.heap.size) (by omega) (.int .i64 s)
  have r1 := (hsb.set (.int .i64 s)).cell
  have HM2 := Lib.hid hM2
  have Hq2 := Lib.hid hq2
  have Hr1 := Lib.hid r1
  clear hM hQb hsb hB hb hN hw W1 hM2 hq2 r1
  go_wp2_with fail
  have r1 := Hr1.out
  refine bodyPost_ret (v := .tuple #[.int .i64 s, .bool ok]) (by simp [results, Try.f22, go_sem, r1]) rfl ⟨rfl, HM2.out, Hq2.out⟩
end Go.Proofs.Ytkjloeefcaadlaa
/- A law for a range over a function that writes memory of its own, whose values are a known list. -/
namespace Go.Cs
open Go.RowKit
variable {P : Program}
/-- The iterator yields just the list's values, in order, and writes blocks of T; what E says holds when it is through. -/
def IterAtT (P : Program) (g : Nat) (lb : Array Value) (L : List (Array Value)) (S T : Nat → Prop) (E : World → Prop) (W : World) : Prop :=
  ∀ (l : Nat) (J Jx : Nat → World → Prop), (∀ k, ∀ A A', J k A → Mods T A A' → J k A') → (∀ k, ∀ A A', Jx k A → Mods T A A' → Jx k A') →
    (∀ k x W1, L[k]? = some x → J k W1 → Mods (fun b => S b ∨ T b) W W1 → YieldAt Fence.wide 0 P l x W1 fun e W' =>
      (e = .returned (.bool true) ∧ J (k + 1) W' ∧ Mods S W1 W') ∨ (e = .returned (.bool false) ∧ Jx (k + 1) W')) →
    J 0 W →
    Calls P g (#[.func (.yield l) #[] #[]] ++ lb) W fun e W' => (∃ v, e = .returned v) ∧ ((J L.length W' ∧ E W') ∨ ∃ k, k ≤ L.length ∧ Jx k W')
theorem rangeListT_core (r : Option Nat)
    {g : Operand} {ps : Array Tmp} {assign body : Code} {Q : Exit → Act → World → Prop} {a : Act} {w : World}
    {gf : Nat} {lb : Array Value} (hg : a.eval g = .func (.func gf) #[] lb) (eg : ∀ args w, (callFunc gf args).run P w = .ok (.enter gf args) w)
    (L : List (Array Value)) (S T : Nat → Prop) (E : World → Prop) (hE : Stab w.heap.size E) (hit : ∀ W, New w W → IterAtT P gf lb L S T E W) (hps : ∀ x ∈ L, x.size = ps.size)
    (W0 : World) (hW0 : New w W0) (mark : List Deferred) (d : Nat)
    (henter : ∀ fn, (Instr.enterLoop fn a.tmps ps assign body r).run P w = .ok (W0.heap.size, mark) (W0.alloc (.loop { state := .ready, pending := none, fn, tmps := a.tmps, params := ps, assign, body, defers := d })))
    (I : Nat → World → Prop) (Ix : Code → Nat → World → Prop) (hIT : ∀ k A A', I k A → Mods T A A' → I k A') (hIxT : ∀ c k A A', Ix c k A → Mods T A A' → Ix c k A') (hI : ∀ k, Stab w.heap.size (I k)) (hIx : ∀ c k, Stab w.heap.size (Ix c k)) (h0 : I 0 w)
    (hround : ∀ (l k : Nat) (x : Array Value) (W : World), L[k]? = some x → w.heap.size ≤ l → (∃ r, W.heap[l]? = some (.loop r)) → I k W →
      assign.wpIn (Fr (some l)) 0 P (Exit.then (fun a1 W1 => Mods S W W1 ∧ ∀ W2, Quiet w.heap.size W1 W2 → (∃ r, W2.heap[l]? = some (.loop r)) → body.wpIn (Fr (some l)) 0 P (roundQ S I Ix (k + 1) W2) a1 W2) (fun _ _ _ => False))
        { tmps := (ps.zip x).foldl (fun t (p, v) => t.setIfInBounds p v) a.tmps, defers := [] } W)
    (hdone : ∀ W, I L.length W → E W → Others W0 W → Q .normal { a with defers := mark ++ a.defers } W)
    (hstop : ∀ c k W, k ≤ L.length → Ix c k W → Others W0 W → c.wpIn (Fr r) 0 P Q { a with defers := mark ++ a.defers } W) :
    (Code.rangeFunc g ps assign body).wpIn (Fr r) 0 P Q a w := by
  refine wpIn_rangeFunc ?_
  intro fn _
  obtain ⟨rec, hrec⟩ : ∃ rec : LoopState → Option Code → Loop, rec = fun st pe => { state := st, pending := pe, fn, tmps := a.tmps, params := ps, assign, body, defers := d } := ⟨_, rfl⟩
  obtain ⟨W1, hW1⟩ : ∃ W1, W0.alloc (.loop (rec .ready none)) = W1 := ⟨_, rfl⟩
  obtain ⟨l, hl0⟩ : ∃ l, W0.heap.size = l := ⟨_, rfl⟩
  have hL1 : W1.heap[l]? = some (.loop (rec .ready none)) := by rw [← hW1, ← hl0]; exact World.alloc_heap_new W0 _
  have hN1 : New w W1 := by rw [← hW1]; exact hW0.alloc _
  have hwl : w.heap.size ≤ l := by rw [← hl0]; exact hW0.size
  have hC1 : Others W0 W1 := fun k o hk _ => by
    rw [← hW1]; exact (Below.heap_alloc W0 _ k (Array.getElem?_eq_some_iff.1 hk).1).trans hk
  refine ⟨l, mark, W1, { target := .fn (.func gf) lb, args := #[.func (.yield l) #[] #[]] }, W1, gf,
    #[.func (.yield l) #[] #[]] ++ lb, W1, ?_, ?_, fun _ _ => trivial, ?_, fun h => by simp [Fence.wide] at h, ?_⟩
  · rw [← hW1, hrec, ← hl0]; exact henter fn
  · simp only [resolve, hg]
    simp [go_sem]
  · simp [invoke, go_sem, eg]
  · have hlW0 : ∀ {k : Nat} {o : Obj}, W0.heap[k]? = some o → k ≠ l := fun hk => by have := (Array.getElem?_eq_some_iff.1 hk).1; omega
    have hput : ∀ (W : World) (o : Obj), Others W0 W → Others W0 (W.putObj l o) := fun W o h k o' hk ho =>
      (World.putObj_heap_other (hlW0 hk)).trans (h k o' hk ho)
    refine Calls.mono (R := fun e W' => (∃ v, e = .returned v) ∧
        (((I L.length W' ∧ W'.heap[l]? = some (.loop (rec .ready none)) ∧ Others W0 W') ∧ E W') ∨
          ∃ k, k ≤ L.length ∧ ∃ c, Ix c k W' ∧ W'.heap[l]? = some (.loop (rec .done (some c))) ∧ Others W0 W')) ?_ ?_ |> callsIn_wide.2
    · refine hit W1 hN1 l
        (fun k W => I k W ∧ W.heap[l]? = some (.loop (rec .ready none)) ∧ Others W0 W)
        (fun k W => ∃ c, Ix c k W ∧ W.heap[l]? = some (.loop (rec .done (some c))) ∧ Others W0 W)
        (fun k A A' h hn => ⟨hIT k A A' h.1 hn, hn.block _ _ h.2.1 (.inr rfl), fun j o hj ho => hn.block _ _ (h.2.2 j o hj ho) (.inr ho)⟩)
        (fun k A A' h hn => by
          obtain ⟨c, h1, h2, h3⟩ := h
          exact ⟨c, hIxT c k A A' h1 hn, hn.block _ _ h2 (.inr rfl), fun j o hj ho => hn.block _ _ (h3 j o hj ho) (.inr ho)⟩)
        ?_ ⟨hI 0 w W1 h0 (hN1.quiet _), hL1, hC1⟩
      rintro k x W hx ⟨hi, hl, hk⟩ _
      have hy := run_yield (P := P) (args := x) hl (by rw [hrec]; exact hps x (List.mem_of_getElem? hx))
      rw [hrec] at hy
      refine ⟨fn, _, assign, body, hy, roundIn_of_wpIn trivial (wpIn_mono (hround l k x W hx hwl ⟨_, hl⟩ hi) ?_)⟩
      clear hy
      rintro e a1 Wa he
      cases e with
      | normal =>
        obtain ⟨hma, hb⟩ := he
        have hla := hma.block _ _ hl (.inr rfl)
        have hka : Others W0 Wa := fun j o hj ho => hma.block _ _ (hk j o hj ho) (.inr ho)
        have hlt : l < Wa.heap.size := (Array.getElem?_eq_some_iff.1 hla).1
        refine ⟨_, run_beginRound hla (by rw [hrec]), ?_⟩
        obtain ⟨Wb, hWb⟩ : ∃ Wb, Wa.putObj l (.loop { rec .ready none with state := .busy }) = Wb := ⟨_, rfl⟩
        have hl2 : Wb.heap[l]? = some (.loop { rec .ready none with state := .busy }) := by rw [← hWb]; exact World.putObj_heap_same hlt
        have hk2 : Others W0 Wb := by rw [← hWb]; exact hput _ _ hka
        have hqb : Quiet w.heap.size Wa Wb := by rw [← hWb]; exact Quiet.putObj _ hla rfl hwl
        rw [hWb]
        refine wpIn_mono (hb Wb hqb ⟨_, hl2⟩) ?_
        have fin : ∀ (jump : Option Code) (W3 : World), Mods S Wb W3 →
            (Instr.endRound l jump).run P W3 = .ok (.bool jump.isNone) (W3.putObj l (.loop (rec (if jump.isNone then .ready else .done) jump))) ∧
            W3.heap[l]? = some (.loop { rec .ready none with state := .busy }) ∧
            (W3.putObj l (.loop (rec (if jump.isNone then .ready else .done) jump))).heap[l]? = some (.loop (rec (if jump.isNone then .ready else .done) jump)) ∧
            Others W0 (W3.putObj l (.loop (rec (if jump.isNone then .ready else .done) jump))) := fun jump W3 hm3 => by
          have hl3 := hm3.block _ _ hl2 (.inr rfl)
          have := run_endRound (P := P) jump hl3
          rw [hrec] at this ⊢
          exact ⟨this, by rw [hrec] at hl3; exact hl3, World.putObj_heap_same (Array.getElem?_eq_some_iff.1 hl3).1, hput _ _ fun j o hj ho => hm3.block _ _ (hk2 j o hj ho) (.inr ho)⟩
        rintro e a3 W3 hp
        cases e with
        | normal =>
          obtain ⟨hm3, hi3⟩ := hp
          obtain ⟨hr, hl3, hl4, hk4⟩ := fin none W3 hm3
          refine ⟨_, _, hr, .inl ⟨rfl, ⟨hI _ _ _ hi3 (Quiet.putObj _ hl3 rfl hwl), hl4, hk4⟩, ?_⟩⟩
          refine ⟨(hm3.os.trans hqb.os).trans hma.os, (hm3.tape.trans hqb.tape).trans hma.tape, (hm3.output.trans hqb.output).trans hma.output, ?_, ?_⟩
          · simp only [World.putObj_size]; exact Nat.le_trans hma.size (Nat.le_trans hqb.size hm3.size)
          · intro j o hj ho
            by_cases e : j = l
            · subst e; rw [hl] at hj; cases hj; exact hl4
            · refine (World.putObj_heap_other e).trans (hm3.block _ _ ?_ ho)
              rw [← hWb]; exact (World.putObj_heap_other e).trans (hma.block _ _ hj ho)
        | ret =>
          obtain ⟨hm3, hi3⟩ := hp
          obtain ⟨hr, hl3, hl4, hk4⟩ := fin (some .ret) W3 hm3
          exact ⟨_, _, hr, .inr ⟨rfl, .ret, hIx _ _ _ _ hi3 (Quiet.putObj _ hl3 rfl hwl), hl4, hk4⟩⟩
        | exit id =>
          obtain ⟨hm3, hi3⟩ := hp
          obtain ⟨hr, hl3, hl4, hk4⟩ := fin (some (.exit id)) W3 hm3
          exact ⟨_, _, hr, .inr ⟨rfl, .exit id, hIx _ _ _ _ hi3 (Quiet.putObj _ hl3 rfl hwl), hl4, hk4⟩⟩
        | goto t =>
          obtain ⟨hm3, hi3⟩ := hp
          obtain ⟨hr, hl3, hl4, hk4⟩ := fin (some (.goto t)) W3 hm3
          exact ⟨_, _, hr, .inr ⟨rfl, .goto t, hIx _ _ _ _ hi3 (Quiet.putObj _ hl3 rfl hwl), hl4, hk4⟩⟩
        | panic ch => exact hp.elim
        | outgrown => exact hp.elim
      | exit id => exact he.elim
      | goto t => exact he.elim
      | ret => exact he.elim
      | panic ch => exact he.elim
      | outgrown => exact he.elim
    · rintro e W2 ⟨⟨v, rfl⟩, (⟨⟨hi, hl, hk⟩, hEE⟩ | ⟨k, hkl, c, hi, hl, hk⟩)⟩
      · exact ⟨none, _, by have := run_endLoop (P := P) hl (by rw [hrec]; simp); rw [hrec] at this; exact this, hdone _ (hI _ _ _ hi (Quiet.putObj _ hl rfl hwl)) (hE _ _ hEE (Quiet.putObj _ hl rfl hwl)) (hput _ _ hk)⟩
      · exact ⟨some c, _, by have := run_endLoop (P := P) hl (by rw [hrec]; simp); rw [hrec] at this; exact this, hstop c k _ hkl (hIx _ _ _ _ hi (Quiet.putObj _ hl rfl hwl)) (hput _ _ hk)⟩
theorem wp_rangeListT {α : Type} {g : Operand} {ps : Array Tmp} {assign body : Code} {Q : Exit → Act → World → Prop} {a : Act} {w : World}
    {gf : Nat} {lb : Array Value} (hg : a.eval g = .func (.func gf) #[] lb) (eg : ∀ args w, (callFunc gf args).run P w = .ok (.enter gf args) w)
    (xs : List α) (enc : α → Array Value) (S T : Nat → Prop) (E : World → Prop) (hE : Stab w.heap.size E) (hit : ∀ W, New w W → IterAtT P gf lb (xs.map enc) S T E W) (hps : ∀ x, (enc x).size = ps.size)
    (I : Nat → World → Prop) (Ix : Code → Nat → World → Prop) (hIT : ∀ k A A', I k A → Mods T A A' → I k A') (hIxT : ∀ c k A A', Ix c k A → Mods T A A' → Ix c k A') (hI : ∀ k, Stab w.heap.size (I k)) (hIx : ∀ c k, Stab w.heap.size (Ix c k)) (h0 : I 0 w) (upd : α → Array Value → Array Value)
    (hassign : ∀ (l : Nat) (x : α) (W : World) (K : Act → World → Prop), K { tmps := upd x a.tmps, defers := [] } W →
      assign.wpIn (Fr (some l)) 0 P (Exit.then K (fun _ _ _ => False)) { tmps := (ps.zip (enc x)).foldl (fun t (p, v) => t.setIfInBounds p v) a.tmps, defers := [] } W)
    (hbody : ∀ (l k : Nat) (x : α) (W : World), xs[k]? = some x → w.heap.size ≤ l → (∃ r, W.heap[l]? = some (.loop r)) → I k W → body.wpIn (Fr (some l)) 0 P (roundQ S I Ix (k + 1) W) { tmps := upd x a.tmps, defers := [] } W)
    (hdone : ∀ W, I xs.length W → E W → W.heap[w.heap.size]? = some (.deferred (some [])) → Q .normal { a with defers := { target := .collected w.heap.size, args := #[] } :: a.defers } W)
    (hstop : ∀ c k W, k ≤ xs.length → Ix c k W → W.heap[w.heap.size]? = some (.deferred (some [])) → c.wp P Q { a with defers := { target := .collected w.heap.size, args := #[] } :: a.defers } W) :
    (Code.rangeFunc g ps assign body).wp P Q a w := by
  refine (wpIn_wide (n := 0)).1 ?_
  refine rangeListT_core (P := P) none hg eg (xs.map enc) S T E hE hit ?_ (w.alloc (.deferred (some []))) ((Mods.refl _ _).alloc _) [{ target := .collected w.heap.size, args := #[] }] w.heap.size ?_ I Ix hIT hIxT hI hIx h0 ?_ ?_ ?_
  · intro x hx
    obtain ⟨y, _, rfl⟩ := List.mem_map.1 hx
    exact hps y
  · intro fn
    rw [World.size_alloc]
    exact run_enterLoop_outer _ _ _ _ _
  · intro l k x W hx hl hr hi
    rw [List.getElem?_map] at hx
    obtain ⟨y, hy, rfl⟩ := Option.map_eq_some_iff.1 hx
    exact hassign l y W _ ⟨Mods.refl _ _, fun W2 hq hr2 => hbody l k y W2 hy hl hr2 (hI k W W2 hi hq)⟩
  · intro W hi hEE ho
    rw [List.length_map] at hi
    exact hdone W hi hEE (ho _ _ (World.alloc_heap_new w _) rfl)
  · intro c k W hk hi ho
    rw [List.length_map] at hk
    exact (wpIn_wide (n := 0)).2 (hstop c k W hk hi (ho _ _ (World.alloc_heap_new w _) rfl))

end Go.Cs
/- A queue, drained. -/
namespace Go.Proofs.Ytkjloeefcaadlaa
open Go.RowKit Go.Shelf Go.Cs
attribute [local go_sem] Oper.semAt_some
def enc1 (p : Nat × Nat) : Array Value := #[.int .i64 (p.1 : Nat)]
theorem okL_tail {p : Nat × Nat} {l : List (Nat × Nat)} (h : OkL (p :: l)) : OkL l := ⟨fun q hq => h.inn q (by simp [hq]), (List.pairwise_cons.1 h.pair).2⟩
/-- How many a queue's word tells. -/
def left (Q : Nat) (W : World) : Nat := match W.cell? ⟨Q, 0, none⟩ with
  | some (.int _ z) => z.toNat / 2 ^ 60
  | _ => 0
theorem left_enc {Q : Nat} {W : World} {l : List (Nat × Nat)} (h : OkL l) (hQ : Boxed W Q 121 (.int .u64 (enc l))) : left Q W = l.length := by
  unfold left
  rw [hQ.cell]
  dsimp only
  rw [Int.toNat_natCast, enc_div h.inn h.len]
theorem taken_iter (B Q : Nat) (S : Nat → Prop) (hSQ : ¬ S Q) (hSB : ¬ S B) (hBQ : B ≠ Q) (l : List (Nat × Nat)) (hok : OkL l) (W : World) (hB : Boxed W B 25 (.pointer (some ⟨Q, 0, none⟩))) (hQ : Boxed W Q 121 (.int .u64 (enc l))) :
    IterAtT Try.prog 137 [.pointer (some ⟨B, 0, none⟩)].toArray (l.map enc1) S (fun b => b = Q) (fun W' => Boxed W' Q 121 (.int .u64 (enc []))) W := by
  intro lp J Jx hJ hJx hY h0
  refine (callsIn_wide (n := 0)).1 (callsIn_of_wp Try.func137 rfl trivial ?_ rfl)
  simp only [Try.ntmps137, List.size_toArray, List.length_cons, List.length_nil, Nat.reduceAdd, Nat.reduceSub, Array.replicate_succ, Array.replicate_zero, List.push_toArray, List.append_toArray, List.nil_append, List.cons_append]
  have Hok := Lib.hid hok
  have HB := Lib.hid hB
  have HQ := Lib.hid hQ
  clear hok hB hQ
  gi_wp2_with fail
  gi_loopw [3] (fun _ wr => ∃ k : Nat, k ≤ l.length ∧ J k wr ∧ Hid (Boxed wr B 25 (.pointer (some ⟨Q, 0, none⟩))) ∧ Hid (Boxed wr Q 121 (.int .u64 (enc (l.drop k)))) ∧ Mods (fun b => S b ∨ b = Q) W wr) (fun _ wr => left Q wr)
  case atStart => exact ⟨0, by omega, h0, HB.out, HQ.out, Mods.refl _ _⟩
  case round =>
    obtain ⟨k, hk, hJk, hBb, hQb, hM⟩ := hrel
    have cB := hBb.out.cell
    have hdok : OkL (l.drop k) := ⟨fun p hp => Hok.out.inn p (List.mem_of_mem_drop hp), Hok.out.pair.sublist (List.drop_sublist k l)⟩
    have hlt := enc_lt hdok
    have HBest := Lib.hid (best_q Q (enc (l.drop k)) wr hQb.out hlt)
    cases hd : l.drop k with
    | nil =>
      have hkl : k = l.length := by have := List.drop_eq_nil_iff.1 hd; omega
      rw [hd, best_enc_nil] at HBest
      rw [hd] at hQb
      clear hdok hlt hd
      gi_wp2_with fail
      refine at_round HBest.out ?_
      rintro e w1 ⟨rfl, hM1, hQ1⟩
      have hJ1 := hJ _ _ _ hJk hM1
      have HE := Lib.hid hQ1
      clear hJ hJx hY hM1 hQ1
      gi_wp2_with fail
      refine ⟨fun f hf => (by cases hf), ?_⟩
      gi_wp2_with fail
      refine bodyPost_ret (results_none rfl _ _ _) rfl ?_
      exact ⟨⟨_, rfl⟩, .inl ⟨by rw [List.length_map, ← hkl]; exact hJ1, HE.out⟩⟩
    | cons p t =>
      have hkl : k < l.length := by rcases Nat.lt_or_ge k l.length with h | h; exact h; rw [List.drop_eq_nil_of_le h] at hd; cases hd
      have hp : l[k]? = some p := by have := List.getElem?_drop (xs := l) (i := k) (j := 0); rw [hd] at this; simpa using this.symm
      have ht : l.drop (k + 1) = t := by rw [← List.drop_drop, hd]; rfl
      rw [hd] at hdok HBest hQb
      rw [best_enc_cons hdok] at HBest
      have hp8 := (hdok.inn p (by simp)).1
      have hmeas := Lib.hid (left_enc hdok hQb.out)
      have hot := Lib.hid (okL_tail hdok)
      have hQlt := boxed_lt hQb.out
      have hBlt := boxed_lt hBb.out
      clear hlt hd
      gi_wp2_with fail
      refine at_round HBest.out ?_
      rintro e w1 ⟨rfl, hM1, hQ1⟩
      have hJ1 := hJ _ _ _ hJk hM1
      have hB1 := Lib.hid (hM1.boxed hBb.out hBQ)
      have hMM := hM.trans (hM1.mono fun _ h => .inr h)
      obtain ⟨fn, tmps, assign, body, hy, hR⟩ := hY k _ w1 (by rw [List.getElem?_map, hp]; rfl) hJ1 hMM
      have hQ1' := Lib.hid hQ1
      have HMM := Lib.hid hMM
      clear hY hM1 hQ1 hMM hM hBb hQb
      dsimp only [enc1] at hy
      gi_wp2
      refine ⟨rfl, hR.mono ?_⟩
      rintro e W3 (⟨rfl, hJ3, hm3⟩ | ⟨rfl, hJx3⟩)
      · gi_wp2
        go_roundw
        case rel => exact ⟨k + 1, by omega, hJ3, hm3.boxed hB1.out hSB, by rw [ht]; exact hm3.boxed hQ1'.out hSQ, HMM.out.trans (hm3.mono fun _ h => .inl h)⟩
        case measure =>
          have h1 := left_enc hot.out (hm3.boxed hQ1'.out hSQ)
          have h2 := hmeas.out
          rw [h1, h2]
          simp
      · gi_wp2
        refine bodyPost_ret (results_none rfl _ _ _) rfl ?_
        exact ⟨⟨_, rfl⟩, .inr ⟨k + 1, by rw [List.length_map]; omega, hJx3⟩⟩
end Go.Proofs.Ytkjloeefcaadlaa
/- A queue, drained: what is collected. -/
namespace Go.Proofs.Ytkjloeefcaadlaa
open Go.RowKit Go.Shelf Go.Cs
attribute [local go_sem] Oper.semAt_some
theorem owns_slice {W : World} {base e size n : Nat} {v : Value} {xs : List Value} (h : W.ownsRow base e size v n xs) : ∃ ao cap, v = .slice ao n cap := by
  rcases h.2 with ⟨rfl, rfl⟩ | ⟨g, cap, cur, rfl, _⟩
  · exact ⟨_, _, rfl⟩
  · exact ⟨_, _, rfl⟩
theorem owns_base {W : World} {base base' e size n : Nat} {v : Value} {xs : List Value} (h : W.ownsRow base e size v n xs) (hb : base' ≤ base) : W.ownsRow base' e size v n xs :=
  ⟨h.1, h.2.imp id fun ⟨g, cap, cur, h1, h2, r⟩ => ⟨g, cap, cur, h1, by omega, r⟩⟩
def slots (l : List (Nat × Nat)) : List Int := l.map fun p => (p.1 : Int)
/-- What a drain leaves. -/
def DR (w : World) (Q : Nat) (L : List Int) (e : Ending) (w' : World) : Prop := ∃ v, e = .returned v ∧ w'.ownsRow w.heap.size 3 1 v L.length (L.map (Value.int .i64)) ∧ Mods (fun b => b = Q) w w' ∧ Boxed w' Q 121 (.int .u64 (enc []))
set_option maxHeartbeats 1000000 in
theorem append_seq (B Q : Nat) (hBQ : B ≠ Q) (l : List (Nat × Nat)) (hok : OkL l) (w : World) (hB : Boxed w B 25 (.pointer (some ⟨Q, 0, none⟩))) (hQ : Boxed w Q 121 (.int .u64 (enc l))) :
    Calls Try.prog 136 #[.slice none 0 0, .func (.func 137) #[] #[.pointer (some ⟨B, 0, none⟩)]] w (DR w Q (slots l)) := by
  obtain ⟨i0, hi, hz0, hz1, hz2⟩ := info_parts info3
  have Hok := Lib.hid hok
  have hQlt := boxed_lt hQ
  have hBlt := boxed_lt hB
  have hlen := hok.len
  clear hok
  refine calls_of_marks Try.func136 rfl ?_
  simp only [Try.ntmps136, List.size_toArray, List.length_cons, List.length_nil, Nat.reduceAdd, Nat.reduceSub, Array.replicate_succ, Array.replicate_zero, List.push_toArray, List.append_toArray, List.nil_append, List.cons_append]
  go_wp2_with fail
  obtain ⟨W0, hW0⟩ : ∃ W0, w.alloc (.cells #[.slice none 0 0] 44) = W0 := ⟨_, rfl⟩
  have hN0 : New w W0 := by rw [← hW0]; exact (Mods.refl _ _).alloc _
  have hsz : W0.heap.size = w.heap.size + 1 := by rw [← hW0]; simp
  have hb1 : Boxed W0 w.heap.size 44 (.slice none 0 0) := by rw [← hW0]; exact Boxed.new w _ _
  have hB0 := hN0.boxed hB id
  have hQ0 := hN0.boxed hQ id
  rw [hW0]
  clear hW0 hB hQ
  refine wp_rangeListT (gf := 137) (lb := #[.pointer (some ⟨B, 0, none⟩)]) rfl (enters_of Try.func137 (by kernel_rfl) rfl) l enc1 (fun b => w.heap.size ≤ b) (fun b => b = Q) (fun W => Boxed W Q 121 (.int .u64 (enc []))) (.boxed _ _ _)
    (fun W hW => taken_iter B Q _ (by omega) (by omega) hBQ l Hok.out W (hW.boxed hB0 id) (hW.boxed hQ0 id)) (fun _ => rfl)
    (fun k W => ∃ v, Boxed W w.heap.size 44 v ∧ W.ownsRow (w.heap.size + 1) 3 1 v k ((slots (l.take k)).map (Value.int .i64)) ∧ Mods (fun b => w.heap.size ≤ b ∨ b = Q) W0 W)
    (fun c k W => False)
    (fun k A A' ⟨v, h1, h2, h3⟩ hm => ⟨v, hm.boxed h1 (by omega), hm.ownsRow h2 (fun g hg e => by have := h2.lt g hg; omega), h3.trans (hm.mono fun _ h => .inr h)⟩)
    (fun c k A A' h _ => h.elim)
    (fun k => .ex fun v => .and (.boxed _ _ _) (.and (.ownsRow _ _ _ _ _ _) (.mods (Nat.le_refl _))))
    (fun c k => .pure _)
    ⟨_, hb1, World.ownsRow_nil _ _ _ _, Mods.refl _ _⟩
    (fun p t => (t.setIfInBounds 7 (.int .i64 (p.1 : Nat))).setIfInBounds 5 (.int .i64 (p.1 : Nat))) ?assign ?body ?done ?stop
  case assign =>
    rintro lp p W K hK
    simp only [enc1] at hK ⊢
    gi_wp2
    exact hK
  case body =>
    rintro lp k p W hp hl _ ⟨v, hbv, hown, hM⟩
    have hk : k < l.length := (List.getElem?_eq_some_iff.1 hp).1
    have ht : slots (l.take (k + 1)) = slots (l.take k) ++ [(p.1 : Int)] := by
      obtain ⟨_, e⟩ := List.getElem?_eq_some_iff.1 hp
      unfold slots
      rw [List.take_succ_eq_append_getElem hk, List.map_append, e]; rfl
    have Ht := Lib.hid ht
    obtain ⟨c1, f1⟩ := hbv.both
    have hszW := hM.size
    obtain ⟨M, hMm⟩ : ∃ M, (slots (l.take k)).map (Value.int .i64) = M := ⟨_, rfl⟩
    rw [hMm] at hown
    have HMm := Lib.hid hMm
    obtain ⟨n, hn⟩ : ∃ n : Nat, p.1 = n := ⟨_, rfl⟩
    rw [hn] at Ht ⊢
    clear ht hp hMm hn hb1 hB0 hQ0
    gi_wp2_with (gi_at_builtin; refine wpListIn_append_own _ rfl _ _ 44 rfl (w.heap.size + 1) 3 i0 _ 1 8 Try.underlying44 hi hz0 hz1 hz2 rfl (by decide) _ _ _ rfl (hown.alloc _) ⟨W.heap.size, 0, none⟩ 1 1 [.int .i64 n] rfl rfl ?c1 ?c2 ?c3 ?c4 ?c5 ?_)
    case c1 => exact cell_one_new _ _ _
    case c2 => simp [Value.oneCell']
    case c3 => unfold maxLen; omega
    case c4 => omega
    case c5 => simp; omega
    intro v' W2 hown' hgrow _
    have hrow : ∀ b, v.ownBlock = some b → w.heap.size + 1 ≤ b ∧ b < W.heap.size := fun b hb => hown.lt b hb
    have hM3 : Mods (fun b => w.heap.size + 1 ≤ b) W W2 := ((Mods.refl _ _).alloc _).grown hgrow (fun b hb => .inr ⟨(hrow b hb).1, fun o ho => by
      rcases hown.2 with ⟨rfl, _⟩ | ⟨g, cap, cur, rfl, _, hh, _⟩
      · cases hb
      · cases hb
        rw [Below.heap_alloc _ _ _ (hrow _ rfl).2, hh] at ho
        cases ho; rfl⟩)
    have hb3 := hM3.boxed hbv (by omega)
    obtain ⟨c3, f3⟩ := hb3.both
    have hlt := hown'.lt
    obtain ⟨g', cap', rfl⟩ := ownsRow_succ hown'
    clear c1 f1 hbv hown hgrow hrow
    gi_wp2
    have hM4 : Mods (fun b => w.heap.size ≤ b) W W2 := hM3.mono (fun b hb => by omega)
    refine ⟨hM4.setCell (p := ⟨w.heap.size, 0, none⟩) (.inr (Nat.le_refl _)) _, _, hb3.set _, ?_, (hM.trans (hM4.mono fun _ h => .inl h)).setCell (p := ⟨w.heap.size, 0, none⟩) (.inr (.inl (Nat.le_refl _))) _⟩
    rw [Ht.out, List.map_append, HMm.out]
    exact (Mods.setCell (S := fun b => b = w.heap.size) (Mods.refl _ W2) (p := ⟨w.heap.size, 0, none⟩) (.inr rfl) _).ownsRow hown' (fun g hg e => by have := hlt g hg; omega)
  case done =>
    rintro W ⟨v, hbv, hown, hM⟩ hE hD
    rw [List.take_length] at hown
    obtain ⟨c1, f1⟩ := hbv.both
    obtain ⟨ao, cap, rfl⟩ := owns_slice hown
    have HO := Lib.hid hown
    have HE := Lib.hid hE
    clear hown hE
    go_wp2_with fail
    have hMM : Mods (fun b => w.heap.size ≤ b ∨ b = Q) w W := (Mods.ofNew hN0).trans hM
    refine marks_one rfl hD (v := .slice ao l.length cap) (by simp [results, Try.f136, go_sem]) ⟨_, rfl, ?_, ((hMM.only (T := fun b => b = Q) (fun k hk => hk)).putObj ?_ _), ?_⟩
    · have h2 := Stab.ownsRow (B := 0) _ _ _ _ _ _ _ _ HO.out (Quiet.putObj (.deferred none) hD rfl (Nat.zero_le _))
      have e : (slots l).length = l.length := by simp [slots]
      rw [e]
      exact owns_base h2 (by omega)
    · omega
    · exact Stab.boxed (B := 0) _ _ _ _ _ HE.out (Quiet.putObj (.deferred none) hD rfl (Nat.zero_le _))
  case stop =>
    rintro c k W hk h
    exact h.elim
theorem DR.base {w0 w w' : World} {Q : Nat} {L : List Int} {e : Ending} (h : DR w Q L e w') (h0 : New w0 w) : DR w0 Q L e w' := by
  obtain ⟨v, rfl, ho, hM, hQ⟩ := h
  exact ⟨v, rfl, owns_base ho h0.size, (Mods.ofNew h0).trans hM, hQ⟩
theorem taken_any (Q : Nat) (w : World) : Calls Try.prog 82 #[.pointer (some ⟨Q, 0, none⟩)] w fun e w' => e = .returned (.func (.func 137) #[] #[.pointer (some ⟨w.heap.size, 0, none⟩)]) ∧ w.alloc (.cells #[.pointer (some ⟨Q, 0, none⟩)] 25) = w' := by
  go_enter Try.func82, Try.ntmps82
  go_wp2_with fail
  go_ret
  exact ⟨rfl, rfl⟩
theorem collect_any (Q : Nat) (L : List Int) (f : Value) (w : World) (h : Calls Try.prog 136 #[.slice none 0 0, f] w (DR w Q L)) : Calls Try.prog 81 #[f] w (DR w Q L) := by
  have H := Lib.hid h
  clear h
  go_enter Try.func81, Try.ntmps81
  go_wp2_with fail
  refine H.out.mono ?_
  rintro e w1 ⟨v, rfl, ho, hM, hQ⟩
  obtain ⟨ao, cap, rfl⟩ := owns_slice ho
  have HO := Lib.hid ho
  have HQ := Lib.hid hQ
  clear ho hQ
  go_wp2_with fail
  go_ret
  exact ⟨_, rfl, HO.out, hM, HQ.out⟩
theorem drain_q (Q : Nat) (l : List (Nat × Nat)) (hok : OkL l) (w : World) (hQ : Boxed w Q 121 (.int .u64 (enc l))) :
    Calls Try.prog 32 #[.pointer (some ⟨Q, 0, none⟩)] w (DR w Q (slots l)) := by
  have hQlt := boxed_lt hQ
  have hN : New w (w.alloc (.cells #[.pointer (some ⟨Q, 0, none⟩)] 25)) := (Mods.refl _ _).alloc _
  have HA := Lib.hid (append_seq w.heap.size Q (by omega) l hok _ (Boxed.new w _ _) (hN.boxed hQ id))
  have HN := Lib.hid hN
  clear hok hQ hQlt hN
  go_enter Try.func32, Try.ntmps32
  go_wp2_with fail
  refine (taken_any Q _).mono ?_
  rintro e w1 ⟨rfl, rfl⟩
  go_wp2_with fail
  refine (collect_any _ _ _ _ HA.out).mono ?_
  rintro e w2 hD
  obtain ⟨v, rfl, ho, hM, hq⟩ := hD.base HN.out
  obtain ⟨ao, cap, rfl⟩ := owns_slice ho
  have HO := Lib.hid ho
  have HQ := Lib.hid hq
  clear ho hq hD
  go_wp2_with fail
  go_ret
  exact ⟨_, rfl, HO.out, hM, HQ.out⟩
end Go.Proofs.Ytkjloeefcaadlaa
/- A queue's other answers; a queue that is none; the same numbers. -/
namespace Go.Proofs.Ytkjloeefcaadlaa
open Go.RowKit Go.Shelf Go.Cs
attribute [local go_sem] Oper.semAt_some
theorem word_q (Q x : Nat) (w : World) (h : Boxed w Q 121 (.int .u64 x)) :
    Calls Try.prog 28 #[.pointer (some ⟨Q, 0, none⟩)] w fun e w' => e = .returned (.int .u64 (x : Nat)) ∧ w = w' := by
  have HL := Lib.hid (load_any Q x w h)
  clear h
  go_enter Try.func28, Try.ntmps28
  go_wp2_with fail
  refine HL.out.mono ?_
  rintro e w1 ⟨rfl, rfl⟩
  go_wp2_with fail
  go_ret
  exact ⟨rfl, rfl⟩
theorem many_q (Q x : Nat) (hx : x < 18446744073709551616) (w : World) (h : Boxed w Q 121 (.int .u64 x)) :
    Calls Try.prog 29 #[.pointer (some ⟨Q, 0, none⟩)] w fun e w' => e = .returned (.int .i64 (manyN x : Nat)) ∧ New w w' := by
  have HW := Lib.hid (word_q Q x w h)
  have HM := Lib.hid (many_any x hx)
  clear h
  go_enter Try.func29, Try.ntmps29
  go_wp2_with fail
  refine HW.out.mono ?_
  rintro e w1 ⟨rfl, rfl⟩
  go_wp2_with fail
  refine (HM.out _).mono ?_
  rintro e w1 ⟨rfl, hN⟩
  go_wp2_with fail
  go_ret
  exact ⟨rfl, hN⟩
theorem from_yes (x : Nat) (hx : x < 18446744073709551616) (hr : rightB x = true) (w : World) :
    Calls Try.prog 18 #[.int .u64 x] w fun e w' => ∃ Q, e = .returned (.tuple #[.pointer (some ⟨Q, 0, none⟩), .bool true]) ∧ Boxed w' Q 121 (.int .u64 x) ∧ w.heap.size ≤ Q ∧ New w w' := by
  have HR := Lib.hid (right_any x hx)
  rw [hr] at HR
  clear hr
  go_enter Try.func18, Try.ntmps18
  go_wp2_with fail
  refine (HR.out _).mono ?_
  rintro e w1 ⟨rfl, hN⟩
  go_wp2_with fail
  refine (new_any _).mono ?_
  rintro e w2 ⟨rfl, hw⟩
  have hb : Boxed w2 w1.heap.size 121 (.int .u64 (0 : Nat)) := by rw [← hw]; exact Boxed.new w1 _ _
  have hN2 : New w w2 := by rw [← hw]; exact hN.alloc _
  have hsz := hN.size
  have HS := Lib.hid (store_any w1.heap.size (0 : Nat) x w2 hb)
  have Hb := Lib.hid hb
  clear hw hb
  go_wp2_with fail
  refine HS.out.mono ?_
  rintro e w3 ⟨rfl, rfl⟩
  go_wp2_with fail
  go_ret2
  exact ⟨_, rfl, Hb.out.set _, hsz, hN2.setCell (p := ⟨w1.heap.size, 0, none⟩) (.inl hsz) _⟩
theorem from_no (x : Nat) (hx : x < 18446744073709551616) (hr : rightB x = false) (w : World) :
    Calls Try.prog 18 #[.int .u64 x] w fun e w' => e = .returned (.tuple #[.pointer none, .bool false]) ∧ New w w' := by
  have HR := Lib.hid (right_any x hx)
  rw [hr] at HR
  clear hr
  go_enter Try.func18, Try.ntmps18
  go_wp2_with fail
  refine (HR.out _).mono ?_
  rintro e w1 ⟨rfl, hN⟩
  go_wp2_with fail
  go_ret2
  exact ⟨rfl, hN⟩
theorem step_nil (f : Value) (w : World) : Calls Try.prog 69 #[.pointer none, f] w fun e w' => e = .returned (.bool false) ∧ w = w' := by
  go_enter Try.func69, Try.ntmps69
  go_wp2_with fail
  go_step3
  go_wp2_with fail
  try rw [Exit.noGoto_ret]
  go_ret
  exact ⟨rfl, rfl⟩
theorem push_nil (s u : Int) (w : World) : Calls Try.prog 20 #[.pointer none, .int .i64 s, .int .i64 u] w fun e w' => e = .returned (.bool false) ∧ New w w' := by
  go_enter Try.func20, Try.ntmps20
  go_wp2_with fail
  refine (step_nil _ _).mono ?_
  rintro e w1 ⟨rfl, rfl⟩
  go_wp2_with fail
  go_ret
  exact ⟨rfl, ((Mods.refl _ _).alloc _).alloc _⟩
theorem turn_nil (s u : Int) (w : World) : Calls Try.prog 24 #[.pointer none, .int .i64 s, .int .i64 u] w fun e w' => e = .returned (.bool false) ∧ New w w' := by
  go_enter Try.func24, Try.ntmps24
  go_wp2_with fail
  refine (step_nil _ _).mono ?_
  rintro e w1 ⟨rfl, rfl⟩
  go_wp2_with fail
  go_ret
  exact ⟨rfl, ((Mods.refl _ _).alloc _).alloc _⟩
theorem out_nil (s : Int) (w : World) : Calls Try.prog 26 #[.pointer none, .int .i64 s] w fun e w' => e = .returned (.bool false) ∧ New w w' := by
  go_enter Try.func26, Try.ntmps26
  go_wp2_with fail
  refine (step_nil _ _).mono ?_
  rintro e w1 ⟨rfl, rfl⟩
  go_wp2_with fail
  go_ret
  exact ⟨rfl, (Mods.refl _ _).alloc _⟩
theorem best_nil (w : World) : Calls Try.prog 22 #[.pointer none] w fun e w' => e = .returned (.tuple #[.int .i64 0, .bool false]) ∧ New w w' := by
  have b0 := Boxed.new w 3 (.int .i64 0)
  have r1 := (b0.set (.int .i64 0)).cell
  obtain ⟨c1, f1⟩ := b0.both
  have hM : New w ((w.alloc (.cells #[.int .i64 0] 3)).setCell ⟨w.heap.size, 0, none⟩ (.int .i64 0)) := ((Mods.refl _ _).alloc _).setCell (p := ⟨w.heap.size, 0, none⟩) (.inl (Nat.le_refl _)) _
  have HM := Lib.hid hM
  have Hr := Lib.hid r1
  clear b0 hM r1
  go_enter Try.func22, Try.ntmps22
  go_wp2_with fail
  refine (step_nil _ _).mono ?_
  rintro e w1 ⟨rfl, rfl⟩
  go_wp2_with fail
  have hr := Hr.out
  refine bodyPost_ret (v := .tuple #[.int .i64 0, .bool false]) (by simp [results, Try.f22, go_sem]) rfl ⟨rfl, ?_⟩
  exact (Mods.refl _ _).alloc _
theorem word_nil (w : World) : Calls Try.prog 28 #[.pointer none] w fun e w' => e = .returned (.int .u64 0) ∧ w = w' := by
  go_enter Try.func28, Try.ntmps28
  go_wp2_with fail
  go_ret
  exact ⟨rfl, rfl⟩
theorem many_nil (w : World) : Calls Try.prog 29 #[.pointer none] w fun e w' => e = .returned (.int .i64 0) ∧ New w w' := by
  have HM := Lib.hid (many_any 0 (by omega))
  rw [show manyN 0 = 0 by decide +kernel] at HM
  go_enter Try.func29, Try.ntmps29
  go_wp2_with fail
  refine (word_nil _).mono ?_
  rintro e w1 ⟨rfl, rfl⟩
  go_wp2_with fail
  refine (HM.out _).mono ?_
  rintro e w1 ⟨rfl, hN⟩
  go_wp2_with fail
  go_ret
  exact ⟨rfl, hN⟩
/-- The same numbers. -/
theorem ints_any (v v' : Value) (L L' : List Int) (w : World) (h : ReadsI .i64 w v L) (h' : ReadsI .i64 w v' L') :
    Calls Try.prog 31 #[v, v'] w fun e w' => e = .returned (.bool (decide (L = L'))) ∧ New w w' := by
  obtain ⟨hlen, ao, cap, rfl, hc⟩ := h
  obtain ⟨hlen', ao', cap', rfl, hc'⟩ := h'
  by_cases hll : L.length = L'.length
  · obtain ⟨n, hn⟩ : ∃ n, L.length = n := ⟨_, rfl⟩
    rw [hn] at hll
    rw [← hll] at hlen' hc' ⊢
    rw [hn] at hlen hc ⊢
    have Hc := Lib.hid hc
    have Hc' := Lib.hid hc'
    have Hn := Lib.hid hn
    have Hn' := Lib.hid hll
    obtain ⟨b, hb⟩ : ∃ b, decide (L = L') = b := ⟨_, rfl⟩
    rw [hb]
    have Hb := Lib.hid hb
    clear hc hc' hn hll hb
    go_enter Try.func31, Try.ntmps31
    go_wp2_with fail
    go_loopw [5] (fun c wr => ∃ k : Nat, k ≤ n ∧ c = .int .i64 k ∧ Hid (∀ j, j < k → L.getD j 0 = L'.getD j 0) ∧ New w wr) (fun c _ => n - (intOf c).toNat)
    case atStart => exact ⟨0, by omega, rfl, (fun j hj => by omega), Mods.refl _ _⟩
    case round =>
      obtain ⟨k, hk, rfl, hsame, hN⟩ := hrel
      by_cases hkn : k < n
      · obtain ⟨b1, o1, rfl, h1⟩ := Hc.out k hkn
        obtain ⟨b2, o2, rfl, h2⟩ := Hc'.out k hkn
        have h1 := hN.cell h1 id
        have h2 := hN.cell h2 id
        obtain ⟨z, hz⟩ : ∃ z, L.getD k 0 = z := ⟨_, rfl⟩
        obtain ⟨z', hz'⟩ : ∃ z, L'.getD k 0 = z := ⟨_, rfl⟩
        rw [hz] at h1
        rw [hz'] at h2
        by_cases he : z = z'
        · have hq : (z != z') = false := by simp [he]
          have hnext : Hid (∀ j, j < k + 1 → L.getD j 0 = L'.getD j 0) := Lib.hid (fun j hj => by
            by_cases h : j < k
            · exact hsame.out j h
            · obtain rfl : j = k := by omega
              rw [hz, hz', he])
          clear hz hz' he hsame
          go_wp2
          go_quiet (fail)
          go_wp2
          go_roundw
          case rel => exact ⟨k + 1, by omega, by go_num, hnext, hN.drewN _⟩
          case measure => simp [intOf]; omega
        · have hq : (z != z') = true := by simp [he]
          obtain rfl : b = false := by rw [← Hb.out]; exact decide_eq_false (fun e => he (by rw [← hz, ← hz', e]))
          clear hz hz' he hsame
          go_wp2
          go_quiet (fail)
          go_wp2
          go_ret
          exact ⟨rfl, hN.drewN _⟩
      · obtain rfl : b = true := by
          rw [← Hb.out]
          refine decide_eq_true (List.ext_getElem (by rw [Hn.out, Hn'.out]) (fun i hi hi' => ?_))
          have := hsame.out i (by have := Hn.out; omega)
          simpa [List.getD, hi, hi'] using this
        clear hsame
        go_wp2
        go_ret
        exact ⟨rfl, hN⟩
  · have e : decide (L = L') = false := decide_eq_false (fun e => hll (by rw [e]))
    rw [e]
    obtain ⟨n, hn⟩ : ∃ n, L.length = n := ⟨_, rfl⟩
    obtain ⟨n', hn'⟩ : ∃ n, L'.length = n := ⟨_, rfl⟩
    rw [hn] at hlen hll ⊢
    rw [hn'] at hlen' hll ⊢
    have hne : ((n : Int) != (n' : Int)) = true := by simp; omega
    clear hc hc' e hn hn' hll
    go_enter Try.func31, Try.ntmps31
    go_wp2
    go_ret
    exact ⟨rfl, Mods.refl _ _⟩
end Go.Proofs.Ytkjloeefcaadlaa
