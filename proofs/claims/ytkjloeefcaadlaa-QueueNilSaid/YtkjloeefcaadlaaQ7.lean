/- A queue that is none: nothing is drained; QueueNil, walked. -/
import Derived.Test.YtkjloeefcaadlaaQ6
namespace Go.Proofs.Ytkjloeefcaadlaa
open Go.RowKit Go.Shelf Go.Cs
attribute [local go_sem] Oper.semAt_some
theorem taken_iter_nil (B : Nat) (S : Nat → Prop) (W : World) (hB : Boxed W B 25 (.pointer none)) :
    IterAt Try.prog 137 [.pointer (some ⟨B, 0, none⟩)].toArray (([] : List (Nat × Nat)).map enc1) S W := by
  intro lp J Jx hJ hJx hY h0
  refine (callsIn_wide (n := 0)).1 (callsIn_of_wp Try.func137 rfl trivial ?_ rfl)
  simp only [Try.ntmps137, List.size_toArray, List.length_cons, List.length_nil, Nat.reduceAdd, Nat.reduceSub, Array.replicate_succ, Array.replicate_zero, List.push_toArray, List.append_toArray, List.nil_append, List.cons_append]
  have cB := hB.cell
  have HBest := Lib.hid (best_nil W)
  clear hB hY
  gi_wp2_with fail
  gi_loopw [3] (fun _ wr => wr = W) (fun _ _ => 0)
  case atStart => rfl
  case round =>
    have hrel : wr = W := hrel
    rw [hrel]
    gi_wp2_with fail
    refine at_round HBest.out ?_
    rintro e w1 ⟨rfl, hN⟩
    have hJ1 := hJ _ _ _ h0 hN
    clear hJ hJx
    gi_wp2_with fail
    refine ⟨fun f hf => (by cases hf), ?_⟩
    gi_wp2_with fail
    refine bodyPost_ret (results_none rfl _ _ _) rfl ?_
    exact ⟨⟨_, rfl⟩, .inl hJ1⟩
theorem append_nil (B : Nat) (w : World) (hB : Boxed w B 25 (.pointer none)) :
    Calls Try.prog 136 #[.slice none 0 0, .func (.func 137) #[] #[.pointer (some ⟨B, 0, none⟩)]] w fun e w' => e = .returned (.slice none 0 0) ∧ New w w' := by
  have hBlt := boxed_lt hB
  refine calls_of_marks Try.func136 rfl ?_
  simp only [Try.ntmps136, List.size_toArray, List.length_cons, List.length_nil, Nat.reduceAdd, Nat.reduceSub, Array.replicate_succ, Array.replicate_zero, List.push_toArray, List.append_toArray, List.nil_append, List.cons_append]
  go_wp2_with fail
  obtain ⟨W0, hW0⟩ : ∃ W0, w.alloc (.cells #[.slice none 0 0] 44) = W0 := ⟨_, rfl⟩
  have hN0 : New w W0 := by rw [← hW0]; exact (Mods.refl _ _).alloc _
  have hsz : W0.heap.size = w.heap.size + 1 := by rw [← hW0]; simp
  have hb1 : Boxed W0 w.heap.size 44 (.slice none 0 0) := by rw [← hW0]; exact Boxed.new w _ _
  have hB0 := hN0.boxed hB id
  rw [hW0]
  clear hW0 hB
  refine wp_rangeList (gf := 137) (lb := #[.pointer (some ⟨B, 0, none⟩)]) rfl (enters_of Try.func137 (by kernel_rfl) rfl) ([] : List (Nat × Nat)) enc1 (fun b => w.heap.size ≤ b)
    (fun W hW => taken_iter_nil B _ W (hW.boxed hB0 id)) (fun _ => rfl)
    (fun k W => Boxed W w.heap.size 44 (.slice none 0 0) ∧ Mods (fun _ => False) W0 W)
    (fun c k W => False)
    (fun k => .and (.boxed _ _ _) (.mods (Nat.le_refl _)))
    (fun c k => .pure _)
    ⟨hb1, Mods.refl _ _⟩
    (fun p t => (t.setIfInBounds 7 (.int .i64 (p.1 : Nat))).setIfInBounds 5 (.int .i64 (p.1 : Nat))) ?assign ?body ?done ?stop
  case assign =>
    rintro lp p W K hK
    simp only [enc1] at hK ⊢
    gi_wp2
    exact hK
  case body =>
    rintro lp k p W hp
    simp at hp
  case done =>
    rintro W ⟨hbv, hM⟩ hD
    obtain ⟨c1, f1⟩ := hbv.both
    go_wp2_with fail
    have hMM : New w W := hN0.trans hM
    exact marks_one rfl hD (v := .slice none 0 0) (by simp [results, Try.f136, go_sem]) ⟨rfl, hMM.putObj (by omega) _⟩
  case stop =>
    rintro c k W hk h
    exact h.elim
theorem taken_nil (w : World) : Calls Try.prog 82 #[.pointer none] w fun e w' => e = .returned (.func (.func 137) #[] #[.pointer (some ⟨w.heap.size, 0, none⟩)]) ∧ w.alloc (.cells #[.pointer none] 25) = w' := by
  go_enter Try.func82, Try.ntmps82
  go_wp2_with fail
  go_ret
  exact ⟨rfl, rfl⟩
theorem drain_nil (w : World) : Calls Try.prog 32 #[.pointer none] w fun e w' => e = .returned (.slice none 0 0) ∧ New w w' := by
  have hN : New w (w.alloc (.cells #[.pointer none] 25)) := (Mods.refl _ _).alloc _
  have HA := Lib.hid (append_nil w.heap.size _ (Boxed.new w _ _))
  have HN := Lib.hid hN
  clear hN
  have HC : Hid (Calls Try.prog 81 #[.func (.func 137) #[] #[.pointer (some ⟨w.heap.size, 0, none⟩)]] (w.alloc (.cells #[.pointer none] 25)) fun e w' => e = .returned (.slice none 0 0) ∧ New (w.alloc (.cells #[.pointer none] 25)) w') := by
    refine Lib.hid ?_
    go_enter Try.func81, Try.ntmps81
    go_wp2_with fail
    refine HA.out.mono ?_
    rintro e w1 ⟨rfl, hN⟩
    go_wp2_with fail
    go_ret
    exact ⟨rfl, hN⟩
  clear HA
  go_enter Try.func32, Try.ntmps32
  go_wp2_with fail
  refine (taken_nil _).mono ?_
  rintro e w1 ⟨rfl, rfl⟩
  go_wp2_with fail
  refine HC.out.mono ?_
  rintro e w2 ⟨rfl, hN⟩
  go_wp2_with fail
  go_ret
  exact ⟨rfl, HN.out.trans hN⟩
set_option maxRecDepth 100000 in
theorem nil_law (s u : Int) (w : World) : Calls Try.prog 4 #[.int .i64 s, .int .i64 u] w fun e w' => e = .returned (.bool true) ∧ New w w' := by
  go_enter Try.func4, Try.ntmps4
  go_wp2_with fail
  refine (best_nil _).mono ?_
  rintro e w1 ⟨rfl, h1⟩
  go_wp2_with fail
  refine (push_nil _ _ _).mono ?_
  rintro e w2 ⟨rfl, h2⟩
  go_wp2_with fail
  refine (turn_nil _ _ _).mono ?_
  rintro e w3 ⟨rfl, h3⟩
  go_wp2_with fail
  refine (out_nil _ _).mono ?_
  rintro e w4 ⟨rfl, h4⟩
  go_wp2_with fail
  refine (word_nil _).mono ?_
  rintro e w5 ⟨rfl, rfl⟩
  go_wp2_with fail
  refine (many_nil _).mono ?_
  rintro e w6 ⟨rfl, h6⟩
  go_wp2_with fail
  refine (drain_nil _).mono ?_
  rintro e w7 ⟨rfl, h7⟩
  go_wp2_with fail
  refine (wakes_any _).mono ?_
  rintro e w8 ⟨rfl, h8⟩
  go_wp2_with fail
  go_ret
  exact ⟨rfl, (((((h1.trans h2).trans h3).trans h4).trans h6).trans h7).trans h8⟩
end Go.Proofs.Ytkjloeefcaadlaa
