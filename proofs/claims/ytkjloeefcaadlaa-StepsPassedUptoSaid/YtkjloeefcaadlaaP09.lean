/- A deed done to a word. -/
import Derived.Test.YtkjloeefcaadlaaP08
import Derived.Deep.RegionHeld3
set_option linter.unusedSimpArgs false
set_option linter.unusedVariables false
namespace Go.Proofs.Ytkjloeefcaadlaa
open Go.RowKit Go.Shelf Go.Cs
attribute [local go_sem] Oper.semAt_some
/-- What a deed makes of a word, and what it answers. -/
def doesS (x : Nat) (d : Nat) (s u : Int) : Nat × Nat × Bool :=
  if d = 1 then (if (pushF x s u).2 then ((pushF x s u).1, 0, true) else (x, 0, false))
  else if d = 2 then (if (bestF x).2.2 then ((bestF x).1, (bestF x).2.1, true) else (x, 0, false))
  else if d = 3 then (if (turnF x s u).2 then ((turnF x s u).1, 0, true) else (x, 0, false))
  else if d = 4 then (if (outF x s).2 then ((outF x s).1, 0, true) else (x, 0, false))
  else (x, 0, false)
theorem two_set {w : World} {B : Nat} {a b : Value} (h : w.heap[B]? = some (.cells #[a, b] 89 (0, 0))) (c d : Value) : ((w.setCell ⟨B, 0, none⟩ c).setCell ⟨B, 1, none⟩ d).heap[B]? = some (.cells #[c, d] 89 (0, 0)) := by
  have h1 := heap_setCell_same w B 0 _ 89 c h
  have h2 := heap_setCell_same _ B 1 _ 89 d h1
  exact h2
theorem made2 (w : World) (d : Nat) (s u : Int) (W : World) (hW : (w.alloc (.cells #[.int .u8 (d : Nat), .int .i64 s, .int .i64 u] 93)).alloc (.cells #[.int .i64 0, .bool false] 89) = W) :
    New w W ∧ W.heap[w.heap.size]? = some (.cells #[.int .u8 (d : Nat), .int .i64 s, .int .i64 u] 93 (0, 0)) ∧ W.heap[w.heap.size + 1]? = some (.cells #[.int .i64 0, .bool false] 89 (0, 0)) := by
  rw [← hW]
  refine ⟨((Mods.refl _ _).alloc _).alloc _, ((Mods.refl (fun _ => False) _).alloc _).heap (World.alloc_heap_new w _) id, ?_⟩
  have := World.alloc_heap_new (w.alloc (.cells #[.int .u8 (d : Nat), .int .i64 s, .int .i64 u] 93)) (.cells #[.int .i64 0, .bool false] 89)
  rw [World.size_alloc] at this
  exact this
theorem run_neq_is {o : Oper} {a : Act} {w : World} (x : Operand) (ho : o.op = .binOp .neq 91 x (.const .nilFunc) 91) (d b1 b3 b4 : Nat) (hx : a.eval x = dval d b1 b3 b4) {b : Bool} (hb : isDeed d = b) :
    (execOp a.eval o).run Try.prog w = .ok (.value (.bool b)) w := by rw [← hb]; exact run_neq_nil x ho d b1 b3 b4 hx
set_option maxRecDepth 100000 in
set_option maxHeartbeats 2000000 in
theorem does_yes (x d : Nat) (s u : Int) (y sl : Nat) (ok : Bool) (hdeed : isDeed d = true)
    (hcall : ∀ W M b1 b3 b4, DoesAt W M b1 b3 b4 → ∃ g lb, dval d b1 b3 b4 = .func (.func g) #[] lb ∧ (∀ args w, (callFunc g args).run Try.prog w = .ok (.enter g args) w) ∧ Calls Try.prog g (#[.int .u64 x, dv d s u] ++ lb) W fun e w' => e = .returned (ansV y sl ok) ∧ New W w') (w : World) :
    Calls Try.prog 93 #[.int .u64 x, dv d s u] w fun e w' => e = .returned (if ok then ansV y sl true else ansV x 0 false) ∧ New w w' := by
  have HD := Lib.hid does_any
  have HC := Lib.hid hcall
  clear hcall
  unfold dv
  go_enter Try.func93, Try.ntmps93
  go_upto_region 1 with fail
  obtain ⟨W0, hW0⟩ : ∃ W0, (w.alloc (.cells #[.int .u8 (d : Nat), .int .i64 s, .int .i64 u] 93)).alloc (.cells #[.int .i64 0, .bool false] 89) = W0 := ⟨_, rfl⟩
  obtain ⟨hN0, hP0, hR0⟩ := made2 w d s u W0 hW0
  rw [hW0]
  clear hW0
  refine (wpIn_wide (n := 0)).1 ?_
  refine wpIn_region_any (by kernel_rfl) ?_
  show wpAnyIn _ _ _ _ _ _ _ _ _ W0.drew
  have hNd : New w W0.drew := hN0.drew
  have hPd : W0.drew.heap[w.heap.size]? = some (.cells #[.int .u8 (d : Nat), .int .i64 s, .int .i64 u] 93 (0, 0)) := hP0
  have hRd : W0.drew.heap[w.heap.size + 1]? = some (.cells #[.int .i64 0, .bool false] 89 (0, 0)) := hR0
  have hcd : W0.drew.cell? ⟨w.heap.size, 0, none⟩ = some (.int .u8 (d : Nat)) := by rw [cell_of_row _ _ _ _ _ _ hPd]; rfl
  obtain ⟨Wd, hWd⟩ : ∃ W, W0.drew = W := ⟨_, rfl⟩
  rw [hWd] at hNd hcd hPd hRd ⊢
  clear hWd hN0 hP0 hR0
  refine any_take 1 (some 10) (.pointer (some ⟨w.heap.size, 0, none⟩)) rfl rfl (by kernel_rfl) (by kernel_rfl) (by kernel_rfl) (fun _ _ _ h => h) (.value rfl fun w => by go_simp) ?_
  simp only [Act.put, List.setIfInBounds_toArray, List.set_cons_succ, List.set_cons_zero]
  refine wpAnyIn_all (rs := [0, 2]) (by kernel_rfl) (by simp) ?_
  simp only [List.mem_cons, List.not_mem_nil, or_false, forall_eq_or_imp, forall_eq]
  refine ⟨?ord1, ?ord2⟩
  case' ord1 =>
    refine opIn_call' (some 9) rfl rfl rfl rfl 139 #[] (by go_simp) ((HD.out _).mono ?_)
    rintro e w1 ⟨M, b1, b3, b4, rfl, hM, hN1⟩
    refine ⟨_, rfl, ?_⟩
    have hc1 := hN1.cell hcd id
    refine wpAnyIn_all (rs := [2]) (by kernel_rfl) (by simp) ?_
    simp only [List.mem_cons, List.not_mem_nil, or_false, forall_eq]
    refine opIn_value (some 11) (v := .int .u8 (d : Nat)) (w' := w1) rfl rfl rfl rfl (by go_simp) ?_
  case' ord2 =>
    refine opIn_value (some 11) (v := .int .u8 (d : Nat)) (w' := Wd) rfl rfl rfl rfl (by go_simp) ?_
    refine wpAnyIn_all (rs := [0]) (by kernel_rfl) (by simp) ?_
    simp only [List.mem_cons, List.not_mem_nil, or_false, forall_eq]
    refine opIn_call' (some 9) rfl rfl rfl rfl 139 #[] (by go_simp) ((HD.out _).mono ?_)
    rintro e w1 ⟨M, b1, b3, b4, rfl, hM, hN1⟩
    refine ⟨_, rfl, ?_⟩
  all_goals
    simp only [Act.put, List.setIfInBounds_toArray, List.set_cons_succ, List.set_cons_zero]
    refine wpAnyIn_all (rs := [3]) (by kernel_rfl) (by simp) ?_
    simp only [List.mem_cons, List.not_mem_nil, or_false, forall_eq]
    have hlk := look_deed hM d
    refine opIn_value (some 12) (v := dval d b1 b3 b4) (w' := w1) rfl rfl rfl rfl (by go_simp) ?_
    simp only [Act.put, List.setIfInBounds_toArray, List.set_cons_succ, List.set_cons_zero]
    refine wpAnyIn_all (rs := [4]) (by kernel_rfl) (by simp) ?_
    simp only [List.mem_cons, List.not_mem_nil, or_false, forall_eq]
    refine opIn_value (some 6) (v := dval d b1 b3 b4) (w' := w1) rfl rfl rfl rfl (by go_simp) ?_
    simp only [Act.put, List.setIfInBounds_toArray, List.set_cons_succ, List.set_cons_zero]
    refine wpAnyIn_done (by kernel_rfl) ?_ _
    obtain ⟨g, lb, hv, eg, hcl⟩ := HC.out w1 M b1 b3 b4 hM
    have hP1 := hN1.heap hPd id
    have hR1 := hN1.heap hRd id
    have hN1' := hNd.trans hN1
    have hsz : w.heap.size + 1 < w1.heap.size := (Array.getElem?_eq_some_iff.1 hR1).1
    clear hPd hRd hNd hcd hlk hN1
    go_upto_region 3 with (refine op_value rfl (run_neq_is (.tmp 13) rfl d b1 b3 b4 rfl hdeed) ?_)
    rw [hv]
    have Hcl := Lib.hid hcl
    clear hcl hv hM
    go_wp2_with (refine op_value rfl (run_load_row 93 (.tmp 3) rfl w.heap.size rfl 93 #[.int .u8 (d : Nat), .int .i64 s, .int .i64 u] (0, 0) _ hP1 Try.underlying93 rfl info93) ?_)
    refine Hcl.out.mono ?_
    rintro e w2 ⟨rfl, hN2⟩
    have hR2 := hN2.heap hR1 id
    have hNN := hN1'.trans hN2
    have hsz2 : w.heap.size + 1 < w2.heap.size := (Array.getElem?_eq_some_iff.1 hR2).1
    have hA := World.alloc_heap_new w2 (.cells [.int .i64 (sl : Nat), .bool ok].toArray 89)
    have hNA : New w2 (w2.alloc (.cells [.int .i64 (sl : Nat), .bool ok].toArray 89)) := (Mods.refl _ _).alloc _
    have hR3 := hNA.heap hR2 id
    have hN3 := hNN.trans hNA
    unfold ansV
    go_upto_region 4 with (refine op_skip rfl (run_store_new 89 (.tmp 8) (.tmp 21) rfl 89 [.int .i64 0, .bool false] [.int .i64 (sl : Nat), .bool ok] rfl rfl info89 rfl (by simp [Value.oneCell'])) ?_)
    obtain ⟨W3, hW3⟩ : ∃ W, w2.alloc (.cells [.int .i64 (sl : Nat), .bool ok].toArray 89) = W := ⟨_, rfl⟩
    obtain ⟨A, hA0⟩ : ∃ A, w2.heap.size = A := ⟨_, rfl⟩
    rw [hW3] at hA hR3 hN3 ⊢
    rw [hA0] at hA hsz2 ⊢
    have k1 : ¬ A = w.heap.size + 1 := by omega
    have k2 : ¬ w.heap.size + 1 = A := by omega
    have a0 : W3.cell? ⟨A, 0, none⟩ = some (.int .i64 (sl : Nat)) := by rw [cell_of_row _ _ _ _ _ _ hA]; rfl
    have a1 : W3.cell? ⟨A, 1, none⟩ = some (.bool ok) := by rw [cell_of_row _ _ _ _ _ _ hA]; rfl
    have r0 : W3.cell? ⟨w.heap.size + 1, 0, none⟩ = some (.int .i64 0) := by rw [cell_of_row _ _ _ _ _ _ hR3]; rfl
    have r1 : W3.cell? ⟨w.heap.size + 1, 1, none⟩ = some (.bool false) := by rw [cell_of_row _ _ _ _ _ _ hR3]; rfl
    have f0 : W3.frozen? ⟨w.heap.size + 1, 0, none⟩ = false := by unfold World.frozen?; rw [hR3]; rfl
    have f1 : W3.frozen? ⟨w.heap.size + 1, 1, none⟩ = false := by unfold World.frozen?; rw [hR3]; rfl
    clear hA hW3 hA0 hNA hR2 hNN hR1 hP1 hN2 HD HC eg hsz hsz2 Hcl hN1' hdeed
    simp only [Act.put]
    cases ok with
    | true =>
      go_wp2_with fail
      go_region
      go_wp2_with fail
      have h2 := two_set hR3 (.int .i64 (sl : Nat)) (.bool true)
      have h3 : (((W3.setCell ⟨w.heap.size + 1, 0, none⟩ (.int .i64 (sl : Nat))).setCell ⟨w.heap.size + 1, 1, none⟩ (.bool true)).drew).heap[w.heap.size + 1]? = some (.cells #[.int .i64 (sl : Nat), .bool true] 89 (0, 0)) := h2
      have hNf := ((hN3.setCell (p := ⟨w.heap.size + 1, 0, none⟩) (.inl (by simp)) (.int .i64 (sl : Nat))).setCell (p := ⟨w.heap.size + 1, 1, none⟩) (.inl (by simp)) (.bool true)).drew
      exact bodyPost_ret (v := .tuple #[.int .u64 (y : Nat), .agg #[.int .i64 (sl : Nat), .bool true]]) (results_2cell (fn := Try.f93) (p := 5) (q := 4) (v := .int .u64 (y : Nat)) rfl _ _ (w.heap.size + 1) 89 _ (0, 0) _ rfl h3 Try.underlying89 rfl info89 rfl) rfl ⟨rfl, hNf⟩
    | false =>
      go_wp2_with (refine op_skip rfl (run_store_row 89 (.tmp 5) (.tmp 27) rfl (w.heap.size + 1) rfl 89 [.int .i64 0, .bool false] [.int .i64 0, .bool false] rfl hR3 info89 rfl (by simp [Value.oneCell'])) ?_)
      have h2 := setRow_heap W3 (w.heap.size + 1) _ [.int .i64 0, .bool false].toArray 89 (0, 0) hR3
      exact bodyPost_ret (v := .tuple #[.int .u64 (x : Nat), .agg #[.int .i64 0, .bool false]]) (results_2cell (fn := Try.f93) (p := 5) (q := 4) (v := .int .u64 (x : Nat)) rfl _ _ (w.heap.size + 1) 89 _ (0, 0) _ rfl h2 Try.underlying89 rfl info89 rfl) rfl ⟨rfl, hN3.setRow (by omega) _⟩
end Go.Proofs.Ytkjloeefcaadlaa
