/- What the document says of 3, 1 and 4, walked. -/
import Derived.Test.YtcelhdlppimfbaaP2
import Derived.Deep.CutRange
namespace Go.Proofs.Ytcelhdlppimfbaa
open Go.RowKit Go.Shelf Go.Cs
attribute [local go_sem] Oper.semAt_some
/-- A variable of rows. -/
structure Var (W : World) (B : Nat) (ws : List Value) (X : Nat → List Int) : Prop where
  heap : W.heap[B]? = some (.cells ws.toArray 23 (0, 0))
  len : ws.length = 8
  rd : Rd W ws X
  one : ∀ v ∈ ws, v.oneCell' = true
theorem Var.new {W W' : World} {B : Nat} {ws : List Value} {X : Nat → List Int} (h : Var W B ws X) (hN : New W W') : Var W' B ws X := ⟨hN.heap h.heap id, h.len, h.rd.new hN, h.one⟩
theorem Var.kept {W W' : World} {B : Nat} {ws : List Value} {X : Nat → List Int} {S : Nat → Prop} (h : Var W B ws X) (hM : Mods S W W') (hB : ¬ S B) (hS : ∀ i, i < 8 → X i ≠ [] → ∀ g, (ws.getD i undef).ownBlock = some g → ¬ S g) : Var W' B ws X := ⟨hM.heap h.heap hB, h.len, h.rd.kept hM hS, h.one⟩
theorem Var.make {W : World} {base : Nat} {ws : List Value} {X : Nat → List Int} (hl : ws.length = 8) (h : OwnTo base ws X 8 W) : Var (W.alloc (.cells ws.toArray 23)) W.heap.size ws X :=
  ⟨World.alloc_heap_new W _, hl, h.rd.new ((Mods.refl _ _).alloc _), h.one hl⟩
theorem Var.info {W : World} {B : Nat} {ws : List Value} {X : Nat → List Int} (h : Var W B ws X) : (Try.prog.info? 23).map (·.size) = some ws.toArray.size := by rw [List.size_toArray, h.len]; exact info23
theorem Var.info' {W : World} {B : Nat} {ws : List Value} {X : Nat → List Int} (h : Var W B ws X) : (Try.prog.info? 23).map (·.size) = some ws.length := by rw [h.len]; exact info23
theorem RetR.congr {w : World} {X X' : Nat → List Int} {ok ok' : Bool} {e : Ending} {w' : World} (h : RetR w X ok e w') (ho : ok = ok') (hX : ∀ i, i < 8 → X i = X' i) : RetR w X' ok' e w' := by
  subst ho
  obtain ⟨ws, he, hl, hO, hN⟩ := h
  exact ⟨ws, he, hl, hO.congr hX, hN⟩
def RetB (w : World) (X : Nat → List Int) (n : Int) (ok : Bool) (e : Ending) (w' : World) : Prop := ∃ ws : List Value, e = .returned (.tuple #[.agg ws.toArray, .int .i64 n, .bool ok]) ∧ ws.length = 8 ∧ OwnTo w.heap.size ws X 8 w' ∧ New w w'
theorem p4' : ∀ i, i < 8 → pushR x3 3 0 i = x3 i := by decide +kernel
theorem p8' : ∀ i, i < 8 → (bestR x0).1 i = x0 i := by decide +kernel
theorem push_c {W : World} {B : Nat} {ws : List Value} {X X' : Nat → List Int} {s u : Int} {ok : Bool} (V : Var W B ws X) (hx : In64 X) (hX : ∀ u, (X u).length ≤ 1000000) (hs : -100 ≤ s ∧ s ≤ 100) (hu : -100 ≤ u ∧ u ≤ 100) (h1 : pushOk X s u = ok) (h2 : ∀ i, i < 8 → pushR X s u i = X' i) :
    Calls Try.prog 8 #[.agg ws.toArray, .int .i64 s, .int .i64 u] W (RetR W X' ok) :=
  (push_any ws V.len X s u W V.rd hx (fun u _ => hX u) (by omega) (by omega) (by omega) (by omega)).mono fun _ _ h => h.congr h1 h2
theorem turn_c {W : World} {B : Nat} {ws : List Value} {X X' : Nat → List Int} {s u : Int} {ok : Bool} (V : Var W B ws X) (hx : In64 X) (hX : ∀ u, (X u).length ≤ 1000000) (hs : -100 ≤ s ∧ s ≤ 100) (hu : -100 ≤ u ∧ u ≤ 100) (h1 : turnOk X s u = ok) (h2 : ∀ i, i < 8 → turnR X s u i = X' i) :
    Calls Try.prog 9 #[.agg ws.toArray, .int .i64 s, .int .i64 u] W (RetR W X' ok) :=
  (turn_any ws V.len X s u W V.rd hx (fun u _ => hX u) (by omega) (by omega) (by omega) (by omega)).mono fun _ _ h => h.congr h1 h2
theorem out_c {W : World} {B : Nat} {ws : List Value} {X X' : Nat → List Int} {s : Int} {ok : Bool} (V : Var W B ws X) (hx : In64 X) (hX : ∀ u, (X u).length ≤ 1000000) (h1 : (findR X s).isSome = ok) (h2 : ∀ i, i < 8 → outR X s i = X' i) :
    Calls Try.prog 10 #[.agg ws.toArray, .int .i64 s] W (RetR W X' ok) :=
  (out_any ws V.len X s W V.rd hx (fun u _ => hX u)).mono fun _ _ h => h.congr h1 h2
theorem best_c {W : World} {B : Nat} {ws : List Value} {X X' : Nat → List Int} {n : Int} {ok : Bool} (V : Var W B ws X) (hx : In64 X) (hX : ∀ u, (X u).length ≤ 1000000) (h1 : (bestR X).2 = (n, ok)) (h2 : ∀ i, i < 8 → (bestR X).1 i = X' i) :
    Calls Try.prog 11 #[.agg ws.toArray] W (RetB W X' n ok) := by
  refine (best_any ws V.len X W V.rd hx (fun u _ => hX u)).mono ?_
  rintro e w' ⟨ws', rfl, hl, hO, hN⟩
  rw [h1]
  exact ⟨ws', rfl, hl, hO.congr h2, hN⟩

theorem i_x0 : In64 x0 := xs_in (by decide)
theorem l_x0 (u : Nat) : (x0 u).length ≤ 1000000 := xs_le (by decide) u

theorem i_x1 : In64 x1 := xs_in (by decide)
theorem l_x1 (u : Nat) : (x1 u).length ≤ 1000000 := xs_le (by decide) u

theorem i_x2 : In64 x2 := xs_in (by decide)
theorem l_x2 (u : Nat) : (x2 u).length ≤ 1000000 := xs_le (by decide) u

theorem i_x3 : In64 x3 := xs_in (by decide)
theorem l_x3 (u : Nat) : (x3 u).length ≤ 1000000 := xs_le (by decide) u

theorem i_x4 : In64 x4 := xs_in (by decide)
theorem l_x4 (u : Nat) : (x4 u).length ≤ 1000000 := xs_le (by decide) u

theorem i_x5 : In64 x5 := xs_in (by decide)
theorem l_x5 (u : Nat) : (x5 u).length ≤ 1000000 := xs_le (by decide) u

theorem i_xt : In64 xt := xs_in (by decide)
theorem l_xt (u : Nat) : (xt u).length ≤ 1000000 := xs_le (by decide) u

theorem i_xo : In64 xo := xs_in (by decide)
theorem l_xo (u : Nat) : (xo u).length ≤ 1000000 := xs_le (by decide) u

theorem i_xb : In64 xb := xs_in (by decide)
theorem l_xb (u : Nat) : (xb u).length ≤ 1000000 := xs_le (by decide) u

theorem find_c {W : World} {B : Nat} {ws : List Value} {X : Nat → List Int} {s n : Int} {u : Nat} (V : Var W B ws X) (hx : In64 X) (h1 : findR X s = some u) (hn : (u : Int) = n) :
    Calls Try.prog 15 #[.agg ws.toArray, .int .i64 s] W fun e w' => e = .returned (.tuple #[.int .i64 n, .bool true]) ∧ New W w' := by
  refine (find_any ws V.len X s W V.rd hx).mono ?_
  rintro e w' ⟨rfl, hN⟩
  rw [h1, ← hn]
  exact ⟨rfl, hN⟩
/-- A slice just made. -/
theorem reads_made (W : World) (l : List Int) (h : l.length ≤ 100) : ReadsI .i64 (W.alloc (.cells (l.map (Value.int .i64)).toArray 3)) (.slice (some ⟨W.heap.size, 0, none⟩) l.length l.length) l :=
  ⟨by omega, _, _, rfl, fun i hi => ⟨_, _, rfl, by rw [World.cell?_alloc_at _ _ _ _ rfl]; simp [List.getD, hi]⟩⟩
theorem all_c {W : World} {B : Nat} {ws : List Value} {X : Nat → List Int} {L : List Int} (V : Var W B ws X) (hx : In64 X) (h1 : allF X = L) :
    Calls Try.prog 14 #[.agg ws.toArray] W fun e w' => ∃ ao cap, e = .returned (.slice ao L.length cap) ∧ ReadsI .i64 w' (.slice ao L.length cap) L ∧ New W w' := by
  refine (all_any ws V.len X W V.rd hx).mono ?_
  rintro e w' ⟨v, rfl, hown, hN⟩
  rw [h1] at hown
  obtain ⟨ao, cap, rfl⟩ := owns_slice hown
  exact ⟨ao, cap, rfl, .ofOwns hown, hN⟩
theorem ints_c {W : World} {v v' : Value} {L : List Int} (h : ReadsI .i64 W v L) (h' : ReadsI .i64 W v' L) : Calls Try.prog 19 #[v, v'] W fun e w' => e = .returned (.bool true) ∧ New W w' := by
  have := ints_any v v' L L W h h'
  rwa [show decide (L = L) = true from decide_eq_true rfl] at this
theorem many_c {W : World} {B : Nat} {ws : List Value} {X : Nat → List Int} {n : Int} (V : Var W B ws X) (hx : In64 X) (h1 : ((allF X).length : Int) = n) : Calls Try.prog 13 #[.agg ws.toArray] W fun e w' => e = .returned (.int .i64 n) ∧ New W w' := by
  have := many_any ws V.len X W V.rd hx
  rwa [h1] at this
theorem right_c {W : World} {B : Nat} {ws : List Value} {X : Nat → List Int} {b : Bool} (V : Var W B ws X) (hx : In64 X) (h1 : rightR X = b) : Calls Try.prog 20 #[.agg ws.toArray] W fun e w' => e = .returned (.bool b) ∧ New W w' := by
  have := right_any ws V.len X W V.rd hx
  rwa [h1] at this
theorem same_c {W : World} {B B' : Nat} {ws ws' : List Value} {X X' : Nat → List Int} {b : Bool} (V : Var W B ws X) (V' : Var W B' ws' X') (h1 : sameR X X' = b) : Calls Try.prog 21 #[.agg ws.toArray, .agg ws'.toArray] W fun e w' => e = .returned (.bool b) ∧ New W w' := by
  have := same_any ws ws' V.len V'.len X X' W V.rd V'.rd
  rwa [h1] at this
/-- One row put into a variable. -/
theorem Var.set {W : World} {B u : Nat} {ws : List Value} {X X' : Nat → List Int} {v : Value} {L : List Int} (V : Var W B ws X) (hu : u < 8) (hv : ReadsI .i64 W v L) (hv1 : ∀ g, v.ownBlock = some g → g ≠ B) (hb : ∀ i, i < 8 → X i ≠ [] → ∀ g, (ws.getD i undef).ownBlock = some g → g ≠ B)
    (h1 : X' u = L) (h2 : ∀ i, i < 8 → i ≠ u → X' i = X i) : Var (W.setCell ⟨B, u, none⟩ v) B (ws.set u v) X' := by
  have hM : Mods (fun b => b = B) W (W.setCell ⟨B, u, none⟩ v) := mset (Mods.refl _ _) v
  refine ⟨by rw [heap_setCell_same W B u ws.toArray 23 v V.heap]; simp, by rw [List.length_set]; exact V.len, fun i hi => ?_, fun x hx => ?_⟩
  · by_cases e : i = u
    · subst e
      rw [h1, show (ws.set i v).getD i undef = v by have := V.len; simp [List.getD, show i < ws.length by omega]]
      exact readsI_kept hv hM (fun _ g hg => hv1 g hg)
    · rw [h2 i hi e, show (ws.set u v).getD i undef = ws.getD i undef by simp [List.getD, Ne.symm e]]
      exact readsI_kept (V.rd i hi) hM (fun hx g hg => hb i hi hx g hg)
  · rcases List.mem_or_eq_of_mem_set hx with h | rfl
    · exact V.one x h
    · obtain ⟨_, ao, cap, rfl, _⟩ := hv
      rfl
set_option maxRecDepth 100000 in
set_option maxHeartbeats 8000000 in
theorem wakes_any (w : World) : Calls Try.prog 7 #[] w fun e w' => e = .returned (.bool true) ∧ New w w' := by
  have V0 : Var (w.alloc (.cells nil8.toArray 23)) w.heap.size nil8 x0 := ⟨World.alloc_heap_new w _, rfl, (fun u hu => by
    have e : x0 u = [] := all8 (P := fun u => x0 u = []) rfl rfl rfl rfl rfl rfl rfl rfl u hu
    have e2 : nil8.getD u undef = .slice none 0 0 := all8 (P := fun u => nil8.getD u undef = .slice none 0 0) rfl rfl rfl rfl rfl rfl rfl rfl u hu
    rw [e, e2]; exact ReadsI.nil _ _), (fun v hv => by simp [nil8] at hv; subst hv; rfl)⟩
  have hN : New w (w.alloc (.cells nil8.toArray 23)) := (Mods.refl _ _).alloc _
  go_enter Try.func7, Try.ntmps7
  go_wp2_with (refine op_value rfl (run_load_row 23 (.tmp 1) rfl w.heap.size rfl 23 nil8.toArray (0, 0) _ V0.heap Try.underlying23 rfl V0.info) ?_)
  obtain ⟨W0, hW0⟩ : ∃ W0, w.alloc (.cells nil8.toArray 23) = W0 := ⟨_, rfl⟩
  rw [hW0] at V0 hN
  unfold nil8 at hW0
  rw [hW0]
  clear hW0
  refine (push_c V0 i_x0 l_x0 (by decide) (by decide) p1.1 p1.2).mono ?_
  rintro e w1 ⟨ws1, rfl, hl1, hO1, hN1⟩
  have hA1 : New W0 (w1.alloc (.cells ws1.toArray 23)) := hN1.alloc _
  have Va := Var.make hl1 hO1
  have hN := hN.trans hA1
  clear V0
  go_wp2_with (first | (refine op_skip rfl (run_store_new 23 (.tmp 2) (.tmp 32) rfl 23 nil8 ws1 rfl rfl Va.info' Va.len Va.one) ?_) | (refine op_value rfl (run_load_row 23 (.tmp 2) rfl (w1.heap.size) rfl 23 ws1.toArray (0, 0) _ Va.heap Try.underlying23 rfl Va.info) ?_))
  obtain ⟨W1, hW1⟩ : ∃ W, w1.alloc (.cells ws1.toArray 23) = W := ⟨_, rfl⟩
  obtain ⟨B1, hB1⟩ : ∃ B, w1.heap.size = B := ⟨_, rfl⟩
  rw [hW1] at Va hN ⊢
  rw [hB1] at Va ⊢
  clear hW1 hB1 hl1 hO1 hN1 hA1 w1
  refine (push_c Va i_x1 l_x1 (by decide) (by decide) p2.1 p2.2).mono ?_
  rintro e w2 ⟨ws2, rfl, hl2, hO2, hN2⟩
  have hA2 : New W1 (w2.alloc (.cells ws2.toArray 23)) := hN2.alloc _
  have Vb := Var.make hl2 hO2
  have hN := hN.trans hA2
  clear Va
  go_wp2_with (first | (refine op_skip rfl (run_store_new 23 (.tmp 4) (.tmp 37) rfl 23 nil8 ws2 rfl rfl Vb.info' Vb.len Vb.one) ?_) | (refine op_value rfl (run_load_row 23 (.tmp 4) rfl (w2.heap.size) rfl 23 ws2.toArray (0, 0) _ Vb.heap Try.underlying23 rfl Vb.info) ?_))
  obtain ⟨W2, hW2⟩ : ∃ W, w2.alloc (.cells ws2.toArray 23) = W := ⟨_, rfl⟩
  obtain ⟨B2, hB2⟩ : ∃ B, w2.heap.size = B := ⟨_, rfl⟩
  rw [hW2] at Vb hN ⊢
  rw [hB2] at Vb ⊢
  clear hW2 hB2 hl2 hO2 hN2 hA2 w2
  refine (push_c Vb i_x2 l_x2 (by decide) (by decide) p3.1 p3.2).mono ?_
  rintro e w3 ⟨ws3, rfl, hl3, hO3, hN3⟩
  have hA3 : New W2 (w3.alloc (.cells ws3.toArray 23)) := hN3.alloc _
  have Vc := Var.make hl3 hO3
  have hN := hN.trans hA3
  clear Vb
  go_wp2_with (first | (refine op_skip rfl (run_store_new 23 (.tmp 6) (.tmp 42) rfl 23 nil8 ws3 rfl rfl Vc.info' Vc.len Vc.one) ?_) | (refine op_value rfl (run_load_row 23 (.tmp 6) rfl (w3.heap.size) rfl 23 ws3.toArray (0, 0) _ Vc.heap Try.underlying23 rfl Vc.info) ?_))
  obtain ⟨W3, hW3⟩ : ∃ W, w3.alloc (.cells ws3.toArray 23) = W := ⟨_, rfl⟩
  obtain ⟨B3, hB3⟩ : ∃ B, w3.heap.size = B := ⟨_, rfl⟩
  rw [hW3] at Vc hN ⊢
  rw [hB3] at Vc ⊢
  clear hW3 hB3 hl3 hO3 hN3 hA3 w3
  refine (push_c Vc i_x3 l_x3 (by decide) (by decide) p4 p4').mono ?_
  rintro e w4 ⟨ws4, rfl, hl4, hO4, hN4⟩
  have hA4 : New W3 (w4.alloc (.cells ws4.toArray 23)) := hN4.alloc _
  have Vg := Var.make hl4 hO4
  have Vc := Vc.new hA4
  have hN := hN.trans hA4
  go_wp2_with (first | (refine op_skip rfl (run_store_new 23 (.tmp 8) (.tmp 47) rfl 23 nil8 ws4 rfl rfl Vg.info' Vg.len Vg.one) ?_) | (refine op_value rfl (run_load_row 23 (.tmp 6) rfl (B3) rfl 23 ws3.toArray (0, 0) _ Vc.heap Try.underlying23 rfl Vc.info) ?_))
  obtain ⟨W4, hW4⟩ : ∃ W, w4.alloc (.cells ws4.toArray 23) = W := ⟨_, rfl⟩
  obtain ⟨B4, hB4⟩ : ∃ B, w4.heap.size = B := ⟨_, rfl⟩
  rw [hW4] at Vc Vg hN ⊢
  rw [hB4] at Vg ⊢
  clear hW4 hB4 hl4 hO4 hN4 hA4 w4
  refine (best_c Vc i_x3 l_x3 p5.1 p5.2).mono ?_
  rintro e w5 ⟨ws5, rfl, hl5, hO5, hN5⟩
  have hA5 : New W4 (w5.alloc (.cells ws5.toArray 23)) := hN5.alloc _
  have Vd := Var.make hl5 hO5
  have Vc := Vc.new hA5
  have hN := hN.trans hA5
  clear Vg
  go_wp2_with (first | (refine op_skip rfl (run_store_new 23 (.tmp 10) (.tmp 52) rfl 23 nil8 ws5 rfl rfl Vd.info' Vd.len Vd.one) ?_) | (refine op_value rfl (run_load_row 23 (.tmp 10) rfl (w5.heap.size) rfl 23 ws5.toArray (0, 0) _ Vd.heap Try.underlying23 rfl Vd.info) ?_))
  obtain ⟨W5, hW5⟩ : ∃ W, w5.alloc (.cells ws5.toArray 23) = W := ⟨_, rfl⟩
  obtain ⟨B5, hB5⟩ : ∃ B, w5.heap.size = B := ⟨_, rfl⟩
  rw [hW5] at Vc Vd hN ⊢
  rw [hB5] at Vd ⊢
  clear hW5 hB5 hl5 hO5 hN5 hA5 w5
  refine (best_c Vd i_x4 l_x4 p6.1 p6.2).mono ?_
  rintro e w6 ⟨ws6, rfl, hl6, hO6, hN6⟩
  have hA6 : New W5 (w6.alloc (.cells ws6.toArray 23)) := hN6.alloc _
  have Ve := Var.make hl6 hO6
  have Vc := Vc.new hA6
  have hN := hN.trans hA6
  clear Vd
  go_wp2_with (first | (refine op_skip rfl (run_store_new 23 (.tmp 13) (.tmp 58) rfl 23 nil8 ws6 rfl rfl Ve.info' Ve.len Ve.one) ?_) | (refine op_value rfl (run_load_row 23 (.tmp 13) rfl (w6.heap.size) rfl 23 ws6.toArray (0, 0) _ Ve.heap Try.underlying23 rfl Ve.info) ?_))
  obtain ⟨W6, hW6⟩ : ∃ W, w6.alloc (.cells ws6.toArray 23) = W := ⟨_, rfl⟩
  obtain ⟨B6, hB6⟩ : ∃ B, w6.heap.size = B := ⟨_, rfl⟩
  rw [hW6] at Vc Ve hN ⊢
  rw [hB6] at Ve ⊢
  clear hW6 hB6 hl6 hO6 hN6 hA6 w6
  refine (best_c Ve i_x5 l_x5 p7.1 p7.2).mono ?_
  rintro e w7 ⟨ws7, rfl, hl7, hO7, hN7⟩
  have hA7 : New W6 (w7.alloc (.cells ws7.toArray 23)) := hN7.alloc _
  have Vf := Var.make hl7 hO7
  have Vc := Vc.new hA7
  have hN := hN.trans hA7
  clear Ve
  go_wp2_with (first | (refine op_skip rfl (run_store_new 23 (.tmp 16) (.tmp 64) rfl 23 nil8 ws7 rfl rfl Vf.info' Vf.len Vf.one) ?_) | (refine op_value rfl (run_load_row 23 (.tmp 16) rfl (w7.heap.size) rfl 23 ws7.toArray (0, 0) _ Vf.heap Try.underlying23 rfl Vf.info) ?_))
  obtain ⟨W7, hW7⟩ : ∃ W, w7.alloc (.cells ws7.toArray 23) = W := ⟨_, rfl⟩
  obtain ⟨B7, hB7⟩ : ∃ B, w7.heap.size = B := ⟨_, rfl⟩
  rw [hW7] at Vc Vf hN ⊢
  rw [hB7] at Vf ⊢
  clear hW7 hB7 hl7 hO7 hN7 hA7 w7
  refine (best_c Vf i_x0 l_x0 p8 p8').mono ?_
  rintro e w8 ⟨ws8, rfl, hl8, hO8, hN8⟩
  have hA8 : New W7 (w8.alloc (.cells ws8.toArray 23)) := hN8.alloc _
  have Vh := Var.make hl8 hO8
  have Vc := Vc.new hA8
  have hN := hN.trans hA8
  clear Vf
  go_wp2_with (first | (refine op_skip rfl (run_store_new 23 (.tmp 19) (.tmp 70) rfl 23 nil8 ws8 rfl rfl Vh.info' Vh.len Vh.one) ?_) | (refine op_value rfl (run_load_row 23 (.tmp 6) rfl (B3) rfl 23 ws3.toArray (0, 0) _ Vc.heap Try.underlying23 rfl Vc.info) ?_))
  obtain ⟨W8, hW8⟩ : ∃ W, w8.alloc (.cells ws8.toArray 23) = W := ⟨_, rfl⟩
  obtain ⟨B8, hB8⟩ : ∃ B, w8.heap.size = B := ⟨_, rfl⟩
  rw [hW8] at Vc Vh hN ⊢
  rw [hB8] at Vh ⊢
  clear hW8 hB8 hl8 hO8 hN8 hA8 w8
  refine (turn_c Vc i_x3 l_x3 (by decide) (by decide) p9.1 p9.2).mono ?_
  rintro e w9 ⟨ws9, rfl, hl9, hO9, hN9⟩
  have hA9 : New W8 (w9.alloc (.cells ws9.toArray 23)) := hN9.alloc _
  have Vt := Var.make hl9 hO9
  have Vc := Vc.new hA9
  have hN := hN.trans hA9
  clear Vh
  go_wp2_with (first | (refine op_skip rfl (run_store_new 23 (.tmp 22) (.tmp 76) rfl 23 nil8 ws9 rfl rfl Vt.info' Vt.len Vt.one) ?_) | (refine op_value rfl (run_load_row 23 (.tmp 22) rfl (w9.heap.size) rfl 23 ws9.toArray (0, 0) _ Vt.heap Try.underlying23 rfl Vt.info) ?_))
  obtain ⟨W9, hW9⟩ : ∃ W, w9.alloc (.cells ws9.toArray 23) = W := ⟨_, rfl⟩
  obtain ⟨B9, hB9⟩ : ∃ B, w9.heap.size = B := ⟨_, rfl⟩
  rw [hW9] at Vc Vt hN ⊢
  rw [hB9] at Vt ⊢
  clear hW9 hB9 hl9 hO9 hN9 hA9 w9
  refine (out_c Vt i_xt l_xt p10.1 p10.2).mono ?_
  rintro e w10 ⟨ws10, rfl, hl10, hO10, hN10⟩
  have hA10 : New W9 (w10.alloc (.cells ws10.toArray 23)) := hN10.alloc _
  have Vo := Var.make hl10 hO10
  have Vc := Vc.new hA10
  have Vt := Vt.new hA10
  have hN := hN.trans hA10
  go_wp2_with (first | (refine op_skip rfl (run_store_new 23 (.tmp 24) (.tmp 81) rfl 23 nil8 ws10 rfl rfl Vo.info' Vo.len Vo.one) ?_) | (refine op_value rfl (run_load_row 23 (.tmp 22) rfl (B9) rfl 23 ws9.toArray (0, 0) _ Vt.heap Try.underlying23 rfl Vt.info) ?_))
  obtain ⟨W10, hW10⟩ : ∃ W, w10.alloc (.cells ws10.toArray 23) = W := ⟨_, rfl⟩
  obtain ⟨B10, hB10⟩ : ∃ B, w10.heap.size = B := ⟨_, rfl⟩
  rw [hW10] at Vc Vt Vo hN ⊢
  rw [hB10] at Vo ⊢
  clear hW10 hB10 hl10 hO10 hN10 hA10 w10
  refine (find_c Vt i_xt p11 rfl).mono ?_
  rintro e w11 ⟨rfl, hN11⟩
  have Vc := Vc.new hN11
  have Vt := Vt.new hN11
  have Vo := Vo.new hN11
  have hN := hN.trans hN11
  have hA := (Mods.refl (fun _ => False) w11).alloc (.cells ws3.toArray 23)
  have Vb : Var (w11.alloc (.cells ws3.toArray 23)) w11.heap.size ws3 x3 := ⟨World.alloc_heap_new w11 _, Vc.len, Vc.rd.new hA, Vc.one⟩
  have hbk : ∀ i, i < 8 → x3 i ≠ [] → ∀ g, (ws3.getD i undef).ownBlock = some g → g ≠ w11.heap.size := fun i hi hx g hg => by have := Vc.rd.block hi hx hg; omega
  have hbt : ∀ i, i < 8 → xt i ≠ [] → ∀ g, (ws9.getD i undef).ownBlock = some g → g ≠ w11.heap.size := fun i hi hx g hg => by have := Vt.rd.block hi hx hg; omega
  have hbo : ∀ i, i < 8 → xo i ≠ [] → ∀ g, (ws10.getD i undef).ownBlock = some g → g ≠ w11.heap.size := fun i hi hx g hg => by have := Vo.rd.block hi hx hg; omega
  have hBw : w.heap.size ≤ w11.heap.size := hN.size
  have hB3 : B3 < w11.heap.size := (Array.getElem?_eq_some_iff.1 Vc.heap).1
  have hB9 : B9 < w11.heap.size := (Array.getElem?_eq_some_iff.1 Vt.heap).1
  have hB10 : B10 < w11.heap.size := (Array.getElem?_eq_some_iff.1 Vo.heap).1
  go_upto_region 14 with (first | (refine op_value rfl (run_load_row 23 (.tmp 6) rfl B3 rfl 23 ws3.toArray (0, 0) _ Vc.heap Try.underlying23 rfl Vc.info) ?_) | (refine op_skip rfl (run_store_new 23 (.tmp 28) (.tmp 88) rfl 23 nil8 ws3 rfl rfl Vc.info' Vc.len Vc.one) ?_))
  have Vc := Vc.new hA
  have Vt := Vt.new hA
  have Vo := Vo.new hA
  have hN := hN.trans hA
  obtain ⟨W11, hW11⟩ : ∃ W, w11.alloc (.cells ws3.toArray 23) = W := ⟨_, rfl⟩
  obtain ⟨B11, hB11⟩ : ∃ B, w11.heap.size = B := ⟨_, rfl⟩
  rw [hW11] at Vc Vt Vo Vb hN ⊢
  rw [hB11] at Vb hbk hbt hbo hBw hB3 hB9 hB10 ⊢
  clear hW11 hB11 hA hN11
  have hA := (Mods.refl (fun _ => False) W11).alloc (.cells #[.int .i64 3] 3)
  have Vb0 := Vb
  have Vb1 := Vb.new hA
  have hM : Mods (fun b => b = B11) (W11.alloc (.cells #[.int .i64 3] 3)) ((W11.alloc (.cells #[.int .i64 3] 3)).setCell ⟨B11, 0, none⟩ (.slice (some ⟨W11.heap.size, 0, none⟩) 1 1)) := mset (Mods.refl _ _) _
  have hN := ((Mods.ofNew (S := fun b => b = B11) (hN.trans hA)).trans hM).new (fun b hb => by omega)
  have Vc := (Vc.new hA).kept hM (by omega) hbk
  have Vt := (Vt.new hA).kept hM (by omega) hbt
  have Vo := (Vo.new hA).kept hM (by omega) hbo
  have hc0 : (W11.alloc (.cells #[.int .i64 3] 3)).cell? ⟨B11, 0, none⟩ = some (ws3.getD 0 undef) := Arr8.mk Vb1.len Vb1.heap 0 (by omega)
  have hf0 : (W11.alloc (.cells #[.int .i64 3] 3)).frozen? ⟨B11, 0, none⟩ = false := by simp [World.frozen?, Vb1.heap]
  have Vb := Vb1.set (u := 0) (X' := xb) (v := .slice (some ⟨W11.heap.size, 0, none⟩) 1 1) (L := [3]) (by omega) (reads_made W11 [3] (by decide)) (fun g hg => by have h1 := (Array.getElem?_eq_some_iff.1 Vb0.heap).1; simp only [Value.ownBlock, Option.some.injEq] at hg; omega) hbk rfl (fun i hi hne => all8 (P := fun i => i ≠ 0 → xb i = x3 i) (fun h => absurd rfl h) (fun _ => rfl) (fun _ => rfl) (fun _ => rfl) (fun _ => rfl) (fun _ => rfl) (fun _ => rfl) (fun _ => rfl) i hi hne)
  clear Vb0 Vb1 hM hA hbk hbt hbo
  go_wp2_with (refine op_value_g rfl (run_load_row 23 (.tmp 22) rfl B9 rfl 23 ws9.toArray (0, 0) _ Vt.heap Try.underlying23 rfl Vt.info) ?_)
  obtain ⟨W12, hW12⟩ : ∃ W, ((W11.alloc (.cells #[.int .i64 3] 3)).setCell ⟨B11, 0, none⟩ (.slice (some ⟨W11.heap.size, 0, none⟩) 1 1)) = W := ⟨_, rfl⟩
  rw [hW12] at Vc Vt Vo Vb hN ⊢
  clear hc0 hf0 hW12
  refine (all_c Vt i_xt p12.1).mono ?_
  rintro e w13 ⟨ao13, cap13, rfl, hrd13, hN13⟩
  have Vc := Vc.new hN13
  have Vt := Vt.new hN13
  have Vo := Vo.new hN13
  have Vb := Vb.new hN13
  have hN := hN.trans hN13
  have hA13 := (Mods.refl (fun _ => False) w13).alloc (.cells #[.int .i64 4, .int .i64 1, .int .i64 3] 3)
  have hI13 : Calls Try.prog 19 #[.slice ao13 3 cap13, .slice (some ⟨w13.heap.size, 0, none⟩) 3 3] (w13.alloc (.cells #[.int .i64 4, .int .i64 1, .int .i64 3] 3)) _ := ints_c (L := [4, 1, 3]) (hrd13.new hA13) (reads_made w13 [4, 1, 3] (by decide))
  have HI13 := Lib.hid hI13
  clear hI13 hrd13
  have Vc := Vc.new hA13
  have Vt := Vt.new hA13
  have Vo := Vo.new hA13
  have Vb := Vb.new hA13
  have hN := hN.trans hA13
  go_wp2_with fail
  refine HI13.out.mono ?_
  rintro e v13 ⟨rfl, hQ13⟩
  have Vc := Vc.new hQ13
  have Vt := Vt.new hQ13
  have Vo := Vo.new hQ13
  have Vb := Vb.new hQ13
  have hN := hN.trans hQ13
  clear HI13 hN13 hA13 hQ13
  go_wp2_with (refine op_value_g rfl (run_load_row 23 (.tmp 24) rfl B10 rfl 23 ws10.toArray (0, 0) _ Vo.heap Try.underlying23 rfl Vo.info) ?_)
  refine (all_c Vo i_xo p12.2.1).mono ?_
  rintro e w14 ⟨ao14, cap14, rfl, hrd14, hN14⟩
  have Vc := Vc.new hN14
  have Vt := Vt.new hN14
  have Vo := Vo.new hN14
  have Vb := Vb.new hN14
  have hN := hN.trans hN14
  have hA14 := (Mods.refl (fun _ => False) w14).alloc (.cells #[.int .i64 4, .int .i64 1] 3)
  have hI14 : Calls Try.prog 19 #[.slice ao14 2 cap14, .slice (some ⟨w14.heap.size, 0, none⟩) 2 2] (w14.alloc (.cells #[.int .i64 4, .int .i64 1] 3)) _ := ints_c (L := [4, 1]) (hrd14.new hA14) (reads_made w14 [4, 1] (by decide))
  have HI14 := Lib.hid hI14
  clear hI14 hrd14
  have Vc := Vc.new hA14
  have Vt := Vt.new hA14
  have Vo := Vo.new hA14
  have Vb := Vb.new hA14
  have hN := hN.trans hA14
  go_wp2_with fail
  refine HI14.out.mono ?_
  rintro e v14 ⟨rfl, hQ14⟩
  have Vc := Vc.new hQ14
  have Vt := Vt.new hQ14
  have Vo := Vo.new hQ14
  have Vb := Vb.new hQ14
  have hN := hN.trans hQ14
  clear HI14 hN14 hA14 hQ14
  go_wp2_with (refine op_value_g rfl (run_load_row 23 (.tmp 6) rfl B3 rfl 23 ws3.toArray (0, 0) _ Vc.heap Try.underlying23 rfl Vc.info) ?_)
  refine (many_c Vc i_x3 (n := 3) (by rw [p12.2.2.1]; rfl)).mono ?_
  rintro e w15 ⟨rfl, hN15⟩
  have Vc := Vc.new hN15
  have Vt := Vt.new hN15
  have Vo := Vo.new hN15
  have Vb := Vb.new hN15
  have hN := hN.trans hN15
  clear hN15
  go_wp2_with (refine op_value_g rfl (run_load_row 23 (.tmp 6) rfl B3 rfl 23 ws3.toArray (0, 0) _ Vc.heap Try.underlying23 rfl Vc.info) ?_)
  refine (right_c Vc i_x3 p12.2.2.2.1).mono ?_
  rintro e w16 ⟨rfl, hN16⟩
  have Vc := Vc.new hN16
  have Vt := Vt.new hN16
  have Vo := Vo.new hN16
  have Vb := Vb.new hN16
  have hN := hN.trans hN16
  clear hN16
  go_wp2_with (refine op_value_g rfl (run_load_row 23 (.tmp 28) rfl B11 rfl 23 (ws3.set 0 (.slice (some ⟨W11.heap.size, 0, none⟩) 1 1)).toArray (0, 0) _ Vb.heap Try.underlying23 rfl Vb.info) ?_)
  refine (right_c Vb i_xb p12.2.2.2.2.1).mono ?_
  rintro e w17 ⟨rfl, hN17⟩
  have Vc := Vc.new hN17
  have Vt := Vt.new hN17
  have Vo := Vo.new hN17
  have Vb := Vb.new hN17
  have hN := hN.trans hN17
  clear hN17
  go_wp2_with (refine op_value_g rfl (run_load_row 23 (.tmp 6) rfl B3 rfl 23 ws3.toArray (0, 0) _ Vc.heap Try.underlying23 rfl Vc.info) ?_)
  refine (same_c Vc Vc p12.2.2.2.2.2.1).mono ?_
  rintro e w18 ⟨rfl, hN18⟩
  have Vc := Vc.new hN18
  have Vt := Vt.new hN18
  have Vo := Vo.new hN18
  have Vb := Vb.new hN18
  have hN := hN.trans hN18
  clear hN18
  go_wp2_with (first | (refine op_value_g rfl (run_load_row 23 (.tmp 6) rfl B3 rfl 23 ws3.toArray (0, 0) _ Vc.heap Try.underlying23 rfl Vc.info) ?_) | (refine op_value_g rfl (run_load_row 23 (.tmp 22) rfl B9 rfl 23 ws9.toArray (0, 0) _ Vt.heap Try.underlying23 rfl Vt.info) ?_))
  refine (same_c Vc Vt p12.2.2.2.2.2.2).mono ?_
  rintro e w19 ⟨rfl, hN19⟩
  have Vc := Vc.new hN19
  have Vt := Vt.new hN19
  have Vo := Vo.new hN19
  have Vb := Vb.new hN19
  have hN := hN.trans hN19
  clear hN19
  obtain ⟨_, ao, cap, hv, _⟩ := Vc.rd 5 (by omega)
  have hc5 := Arr8.mk Vc.len Vc.heap 5 (by omega)
  rw [hv, show (x3 5).length = 2 from rfl] at hc5
  clear hv
  go_wp2_with fail
  go_ret
  exact ⟨rfl, hN⟩
end Go.Proofs.Ytcelhdlppimfbaa
