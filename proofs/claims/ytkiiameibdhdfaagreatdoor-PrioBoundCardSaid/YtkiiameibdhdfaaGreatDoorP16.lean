/- Texts joined. -/
import Derived.Test.YtkiiameibdhdfaaGreatDoorP15
set_option linter.unusedSimpArgs false
set_option linter.unusedVariables false
/- What the document says is known: small functions, regions. -/
namespace Go.Proofs.YtkiiameibdhdfaaGreatDoor
open Go.RowKit Go.Shelf Go.Cs
attribute [local go_sem] Oper.semAt_some
set_option linter.unusedVariables false
set_option linter.unusedSimpArgs false
theorem great24 (l : Int) (v : Value) (d : List WP) (w : World) (h : RdW w v d) :
    Calls Tryz.prog 21 #[.agg #[.int .i64 l, v]] w fun e w' => e = .returned (.bool (decide ((20 : Int) < (d.length : Int)))) ∧ New w w' := by
  obtain ⟨ao, cap, rfl⟩ := h.slice
  obtain ⟨n, hn⟩ : ∃ n, d.length = n := ⟨_, rfl⟩
  rw [hn]
  clear h hn
  have hA : New w (w.alloc (.cells #[.int .i64 l, .slice ao n cap] 26)) := (Mods.refl _ _).alloc _
  go_enter Tryz.func21, Tryz.ntmps21
  go_wp2
  go_ret
  exact ⟨rfl, hA⟩
theorem reach24 (l : Int) (v : Value) (w : World) (h0 : 0 ≤ l) (h1 : l < 2147483648) :
    Calls Tryz.prog 54 #[.agg #[.int .i64 l, v]] w fun e w' => e = .returned (.int .i64 (l + 16)) ∧ New w w' := by
  have hA : New w (w.alloc (.cells #[.int .i64 l, v] 26)) := (Mods.refl _ _).alloc _
  go_enter Tryz.func54, Tryz.ntmps54
  go_wp2
  go_ret
  exact ⟨rfl, hA⟩
theorem right_pr14 (u : Nat) (i : Bool) (hu : u < 256) (w : World) : Calls Tryz.prog 53 #[prV u i] w fun e w' => e = .returned (.bool (decide (u ≤ 7))) ∧ New w w' := by
  have hA : New w (w.alloc (.cells #[.int .u8 u, .bool i] 31)) := (Mods.refl _ _).alloc _
  unfold prV
  by_cases h : u ≤ 7
  · rw [decide_eq_true h]
    go_enter Tryz.func53, Tryz.ntmps53
    have h' : decide ((u : Int) ≤ 7) = true := decide_eq_true (by omega)
    go_wp2
    go_ret
    first | exact ⟨congrArg (fun b => Ending.returned (.bool b)) h', hA⟩ | exact ⟨rfl, hA⟩
  · rw [decide_eq_false h]
    have h' : decide ((u : Int) ≤ 7) = false := decide_eq_false (by omega)
    go_enter Tryz.func53, Tryz.ntmps53
    go_wp2
    go_ret
    first | exact ⟨congrArg (fun b => Ending.returned (.bool b)) h', hA⟩ | exact ⟨rfl, hA⟩
theorem lit38 (t : Array Value) (h : t.size = 38) : ∃ u : Nat → Value, t = (u 0 :: u 1 :: u 2 :: u 3 :: u 4 :: u 5 :: u 6 :: u 7 :: u 8 :: u 9 :: u 10 :: u 11 :: u 12 :: u 13 :: u 14 :: u 15 :: u 16 :: u 17 :: u 18 :: u 19 :: u 20 :: u 21 :: u 22 :: u 23 :: u 24 :: u 25 :: u 26 :: u 27 :: u 28 :: u 29 :: u 30 :: u 31 :: u 32 :: u 33 :: u 34 :: u 35 :: u 36 :: u 37 :: ([] : List Value)).toArray := ⟨fun i => t.getD i undef, range_lit t 38 h⟩
noncomputable def reg_causeyref24_Same_6 : Code := ((Tryz.f17.body.bind (regionOf 6)).getD .skip)
set_option maxHeartbeats 4000000 in
set_option maxRecDepth 100000 in
theorem same24r (t : Array Value) (hs : t.size = 38) (w : World) {B1 B2 b1 o1 b2 o2 k n m1 m2 : Nat} {y : Bool} {a0 a1 a2 d0 d1 d2 : Value}
    (hq2 : t.getD 2 undef = .pointer (some ⟨B1, 0, none⟩))
    (hq3 : t.getD 3 undef = .pointer (some ⟨B2, 0, none⟩))
    (hq5 : t.getD 5 undef = .int .i64 k)
    (p1 : w.cell? ⟨B1, 1, none⟩ = some (.slice (some ⟨b1, o1, none⟩) n m1)) (p2 : w.cell? ⟨B2, 1, none⟩ = some (.slice (some ⟨b2, o2, none⟩) n m2)) (c0 : w.cell? ⟨b1, o1 + k * 3, none⟩ = some a0) (e0 : w.cell? ⟨b2, o2 + k * 3, none⟩ = some d0) (c1 : w.cell? ⟨b1, o1 + k * 3 + 1, none⟩ = some a1) (e1 : w.cell? ⟨b2, o2 + k * 3 + 1, none⟩ = some d1) (c2 : w.cell? ⟨b1, o1 + k * 3 + 2, none⟩ = some a2) (e2 : w.cell? ⟨b2, o2 + k * 3 + 2, none⟩ = some d2)
    (hk : k < n) (hq : ∀ w, (binOp .neq 40 (.agg #[a0, a1, a2]) (.agg #[d0, d1, d2])).run Tryz.prog w = .ok (.bool y) w) :
    reg_causeyref24_Same_6.wp Tryz.prog (Only fun a' W' => ∃ z : Nat → Value, a' = ⟨(((((((((((t).setIfInBounds 27 (z 27)).setIfInBounds 28 (z 28)).setIfInBounds 29 (z 29)).setIfInBounds 30 (z 30)).setIfInBounds 31 (z 31)).setIfInBounds 32 (z 32)).setIfInBounds 33 (z 33)).setIfInBounds 34 (z 34)).setIfInBounds 35 (z 35)).setIfInBounds 36 (z 36)).setIfInBounds 37 (.bool y), []⟩ ∧ New w W') ⟨t, []⟩ w := by
  conv => arg 2; whnf
  obtain ⟨u, rfl⟩ := lit38 t hs
  have hq2 : u 2 = .pointer (some ⟨B1, 0, none⟩) := hq2
  have hq3 : u 3 = .pointer (some ⟨B2, 0, none⟩) := hq3
  have hq5 : u 5 = .int .i64 k := hq5
  rw [hq2, hq3, hq5]
  clear hq2 hq3 hq5 hs
  have hid : decide ((k : Int) < (n : Int)) = true := decide_eq_true (by omega)
  refine wp_region_held (S := fun W => New w W) (by kernel_rfl) ?_
  show wpAnyH _ _ _ _ _ 11 _ _ w.drew
  have hN : New w w.drew := (Mods.refl _ _).drew
  have hS : New w w.drew := (Mods.refl _ _).drew
  refine anyH_take 0 (some 27) (.pointer (some ⟨B1, 1, none⟩)) rfl rfl (by kernel_rfl) (by kernel_rfl) (by kernel_rfl) (fun _ _ _ h => h.elim) (.inl ⟨by rfl, fun W hW => by go_simp⟩) hS ?_
  simp only [Act.put, List.setIfInBounds_toArray, List.set_cons_succ, List.set_cons_zero]
  refine anyH_take 1 (some 28) (.slice (some ⟨b1, o1, none⟩) n m1) rfl rfl (by kernel_rfl) (by kernel_rfl) (by kernel_rfl) (fun _ _ _ h => h.elim) (.inl ⟨by rfl, fun W hW => by have hh : New w W := hW; have q := hh.cell p1 id; go_simp⟩) hS ?_
  simp only [Act.put, List.setIfInBounds_toArray, List.set_cons_succ, List.set_cons_zero]
  refine anyH_take 2 (some 29) (.int .i64 k) rfl rfl (by kernel_rfl) (by kernel_rfl) (by kernel_rfl) (fun _ _ _ h => h.elim) (.inl ⟨by rfl, fun W hW => by go_simp⟩) hS ?_
  simp only [Act.put, List.setIfInBounds_toArray, List.set_cons_succ, List.set_cons_zero]
  refine anyH_take 3 (some 30) (.pointer (some ⟨b1, o1 + k * 3, none⟩)) rfl rfl (by kernel_rfl) (by kernel_rfl) (by kernel_rfl) (fun _ _ _ h => h.elim) (.inl ⟨by rfl, fun W hW => by go_simp⟩) hS ?_
  simp only [Act.put, List.setIfInBounds_toArray, List.set_cons_succ, List.set_cons_zero]
  refine anyH_take 4 (some 31) (.agg #[a0, a1, a2]) rfl rfl (by kernel_rfl) (by kernel_rfl) (by kernel_rfl) (fun _ _ _ h => h.elim) (.inl ⟨by rfl, fun W hW => by have hh : New w W := hW; have q0 := hh.cell c0 id; have q1 := hh.cell c1 id; have q2 := hh.cell c2 id; go_simp⟩) hS ?_
  simp only [Act.put, List.setIfInBounds_toArray, List.set_cons_succ, List.set_cons_zero]
  refine anyH_take 5 (some 32) (.pointer (some ⟨B2, 1, none⟩)) rfl rfl (by kernel_rfl) (by kernel_rfl) (by kernel_rfl) (fun _ _ _ h => h.elim) (.inl ⟨by rfl, fun W hW => by go_simp⟩) hS ?_
  simp only [Act.put, List.setIfInBounds_toArray, List.set_cons_succ, List.set_cons_zero]
  refine anyH_take 6 (some 33) (.slice (some ⟨b2, o2, none⟩) n m2) rfl rfl (by kernel_rfl) (by kernel_rfl) (by kernel_rfl) (fun _ _ _ h => h.elim) (.inl ⟨by rfl, fun W hW => by have hh : New w W := hW; have q := hh.cell p2 id; go_simp⟩) hS ?_
  simp only [Act.put, List.setIfInBounds_toArray, List.set_cons_succ, List.set_cons_zero]
  refine anyH_take 7 (some 34) (.int .i64 k) rfl rfl (by kernel_rfl) (by kernel_rfl) (by kernel_rfl) (fun _ _ _ h => h.elim) (.inl ⟨by rfl, fun W hW => by go_simp⟩) hS ?_
  simp only [Act.put, List.setIfInBounds_toArray, List.set_cons_succ, List.set_cons_zero]
  refine anyH_take 8 (some 35) (.pointer (some ⟨b2, o2 + k * 3, none⟩)) rfl rfl (by kernel_rfl) (by kernel_rfl) (by kernel_rfl) (fun _ _ _ h => h.elim) (.inl ⟨by rfl, fun W hW => by go_simp⟩) hS ?_
  simp only [Act.put, List.setIfInBounds_toArray, List.set_cons_succ, List.set_cons_zero]
  refine anyH_take 9 (some 36) (.agg #[d0, d1, d2]) rfl rfl (by kernel_rfl) (by kernel_rfl) (by kernel_rfl) (fun _ _ _ h => h.elim) (.inl ⟨by rfl, fun W hW => by have hh : New w W := hW; have q0 := hh.cell e0 id; have q1 := hh.cell e1 id; have q2 := hh.cell e2 id; go_simp⟩) hS ?_
  simp only [Act.put, List.setIfInBounds_toArray, List.set_cons_succ, List.set_cons_zero]
  refine anyH_take 10 (some 37) (.bool y) rfl rfl (by kernel_rfl) (by kernel_rfl) (by kernel_rfl) (fun _ _ _ h => h.elim) (.inl ⟨by rfl, fun W hW => by have hz := hq W; go_simp⟩) hS ?_
  simp only [Act.put, List.setIfInBounds_toArray, List.set_cons_succ, List.set_cons_zero]
  refine wpAnyH_done (by kernel_rfl) ?_ _
  exact ⟨(fun zz => ([.pointer (some ⟨B1, 1, none⟩), .slice (some ⟨b1, o1, none⟩) n m1, .int .i64 k, .pointer (some ⟨b1, o1 + k * 3, none⟩), .agg #[a0, a1, a2], .pointer (some ⟨B2, 1, none⟩), .slice (some ⟨b2, o2, none⟩) n m2, .int .i64 k, .pointer (some ⟨b2, o2 + k * 3, none⟩), .agg #[d0, d1, d2]] : List Value).getD (cond (Nat.beq zz 27) 0 (cond (Nat.beq zz 28) 1 (cond (Nat.beq zz 29) 2 (cond (Nat.beq zz 30) 3 (cond (Nat.beq zz 31) 4 (cond (Nat.beq zz 32) 5 (cond (Nat.beq zz 33) 6 (cond (Nat.beq zz 34) 7 (cond (Nat.beq zz 35) 8 (cond (Nat.beq zz 36) 9 (0))))))))))) undef), rfl, hN⟩
theorem lit86 (t : Array Value) (h : t.size = 86) : ∃ u : Nat → Value, t = (u 0 :: u 1 :: u 2 :: u 3 :: u 4 :: u 5 :: u 6 :: u 7 :: u 8 :: u 9 :: u 10 :: u 11 :: u 12 :: u 13 :: u 14 :: u 15 :: u 16 :: u 17 :: u 18 :: u 19 :: u 20 :: u 21 :: u 22 :: u 23 :: u 24 :: u 25 :: u 26 :: u 27 :: u 28 :: u 29 :: u 30 :: u 31 :: u 32 :: u 33 :: u 34 :: u 35 :: u 36 :: u 37 :: u 38 :: u 39 :: u 40 :: u 41 :: u 42 :: u 43 :: u 44 :: u 45 :: u 46 :: u 47 :: u 48 :: u 49 :: u 50 :: u 51 :: u 52 :: u 53 :: u 54 :: u 55 :: u 56 :: u 57 :: u 58 :: u 59 :: u 60 :: u 61 :: u 62 :: u 63 :: u 64 :: u 65 :: u 66 :: u 67 :: u 68 :: u 69 :: u 70 :: u 71 :: u 72 :: u 73 :: u 74 :: u 75 :: u 76 :: u 77 :: u 78 :: u 79 :: u 80 :: u 81 :: u 82 :: u 83 :: u 84 :: u 85 :: ([] : List Value)).toArray := ⟨fun i => t.getD i undef, range_lit t 86 h⟩
noncomputable def reg_causeyref24_Right_7 : Code := ((Tryz.f20.body.bind (regionOf 7)).getD .skip)
set_option maxHeartbeats 4000000 in
set_option maxRecDepth 100000 in
theorem right7_0 (t : Array Value) (hs : t.size = 86) (w : World) {B X n cap q : Nat} {l s : Int} {i : Bool} {ao : Option Addr}
    (hq1 : t.getD 1 undef = .pointer (some ⟨B, 0, none⟩))
    (hq4 : t.getD 4 undef = .pointer (some ⟨X, 0, none⟩))
    (p0 : w.cell? ⟨B, 0, none⟩ = some (.int .i64 l)) (p1 : w.cell? ⟨B, 1, none⟩ = some (.slice ao n cap)) (q0 : w.cell? ⟨X, 0, none⟩ = some (.int .i64 s)) (q1 : w.cell? ⟨X, 1, none⟩ = some (.int .u8 q)) (q2 : w.cell? ⟨X, 2, none⟩ = some (.bool i)) (h256 : q < 256) (hl0 : 0 ≤ l) (hl1 : l < 2147483648)
    (hu : ¬ q ≤ 7)  :
    reg_causeyref24_Right_7.wp Tryz.prog (Only fun a' W' => ∃ z : Nat → Value, a' = ⟨(((((((((((((((((((((((((((((t).setIfInBounds 43 (z 43)).setIfInBounds 44 (z 44)).setIfInBounds 45 (z 45)).setIfInBounds 46 (z 46)).setIfInBounds 47 (z 47)).setIfInBounds 48 (z 48)).setIfInBounds 49 (z 49)).setIfInBounds 50 (z 50)).setIfInBounds 51 (z 51)).setIfInBounds 52 (z 52)).setIfInBounds 53 (z 53)).setIfInBounds 54 (z 54)).setIfInBounds 55 (z 55)).setIfInBounds 56 (z 56)).setIfInBounds 57 (z 57)).setIfInBounds 58 (z 58)).setIfInBounds 59 (z 59)).setIfInBounds 60 (z 60)).setIfInBounds 61 (z 61)).setIfInBounds 62 (z 62)).setIfInBounds 63 (z 63)).setIfInBounds 64 (z 64)).setIfInBounds 65 (z 65)).setIfInBounds 66 (z 66)).setIfInBounds 67 (z 67)).setIfInBounds 68 (z 68)).setIfInBounds 69 (z 69)).setIfInBounds 70 (z 70)).setIfInBounds 71 (.bool true), []⟩ ∧ New w W') ⟨t, []⟩ w := by
  conv => arg 2; whnf
  obtain ⟨u, rfl⟩ := lit86 t hs
  have hq1 : u 1 = .pointer (some ⟨B, 0, none⟩) := hq1
  have hq4 : u 4 = .pointer (some ⟨X, 0, none⟩) := hq4
  rw [hq1, hq4]
  clear hq1 hq4 hs
  refine wp_region_held (S := fun W => New w W) (by kernel_rfl) ?_
  show wpAnyH _ _ _ _ _ 29 _ _ w.drew
  have hN : New w w.drew := (Mods.refl _ _).drew
  have hS : New w w.drew := (Mods.refl _ _).drew
  refine anyH_take 0 (some 43) (.pointer (some ⟨X, 1, none⟩)) rfl rfl (by kernel_rfl) (by kernel_rfl) (by kernel_rfl) (fun _ _ _ h => h.elim) (.inl ⟨by rfl, fun W hW => by go_simp⟩) hS ?_
  simp only [Act.put, List.setIfInBounds_toArray, List.set_cons_succ, List.set_cons_zero]
  refine anyH_take 1 (some 44) (.agg #[.int .u8 q, .bool i]) rfl rfl (by kernel_rfl) (by kernel_rfl) (by kernel_rfl) (fun _ _ _ h => h.elim) (.inl ⟨by rfl, fun W hW => by have hh : New w W := hW; have q0 := hh.cell q1 id; have q1 := hh.cell q2 id; go_simp⟩) hS ?_
  simp only [Act.put, List.setIfInBounds_toArray, List.set_cons_succ, List.set_cons_zero]
  refine wpAnyH_all (rs := [2]) (by kernel_rfl) (by simp) ?_
  simp only [List.mem_cons, List.not_mem_nil, or_false, forall_eq]
  refine opH_call (some 45) rfl (by rfl) rfl 53 #[.agg #[.int .u8 q, .bool i]] (by go_simp) (((right_pr14 q i h256 _).mono (R' := fun e w' => e = .returned (.bool false) ∧ New _ w') (by rintro e w' ⟨rfl, h⟩; exact ⟨by rw [decide_eq_false hu], h⟩)).mono ?_)
  rintro e w2 ⟨rfl, hk⟩
  have hS := hS.trans hk
  have hN := hN.trans hk
  clear hk
  refine ⟨_, rfl, hS, ?_⟩
  simp only [Act.put, List.setIfInBounds_toArray, List.set_cons_succ, List.set_cons_zero]
  refine anyH_take 3 (some 46) (.bool true) rfl rfl (by kernel_rfl) (by kernel_rfl) (by kernel_rfl) (fun _ _ _ h => h.elim) (.inl ⟨by rfl, fun W hW => by go_simp⟩) hS ?_
  simp only [Act.put, List.setIfInBounds_toArray, List.set_cons_succ, List.set_cons_zero]
  refine anyH_take 4 (some 47) (.bool true) rfl rfl (by kernel_rfl) (by kernel_rfl) (by kernel_rfl) (fun _ _ _ h => h.elim) (.inl ⟨by rfl, fun W hW => by go_simp⟩) hS ?_
  simp only [Act.put, List.setIfInBounds_toArray, List.set_cons_succ, List.set_cons_zero]
  refine anyH_take 5 (some 48) undef rfl rfl (by kernel_rfl) (by kernel_rfl) (by kernel_rfl) (fun _ _ _ h => h.elim) (.inr ⟨by rfl, rfl⟩) hS ?_
  simp only [Act.put, List.setIfInBounds_toArray, List.set_cons_succ, List.set_cons_zero]
  refine anyH_take 6 (some 49) undef rfl rfl (by kernel_rfl) (by kernel_rfl) (by kernel_rfl) (fun _ _ _ h => h.elim) (.inr ⟨by rfl, rfl⟩) hS ?_
  simp only [Act.put, List.setIfInBounds_toArray, List.set_cons_succ, List.set_cons_zero]
  refine anyH_take 7 (some 50) undef rfl rfl (by kernel_rfl) (by kernel_rfl) (by kernel_rfl) (fun _ _ _ h => h.elim) (.inr ⟨by rfl, rfl⟩) hS ?_
  simp only [Act.put, List.setIfInBounds_toArray, List.set_cons_succ, List.set_cons_zero]
  refine anyH_take 8 (some 51) undef rfl rfl (by kernel_rfl) (by kernel_rfl) (by kernel_rfl) (fun _ _ _ h => h.elim) (.inr ⟨by rfl, rfl⟩) hS ?_
  simp only [Act.put, List.setIfInBounds_toArray, List.set_cons_succ, List.set_cons_zero]
  refine anyH_take 9 (some 52) (.bool true) rfl rfl (by kernel_rfl) (by kernel_rfl) (by kernel_rfl) (fun _ _ _ h => h.elim) (.inl ⟨by rfl, fun W hW => by go_simp⟩) hS ?_
  simp only [Act.put, List.setIfInBounds_toArray, List.set_cons_succ, List.set_cons_zero]
  refine anyH_take 10 (some 53) (.bool true) rfl rfl (by kernel_rfl) (by kernel_rfl) (by kernel_rfl) (fun _ _ _ h => h.elim) (.inl ⟨by rfl, fun W hW => by go_simp⟩) hS ?_
  simp only [Act.put, List.setIfInBounds_toArray, List.set_cons_succ, List.set_cons_zero]
  refine anyH_take 11 (some 54) undef rfl rfl (by kernel_rfl) (by kernel_rfl) (by kernel_rfl) (fun _ _ _ h => h.elim) (.inr ⟨by rfl, rfl⟩) hS ?_
  simp only [Act.put, List.setIfInBounds_toArray, List.set_cons_succ, List.set_cons_zero]
  refine anyH_take 12 (some 55) undef rfl rfl (by kernel_rfl) (by kernel_rfl) (by kernel_rfl) (fun _ _ _ h => h.elim) (.inr ⟨by rfl, rfl⟩) hS ?_
  simp only [Act.put, List.setIfInBounds_toArray, List.set_cons_succ, List.set_cons_zero]
  refine anyH_take 13 (some 56) undef rfl rfl (by kernel_rfl) (by kernel_rfl) (by kernel_rfl) (fun _ _ _ h => h.elim) (.inr ⟨by rfl, rfl⟩) hS ?_
  simp only [Act.put, List.setIfInBounds_toArray, List.set_cons_succ, List.set_cons_zero]
  refine anyH_take 14 (some 57) undef rfl rfl (by kernel_rfl) (by kernel_rfl) (by kernel_rfl) (fun _ _ _ h => h.elim) (.inr ⟨by rfl, rfl⟩) hS ?_
  simp only [Act.put, List.setIfInBounds_toArray, List.set_cons_succ, List.set_cons_zero]
  refine anyH_take 15 (some 58) undef rfl rfl (by kernel_rfl) (by kernel_rfl) (by kernel_rfl) (fun _ _ _ h => h.elim) (.inr ⟨by rfl, rfl⟩) hS ?_
  simp only [Act.put, List.setIfInBounds_toArray, List.set_cons_succ, List.set_cons_zero]
  refine anyH_take 16 (some 59) (.bool true) rfl rfl (by kernel_rfl) (by kernel_rfl) (by kernel_rfl) (fun _ _ _ h => h.elim) (.inl ⟨by rfl, fun W hW => by go_simp⟩) hS ?_
  simp only [Act.put, List.setIfInBounds_toArray, List.set_cons_succ, List.set_cons_zero]
  refine anyH_take 17 (some 60) (.bool true) rfl rfl (by kernel_rfl) (by kernel_rfl) (by kernel_rfl) (fun _ _ _ h => h.elim) (.inl ⟨by rfl, fun W hW => by go_simp⟩) hS ?_
  simp only [Act.put, List.setIfInBounds_toArray, List.set_cons_succ, List.set_cons_zero]
  refine anyH_take 18 (some 61) undef rfl rfl (by kernel_rfl) (by kernel_rfl) (by kernel_rfl) (fun _ _ _ h => h.elim) (.inr ⟨by rfl, rfl⟩) hS ?_
  simp only [Act.put, List.setIfInBounds_toArray, List.set_cons_succ, List.set_cons_zero]
  refine anyH_take 19 (some 62) undef rfl rfl (by kernel_rfl) (by kernel_rfl) (by kernel_rfl) (fun _ _ _ h => h.elim) (.inr ⟨by rfl, rfl⟩) hS ?_
  simp only [Act.put, List.setIfInBounds_toArray, List.set_cons_succ, List.set_cons_zero]
  refine anyH_take 20 (some 63) undef rfl rfl (by kernel_rfl) (by kernel_rfl) (by kernel_rfl) (fun _ _ _ h => h.elim) (.inr ⟨by rfl, rfl⟩) hS ?_
  simp only [Act.put, List.setIfInBounds_toArray, List.set_cons_succ, List.set_cons_zero]
  refine anyH_take 21 (some 64) undef rfl rfl (by kernel_rfl) (by kernel_rfl) (by kernel_rfl) (fun _ _ _ h => h.elim) (.inr ⟨by rfl, rfl⟩) hS ?_
  simp only [Act.put, List.setIfInBounds_toArray, List.set_cons_succ, List.set_cons_zero]
  refine anyH_take 22 (some 65) undef rfl rfl (by kernel_rfl) (by kernel_rfl) (by kernel_rfl) (fun _ _ _ h => h.elim) (.inr ⟨by rfl, rfl⟩) hS ?_
  simp only [Act.put, List.setIfInBounds_toArray, List.set_cons_succ, List.set_cons_zero]
  refine anyH_take 23 (some 66) (.bool true) rfl rfl (by kernel_rfl) (by kernel_rfl) (by kernel_rfl) (fun _ _ _ h => h.elim) (.inl ⟨by rfl, fun W hW => by go_simp⟩) hS ?_
  simp only [Act.put, List.setIfInBounds_toArray, List.set_cons_succ, List.set_cons_zero]
  refine anyH_take 24 (some 67) (.bool true) rfl rfl (by kernel_rfl) (by kernel_rfl) (by kernel_rfl) (fun _ _ _ h => h.elim) (.inl ⟨by rfl, fun W hW => by go_simp⟩) hS ?_
  simp only [Act.put, List.setIfInBounds_toArray, List.set_cons_succ, List.set_cons_zero]
  refine anyH_take 25 (some 68) undef rfl rfl (by kernel_rfl) (by kernel_rfl) (by kernel_rfl) (fun _ _ _ h => h.elim) (.inr ⟨by rfl, rfl⟩) hS ?_
  simp only [Act.put, List.setIfInBounds_toArray, List.set_cons_succ, List.set_cons_zero]
  refine anyH_take 26 (some 69) undef rfl rfl (by kernel_rfl) (by kernel_rfl) (by kernel_rfl) (fun _ _ _ h => h.elim) (.inr ⟨by rfl, rfl⟩) hS ?_
  simp only [Act.put, List.setIfInBounds_toArray, List.set_cons_succ, List.set_cons_zero]
  refine anyH_take 27 (some 70) undef rfl rfl (by kernel_rfl) (by kernel_rfl) (by kernel_rfl) (fun _ _ _ h => h.elim) (.inr ⟨by rfl, rfl⟩) hS ?_
  simp only [Act.put, List.setIfInBounds_toArray, List.set_cons_succ, List.set_cons_zero]
  refine anyH_take 28 (some 71) (.bool true) rfl rfl (by kernel_rfl) (by kernel_rfl) (by kernel_rfl) (fun _ _ _ h => h.elim) (.inl ⟨by rfl, fun W hW => by go_simp⟩) hS ?_
  simp only [Act.put, List.setIfInBounds_toArray, List.set_cons_succ, List.set_cons_zero]
  refine wpAnyH_done (by kernel_rfl) ?_ _
  exact ⟨(fun zz => ([.pointer (some ⟨X, 1, none⟩), .agg #[.int .u8 q, .bool i], .bool false, .bool true, .bool true, undef, undef, undef, undef, .bool true, .bool true, undef, undef, undef, undef, undef, .bool true, .bool true, undef, undef, undef, undef, undef, .bool true, .bool true, undef, undef, undef] : List Value).getD (cond (Nat.beq zz 43) 0 (cond (Nat.beq zz 44) 1 (cond (Nat.beq zz 45) 2 (cond (Nat.beq zz 46) 3 (cond (Nat.beq zz 47) 4 (cond (Nat.beq zz 48) 5 (cond (Nat.beq zz 49) 6 (cond (Nat.beq zz 50) 7 (cond (Nat.beq zz 51) 8 (cond (Nat.beq zz 52) 9 (cond (Nat.beq zz 53) 10 (cond (Nat.beq zz 54) 11 (cond (Nat.beq zz 55) 12 (cond (Nat.beq zz 56) 13 (cond (Nat.beq zz 57) 14 (cond (Nat.beq zz 58) 15 (cond (Nat.beq zz 59) 16 (cond (Nat.beq zz 60) 17 (cond (Nat.beq zz 61) 18 (cond (Nat.beq zz 62) 19 (cond (Nat.beq zz 63) 20 (cond (Nat.beq zz 64) 21 (cond (Nat.beq zz 65) 22 (cond (Nat.beq zz 66) 23 (cond (Nat.beq zz 67) 24 (cond (Nat.beq zz 68) 25 (cond (Nat.beq zz 69) 26 (cond (Nat.beq zz 70) 27 (0))))))))))))))))))))))))))))) undef), rfl, hN⟩
set_option maxHeartbeats 4000000 in
set_option maxRecDepth 100000 in
theorem right7_1 (t : Array Value) (hs : t.size = 86) (w : World) {B X n cap q : Nat} {l s : Int} {i : Bool} {ao : Option Addr}
    (hq1 : t.getD 1 undef = .pointer (some ⟨B, 0, none⟩))
    (hq4 : t.getD 4 undef = .pointer (some ⟨X, 0, none⟩))
    (p0 : w.cell? ⟨B, 0, none⟩ = some (.int .i64 l)) (p1 : w.cell? ⟨B, 1, none⟩ = some (.slice ao n cap)) (q0 : w.cell? ⟨X, 0, none⟩ = some (.int .i64 s)) (q1 : w.cell? ⟨X, 1, none⟩ = some (.int .u8 q)) (q2 : w.cell? ⟨X, 2, none⟩ = some (.bool i)) (h256 : q < 256) (hl0 : 0 ≤ l) (hl1 : l < 2147483648)
    (hu : q ≤ 7) (he : s.tmod 2 = 0)  :
    reg_causeyref24_Right_7.wp Tryz.prog (Only fun a' W' => ∃ z : Nat → Value, a' = ⟨(((((((((((((((((((((((((((((t).setIfInBounds 43 (z 43)).setIfInBounds 44 (z 44)).setIfInBounds 45 (z 45)).setIfInBounds 46 (z 46)).setIfInBounds 47 (z 47)).setIfInBounds 48 (z 48)).setIfInBounds 49 (z 49)).setIfInBounds 50 (z 50)).setIfInBounds 51 (z 51)).setIfInBounds 52 (z 52)).setIfInBounds 53 (z 53)).setIfInBounds 54 (z 54)).setIfInBounds 55 (z 55)).setIfInBounds 56 (z 56)).setIfInBounds 57 (z 57)).setIfInBounds 58 (z 58)).setIfInBounds 59 (z 59)).setIfInBounds 60 (z 60)).setIfInBounds 61 (z 61)).setIfInBounds 62 (z 62)).setIfInBounds 63 (z 63)).setIfInBounds 64 (z 64)).setIfInBounds 65 (z 65)).setIfInBounds 66 (z 66)).setIfInBounds 67 (z 67)).setIfInBounds 68 (z 68)).setIfInBounds 69 (z 69)).setIfInBounds 70 (z 70)).setIfInBounds 71 (.bool true), []⟩ ∧ New w W') ⟨t, []⟩ w := by
  conv => arg 2; whnf
  obtain ⟨u, rfl⟩ := lit86 t hs
  have hq1 : u 1 = .pointer (some ⟨B, 0, none⟩) := hq1
  have hq4 : u 4 = .pointer (some ⟨X, 0, none⟩) := hq4
  rw [hq1, hq4]
  clear hq1 hq4 hs
  refine wp_region_held (S := fun W => New w W) (by kernel_rfl) ?_
  show wpAnyH _ _ _ _ _ 29 _ _ w.drew
  have hN : New w w.drew := (Mods.refl _ _).drew
  have hS : New w w.drew := (Mods.refl _ _).drew
  refine anyH_take 0 (some 43) (.pointer (some ⟨X, 1, none⟩)) rfl rfl (by kernel_rfl) (by kernel_rfl) (by kernel_rfl) (fun _ _ _ h => h.elim) (.inl ⟨by rfl, fun W hW => by go_simp⟩) hS ?_
  simp only [Act.put, List.setIfInBounds_toArray, List.set_cons_succ, List.set_cons_zero]
  refine anyH_take 1 (some 44) (.agg #[.int .u8 q, .bool i]) rfl rfl (by kernel_rfl) (by kernel_rfl) (by kernel_rfl) (fun _ _ _ h => h.elim) (.inl ⟨by rfl, fun W hW => by have hh : New w W := hW; have q0 := hh.cell q1 id; have q1 := hh.cell q2 id; go_simp⟩) hS ?_
  simp only [Act.put, List.setIfInBounds_toArray, List.set_cons_succ, List.set_cons_zero]
  refine wpAnyH_all (rs := [2]) (by kernel_rfl) (by simp) ?_
  simp only [List.mem_cons, List.not_mem_nil, or_false, forall_eq]
  refine opH_call (some 45) rfl (by rfl) rfl 53 #[.agg #[.int .u8 q, .bool i]] (by go_simp) (((right_pr14 q i h256 _).mono (R' := fun e w' => e = .returned (.bool true) ∧ New _ w') (by rintro e w' ⟨rfl, h⟩; exact ⟨by rw [decide_eq_true hu], h⟩)).mono ?_)
  rintro e w2 ⟨rfl, hk⟩
  have hS := hS.trans hk
  have hN := hN.trans hk
  clear hk
  refine ⟨_, rfl, hS, ?_⟩
  simp only [Act.put, List.setIfInBounds_toArray, List.set_cons_succ, List.set_cons_zero]
  refine anyH_take 3 (some 46) (.bool false) rfl rfl (by kernel_rfl) (by kernel_rfl) (by kernel_rfl) (fun _ _ _ h => h.elim) (.inl ⟨by rfl, fun W hW => by go_simp⟩) hS ?_
  simp only [Act.put, List.setIfInBounds_toArray, List.set_cons_succ, List.set_cons_zero]
  refine anyH_take 4 (some 47) (.bool false) rfl rfl (by kernel_rfl) (by kernel_rfl) (by kernel_rfl) (fun _ _ _ h => h.elim) (.inl ⟨by rfl, fun W hW => by go_simp⟩) hS ?_
  simp only [Act.put, List.setIfInBounds_toArray, List.set_cons_succ, List.set_cons_zero]
  refine anyH_take 5 (some 48) (.pointer (some ⟨X, 0, none⟩)) rfl rfl (by kernel_rfl) (by kernel_rfl) (by kernel_rfl) (fun _ _ _ h => h.elim) (.inl ⟨by rfl, fun W hW => by go_simp⟩) hS ?_
  simp only [Act.put, List.setIfInBounds_toArray, List.set_cons_succ, List.set_cons_zero]
  refine anyH_take 6 (some 49) (.int .i64 s) rfl rfl (by kernel_rfl) (by kernel_rfl) (by kernel_rfl) (fun _ _ _ h => h.elim) (.inl ⟨by rfl, fun W hW => by have hh : New w W := hW; have q := hh.cell q0 id; go_simp⟩) hS ?_
  simp only [Act.put, List.setIfInBounds_toArray, List.set_cons_succ, List.set_cons_zero]
  refine anyH_take 7 (some 50) (.int .i64 (s.tmod 2)) rfl rfl (by kernel_rfl) (by kernel_rfl) (by kernel_rfl) (fun _ _ _ h => h.elim) (.inl ⟨by rfl, fun W hW => by go_simp⟩) hS ?_
  simp only [Act.put, List.setIfInBounds_toArray, List.set_cons_succ, List.set_cons_zero]
  refine anyH_take 8 (some 51) (.bool true) rfl rfl (by kernel_rfl) (by kernel_rfl) (by kernel_rfl) (fun _ _ _ h => h.elim) (.inl ⟨by rfl, fun W hW => by go_simp; first | done | assumption⟩) hS ?_
  simp only [Act.put, List.setIfInBounds_toArray, List.set_cons_succ, List.set_cons_zero]
  refine anyH_take 9 (some 52) (.bool true) rfl rfl (by kernel_rfl) (by kernel_rfl) (by kernel_rfl) (fun _ _ _ h => h.elim) (.inl ⟨by rfl, fun W hW => by go_simp⟩) hS ?_
  simp only [Act.put, List.setIfInBounds_toArray, List.set_cons_succ, List.set_cons_zero]
  refine anyH_take 10 (some 53) (.bool true) rfl rfl (by kernel_rfl) (by kernel_rfl) (by kernel_rfl) (fun _ _ _ h => h.elim) (.inl ⟨by rfl, fun W hW => by go_simp⟩) hS ?_
  simp only [Act.put, List.setIfInBounds_toArray, List.set_cons_succ, List.set_cons_zero]
  refine anyH_take 11 (some 54) undef rfl rfl (by kernel_rfl) (by kernel_rfl) (by kernel_rfl) (fun _ _ _ h => h.elim) (.inr ⟨by rfl, rfl⟩) hS ?_
  simp only [Act.put, List.setIfInBounds_toArray, List.set_cons_succ, List.set_cons_zero]
  refine anyH_take 12 (some 55) undef rfl rfl (by kernel_rfl) (by kernel_rfl) (by kernel_rfl) (fun _ _ _ h => h.elim) (.inr ⟨by rfl, rfl⟩) hS ?_
  simp only [Act.put, List.setIfInBounds_toArray, List.set_cons_succ, List.set_cons_zero]
  refine anyH_take 13 (some 56) undef rfl rfl (by kernel_rfl) (by kernel_rfl) (by kernel_rfl) (fun _ _ _ h => h.elim) (.inr ⟨by rfl, rfl⟩) hS ?_
  simp only [Act.put, List.setIfInBounds_toArray, List.set_cons_succ, List.set_cons_zero]
  refine anyH_take 14 (some 57) undef rfl rfl (by kernel_rfl) (by kernel_rfl) (by kernel_rfl) (fun _ _ _ h => h.elim) (.inr ⟨by rfl, rfl⟩) hS ?_
  simp only [Act.put, List.setIfInBounds_toArray, List.set_cons_succ, List.set_cons_zero]
  refine anyH_take 15 (some 58) undef rfl rfl (by kernel_rfl) (by kernel_rfl) (by kernel_rfl) (fun _ _ _ h => h.elim) (.inr ⟨by rfl, rfl⟩) hS ?_
  simp only [Act.put, List.setIfInBounds_toArray, List.set_cons_succ, List.set_cons_zero]
  refine anyH_take 16 (some 59) (.bool true) rfl rfl (by kernel_rfl) (by kernel_rfl) (by kernel_rfl) (fun _ _ _ h => h.elim) (.inl ⟨by rfl, fun W hW => by go_simp⟩) hS ?_
  simp only [Act.put, List.setIfInBounds_toArray, List.set_cons_succ, List.set_cons_zero]
  refine anyH_take 17 (some 60) (.bool true) rfl rfl (by kernel_rfl) (by kernel_rfl) (by kernel_rfl) (fun _ _ _ h => h.elim) (.inl ⟨by rfl, fun W hW => by go_simp⟩) hS ?_
  simp only [Act.put, List.setIfInBounds_toArray, List.set_cons_succ, List.set_cons_zero]
  refine anyH_take 18 (some 61) undef rfl rfl (by kernel_rfl) (by kernel_rfl) (by kernel_rfl) (fun _ _ _ h => h.elim) (.inr ⟨by rfl, rfl⟩) hS ?_
  simp only [Act.put, List.setIfInBounds_toArray, List.set_cons_succ, List.set_cons_zero]
  refine anyH_take 19 (some 62) undef rfl rfl (by kernel_rfl) (by kernel_rfl) (by kernel_rfl) (fun _ _ _ h => h.elim) (.inr ⟨by rfl, rfl⟩) hS ?_
  simp only [Act.put, List.setIfInBounds_toArray, List.set_cons_succ, List.set_cons_zero]
  refine anyH_take 20 (some 63) undef rfl rfl (by kernel_rfl) (by kernel_rfl) (by kernel_rfl) (fun _ _ _ h => h.elim) (.inr ⟨by rfl, rfl⟩) hS ?_
  simp only [Act.put, List.setIfInBounds_toArray, List.set_cons_succ, List.set_cons_zero]
  refine anyH_take 21 (some 64) undef rfl rfl (by kernel_rfl) (by kernel_rfl) (by kernel_rfl) (fun _ _ _ h => h.elim) (.inr ⟨by rfl, rfl⟩) hS ?_
  simp only [Act.put, List.setIfInBounds_toArray, List.set_cons_succ, List.set_cons_zero]
  refine anyH_take 22 (some 65) undef rfl rfl (by kernel_rfl) (by kernel_rfl) (by kernel_rfl) (fun _ _ _ h => h.elim) (.inr ⟨by rfl, rfl⟩) hS ?_
  simp only [Act.put, List.setIfInBounds_toArray, List.set_cons_succ, List.set_cons_zero]
  refine anyH_take 23 (some 66) (.bool true) rfl rfl (by kernel_rfl) (by kernel_rfl) (by kernel_rfl) (fun _ _ _ h => h.elim) (.inl ⟨by rfl, fun W hW => by go_simp⟩) hS ?_
  simp only [Act.put, List.setIfInBounds_toArray, List.set_cons_succ, List.set_cons_zero]
  refine anyH_take 24 (some 67) (.bool true) rfl rfl (by kernel_rfl) (by kernel_rfl) (by kernel_rfl) (fun _ _ _ h => h.elim) (.inl ⟨by rfl, fun W hW => by go_simp⟩) hS ?_
  simp only [Act.put, List.setIfInBounds_toArray, List.set_cons_succ, List.set_cons_zero]
  refine anyH_take 25 (some 68) undef rfl rfl (by kernel_rfl) (by kernel_rfl) (by kernel_rfl) (fun _ _ _ h => h.elim) (.inr ⟨by rfl, rfl⟩) hS ?_
  simp only [Act.put, List.setIfInBounds_toArray, List.set_cons_succ, List.set_cons_zero]
  refine anyH_take 26 (some 69) undef rfl rfl (by kernel_rfl) (by kernel_rfl) (by kernel_rfl) (fun _ _ _ h => h.elim) (.inr ⟨by rfl, rfl⟩) hS ?_
  simp only [Act.put, List.setIfInBounds_toArray, List.set_cons_succ, List.set_cons_zero]
  refine anyH_take 27 (some 70) undef rfl rfl (by kernel_rfl) (by kernel_rfl) (by kernel_rfl) (fun _ _ _ h => h.elim) (.inr ⟨by rfl, rfl⟩) hS ?_
  simp only [Act.put, List.setIfInBounds_toArray, List.set_cons_succ, List.set_cons_zero]
  refine anyH_take 28 (some 71) (.bool true) rfl rfl (by kernel_rfl) (by kernel_rfl) (by kernel_rfl) (fun _ _ _ h => h.elim) (.inl ⟨by rfl, fun W hW => by go_simp⟩) hS ?_
  simp only [Act.put, List.setIfInBounds_toArray, List.set_cons_succ, List.set_cons_zero]
  refine wpAnyH_done (by kernel_rfl) ?_ _
  exact ⟨(fun zz => ([.pointer (some ⟨X, 1, none⟩), .agg #[.int .u8 q, .bool i], .bool true, .bool false, .bool false, .pointer (some ⟨X, 0, none⟩), .int .i64 s, .int .i64 (s.tmod 2), .bool true, .bool true, .bool true, undef, undef, undef, undef, undef, .bool true, .bool true, undef, undef, undef, undef, undef, .bool true, .bool true, undef, undef, undef] : List Value).getD (cond (Nat.beq zz 43) 0 (cond (Nat.beq zz 44) 1 (cond (Nat.beq zz 45) 2 (cond (Nat.beq zz 46) 3 (cond (Nat.beq zz 47) 4 (cond (Nat.beq zz 48) 5 (cond (Nat.beq zz 49) 6 (cond (Nat.beq zz 50) 7 (cond (Nat.beq zz 51) 8 (cond (Nat.beq zz 52) 9 (cond (Nat.beq zz 53) 10 (cond (Nat.beq zz 54) 11 (cond (Nat.beq zz 55) 12 (cond (Nat.beq zz 56) 13 (cond (Nat.beq zz 57) 14 (cond (Nat.beq zz 58) 15 (cond (Nat.beq zz 59) 16 (cond (Nat.beq zz 60) 17 (cond (Nat.beq zz 61) 18 (cond (Nat.beq zz 62) 19 (cond (Nat.beq zz 63) 20 (cond (Nat.beq zz 64) 21 (cond (Nat.beq zz 65) 22 (cond (Nat.beq zz 66) 23 (cond (Nat.beq zz 67) 24 (cond (Nat.beq zz 68) 25 (cond (Nat.beq zz 69) 26 (cond (Nat.beq zz 70) 27 (0))))))))))))))))))))))))))))) undef), rfl, hN⟩
set_option maxHeartbeats 4000000 in
set_option maxRecDepth 100000 in
theorem right7_2 (t : Array Value) (hs : t.size = 86) (w : World) {B X n cap q : Nat} {l s : Int} {i : Bool} {ao : Option Addr}
    (hq1 : t.getD 1 undef = .pointer (some ⟨B, 0, none⟩))
    (hq4 : t.getD 4 undef = .pointer (some ⟨X, 0, none⟩))
    (p0 : w.cell? ⟨B, 0, none⟩ = some (.int .i64 l)) (p1 : w.cell? ⟨B, 1, none⟩ = some (.slice ao n cap)) (q0 : w.cell? ⟨X, 0, none⟩ = some (.int .i64 s)) (q1 : w.cell? ⟨X, 1, none⟩ = some (.int .u8 q)) (q2 : w.cell? ⟨X, 2, none⟩ = some (.bool i)) (h256 : q < 256) (hl0 : 0 ≤ l) (hl1 : l < 2147483648)
    (hu : q ≤ 7) (he : ¬ s.tmod 2 = 0) (h1 : decide (s ≤ l) = true)  :
    reg_causeyref24_Right_7.wp Tryz.prog (Only fun a' W' => ∃ z : Nat → Value, a' = ⟨(((((((((((((((((((((((((((((t).setIfInBounds 43 (z 43)).setIfInBounds 44 (z 44)).setIfInBounds 45 (z 45)).setIfInBounds 46 (z 46)).setIfInBounds 47 (z 47)).setIfInBounds 48 (z 48)).setIfInBounds 49 (z 49)).setIfInBounds 50 (z 50)).setIfInBounds 51 (z 51)).setIfInBounds 52 (z 52)).setIfInBounds 53 (z 53)).setIfInBounds 54 (z 54)).setIfInBounds 55 (z 55)).setIfInBounds 56 (z 56)).setIfInBounds 57 (z 57)).setIfInBounds 58 (z 58)).setIfInBounds 59 (z 59)).setIfInBounds 60 (z 60)).setIfInBounds 61 (z 61)).setIfInBounds 62 (z 62)).setIfInBounds 63 (z 63)).setIfInBounds 64 (z 64)).setIfInBounds 65 (z 65)).setIfInBounds 66 (z 66)).setIfInBounds 67 (z 67)).setIfInBounds 68 (z 68)).setIfInBounds 69 (z 69)).setIfInBounds 70 (z 70)).setIfInBounds 71 (.bool true), []⟩ ∧ New w W') ⟨t, []⟩ w := by
  conv => arg 2; whnf
  obtain ⟨u, rfl⟩ := lit86 t hs
  have hq1 : u 1 = .pointer (some ⟨B, 0, none⟩) := hq1
  have hq4 : u 4 = .pointer (some ⟨X, 0, none⟩) := hq4
  rw [hq1, hq4]
  clear hq1 hq4 hs
  refine wp_region_held (S := fun W => New w W) (by kernel_rfl) ?_
  show wpAnyH _ _ _ _ _ 29 _ _ w.drew
  have hN : New w w.drew := (Mods.refl _ _).drew
  have hS : New w w.drew := (Mods.refl _ _).drew
  refine anyH_take 0 (some 43) (.pointer (some ⟨X, 1, none⟩)) rfl rfl (by kernel_rfl) (by kernel_rfl) (by kernel_rfl) (fun _ _ _ h => h.elim) (.inl ⟨by rfl, fun W hW => by go_simp⟩) hS ?_
  simp only [Act.put, List.setIfInBounds_toArray, List.set_cons_succ, List.set_cons_zero]
  refine anyH_take 1 (some 44) (.agg #[.int .u8 q, .bool i]) rfl rfl (by kernel_rfl) (by kernel_rfl) (by kernel_rfl) (fun _ _ _ h => h.elim) (.inl ⟨by rfl, fun W hW => by have hh : New w W := hW; have q0 := hh.cell q1 id; have q1 := hh.cell q2 id; go_simp⟩) hS ?_
  simp only [Act.put, List.setIfInBounds_toArray, List.set_cons_succ, List.set_cons_zero]
  refine wpAnyH_all (rs := [2]) (by kernel_rfl) (by simp) ?_
  simp only [List.mem_cons, List.not_mem_nil, or_false, forall_eq]
  refine opH_call (some 45) rfl (by rfl) rfl 53 #[.agg #[.int .u8 q, .bool i]] (by go_simp) (((right_pr14 q i h256 _).mono (R' := fun e w' => e = .returned (.bool true) ∧ New _ w') (by rintro e w' ⟨rfl, h⟩; exact ⟨by rw [decide_eq_true hu], h⟩)).mono ?_)
  rintro e w2 ⟨rfl, hk⟩
  have hS := hS.trans hk
  have hN := hN.trans hk
  clear hk
  refine ⟨_, rfl, hS, ?_⟩
  simp only [Act.put, List.setIfInBounds_toArray, List.set_cons_succ, List.set_cons_zero]
  refine anyH_take 3 (some 46) (.bool false) rfl rfl (by kernel_rfl) (by kernel_rfl) (by kernel_rfl) (fun _ _ _ h => h.elim) (.inl ⟨by rfl, fun W hW => by go_simp⟩) hS ?_
  simp only [Act.put, List.setIfInBounds_toArray, List.set_cons_succ, List.set_cons_zero]
  refine anyH_take 4 (some 47) (.bool false) rfl rfl (by kernel_rfl) (by kernel_rfl) (by kernel_rfl) (fun _ _ _ h => h.elim) (.inl ⟨by rfl, fun W hW => by go_simp⟩) hS ?_
  simp only [Act.put, List.setIfInBounds_toArray, List.set_cons_succ, List.set_cons_zero]
  refine anyH_take 5 (some 48) (.pointer (some ⟨X, 0, none⟩)) rfl rfl (by kernel_rfl) (by kernel_rfl) (by kernel_rfl) (fun _ _ _ h => h.elim) (.inl ⟨by rfl, fun W hW => by go_simp⟩) hS ?_
  simp only [Act.put, List.setIfInBounds_toArray, List.set_cons_succ, List.set_cons_zero]
  refine anyH_take 6 (some 49) (.int .i64 s) rfl rfl (by kernel_rfl) (by kernel_rfl) (by kernel_rfl) (fun _ _ _ h => h.elim) (.inl ⟨by rfl, fun W hW => by have hh : New w W := hW; have q := hh.cell q0 id; go_simp⟩) hS ?_
  simp only [Act.put, List.setIfInBounds_toArray, List.set_cons_succ, List.set_cons_zero]
  refine anyH_take 7 (some 50) (.int .i64 (s.tmod 2)) rfl rfl (by kernel_rfl) (by kernel_rfl) (by kernel_rfl) (fun _ _ _ h => h.elim) (.inl ⟨by rfl, fun W hW => by go_simp⟩) hS ?_
  simp only [Act.put, List.setIfInBounds_toArray, List.set_cons_succ, List.set_cons_zero]
  refine anyH_take 8 (some 51) (.bool false) rfl rfl (by kernel_rfl) (by kernel_rfl) (by kernel_rfl) (fun _ _ _ h => h.elim) (.inl ⟨by rfl, fun W hW => by go_simp; first | done | assumption⟩) hS ?_
  simp only [Act.put, List.setIfInBounds_toArray, List.set_cons_succ, List.set_cons_zero]
  refine anyH_take 9 (some 52) (.bool false) rfl rfl (by kernel_rfl) (by kernel_rfl) (by kernel_rfl) (fun _ _ _ h => h.elim) (.inl ⟨by rfl, fun W hW => by go_simp⟩) hS ?_
  simp only [Act.put, List.setIfInBounds_toArray, List.set_cons_succ, List.set_cons_zero]
  refine anyH_take 10 (some 53) (.bool false) rfl rfl (by kernel_rfl) (by kernel_rfl) (by kernel_rfl) (fun _ _ _ h => h.elim) (.inl ⟨by rfl, fun W hW => by go_simp⟩) hS ?_
  simp only [Act.put, List.setIfInBounds_toArray, List.set_cons_succ, List.set_cons_zero]
  refine anyH_take 11 (some 54) (.pointer (some ⟨X, 0, none⟩)) rfl rfl (by kernel_rfl) (by kernel_rfl) (by kernel_rfl) (fun _ _ _ h => h.elim) (.inl ⟨by rfl, fun W hW => by go_simp⟩) hS ?_
  simp only [Act.put, List.setIfInBounds_toArray, List.set_cons_succ, List.set_cons_zero]
  refine anyH_take 12 (some 55) (.int .i64 s) rfl rfl (by kernel_rfl) (by kernel_rfl) (by kernel_rfl) (fun _ _ _ h => h.elim) (.inl ⟨by rfl, fun W hW => by have hh : New w W := hW; have q := hh.cell q0 id; go_simp⟩) hS ?_
  simp only [Act.put, List.setIfInBounds_toArray, List.set_cons_succ, List.set_cons_zero]
  refine anyH_take 13 (some 56) (.pointer (some ⟨B, 0, none⟩)) rfl rfl (by kernel_rfl) (by kernel_rfl) (by kernel_rfl) (fun _ _ _ h => h.elim) (.inl ⟨by rfl, fun W hW => by go_simp⟩) hS ?_
  simp only [Act.put, List.setIfInBounds_toArray, List.set_cons_succ, List.set_cons_zero]
  refine anyH_take 14 (some 57) (.int .i64 l) rfl rfl (by kernel_rfl) (by kernel_rfl) (by kernel_rfl) (fun _ _ _ h => h.elim) (.inl ⟨by rfl, fun W hW => by have hh : New w W := hW; have q := hh.cell p0 id; go_simp⟩) hS ?_
  simp only [Act.put, List.setIfInBounds_toArray, List.set_cons_succ, List.set_cons_zero]
  refine anyH_take 15 (some 58) (.bool true) rfl rfl (by kernel_rfl) (by kernel_rfl) (by kernel_rfl) (fun _ _ _ h => h.elim) (.inl ⟨by rfl, fun W hW => by go_simp; first | done | assumption⟩) hS ?_
  simp only [Act.put, List.setIfInBounds_toArray, List.set_cons_succ, List.set_cons_zero]
  refine anyH_take 16 (some 59) (.bool true) rfl rfl (by kernel_rfl) (by kernel_rfl) (by kernel_rfl) (fun _ _ _ h => h.elim) (.inl ⟨by rfl, fun W hW => by go_simp⟩) hS ?_
  simp only [Act.put, List.setIfInBounds_toArray, List.set_cons_succ, List.set_cons_zero]
  refine anyH_take 17 (some 60) (.bool true) rfl rfl (by kernel_rfl) (by kernel_rfl) (by kernel_rfl) (fun _ _ _ h => h.elim) (.inl ⟨by rfl, fun W hW => by go_simp⟩) hS ?_
  simp only [Act.put, List.setIfInBounds_toArray, List.set_cons_succ, List.set_cons_zero]
  refine anyH_take 18 (some 61) undef rfl rfl (by kernel_rfl) (by kernel_rfl) (by kernel_rfl) (fun _ _ _ h => h.elim) (.inr ⟨by rfl, rfl⟩) hS ?_
  simp only [Act.put, List.setIfInBounds_toArray, List.set_cons_succ, List.set_cons_zero]
  refine anyH_take 19 (some 62) undef rfl rfl (by kernel_rfl) (by kernel_rfl) (by kernel_rfl) (fun _ _ _ h => h.elim) (.inr ⟨by rfl, rfl⟩) hS ?_
  simp only [Act.put, List.setIfInBounds_toArray, List.set_cons_succ, List.set_cons_zero]
  refine anyH_take 20 (some 63) undef rfl rfl (by kernel_rfl) (by kernel_rfl) (by kernel_rfl) (fun _ _ _ h => h.elim) (.inr ⟨by rfl, rfl⟩) hS ?_
  simp only [Act.put, List.setIfInBounds_toArray, List.set_cons_succ, List.set_cons_zero]
  refine anyH_take 21 (some 64) undef rfl rfl (by kernel_rfl) (by kernel_rfl) (by kernel_rfl) (fun _ _ _ h => h.elim) (.inr ⟨by rfl, rfl⟩) hS ?_
  simp only [Act.put, List.setIfInBounds_toArray, List.set_cons_succ, List.set_cons_zero]
  refine anyH_take 22 (some 65) undef rfl rfl (by kernel_rfl) (by kernel_rfl) (by kernel_rfl) (fun _ _ _ h => h.elim) (.inr ⟨by rfl, rfl⟩) hS ?_
  simp only [Act.put, List.setIfInBounds_toArray, List.set_cons_succ, List.set_cons_zero]
  refine anyH_take 23 (some 66) (.bool true) rfl rfl (by kernel_rfl) (by kernel_rfl) (by kernel_rfl) (fun _ _ _ h => h.elim) (.inl ⟨by rfl, fun W hW => by go_simp⟩) hS ?_
  simp only [Act.put, List.setIfInBounds_toArray, List.set_cons_succ, List.set_cons_zero]
  refine anyH_take 24 (some 67) (.bool true) rfl rfl (by kernel_rfl) (by kernel_rfl) (by kernel_rfl) (fun _ _ _ h => h.elim) (.inl ⟨by rfl, fun W hW => by go_simp⟩) hS ?_
  simp only [Act.put, List.setIfInBounds_toArray, List.set_cons_succ, List.set_cons_zero]
  refine anyH_take 25 (some 68) undef rfl rfl (by kernel_rfl) (by kernel_rfl) (by kernel_rfl) (fun _ _ _ h => h.elim) (.inr ⟨by rfl, rfl⟩) hS ?_
  simp only [Act.put, List.setIfInBounds_toArray, List.set_cons_succ, List.set_cons_zero]
  refine anyH_take 26 (some 69) undef rfl rfl (by kernel_rfl) (by kernel_rfl) (by kernel_rfl) (fun _ _ _ h => h.elim) (.inr ⟨by rfl, rfl⟩) hS ?_
  simp only [Act.put, List.setIfInBounds_toArray, List.set_cons_succ, List.set_cons_zero]
  refine anyH_take 27 (some 70) undef rfl rfl (by kernel_rfl) (by kernel_rfl) (by kernel_rfl) (fun _ _ _ h => h.elim) (.inr ⟨by rfl, rfl⟩) hS ?_
  simp only [Act.put, List.setIfInBounds_toArray, List.set_cons_succ, List.set_cons_zero]
  refine anyH_take 28 (some 71) (.bool true) rfl rfl (by kernel_rfl) (by kernel_rfl) (by kernel_rfl) (fun _ _ _ h => h.elim) (.inl ⟨by rfl, fun W hW => by go_simp⟩) hS ?_
  simp only [Act.put, List.setIfInBounds_toArray, List.set_cons_succ, List.set_cons_zero]
  refine wpAnyH_done (by kernel_rfl) ?_ _
  exact ⟨(fun zz => ([.pointer (some ⟨X, 1, none⟩), .agg #[.int .u8 q, .bool i], .bool true, .bool false, .bool false, .pointer (some ⟨X, 0, none⟩), .int .i64 s, .int .i64 (s.tmod 2), .bool false, .bool false, .bool false, .pointer (some ⟨X, 0, none⟩), .int .i64 s, .pointer (some ⟨B, 0, none⟩), .int .i64 l, .bool true, .bool true, .bool true, undef, undef, undef, undef, undef, .bool true, .bool true, undef, undef, undef] : List Value).getD (cond (Nat.beq zz 43) 0 (cond (Nat.beq zz 44) 1 (cond (Nat.beq zz 45) 2 (cond (Nat.beq zz 46) 3 (cond (Nat.beq zz 47) 4 (cond (Nat.beq zz 48) 5 (cond (Nat.beq zz 49) 6 (cond (Nat.beq zz 50) 7 (cond (Nat.beq zz 51) 8 (cond (Nat.beq zz 52) 9 (cond (Nat.beq zz 53) 10 (cond (Nat.beq zz 54) 11 (cond (Nat.beq zz 55) 12 (cond (Nat.beq zz 56) 13 (cond (Nat.beq zz 57) 14 (cond (Nat.beq zz 58) 15 (cond (Nat.beq zz 59) 16 (cond (Nat.beq zz 60) 17 (cond (Nat.beq zz 61) 18 (cond (Nat.beq zz 62) 19 (cond (Nat.beq zz 63) 20 (cond (Nat.beq zz 64) 21 (cond (Nat.beq zz 65) 22 (cond (Nat.beq zz 66) 23 (cond (Nat.beq zz 67) 24 (cond (Nat.beq zz 68) 25 (cond (Nat.beq zz 69) 26 (cond (Nat.beq zz 70) 27 (0))))))))))))))))))))))))))))) undef), rfl, hN⟩
set_option maxHeartbeats 4000000 in
set_option maxRecDepth 100000 in
theorem right7_3 (t : Array Value) (hs : t.size = 86) (w : World) {B X n cap q : Nat} {l s : Int} {i : Bool} {ao : Option Addr}
    (hq1 : t.getD 1 undef = .pointer (some ⟨B, 0, none⟩))
    (hq4 : t.getD 4 undef = .pointer (some ⟨X, 0, none⟩))
    (p0 : w.cell? ⟨B, 0, none⟩ = some (.int .i64 l)) (p1 : w.cell? ⟨B, 1, none⟩ = some (.slice ao n cap)) (q0 : w.cell? ⟨X, 0, none⟩ = some (.int .i64 s)) (q1 : w.cell? ⟨X, 1, none⟩ = some (.int .u8 q)) (q2 : w.cell? ⟨X, 2, none⟩ = some (.bool i)) (h256 : q < 256) (hl0 : 0 ≤ l) (hl1 : l < 2147483648)
    (hu : q ≤ 7) (he : ¬ s.tmod 2 = 0) (h1 : decide (s ≤ l) = false) (h2 : decide (l + 16 < s) = true)  :
    reg_causeyref24_Right_7.wp Tryz.prog (Only fun a' W' => ∃ z : Nat → Value, a' = ⟨(((((((((((((((((((((((((((((t).setIfInBounds 43 (z 43)).setIfInBounds 44 (z 44)).setIfInBounds 45 (z 45)).setIfInBounds 46 (z 46)).setIfInBounds 47 (z 47)).setIfInBounds 48 (z 48)).setIfInBounds 49 (z 49)).setIfInBounds 50 (z 50)).setIfInBounds 51 (z 51)).setIfInBounds 52 (z 52)).setIfInBounds 53 (z 53)).setIfInBounds 54 (z 54)).setIfInBounds 55 (z 55)).setIfInBounds 56 (z 56)).setIfInBounds 57 (z 57)).setIfInBounds 58 (z 58)).setIfInBounds 59 (z 59)).setIfInBounds 60 (z 60)).setIfInBounds 61 (z 61)).setIfInBounds 62 (z 62)).setIfInBounds 63 (z 63)).setIfInBounds 64 (z 64)).setIfInBounds 65 (z 65)).setIfInBounds 66 (z 66)).setIfInBounds 67 (z 67)).setIfInBounds 68 (z 68)).setIfInBounds 69 (z 69)).setIfInBounds 70 (z 70)).setIfInBounds 71 (.bool true), []⟩ ∧ New w W') ⟨t, []⟩ w := by
  conv => arg 2; whnf
  obtain ⟨u, rfl⟩ := lit86 t hs
  have hq1 : u 1 = .pointer (some ⟨B, 0, none⟩) := hq1
  have hq4 : u 4 = .pointer (some ⟨X, 0, none⟩) := hq4
  rw [hq1, hq4]
  clear hq1 hq4 hs
  refine wp_region_held (S := fun W => New w W) (by kernel_rfl) ?_
  show wpAnyH _ _ _ _ _ 29 _ _ w.drew
  have hN : New w w.drew := (Mods.refl _ _).drew
  have hS : New w w.drew := (Mods.refl _ _).drew
  refine anyH_take 0 (some 43) (.pointer (some ⟨X, 1, none⟩)) rfl rfl (by kernel_rfl) (by kernel_rfl) (by kernel_rfl) (fun _ _ _ h => h.elim) (.inl ⟨by rfl, fun W hW => by go_simp⟩) hS ?_
  simp only [Act.put, List.setIfInBounds_toArray, List.set_cons_succ, List.set_cons_zero]
  refine anyH_take 1 (some 44) (.agg #[.int .u8 q, .bool i]) rfl rfl (by kernel_rfl) (by kernel_rfl) (by kernel_rfl) (fun _ _ _ h => h.elim) (.inl ⟨by rfl, fun W hW => by have hh : New w W := hW; have q0 := hh.cell q1 id; have q1 := hh.cell q2 id; go_simp⟩) hS ?_
  simp only [Act.put, List.setIfInBounds_toArray, List.set_cons_succ, List.set_cons_zero]
  refine wpAnyH_all (rs := [2]) (by kernel_rfl) (by simp) ?_
  simp only [List.mem_cons, List.not_mem_nil, or_false, forall_eq]
  refine opH_call (some 45) rfl (by rfl) rfl 53 #[.agg #[.int .u8 q, .bool i]] (by go_simp) (((right_pr14 q i h256 _).mono (R' := fun e w' => e = .returned (.bool true) ∧ New _ w') (by rintro e w' ⟨rfl, h⟩; exact ⟨by rw [decide_eq_true hu], h⟩)).mono ?_)
  rintro e w2 ⟨rfl, hk⟩
  have hS := hS.trans hk
  have hN := hN.trans hk
  clear hk
  refine ⟨_, rfl, hS, ?_⟩
  simp only [Act.put, List.setIfInBounds_toArray, List.set_cons_succ, List.set_cons_zero]
  refine anyH_take 3 (some 46) (.bool false) rfl rfl (by kernel_rfl) (by kernel_rfl) (by kernel_rfl) (fun _ _ _ h => h.elim) (.inl ⟨by rfl, fun W hW => by go_simp⟩) hS ?_
  simp only [Act.put, List.setIfInBounds_toArray, List.set_cons_succ, List.set_cons_zero]
  refine anyH_take 4 (some 47) (.bool false) rfl rfl (by kernel_rfl) (by kernel_rfl) (by kernel_rfl) (fun _ _ _ h => h.elim) (.inl ⟨by rfl, fun W hW => by go_simp⟩) hS ?_
  simp only [Act.put, List.setIfInBounds_toArray, List.set_cons_succ, List.set_cons_zero]
  refine anyH_take 5 (some 48) (.pointer (some ⟨X, 0, none⟩)) rfl rfl (by kernel_rfl) (by kernel_rfl) (by kernel_rfl) (fun _ _ _ h => h.elim) (.inl ⟨by rfl, fun W hW => by go_simp⟩) hS ?_
  simp only [Act.put, List.setIfInBounds_toArray, List.set_cons_succ, List.set_cons_zero]
  refine anyH_take 6 (some 49) (.int .i64 s) rfl rfl (by kernel_rfl) (by kernel_rfl) (by kernel_rfl) (fun _ _ _ h => h.elim) (.inl ⟨by rfl, fun W hW => by have hh : New w W := hW; have q := hh.cell q0 id; go_simp⟩) hS ?_
  simp only [Act.put, List.setIfInBounds_toArray, List.set_cons_succ, List.set_cons_zero]
  refine anyH_take 7 (some 50) (.int .i64 (s.tmod 2)) rfl rfl (by kernel_rfl) (by kernel_rfl) (by kernel_rfl) (fun _ _ _ h => h.elim) (.inl ⟨by rfl, fun W hW => by go_simp⟩) hS ?_
  simp only [Act.put, List.setIfInBounds_toArray, List.set_cons_succ, List.set_cons_zero]
  refine anyH_take 8 (some 51) (.bool false) rfl rfl (by kernel_rfl) (by kernel_rfl) (by kernel_rfl) (fun _ _ _ h => h.elim) (.inl ⟨by rfl, fun W hW => by go_simp; first | done | assumption⟩) hS ?_
  simp only [Act.put, List.setIfInBounds_toArray, List.set_cons_succ, List.set_cons_zero]
  refine anyH_take 9 (some 52) (.bool false) rfl rfl (by kernel_rfl) (by kernel_rfl) (by kernel_rfl) (fun _ _ _ h => h.elim) (.inl ⟨by rfl, fun W hW => by go_simp⟩) hS ?_
  simp only [Act.put, List.setIfInBounds_toArray, List.set_cons_succ, List.set_cons_zero]
  refine anyH_take 10 (some 53) (.bool false) rfl rfl (by kernel_rfl) (by kernel_rfl) (by kernel_rfl) (fun _ _ _ h => h.elim) (.inl ⟨by rfl, fun W hW => by go_simp⟩) hS ?_
  simp only [Act.put, List.setIfInBounds_toArray, List.set_cons_succ, List.set_cons_zero]
  refine anyH_take 11 (some 54) (.pointer (some ⟨X, 0, none⟩)) rfl rfl (by kernel_rfl) (by kernel_rfl) (by kernel_rfl) (fun _ _ _ h => h.elim) (.inl ⟨by rfl, fun W hW => by go_simp⟩) hS ?_
  simp only [Act.put, List.setIfInBounds_toArray, List.set_cons_succ, List.set_cons_zero]
  refine anyH_take 12 (some 55) (.int .i64 s) rfl rfl (by kernel_rfl) (by kernel_rfl) (by kernel_rfl) (fun _ _ _ h => h.elim) (.inl ⟨by rfl, fun W hW => by have hh : New w W := hW; have q := hh.cell q0 id; go_simp⟩) hS ?_
  simp only [Act.put, List.setIfInBounds_toArray, List.set_cons_succ, List.set_cons_zero]
  refine anyH_take 13 (some 56) (.pointer (some ⟨B, 0, none⟩)) rfl rfl (by kernel_rfl) (by kernel_rfl) (by kernel_rfl) (fun _ _ _ h => h.elim) (.inl ⟨by rfl, fun W hW => by go_simp⟩) hS ?_
  simp only [Act.put, List.setIfInBounds_toArray, List.set_cons_succ, List.set_cons_zero]
  refine anyH_take 14 (some 57) (.int .i64 l) rfl rfl (by kernel_rfl) (by kernel_rfl) (by kernel_rfl) (fun _ _ _ h => h.elim) (.inl ⟨by rfl, fun W hW => by have hh : New w W := hW; have q := hh.cell p0 id; go_simp⟩) hS ?_
  simp only [Act.put, List.setIfInBounds_toArray, List.set_cons_succ, List.set_cons_zero]
  refine anyH_take 15 (some 58) (.bool false) rfl rfl (by kernel_rfl) (by kernel_rfl) (by kernel_rfl) (fun _ _ _ h => h.elim) (.inl ⟨by rfl, fun W hW => by go_simp; first | done | assumption⟩) hS ?_
  simp only [Act.put, List.setIfInBounds_toArray, List.set_cons_succ, List.set_cons_zero]
  refine anyH_take 16 (some 59) (.bool false) rfl rfl (by kernel_rfl) (by kernel_rfl) (by kernel_rfl) (fun _ _ _ h => h.elim) (.inl ⟨by rfl, fun W hW => by go_simp⟩) hS ?_
  simp only [Act.put, List.setIfInBounds_toArray, List.set_cons_succ, List.set_cons_zero]
  refine anyH_take 17 (some 60) (.bool false) rfl rfl (by kernel_rfl) (by kernel_rfl) (by kernel_rfl) (fun _ _ _ h => h.elim) (.inl ⟨by rfl, fun W hW => by go_simp⟩) hS ?_
  simp only [Act.put, List.setIfInBounds_toArray, List.set_cons_succ, List.set_cons_zero]
  refine anyH_take 18 (some 61) (.pointer (some ⟨X, 0, none⟩)) rfl rfl (by kernel_rfl) (by kernel_rfl) (by kernel_rfl) (fun _ _ _ h => h.elim) (.inl ⟨by rfl, fun W hW => by go_simp⟩) hS ?_
  simp only [Act.put, List.setIfInBounds_toArray, List.set_cons_succ, List.set_cons_zero]
  refine anyH_take 19 (some 62) (.int .i64 s) rfl rfl (by kernel_rfl) (by kernel_rfl) (by kernel_rfl) (fun _ _ _ h => h.elim) (.inl ⟨by rfl, fun W hW => by have hh : New w W := hW; have q := hh.cell q0 id; go_simp⟩) hS ?_
  simp only [Act.put, List.setIfInBounds_toArray, List.set_cons_succ, List.set_cons_zero]
  refine anyH_take 20 (some 63) (.agg #[.int .i64 l, .slice ao n cap]) rfl rfl (by kernel_rfl) (by kernel_rfl) (by kernel_rfl) (fun _ _ _ h => h.elim) (.inl ⟨by rfl, fun W hW => by have hh : New w W := hW; have q0 := hh.cell p0 id; have q1 := hh.cell p1 id; go_simp⟩) hS ?_
  simp only [Act.put, List.setIfInBounds_toArray, List.set_cons_succ, List.set_cons_zero]
  refine wpAnyH_all (rs := [21]) (by kernel_rfl) (by simp) ?_
  simp only [List.mem_cons, List.not_mem_nil, or_false, forall_eq]
  refine opH_call (some 64) rfl (by rfl) rfl 54 #[.agg #[.int .i64 l, .slice ao n cap]] (by go_simp) ((reach24 l _ _ hl0 hl1).mono ?_)
  rintro e w21 ⟨rfl, hk⟩
  have hS := hS.trans hk
  have hN := hN.trans hk
  clear hk
  refine ⟨_, rfl, hS, ?_⟩
  simp only [Act.put, List.setIfInBounds_toArray, List.set_cons_succ, List.set_cons_zero]
  refine anyH_take 22 (some 65) (.bool true) rfl rfl (by kernel_rfl) (by kernel_rfl) (by kernel_rfl) (fun _ _ _ h => h.elim) (.inl ⟨by rfl, fun W hW => by go_simp; first | done | assumption⟩) hS ?_
  simp only [Act.put, List.setIfInBounds_toArray, List.set_cons_succ, List.set_cons_zero]
  refine anyH_take 23 (some 66) (.bool true) rfl rfl (by kernel_rfl) (by kernel_rfl) (by kernel_rfl) (fun _ _ _ h => h.elim) (.inl ⟨by rfl, fun W hW => by go_simp⟩) hS ?_
  simp only [Act.put, List.setIfInBounds_toArray, List.set_cons_succ, List.set_cons_zero]
  refine anyH_take 24 (some 67) (.bool true) rfl rfl (by kernel_rfl) (by kernel_rfl) (by kernel_rfl) (fun _ _ _ h => h.elim) (.inl ⟨by rfl, fun W hW => by go_simp⟩) hS ?_
  simp only [Act.put, List.setIfInBounds_toArray, List.set_cons_succ, List.set_cons_zero]
  refine anyH_take 25 (some 68) undef rfl rfl (by kernel_rfl) (by kernel_rfl) (by kernel_rfl) (fun _ _ _ h => h.elim) (.inr ⟨by rfl, rfl⟩) hS ?_
  simp only [Act.put, List.setIfInBounds_toArray, List.set_cons_succ, List.set_cons_zero]
  refine anyH_take 26 (some 69) undef rfl rfl (by kernel_rfl) (by kernel_rfl) (by kernel_rfl) (fun _ _ _ h => h.elim) (.inr ⟨by rfl, rfl⟩) hS ?_
  simp only [Act.put, List.setIfInBounds_toArray, List.set_cons_succ, List.set_cons_zero]
  refine anyH_take 27 (some 70) undef rfl rfl (by kernel_rfl) (by kernel_rfl) (by kernel_rfl) (fun _ _ _ h => h.elim) (.inr ⟨by rfl, rfl⟩) hS ?_
  simp only [Act.put, List.setIfInBounds_toArray, List.set_cons_succ, List.set_cons_zero]
  refine anyH_take 28 (some 71) (.bool true) rfl rfl (by kernel_rfl) (by kernel_rfl) (by kernel_rfl) (fun _ _ _ h => h.elim) (.inl ⟨by rfl, fun W hW => by go_simp⟩) hS ?_
  simp only [Act.put, List.setIfInBounds_toArray, List.set_cons_succ, List.set_cons_zero]
  refine wpAnyH_done (by kernel_rfl) ?_ _
  exact ⟨(fun zz => ([.pointer (some ⟨X, 1, none⟩), .agg #[.int .u8 q, .bool i], .bool true, .bool false, .bool false, .pointer (some ⟨X, 0, none⟩), .int .i64 s, .int .i64 (s.tmod 2), .bool false, .bool false, .bool false, .pointer (some ⟨X, 0, none⟩), .int .i64 s, .pointer (some ⟨B, 0, none⟩), .int .i64 l, .bool false, .bool false, .bool false, .pointer (some ⟨X, 0, none⟩), .int .i64 s, .agg #[.int .i64 l, .slice ao n cap], .int .i64 (l + 16), .bool true, .bool true, .bool true, undef, undef, undef] : List Value).getD (cond (Nat.beq zz 43) 0 (cond (Nat.beq zz 44) 1 (cond (Nat.beq zz 45) 2 (cond (Nat.beq zz 46) 3 (cond (Nat.beq zz 47) 4 (cond (Nat.beq zz 48) 5 (cond (Nat.beq zz 49) 6 (cond (Nat.beq zz 50) 7 (cond (Nat.beq zz 51) 8 (cond (Nat.beq zz 52) 9 (cond (Nat.beq zz 53) 10 (cond (Nat.beq zz 54) 11 (cond (Nat.beq zz 55) 12 (cond (Nat.beq zz 56) 13 (cond (Nat.beq zz 57) 14 (cond (Nat.beq zz 58) 15 (cond (Nat.beq zz 59) 16 (cond (Nat.beq zz 60) 17 (cond (Nat.beq zz 61) 18 (cond (Nat.beq zz 62) 19 (cond (Nat.beq zz 63) 20 (cond (Nat.beq zz 64) 21 (cond (Nat.beq zz 65) 22 (cond (Nat.beq zz 66) 23 (cond (Nat.beq zz 67) 24 (cond (Nat.beq zz 68) 25 (cond (Nat.beq zz 69) 26 (cond (Nat.beq zz 70) 27 (0))))))))))))))))))))))))))))) undef), rfl, hN⟩
set_option maxHeartbeats 4000000 in
set_option maxRecDepth 100000 in
theorem right7_4 (t : Array Value) (hs : t.size = 86) (w : World) {B X n cap q : Nat} {l s : Int} {i : Bool} {ao : Option Addr}
    (hq1 : t.getD 1 undef = .pointer (some ⟨B, 0, none⟩))
    (hq4 : t.getD 4 undef = .pointer (some ⟨X, 0, none⟩))
    (p0 : w.cell? ⟨B, 0, none⟩ = some (.int .i64 l)) (p1 : w.cell? ⟨B, 1, none⟩ = some (.slice ao n cap)) (q0 : w.cell? ⟨X, 0, none⟩ = some (.int .i64 s)) (q1 : w.cell? ⟨X, 1, none⟩ = some (.int .u8 q)) (q2 : w.cell? ⟨X, 2, none⟩ = some (.bool i)) (h256 : q < 256) (hl0 : 0 ≤ l) (hl1 : l < 2147483648)
    (hu : q ≤ 7) (he : ¬ s.tmod 2 = 0) (h1 : decide (s ≤ l) = false) (h2 : decide (l + 16 < s) = false) (h3 : decide (2147483647 < s) = true)  :
    reg_causeyref24_Right_7.wp Tryz.prog (Only fun a' W' => ∃ z : Nat → Value, a' = ⟨(((((((((((((((((((((((((((((t).setIfInBounds 43 (z 43)).setIfInBounds 44 (z 44)).setIfInBounds 45 (z 45)).setIfInBounds 46 (z 46)).setIfInBounds 47 (z 47)).setIfInBounds 48 (z 48)).setIfInBounds 49 (z 49)).setIfInBounds 50 (z 50)).setIfInBounds 51 (z 51)).setIfInBounds 52 (z 52)).setIfInBounds 53 (z 53)).setIfInBounds 54 (z 54)).setIfInBounds 55 (z 55)).setIfInBounds 56 (z 56)).setIfInBounds 57 (z 57)).setIfInBounds 58 (z 58)).setIfInBounds 59 (z 59)).setIfInBounds 60 (z 60)).setIfInBounds 61 (z 61)).setIfInBounds 62 (z 62)).setIfInBounds 63 (z 63)).setIfInBounds 64 (z 64)).setIfInBounds 65 (z 65)).setIfInBounds 66 (z 66)).setIfInBounds 67 (z 67)).setIfInBounds 68 (z 68)).setIfInBounds 69 (z 69)).setIfInBounds 70 (z 70)).setIfInBounds 71 (.bool true), []⟩ ∧ New w W') ⟨t, []⟩ w := by
  conv => arg 2; whnf
  obtain ⟨u, rfl⟩ := lit86 t hs
  have hq1 : u 1 = .pointer (some ⟨B, 0, none⟩) := hq1
  have hq4 : u 4 = .pointer (some ⟨X, 0, none⟩) := hq4
  rw [hq1, hq4]
  clear hq1 hq4 hs
  refine wp_region_held (S := fun W => New w W) (by kernel_rfl) ?_
  show wpAnyH _ _ _ _ _ 29 _ _ w.drew
  have hN : New w w.drew := (Mods.refl _ _).drew
  have hS : New w w.drew := (Mods.refl _ _).drew
  refine anyH_take 0 (some 43) (.pointer (some ⟨X, 1, none⟩)) rfl rfl (by kernel_rfl) (by kernel_rfl) (by kernel_rfl) (fun _ _ _ h => h.elim) (.inl ⟨by rfl, fun W hW => by go_simp⟩) hS ?_
  simp only [Act.put, List.setIfInBounds_toArray, List.set_cons_succ, List.set_cons_zero]
  refine anyH_take 1 (some 44) (.agg #[.int .u8 q, .bool i]) rfl rfl (by kernel_rfl) (by kernel_rfl) (by kernel_rfl) (fun _ _ _ h => h.elim) (.inl ⟨by rfl, fun W hW => by have hh : New w W := hW; have q0 := hh.cell q1 id; have q1 := hh.cell q2 id; go_simp⟩) hS ?_
  simp only [Act.put, List.setIfInBounds_toArray, List.set_cons_succ, List.set_cons_zero]
  refine wpAnyH_all (rs := [2]) (by kernel_rfl) (by simp) ?_
  simp only [List.mem_cons, List.not_mem_nil, or_false, forall_eq]
  refine opH_call (some 45) rfl (by rfl) rfl 53 #[.agg #[.int .u8 q, .bool i]] (by go_simp) (((right_pr14 q i h256 _).mono (R' := fun e w' => e = .returned (.bool true) ∧ New _ w') (by rintro e w' ⟨rfl, h⟩; exact ⟨by rw [decide_eq_true hu], h⟩)).mono ?_)
  rintro e w2 ⟨rfl, hk⟩
  have hS := hS.trans hk
  have hN := hN.trans hk
  clear hk
  refine ⟨_, rfl, hS, ?_⟩
  simp only [Act.put, List.setIfInBounds_toArray, List.set_cons_succ, List.set_cons_zero]
  refine anyH_take 3 (some 46) (.bool false) rfl rfl (by kernel_rfl) (by kernel_rfl) (by kernel_rfl) (fun _ _ _ h => h.elim) (.inl ⟨by rfl, fun W hW => by go_simp⟩) hS ?_
  simp only [Act.put, List.setIfInBounds_toArray, List.set_cons_succ, List.set_cons_zero]
  refine anyH_take 4 (some 47) (.bool false) rfl rfl (by kernel_rfl) (by kernel_rfl) (by kernel_rfl) (fun _ _ _ h => h.elim) (.inl ⟨by rfl, fun W hW => by go_simp⟩) hS ?_
  simp only [Act.put, List.setIfInBounds_toArray, List.set_cons_succ, List.set_cons_zero]
  refine anyH_take 5 (some 48) (.pointer (some ⟨X, 0, none⟩)) rfl rfl (by kernel_rfl) (by kernel_rfl) (by kernel_rfl) (fun _ _ _ h => h.elim) (.inl ⟨by rfl, fun W hW => by go_simp⟩) hS ?_
  simp only [Act.put, List.setIfInBounds_toArray, List.set_cons_succ, List.set_cons_zero]
  refine anyH_take 6 (some 49) (.int .i64 s) rfl rfl (by kernel_rfl) (by kernel_rfl) (by kernel_rfl) (fun _ _ _ h => h.elim) (.inl ⟨by rfl, fun W hW => by have hh : New w W := hW; have q := hh.cell q0 id; go_simp⟩) hS ?_
  simp only [Act.put, List.setIfInBounds_toArray, List.set_cons_succ, List.set_cons_zero]
  refine anyH_take 7 (some 50) (.int .i64 (s.tmod 2)) rfl rfl (by kernel_rfl) (by kernel_rfl) (by kernel_rfl) (fun _ _ _ h => h.elim) (.inl ⟨by rfl, fun W hW => by go_simp⟩) hS ?_
  simp only [Act.put, List.setIfInBounds_toArray, List.set_cons_succ, List.set_cons_zero]
  refine anyH_take 8 (some 51) (.bool false) rfl rfl (by kernel_rfl) (by kernel_rfl) (by kernel_rfl) (fun _ _ _ h => h.elim) (.inl ⟨by rfl, fun W hW => by go_simp; first | done | assumption⟩) hS ?_
  simp only [Act.put, List.setIfInBounds_toArray, List.set_cons_succ, List.set_cons_zero]
  refine anyH_take 9 (some 52) (.bool false) rfl rfl (by kernel_rfl) (by kernel_rfl) (by kernel_rfl) (fun _ _ _ h => h.elim) (.inl ⟨by rfl, fun W hW => by go_simp⟩) hS ?_
  simp only [Act.put, List.setIfInBounds_toArray, List.set_cons_succ, List.set_cons_zero]
  refine anyH_take 10 (some 53) (.bool false) rfl rfl (by kernel_rfl) (by kernel_rfl) (by kernel_rfl) (fun _ _ _ h => h.elim) (.inl ⟨by rfl, fun W hW => by go_simp⟩) hS ?_
  simp only [Act.put, List.setIfInBounds_toArray, List.set_cons_succ, List.set_cons_zero]
  refine anyH_take 11 (some 54) (.pointer (some ⟨X, 0, none⟩)) rfl rfl (by kernel_rfl) (by kernel_rfl) (by kernel_rfl) (fun _ _ _ h => h.elim) (.inl ⟨by rfl, fun W hW => by go_simp⟩) hS ?_
  simp only [Act.put, List.setIfInBounds_toArray, List.set_cons_succ, List.set_cons_zero]
  refine anyH_take 12 (some 55) (.int .i64 s) rfl rfl (by kernel_rfl) (by kernel_rfl) (by kernel_rfl) (fun _ _ _ h => h.elim) (.inl ⟨by rfl, fun W hW => by have hh : New w W := hW; have q := hh.cell q0 id; go_simp⟩) hS ?_
  simp only [Act.put, List.setIfInBounds_toArray, List.set_cons_succ, List.set_cons_zero]
  refine anyH_take 13 (some 56) (.pointer (some ⟨B, 0, none⟩)) rfl rfl (by kernel_rfl) (by kernel_rfl) (by kernel_rfl) (fun _ _ _ h => h.elim) (.inl ⟨by rfl, fun W hW => by go_simp⟩) hS ?_
  simp only [Act.put, List.setIfInBounds_toArray, List.set_cons_succ, List.set_cons_zero]
  refine anyH_take 14 (some 57) (.int .i64 l) rfl rfl (by kernel_rfl) (by kernel_rfl) (by kernel_rfl) (fun _ _ _ h => h.elim) (.inl ⟨by rfl, fun W hW => by have hh : New w W := hW; have q := hh.cell p0 id; go_simp⟩) hS ?_
  simp only [Act.put, List.setIfInBounds_toArray, List.set_cons_succ, List.set_cons_zero]
  refine anyH_take 15 (some 58) (.bool false) rfl rfl (by kernel_rfl) (by kernel_rfl) (by kernel_rfl) (fun _ _ _ h => h.elim) (.inl ⟨by rfl, fun W hW => by go_simp; first | done | assumption⟩) hS ?_
  simp only [Act.put, List.setIfInBounds_toArray, List.set_cons_succ, List.set_cons_zero]
  refine anyH_take 16 (some 59) (.bool false) rfl rfl (by kernel_rfl) (by kernel_rfl) (by kernel_rfl) (fun _ _ _ h => h.elim) (.inl ⟨by rfl, fun W hW => by go_simp⟩) hS ?_
  simp only [Act.put, List.setIfInBounds_toArray, List.set_cons_succ, List.set_cons_zero]
  refine anyH_take 17 (some 60) (.bool false) rfl rfl (by kernel_rfl) (by kernel_rfl) (by kernel_rfl) (fun _ _ _ h => h.elim) (.inl ⟨by rfl, fun W hW => by go_simp⟩) hS ?_
  simp only [Act.put, List.setIfInBounds_toArray, List.set_cons_succ, List.set_cons_zero]
  refine anyH_take 18 (some 61) (.pointer (some ⟨X, 0, none⟩)) rfl rfl (by kernel_rfl) (by kernel_rfl) (by kernel_rfl) (fun _ _ _ h => h.elim) (.inl ⟨by rfl, fun W hW => by go_simp⟩) hS ?_
  simp only [Act.put, List.setIfInBounds_toArray, List.set_cons_succ, List.set_cons_zero]
  refine anyH_take 19 (some 62) (.int .i64 s) rfl rfl (by kernel_rfl) (by kernel_rfl) (by kernel_rfl) (fun _ _ _ h => h.elim) (.inl ⟨by rfl, fun W hW => by have hh : New w W := hW; have q := hh.cell q0 id; go_simp⟩) hS ?_
  simp only [Act.put, List.setIfInBounds_toArray, List.set_cons_succ, List.set_cons_zero]
  refine anyH_take 20 (some 63) (.agg #[.int .i64 l, .slice ao n cap]) rfl rfl (by kernel_rfl) (by kernel_rfl) (by kernel_rfl) (fun _ _ _ h => h.elim) (.inl ⟨by rfl, fun W hW => by have hh : New w W := hW; have q0 := hh.cell p0 id; have q1 := hh.cell p1 id; go_simp⟩) hS ?_
  simp only [Act.put, List.setIfInBounds_toArray, List.set_cons_succ, List.set_cons_zero]
  refine wpAnyH_all (rs := [21]) (by kernel_rfl) (by simp) ?_
  simp only [List.mem_cons, List.not_mem_nil, or_false, forall_eq]
  refine opH_call (some 64) rfl (by rfl) rfl 54 #[.agg #[.int .i64 l, .slice ao n cap]] (by go_simp) ((reach24 l _ _ hl0 hl1).mono ?_)
  rintro e w21 ⟨rfl, hk⟩
  have hS := hS.trans hk
  have hN := hN.trans hk
  clear hk
  refine ⟨_, rfl, hS, ?_⟩
  simp only [Act.put, List.setIfInBounds_toArray, List.set_cons_succ, List.set_cons_zero]
  refine anyH_take 22 (some 65) (.bool false) rfl rfl (by kernel_rfl) (by kernel_rfl) (by kernel_rfl) (fun _ _ _ h => h.elim) (.inl ⟨by rfl, fun W hW => by go_simp; first | done | assumption⟩) hS ?_
  simp only [Act.put, List.setIfInBounds_toArray, List.set_cons_succ, List.set_cons_zero]
  refine anyH_take 23 (some 66) (.bool false) rfl rfl (by kernel_rfl) (by kernel_rfl) (by kernel_rfl) (fun _ _ _ h => h.elim) (.inl ⟨by rfl, fun W hW => by go_simp⟩) hS ?_
  simp only [Act.put, List.setIfInBounds_toArray, List.set_cons_succ, List.set_cons_zero]
  refine anyH_take 24 (some 67) (.bool false) rfl rfl (by kernel_rfl) (by kernel_rfl) (by kernel_rfl) (fun _ _ _ h => h.elim) (.inl ⟨by rfl, fun W hW => by go_simp⟩) hS ?_
  simp only [Act.put, List.setIfInBounds_toArray, List.set_cons_succ, List.set_cons_zero]
  refine anyH_take 25 (some 68) (.pointer (some ⟨X, 0, none⟩)) rfl rfl (by kernel_rfl) (by kernel_rfl) (by kernel_rfl) (fun _ _ _ h => h.elim) (.inl ⟨by rfl, fun W hW => by go_simp⟩) hS ?_
  simp only [Act.put, List.setIfInBounds_toArray, List.set_cons_succ, List.set_cons_zero]
  refine anyH_take 26 (some 69) (.int .i64 s) rfl rfl (by kernel_rfl) (by kernel_rfl) (by kernel_rfl) (fun _ _ _ h => h.elim) (.inl ⟨by rfl, fun W hW => by have hh : New w W := hW; have q := hh.cell q0 id; go_simp⟩) hS ?_
  simp only [Act.put, List.setIfInBounds_toArray, List.set_cons_succ, List.set_cons_zero]
  refine anyH_take 27 (some 70) (.bool true) rfl rfl (by kernel_rfl) (by kernel_rfl) (by kernel_rfl) (fun _ _ _ h => h.elim) (.inl ⟨by rfl, fun W hW => by go_simp; first | done | assumption⟩) hS ?_
  simp only [Act.put, List.setIfInBounds_toArray, List.set_cons_succ, List.set_cons_zero]
  refine anyH_take 28 (some 71) (.bool true) rfl rfl (by kernel_rfl) (by kernel_rfl) (by kernel_rfl) (fun _ _ _ h => h.elim) (.inl ⟨by rfl, fun W hW => by go_simp⟩) hS ?_
  simp only [Act.put, List.setIfInBounds_toArray, List.set_cons_succ, List.set_cons_zero]
  refine wpAnyH_done (by kernel_rfl) ?_ _
  exact ⟨(fun zz => ([.pointer (some ⟨X, 1, none⟩), .agg #[.int .u8 q, .bool i], .bool true, .bool false, .bool false, .pointer (some ⟨X, 0, none⟩), .int .i64 s, .int .i64 (s.tmod 2), .bool false, .bool false, .bool false, .pointer (some ⟨X, 0, none⟩), .int .i64 s, .pointer (some ⟨B, 0, none⟩), .int .i64 l, .bool false, .bool false, .bool false, .pointer (some ⟨X, 0, none⟩), .int .i64 s, .agg #[.int .i64 l, .slice ao n cap], .int .i64 (l + 16), .bool false, .bool false, .bool false, .pointer (some ⟨X, 0, none⟩), .int .i64 s, .bool true] : List Value).getD (cond (Nat.beq zz 43) 0 (cond (Nat.beq zz 44) 1 (cond (Nat.beq zz 45) 2 (cond (Nat.beq zz 46) 3 (cond (Nat.beq zz 47) 4 (cond (Nat.beq zz 48) 5 (cond (Nat.beq zz 49) 6 (cond (Nat.beq zz 50) 7 (cond (Nat.beq zz 51) 8 (cond (Nat.beq zz 52) 9 (cond (Nat.beq zz 53) 10 (cond (Nat.beq zz 54) 11 (cond (Nat.beq zz 55) 12 (cond (Nat.beq zz 56) 13 (cond (Nat.beq zz 57) 14 (cond (Nat.beq zz 58) 15 (cond (Nat.beq zz 59) 16 (cond (Nat.beq zz 60) 17 (cond (Nat.beq zz 61) 18 (cond (Nat.beq zz 62) 19 (cond (Nat.beq zz 63) 20 (cond (Nat.beq zz 64) 21 (cond (Nat.beq zz 65) 22 (cond (Nat.beq zz 66) 23 (cond (Nat.beq zz 67) 24 (cond (Nat.beq zz 68) 25 (cond (Nat.beq zz 69) 26 (cond (Nat.beq zz 70) 27 (0))))))))))))))))))))))))))))) undef), rfl, hN⟩
set_option maxHeartbeats 4000000 in
set_option maxRecDepth 100000 in
theorem right7_5 (t : Array Value) (hs : t.size = 86) (w : World) {B X n cap q : Nat} {l s : Int} {i : Bool} {ao : Option Addr}
    (hq1 : t.getD 1 undef = .pointer (some ⟨B, 0, none⟩))
    (hq4 : t.getD 4 undef = .pointer (some ⟨X, 0, none⟩))
    (p0 : w.cell? ⟨B, 0, none⟩ = some (.int .i64 l)) (p1 : w.cell? ⟨B, 1, none⟩ = some (.slice ao n cap)) (q0 : w.cell? ⟨X, 0, none⟩ = some (.int .i64 s)) (q1 : w.cell? ⟨X, 1, none⟩ = some (.int .u8 q)) (q2 : w.cell? ⟨X, 2, none⟩ = some (.bool i)) (h256 : q < 256) (hl0 : 0 ≤ l) (hl1 : l < 2147483648)
    (hu : q ≤ 7) (he : ¬ s.tmod 2 = 0) (h1 : decide (s ≤ l) = false) (h2 : decide (l + 16 < s) = false) (h3 : decide (2147483647 < s) = false)  :
    reg_causeyref24_Right_7.wp Tryz.prog (Only fun a' W' => ∃ z : Nat → Value, a' = ⟨(((((((((((((((((((((((((((((t).setIfInBounds 43 (z 43)).setIfInBounds 44 (z 44)).setIfInBounds 45 (z 45)).setIfInBounds 46 (z 46)).setIfInBounds 47 (z 47)).setIfInBounds 48 (z 48)).setIfInBounds 49 (z 49)).setIfInBounds 50 (z 50)).setIfInBounds 51 (z 51)).setIfInBounds 52 (z 52)).setIfInBounds 53 (z 53)).setIfInBounds 54 (z 54)).setIfInBounds 55 (z 55)).setIfInBounds 56 (z 56)).setIfInBounds 57 (z 57)).setIfInBounds 58 (z 58)).setIfInBounds 59 (z 59)).setIfInBounds 60 (z 60)).setIfInBounds 61 (z 61)).setIfInBounds 62 (z 62)).setIfInBounds 63 (z 63)).setIfInBounds 64 (z 64)).setIfInBounds 65 (z 65)).setIfInBounds 66 (z 66)).setIfInBounds 67 (z 67)).setIfInBounds 68 (z 68)).setIfInBounds 69 (z 69)).setIfInBounds 70 (z 70)).setIfInBounds 71 (.bool false), []⟩ ∧ New w W') ⟨t, []⟩ w := by
  conv => arg 2; whnf
  obtain ⟨u, rfl⟩ := lit86 t hs
  have hq1 : u 1 = .pointer (some ⟨B, 0, none⟩) := hq1
  have hq4 : u 4 = .pointer (some ⟨X, 0, none⟩) := hq4
  rw [hq1, hq4]
  clear hq1 hq4 hs
  refine wp_region_held (S := fun W => New w W) (by kernel_rfl) ?_
  show wpAnyH _ _ _ _ _ 29 _ _ w.drew
  have hN : New w w.drew := (Mods.refl _ _).drew
  have hS : New w w.drew := (Mods.refl _ _).drew
  refine anyH_take 0 (some 43) (.pointer (some ⟨X, 1, none⟩)) rfl rfl (by kernel_rfl) (by kernel_rfl) (by kernel_rfl) (fun _ _ _ h => h.elim) (.inl ⟨by rfl, fun W hW => by go_simp⟩) hS ?_
  simp only [Act.put, List.setIfInBounds_toArray, List.set_cons_succ, List.set_cons_zero]
  refine anyH_take 1 (some 44) (.agg #[.int .u8 q, .bool i]) rfl rfl (by kernel_rfl) (by kernel_rfl) (by kernel_rfl) (fun _ _ _ h => h.elim) (.inl ⟨by rfl, fun W hW => by have hh : New w W := hW; have q0 := hh.cell q1 id; have q1 := hh.cell q2 id; go_simp⟩) hS ?_
  simp only [Act.put, List.setIfInBounds_toArray, List.set_cons_succ, List.set_cons_zero]
  refine wpAnyH_all (rs := [2]) (by kernel_rfl) (by simp) ?_
  simp only [List.mem_cons, List.not_mem_nil, or_false, forall_eq]
  refine opH_call (some 45) rfl (by rfl) rfl 53 #[.agg #[.int .u8 q, .bool i]] (by go_simp) (((right_pr14 q i h256 _).mono (R' := fun e w' => e = .returned (.bool true) ∧ New _ w') (by rintro e w' ⟨rfl, h⟩; exact ⟨by rw [decide_eq_true hu], h⟩)).mono ?_)
  rintro e w2 ⟨rfl, hk⟩
  have hS := hS.trans hk
  have hN := hN.trans hk
  clear hk
  refine ⟨_, rfl, hS, ?_⟩
  simp only [Act.put, List.setIfInBounds_toArray, List.set_cons_succ, List.set_cons_zero]
  refine anyH_take 3 (some 46) (.bool false) rfl rfl (by kernel_rfl) (by kernel_rfl) (by kernel_rfl) (fun _ _ _ h => h.elim) (.inl ⟨by rfl, fun W hW => by go_simp⟩) hS ?_
  simp only [Act.put, List.setIfInBounds_toArray, List.set_cons_succ, List.set_cons_zero]
  refine anyH_take 4 (some 47) (.bool false) rfl rfl (by kernel_rfl) (by kernel_rfl) (by kernel_rfl) (fun _ _ _ h => h.elim) (.inl ⟨by rfl, fun W hW => by go_simp⟩) hS ?_
  simp only [Act.put, List.setIfInBounds_toArray, List.set_cons_succ, List.set_cons_zero]
  refine anyH_take 5 (some 48) (.pointer (some ⟨X, 0, none⟩)) rfl rfl (by kernel_rfl) (by kernel_rfl) (by kernel_rfl) (fun _ _ _ h => h.elim) (.inl ⟨by rfl, fun W hW => by go_simp⟩) hS ?_
  simp only [Act.put, List.setIfInBounds_toArray, List.set_cons_succ, List.set_cons_zero]
  refine anyH_take 6 (some 49) (.int .i64 s) rfl rfl (by kernel_rfl) (by kernel_rfl) (by kernel_rfl) (fun _ _ _ h => h.elim) (.inl ⟨by rfl, fun W hW => by have hh : New w W := hW; have q := hh.cell q0 id; go_simp⟩) hS ?_
  simp only [Act.put, List.setIfInBounds_toArray, List.set_cons_succ, List.set_cons_zero]
  refine anyH_take 7 (some 50) (.int .i64 (s.tmod 2)) rfl rfl (by kernel_rfl) (by kernel_rfl) (by kernel_rfl) (fun _ _ _ h => h.elim) (.inl ⟨by rfl, fun W hW => by go_simp⟩) hS ?_
  simp only [Act.put, List.setIfInBounds_toArray, List.set_cons_succ, List.set_cons_zero]
  refine anyH_take 8 (some 51) (.bool false) rfl rfl (by kernel_rfl) (by kernel_rfl) (by kernel_rfl) (fun _ _ _ h => h.elim) (.inl ⟨by rfl, fun W hW => by go_simp; first | done | assumption⟩) hS ?_
  simp only [Act.put, List.setIfInBounds_toArray, List.set_cons_succ, List.set_cons_zero]
  refine anyH_take 9 (some 52) (.bool false) rfl rfl (by kernel_rfl) (by kernel_rfl) (by kernel_rfl) (fun _ _ _ h => h.elim) (.inl ⟨by rfl, fun W hW => by go_simp⟩) hS ?_
  simp only [Act.put, List.setIfInBounds_toArray, List.set_cons_succ, List.set_cons_zero]
  refine anyH_take 10 (some 53) (.bool false) rfl rfl (by kernel_rfl) (by kernel_rfl) (by kernel_rfl) (fun _ _ _ h => h.elim) (.inl ⟨by rfl, fun W hW => by go_simp⟩) hS ?_
  simp only [Act.put, List.setIfInBounds_toArray, List.set_cons_succ, List.set_cons_zero]
  refine anyH_take 11 (some 54) (.pointer (some ⟨X, 0, none⟩)) rfl rfl (by kernel_rfl) (by kernel_rfl) (by kernel_rfl) (fun _ _ _ h => h.elim) (.inl ⟨by rfl, fun W hW => by go_simp⟩) hS ?_
  simp only [Act.put, List.setIfInBounds_toArray, List.set_cons_succ, List.set_cons_zero]
  refine anyH_take 12 (some 55) (.int .i64 s) rfl rfl (by kernel_rfl) (by kernel_rfl) (by kernel_rfl) (fun _ _ _ h => h.elim) (.inl ⟨by rfl, fun W hW => by have hh : New w W := hW; have q := hh.cell q0 id; go_simp⟩) hS ?_
  simp only [Act.put, List.setIfInBounds_toArray, List.set_cons_succ, List.set_cons_zero]
  refine anyH_take 13 (some 56) (.pointer (some ⟨B, 0, none⟩)) rfl rfl (by kernel_rfl) (by kernel_rfl) (by kernel_rfl) (fun _ _ _ h => h.elim) (.inl ⟨by rfl, fun W hW => by go_simp⟩) hS ?_
  simp only [Act.put, List.setIfInBounds_toArray, List.set_cons_succ, List.set_cons_zero]
  refine anyH_take 14 (some 57) (.int .i64 l) rfl rfl (by kernel_rfl) (by kernel_rfl) (by kernel_rfl) (fun _ _ _ h => h.elim) (.inl ⟨by rfl, fun W hW => by have hh : New w W := hW; have q := hh.cell p0 id; go_simp⟩) hS ?_
  simp only [Act.put, List.setIfInBounds_toArray, List.set_cons_succ, List.set_cons_zero]
  refine anyH_take 15 (some 58) (.bool false) rfl rfl (by kernel_rfl) (by kernel_rfl) (by kernel_rfl) (fun _ _ _ h => h.elim) (.inl ⟨by rfl, fun W hW => by go_simp; first | done | assumption⟩) hS ?_
  simp only [Act.put, List.setIfInBounds_toArray, List.set_cons_succ, List.set_cons_zero]
  refine anyH_take 16 (some 59) (.bool false) rfl rfl (by kernel_rfl) (by kernel_rfl) (by kernel_rfl) (fun _ _ _ h => h.elim) (.inl ⟨by rfl, fun W hW => by go_simp⟩) hS ?_
  simp only [Act.put, List.setIfInBounds_toArray, List.set_cons_succ, List.set_cons_zero]
  refine anyH_take 17 (some 60) (.bool false) rfl rfl (by kernel_rfl) (by kernel_rfl) (by kernel_rfl) (fun _ _ _ h => h.elim) (.inl ⟨by rfl, fun W hW => by go_simp⟩) hS ?_
  simp only [Act.put, List.setIfInBounds_toArray, List.set_cons_succ, List.set_cons_zero]
  refine anyH_take 18 (some 61) (.pointer (some ⟨X, 0, none⟩)) rfl rfl (by kernel_rfl) (by kernel_rfl) (by kernel_rfl) (fun _ _ _ h => h.elim) (.inl ⟨by rfl, fun W hW => by go_simp⟩) hS ?_
  simp only [Act.put, List.setIfInBounds_toArray, List.set_cons_succ, List.set_cons_zero]
  refine anyH_take 19 (some 62) (.int .i64 s) rfl rfl (by kernel_rfl) (by kernel_rfl) (by kernel_rfl) (fun _ _ _ h => h.elim) (.inl ⟨by rfl, fun W hW => by have hh : New w W := hW; have q := hh.cell q0 id; go_simp⟩) hS ?_
  simp only [Act.put, List.setIfInBounds_toArray, List.set_cons_succ, List.set_cons_zero]
  refine anyH_take 20 (some 63) (.agg #[.int .i64 l, .slice ao n cap]) rfl rfl (by kernel_rfl) (by kernel_rfl) (by kernel_rfl) (fun _ _ _ h => h.elim) (.inl ⟨by rfl, fun W hW => by have hh : New w W := hW; have q0 := hh.cell p0 id; have q1 := hh.cell p1 id; go_simp⟩) hS ?_
  simp only [Act.put, List.setIfInBounds_toArray, List.set_cons_succ, List.set_cons_zero]
  refine wpAnyH_all (rs := [21]) (by kernel_rfl) (by simp) ?_
  simp only [List.mem_cons, List.not_mem_nil, or_false, forall_eq]
  refine opH_call (some 64) rfl (by rfl) rfl 54 #[.agg #[.int .i64 l, .slice ao n cap]] (by go_simp) ((reach24 l _ _ hl0 hl1).mono ?_)
  rintro e w21 ⟨rfl, hk⟩
  have hS := hS.trans hk
  have hN := hN.trans hk
  clear hk
  refine ⟨_, rfl, hS, ?_⟩
  simp only [Act.put, List.setIfInBounds_toArray, List.set_cons_succ, List.set_cons_zero]
  refine anyH_take 22 (some 65) (.bool false) rfl rfl (by kernel_rfl) (by kernel_rfl) (by kernel_rfl) (fun _ _ _ h => h.elim) (.inl ⟨by rfl, fun W hW => by go_simp; first | done | assumption⟩) hS ?_
  simp only [Act.put, List.setIfInBounds_toArray, List.set_cons_succ, List.set_cons_zero]
  refine anyH_take 23 (some 66) (.bool false) rfl rfl (by kernel_rfl) (by kernel_rfl) (by kernel_rfl) (fun _ _ _ h => h.elim) (.inl ⟨by rfl, fun W hW => by go_simp⟩) hS ?_
  simp only [Act.put, List.setIfInBounds_toArray, List.set_cons_succ, List.set_cons_zero]
  refine anyH_take 24 (some 67) (.bool false) rfl rfl (by kernel_rfl) (by kernel_rfl) (by kernel_rfl) (fun _ _ _ h => h.elim) (.inl ⟨by rfl, fun W hW => by go_simp⟩) hS ?_
  simp only [Act.put, List.setIfInBounds_toArray, List.set_cons_succ, List.set_cons_zero]
  refine anyH_take 25 (some 68) (.pointer (some ⟨X, 0, none⟩)) rfl rfl (by kernel_rfl) (by kernel_rfl) (by kernel_rfl) (fun _ _ _ h => h.elim) (.inl ⟨by rfl, fun W hW => by go_simp⟩) hS ?_
  simp only [Act.put, List.setIfInBounds_toArray, List.set_cons_succ, List.set_cons_zero]
  refine anyH_take 26 (some 69) (.int .i64 s) rfl rfl (by kernel_rfl) (by kernel_rfl) (by kernel_rfl) (fun _ _ _ h => h.elim) (.inl ⟨by rfl, fun W hW => by have hh : New w W := hW; have q := hh.cell q0 id; go_simp⟩) hS ?_
  simp only [Act.put, List.setIfInBounds_toArray, List.set_cons_succ, List.set_cons_zero]
  refine anyH_take 27 (some 70) (.bool false) rfl rfl (by kernel_rfl) (by kernel_rfl) (by kernel_rfl) (fun _ _ _ h => h.elim) (.inl ⟨by rfl, fun W hW => by go_simp; first | done | assumption⟩) hS ?_
  simp only [Act.put, List.setIfInBounds_toArray, List.set_cons_succ, List.set_cons_zero]
  refine anyH_take 28 (some 71) (.bool false) rfl rfl (by kernel_rfl) (by kernel_rfl) (by kernel_rfl) (fun _ _ _ h => h.elim) (.inl ⟨by rfl, fun W hW => by go_simp⟩) hS ?_
  simp only [Act.put, List.setIfInBounds_toArray, List.set_cons_succ, List.set_cons_zero]
  refine wpAnyH_done (by kernel_rfl) ?_ _
  exact ⟨(fun zz => ([.pointer (some ⟨X, 1, none⟩), .agg #[.int .u8 q, .bool i], .bool true, .bool false, .bool false, .pointer (some ⟨X, 0, none⟩), .int .i64 s, .int .i64 (s.tmod 2), .bool false, .bool false, .bool false, .pointer (some ⟨X, 0, none⟩), .int .i64 s, .pointer (some ⟨B, 0, none⟩), .int .i64 l, .bool false, .bool false, .bool false, .pointer (some ⟨X, 0, none⟩), .int .i64 s, .agg #[.int .i64 l, .slice ao n cap], .int .i64 (l + 16), .bool false, .bool false, .bool false, .pointer (some ⟨X, 0, none⟩), .int .i64 s, .bool false] : List Value).getD (cond (Nat.beq zz 43) 0 (cond (Nat.beq zz 44) 1 (cond (Nat.beq zz 45) 2 (cond (Nat.beq zz 46) 3 (cond (Nat.beq zz 47) 4 (cond (Nat.beq zz 48) 5 (cond (Nat.beq zz 49) 6 (cond (Nat.beq zz 50) 7 (cond (Nat.beq zz 51) 8 (cond (Nat.beq zz 52) 9 (cond (Nat.beq zz 53) 10 (cond (Nat.beq zz 54) 11 (cond (Nat.beq zz 55) 12 (cond (Nat.beq zz 56) 13 (cond (Nat.beq zz 57) 14 (cond (Nat.beq zz 58) 15 (cond (Nat.beq zz 59) 16 (cond (Nat.beq zz 60) 17 (cond (Nat.beq zz 61) 18 (cond (Nat.beq zz 62) 19 (cond (Nat.beq zz 63) 20 (cond (Nat.beq zz 64) 21 (cond (Nat.beq zz 65) 22 (cond (Nat.beq zz 66) 23 (cond (Nat.beq zz 67) 24 (cond (Nat.beq zz 68) 25 (cond (Nat.beq zz 69) 26 (cond (Nat.beq zz 70) 27 (0))))))))))))))))))))))))))))) undef), rfl, hN⟩
noncomputable def reg_causeyref24_Right_12 : Code := ((Tryz.f20.body.bind (regionOf 12)).getD .skip)
set_option maxHeartbeats 4000000 in
set_option maxRecDepth 100000 in
theorem right12_24 (t : Array Value) (hs : t.size = 86) (w : World) {B X b1 o1 k n m1 : Nat} {s s2 : Int} {y : Bool}
    (hq1 : t.getD 1 undef = .pointer (some ⟨B, 0, none⟩))
    (hq4 : t.getD 4 undef = .pointer (some ⟨X, 0, none⟩))
    (hq5 : t.getD 5 undef = .int .i64 k)
    (p1 : w.cell? ⟨B, 1, none⟩ = some (.slice (some ⟨b1, o1, none⟩) n m1)) (q0 : w.cell? ⟨X, 0, none⟩ = some (.int .i64 s)) (c0 : w.cell? ⟨b1, o1 + k * 3, none⟩ = some (.int .i64 s2)) (hk : k < n) (hy : (s2 == s) = y) :
    reg_causeyref24_Right_12.wp Tryz.prog (Only fun a' W' => ∃ z : Nat → Value, a' = ⟨(((((((((t).setIfInBounds 77 (z 77)).setIfInBounds 78 (z 78)).setIfInBounds 79 (z 79)).setIfInBounds 80 (z 80)).setIfInBounds 81 (z 81)).setIfInBounds 82 (z 82)).setIfInBounds 83 (z 83)).setIfInBounds 84 (z 84)).setIfInBounds 85 (.bool y), []⟩ ∧ New w W') ⟨t, []⟩ w := by
  conv => arg 2; whnf
  obtain ⟨u, rfl⟩ := lit86 t hs
  have hq1 : u 1 = .pointer (some ⟨B, 0, none⟩) := hq1
  have hq4 : u 4 = .pointer (some ⟨X, 0, none⟩) := hq4
  have hq5 : u 5 = .int .i64 k := hq5
  rw [hq1, hq4, hq5]
  clear hq1 hq4 hq5 hs
  have hid : decide ((k : Int) < (n : Int)) = true := decide_eq_true (by omega)
  refine wp_region_held (S := fun W => New w W) (by kernel_rfl) ?_
  show wpAnyH _ _ _ _ _ 9 _ _ w.drew
  have hN : New w w.drew := (Mods.refl _ _).drew
  have hS : New w w.drew := (Mods.refl _ _).drew
  refine anyH_take 0 (some 77) (.pointer (some ⟨B, 1, none⟩)) rfl rfl (by kernel_rfl) (by kernel_rfl) (by kernel_rfl) (fun _ _ _ h => h.elim) (.inl ⟨by rfl, fun W hW => by go_simp⟩) hS ?_
  simp only [Act.put, List.setIfInBounds_toArray, List.set_cons_succ, List.set_cons_zero]
  refine anyH_take 1 (some 78) (.slice (some ⟨b1, o1, none⟩) n m1) rfl rfl (by kernel_rfl) (by kernel_rfl) (by kernel_rfl) (fun _ _ _ h => h.elim) (.inl ⟨by rfl, fun W hW => by have hh : New w W := hW; have q := hh.cell p1 id; go_simp⟩) hS ?_
  simp only [Act.put, List.setIfInBounds_toArray, List.set_cons_succ, List.set_cons_zero]
  refine anyH_take 2 (some 79) (.int .i64 k) rfl rfl (by kernel_rfl) (by kernel_rfl) (by kernel_rfl) (fun _ _ _ h => h.elim) (.inl ⟨by rfl, fun W hW => by go_simp⟩) hS ?_
  simp only [Act.put, List.setIfInBounds_toArray, List.set_cons_succ, List.set_cons_zero]
  refine anyH_take 3 (some 80) (.pointer (some ⟨b1, o1 + k * 3, none⟩)) rfl rfl (by kernel_rfl) (by kernel_rfl) (by kernel_rfl) (fun _ _ _ h => h.elim) (.inl ⟨by rfl, fun W hW => by go_simp⟩) hS ?_
  simp only [Act.put, List.setIfInBounds_toArray, List.set_cons_succ, List.set_cons_zero]
  refine anyH_take 4 (some 81) (.pointer (some ⟨b1, o1 + k * 3, none⟩)) rfl rfl (by kernel_rfl) (by kernel_rfl) (by kernel_rfl) (fun _ _ _ h => h.elim) (.inl ⟨by rfl, fun W hW => by go_simp⟩) hS ?_
  simp only [Act.put, List.setIfInBounds_toArray, List.set_cons_succ, List.set_cons_zero]
  refine anyH_take 5 (some 82) (.int .i64 s2) rfl rfl (by kernel_rfl) (by kernel_rfl) (by kernel_rfl) (fun _ _ _ h => h.elim) (.inl ⟨by rfl, fun W hW => by have hh : New w W := hW; have q := hh.cell c0 id; go_simp⟩) hS ?_
  simp only [Act.put, List.setIfInBounds_toArray, List.set_cons_succ, List.set_cons_zero]
  refine anyH_take 6 (some 83) (.pointer (some ⟨X, 0, none⟩)) rfl rfl (by kernel_rfl) (by kernel_rfl) (by kernel_rfl) (fun _ _ _ h => h.elim) (.inl ⟨by rfl, fun W hW => by go_simp⟩) hS ?_
  simp only [Act.put, List.setIfInBounds_toArray, List.set_cons_succ, List.set_cons_zero]
  refine anyH_take 7 (some 84) (.int .i64 s) rfl rfl (by kernel_rfl) (by kernel_rfl) (by kernel_rfl) (fun _ _ _ h => h.elim) (.inl ⟨by rfl, fun W hW => by have hh : New w W := hW; have q := hh.cell q0 id; go_simp⟩) hS ?_
  simp only [Act.put, List.setIfInBounds_toArray, List.set_cons_succ, List.set_cons_zero]
  refine anyH_take 8 (some 85) (.bool y) rfl rfl (by kernel_rfl) (by kernel_rfl) (by kernel_rfl) (fun _ _ _ h => h.elim) (.inl ⟨by rfl, fun W hW => by go_simp; first | done | assumption⟩) hS ?_
  simp only [Act.put, List.setIfInBounds_toArray, List.set_cons_succ, List.set_cons_zero]
  refine wpAnyH_done (by kernel_rfl) ?_ _
  exact ⟨(fun zz => ([.pointer (some ⟨B, 1, none⟩), .slice (some ⟨b1, o1, none⟩) n m1, .int .i64 k, .pointer (some ⟨b1, o1 + k * 3, none⟩), .pointer (some ⟨b1, o1 + k * 3, none⟩), .int .i64 s2, .pointer (some ⟨X, 0, none⟩), .int .i64 s] : List Value).getD (cond (Nat.beq zz 77) 0 (cond (Nat.beq zz 78) 1 (cond (Nat.beq zz 79) 2 (cond (Nat.beq zz 80) 3 (cond (Nat.beq zz 81) 4 (cond (Nat.beq zz 82) 5 (cond (Nat.beq zz 83) 6 (cond (Nat.beq zz 84) 7 (0))))))))) undef), rfl, hN⟩
end Go.Proofs.YtkiiameibdhdfaaGreatDoor
