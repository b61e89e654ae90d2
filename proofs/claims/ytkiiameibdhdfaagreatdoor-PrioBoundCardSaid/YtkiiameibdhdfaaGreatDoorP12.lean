/- Texts joined. -/
import Derived.Test.YtkiiameibdhdfaaGreatDoorP11
import Derived.Test.YtkiiameibdhdfaaGreatDoorP04
import Derived.Test.YtkiiameibdhdfaaGreatDoorP00
set_option linter.unusedSimpArgs false
set_option linter.unusedVariables false
/- Right: the region ahead (the program). -/
namespace Go.Proofs.YtkiiameibdhdfaaGreatDoor
open Go.RowKit Go.Shelf Go.Cs
attribute [local go_sem] Oper.semAt_some
set_option linter.unusedVariables false
set_option linter.unusedSimpArgs false
theorem run_lenMap {o : Oper} {a : Act} {w : World} {s : Operand} {M n : Nat} {f : Int → Option Value} (hop : o.op = .call { callee := .builtin .len, args := #[s], argTypes := #[88] })
    (hs : a.eval s = .map (some M)) (h : MapD (k1 .i64) w M n f) : (execOp a.eval o).run Tryz.prog w = .ok (.value (.int .i64 n)) w := by
  obtain ⟨es, c, h1, rfl, -⟩ := h
  have hg := MapKept.run_getObj_map (P := Tryz.prog) h1
  simp [execOp, hop, resolve, invoke, builtin, hs, Builtin.len_, hg, Result.andThen, Sem.run_bind]
  rfl
theorem lit48 (t : Array Value) (h : t.size = 48) : ∃ u : Nat → Value, t = (u 0 :: u 1 :: u 2 :: u 3 :: u 4 :: u 5 :: u 6 :: u 7 :: u 8 :: u 9 :: u 10 :: u 11 :: u 12 :: u 13 :: u 14 :: u 15 :: u 16 :: u 17 :: u 18 :: u 19 :: u 20 :: u 21 :: u 22 :: u 23 :: u 24 :: u 25 :: u 26 :: u 27 :: u 28 :: u 29 :: u 30 :: u 31 :: u 32 :: u 33 :: u 34 :: u 35 :: u 36 :: u 37 :: u 38 :: u 39 :: u 40 :: u 41 :: u 42 :: u 43 :: u 44 :: u 45 :: u 46 :: u 47 :: ([] : List Value)).toArray := ⟨fun i => t.getD i undef, range_lit t 48 h⟩
noncomputable def reg_prio_Right_1 : Code := ((Tryz.f43.body.bind (regionOf 1)).getD .skip)
set_option maxHeartbeats 4000000 in
set_option maxRecDepth 100000 in
theorem right1_bad (t : Array Value) (hs : t.size = 48) (w : World) {B n cap : Nat} {l : Int} {ao : Option Addr}
    (hq1 : t.getD 1 undef = .pointer (some ⟨B, 0, none⟩))
    (p0 : w.cell? ⟨B, 0, none⟩ = some (.int .i64 l)) (p1 : w.cell? ⟨B, 1, none⟩ = some (.slice ao n cap))
    (hz : ¬ l = 0) (ho : oddP l = false)
     :
    reg_prio_Right_1.wp Tryz.prog (Only fun a' W' => ∃ z : Nat → Value, a' = ⟨((((((((((((((((((((((((t).setIfInBounds 5 (z 5)).setIfInBounds 6 (z 6)).setIfInBounds 7 (z 7)).setIfInBounds 8 (z 8)).setIfInBounds 9 (z 9)).setIfInBounds 10 (z 10)).setIfInBounds 11 (z 11)).setIfInBounds 12 (z 12)).setIfInBounds 13 (z 13)).setIfInBounds 14 (z 14)).setIfInBounds 15 (z 15)).setIfInBounds 16 (z 16)).setIfInBounds 17 (z 17)).setIfInBounds 18 (z 18)).setIfInBounds 19 (z 19)).setIfInBounds 20 (z 20)).setIfInBounds 21 (z 21)).setIfInBounds 22 (z 22)).setIfInBounds 23 (z 23)).setIfInBounds 24 (z 24)).setIfInBounds 25 (z 25)).setIfInBounds 26 (z 26)).setIfInBounds 27 (z 27)).setIfInBounds 28 (.bool true), []⟩ ∧ New w W') ⟨t, []⟩ w := by
  conv => arg 2; whnf
  obtain ⟨u, rfl⟩ := lit48 t hs
  have hq1 : u 1 = .pointer (some ⟨B, 0, none⟩) := hq1
  rw [hq1]
  clear hq1 hs
  refine wp_region_held (S := fun W => New w W) (by kernel_rfl) ?_
  show wpAnyH _ _ _ _ _ 24 _ _ w.drew
  have hN : New w w.drew := (Mods.refl _ _).drew
  have hS : New w w.drew := (Mods.refl _ _).drew
  refine anyH_take 0 (some 5) (.pointer (some ⟨B, 0, none⟩)) rfl rfl (by kernel_rfl) (by kernel_rfl) (by kernel_rfl) (fun _ _ _ h => h.elim) (.inl ⟨by rfl, fun W hW => by go_simp⟩) hS ?_
  simp only [Act.put, List.setIfInBounds_toArray, List.set_cons_succ, List.set_cons_zero]
  refine anyH_take 1 (some 6) (.int .i64 l) rfl rfl (by kernel_rfl) (by kernel_rfl) (by kernel_rfl) (fun _ _ _ h => h.elim) (.inl ⟨by rfl, fun W hW => by have hh : New w W := hW; have q := hh.cell p0 id; go_simp⟩) hS ?_
  simp only [Act.put, List.setIfInBounds_toArray, List.set_cons_succ, List.set_cons_zero]
  refine anyH_take 2 (some 7) (.bool true) rfl rfl (by kernel_rfl) (by kernel_rfl) (by kernel_rfl) (fun _ _ _ h => h.elim) (.inl ⟨by rfl, fun W hW => by go_simp; first | done | exact hz⟩) hS ?_
  simp only [Act.put, List.setIfInBounds_toArray, List.set_cons_succ, List.set_cons_zero]
  refine anyH_take 3 (some 8) (.bool true) rfl rfl (by kernel_rfl) (by kernel_rfl) (by kernel_rfl) (fun _ _ _ h => h.elim) (.inl ⟨by rfl, fun W hW => by go_simp⟩) hS ?_
  simp only [Act.put, List.setIfInBounds_toArray, List.set_cons_succ, List.set_cons_zero]
  refine anyH_take 4 (some 9) (.pointer (some ⟨B, 0, none⟩)) rfl rfl (by kernel_rfl) (by kernel_rfl) (by kernel_rfl) (fun _ _ _ h => h.elim) (.inl ⟨by rfl, fun W hW => by go_simp⟩) hS ?_
  simp only [Act.put, List.setIfInBounds_toArray, List.set_cons_succ, List.set_cons_zero]
  refine anyH_take 5 (some 10) (.int .i64 l) rfl rfl (by kernel_rfl) (by kernel_rfl) (by kernel_rfl) (fun _ _ _ h => h.elim) (.inl ⟨by rfl, fun W hW => by have hh : New w W := hW; have q := hh.cell p0 id; go_simp⟩) hS ?_
  simp only [Act.put, List.setIfInBounds_toArray, List.set_cons_succ, List.set_cons_zero]
  refine wpAnyH_all (rs := [6]) (by kernel_rfl) (by simp) ?_
  simp only [List.mem_cons, List.not_mem_nil, or_false, forall_eq]
  refine opH_call (some 11) rfl (by rfl) rfl 51 #[.int .i64 l] (by go_simp) ((((odd_p l _).mono (R' := fun e w' => e = .returned (.bool false) ∧ New _ w') (by rintro e w' ⟨rfl, rfl⟩; exact ⟨by rw [ho], Mods.refl _ _⟩))).mono ?_)
  rintro e w6 ⟨rfl, hk⟩
  have hS := hS.trans hk
  have hN := hN.trans hk
  clear hk
  refine ⟨_, rfl, hS, ?_⟩
  simp only [Act.put, List.setIfInBounds_toArray, List.set_cons_succ, List.set_cons_zero]
  refine anyH_take 7 (some 12) (.bool true) rfl rfl (by kernel_rfl) (by kernel_rfl) (by kernel_rfl) (fun _ _ _ h => h.elim) (.inl ⟨by rfl, fun W hW => by go_simp⟩) hS ?_
  simp only [Act.put, List.setIfInBounds_toArray, List.set_cons_succ, List.set_cons_zero]
  refine anyH_take 8 (some 13) (.bool true) rfl rfl (by kernel_rfl) (by kernel_rfl) (by kernel_rfl) (fun _ _ _ h => h.elim) (.inl ⟨by rfl, fun W hW => by go_simp⟩) hS ?_
  simp only [Act.put, List.setIfInBounds_toArray, List.set_cons_succ, List.set_cons_zero]
  refine anyH_take 9 (some 14) (.bool true) rfl rfl (by kernel_rfl) (by kernel_rfl) (by kernel_rfl) (fun _ _ _ h => h.elim) (.inl ⟨by rfl, fun W hW => by go_simp⟩) hS ?_
  simp only [Act.put, List.setIfInBounds_toArray, List.set_cons_succ, List.set_cons_zero]
  refine anyH_take 10 (some 15) undef rfl rfl (by kernel_rfl) (by kernel_rfl) (by kernel_rfl) (fun _ _ _ h => h.elim) (.inr ⟨by rfl, rfl⟩) hS ?_
  simp only [Act.put, List.setIfInBounds_toArray, List.set_cons_succ, List.set_cons_zero]
  refine anyH_take 11 (some 16) undef rfl rfl (by kernel_rfl) (by kernel_rfl) (by kernel_rfl) (fun _ _ _ h => h.elim) (.inr ⟨by rfl, rfl⟩) hS ?_
  simp only [Act.put, List.setIfInBounds_toArray, List.set_cons_succ, List.set_cons_zero]
  refine anyH_take 12 (some 17) undef rfl rfl (by kernel_rfl) (by kernel_rfl) (by kernel_rfl) (fun _ _ _ h => h.elim) (.inr ⟨by rfl, rfl⟩) hS ?_
  simp only [Act.put, List.setIfInBounds_toArray, List.set_cons_succ, List.set_cons_zero]
  refine anyH_take 13 (some 18) undef rfl rfl (by kernel_rfl) (by kernel_rfl) (by kernel_rfl) (fun _ _ _ h => h.elim) (.inr ⟨by rfl, rfl⟩) hS ?_
  simp only [Act.put, List.setIfInBounds_toArray, List.set_cons_succ, List.set_cons_zero]
  refine anyH_take 14 (some 19) (.bool true) rfl rfl (by kernel_rfl) (by kernel_rfl) (by kernel_rfl) (fun _ _ _ h => h.elim) (.inl ⟨by rfl, fun W hW => by go_simp⟩) hS ?_
  simp only [Act.put, List.setIfInBounds_toArray, List.set_cons_succ, List.set_cons_zero]
  refine anyH_take 15 (some 20) (.bool true) rfl rfl (by kernel_rfl) (by kernel_rfl) (by kernel_rfl) (fun _ _ _ h => h.elim) (.inl ⟨by rfl, fun W hW => by go_simp⟩) hS ?_
  simp only [Act.put, List.setIfInBounds_toArray, List.set_cons_succ, List.set_cons_zero]
  refine anyH_take 16 (some 21) undef rfl rfl (by kernel_rfl) (by kernel_rfl) (by kernel_rfl) (fun _ _ _ h => h.elim) (.inr ⟨by rfl, rfl⟩) hS ?_
  simp only [Act.put, List.setIfInBounds_toArray, List.set_cons_succ, List.set_cons_zero]
  refine anyH_take 17 (some 22) undef rfl rfl (by kernel_rfl) (by kernel_rfl) (by kernel_rfl) (fun _ _ _ h => h.elim) (.inr ⟨by rfl, rfl⟩) hS ?_
  simp only [Act.put, List.setIfInBounds_toArray, List.set_cons_succ, List.set_cons_zero]
  refine anyH_take 18 (some 23) undef rfl rfl (by kernel_rfl) (by kernel_rfl) (by kernel_rfl) (fun _ _ _ h => h.elim) (.inr ⟨by rfl, rfl⟩) hS ?_
  simp only [Act.put, List.setIfInBounds_toArray, List.set_cons_succ, List.set_cons_zero]
  refine anyH_take 19 (some 24) undef rfl rfl (by kernel_rfl) (by kernel_rfl) (by kernel_rfl) (fun _ _ _ h => h.elim) (.inr ⟨by rfl, rfl⟩) hS ?_
  simp only [Act.put, List.setIfInBounds_toArray, List.set_cons_succ, List.set_cons_zero]
  refine anyH_take 20 (some 25) undef rfl rfl (by kernel_rfl) (by kernel_rfl) (by kernel_rfl) (fun _ _ _ h => h.elim) (.inr ⟨by rfl, rfl⟩) hS ?_
  simp only [Act.put, List.setIfInBounds_toArray, List.set_cons_succ, List.set_cons_zero]
  refine anyH_take 21 (some 26) undef rfl rfl (by kernel_rfl) (by kernel_rfl) (by kernel_rfl) (fun _ _ _ h => h.elim) (.inr ⟨by rfl, rfl⟩) hS ?_
  simp only [Act.put, List.setIfInBounds_toArray, List.set_cons_succ, List.set_cons_zero]
  refine anyH_take 22 (some 27) undef rfl rfl (by kernel_rfl) (by kernel_rfl) (by kernel_rfl) (fun _ _ _ h => h.elim) (.inr ⟨by rfl, rfl⟩) hS ?_
  simp only [Act.put, List.setIfInBounds_toArray, List.set_cons_succ, List.set_cons_zero]
  refine anyH_take 23 (some 28) (.bool true) rfl rfl (by kernel_rfl) (by kernel_rfl) (by kernel_rfl) (fun _ _ _ h => h.elim) (.inl ⟨by rfl, fun W hW => by go_simp⟩) hS ?_
  simp only [Act.put, List.setIfInBounds_toArray, List.set_cons_succ, List.set_cons_zero]
  refine wpAnyH_done (by kernel_rfl) ?_ _
  exact ⟨(fun zz => ([.pointer (some ⟨B, 0, none⟩), .int .i64 l, .bool true, .bool true, .pointer (some ⟨B, 0, none⟩), .int .i64 l, .bool false, .bool true, .bool true, .bool true, undef, undef, undef, undef, .bool true, .bool true, undef, undef, undef, undef, undef, undef, undef] : List Value).getD (cond (Nat.beq zz 5) 0 (cond (Nat.beq zz 6) 1 (cond (Nat.beq zz 7) 2 (cond (Nat.beq zz 8) 3 (cond (Nat.beq zz 9) 4 (cond (Nat.beq zz 10) 5 (cond (Nat.beq zz 11) 6 (cond (Nat.beq zz 12) 7 (cond (Nat.beq zz 13) 8 (cond (Nat.beq zz 14) 9 (cond (Nat.beq zz 15) 10 (cond (Nat.beq zz 16) 11 (cond (Nat.beq zz 17) 12 (cond (Nat.beq zz 18) 13 (cond (Nat.beq zz 19) 14 (cond (Nat.beq zz 20) 15 (cond (Nat.beq zz 21) 16 (cond (Nat.beq zz 22) 17 (cond (Nat.beq zz 23) 18 (cond (Nat.beq zz 24) 19 (cond (Nat.beq zz 25) 20 (cond (Nat.beq zz 26) 21 (cond (Nat.beq zz 27) 22 (0)))))))))))))))))))))))) undef), rfl, hN⟩
set_option maxHeartbeats 4000000 in
set_option maxRecDepth 100000 in
theorem right1_long0 (t : Array Value) (hs : t.size = 48) (w : World) {B n cap : Nat} {l : Int} {ao : Option Addr}
    (hq1 : t.getD 1 undef = .pointer (some ⟨B, 0, none⟩))
    (p0 : w.cell? ⟨B, 0, none⟩ = some (.int .i64 0)) (p1 : w.cell? ⟨B, 1, none⟩ = some (.slice ao n cap))
    (hgt : decide ((4 : Int) < (n : Int)) = true) :
    reg_prio_Right_1.wp Tryz.prog (Only fun a' W' => ∃ z : Nat → Value, a' = ⟨((((((((((((((((((((((((t).setIfInBounds 5 (z 5)).setIfInBounds 6 (z 6)).setIfInBounds 7 (z 7)).setIfInBounds 8 (z 8)).setIfInBounds 9 (z 9)).setIfInBounds 10 (z 10)).setIfInBounds 11 (z 11)).setIfInBounds 12 (z 12)).setIfInBounds 13 (z 13)).setIfInBounds 14 (z 14)).setIfInBounds 15 (z 15)).setIfInBounds 16 (z 16)).setIfInBounds 17 (z 17)).setIfInBounds 18 (z 18)).setIfInBounds 19 (z 19)).setIfInBounds 20 (z 20)).setIfInBounds 21 (z 21)).setIfInBounds 22 (z 22)).setIfInBounds 23 (z 23)).setIfInBounds 24 (z 24)).setIfInBounds 25 (z 25)).setIfInBounds 26 (z 26)).setIfInBounds 27 (z 27)).setIfInBounds 28 (.bool true), []⟩ ∧ New w W') ⟨t, []⟩ w := by
  conv => arg 2; whnf
  obtain ⟨u, rfl⟩ := lit48 t hs
  have hq1 : u 1 = .pointer (some ⟨B, 0, none⟩) := hq1
  rw [hq1]
  clear hq1 hs
  refine wp_region_held (S := fun W => New w W) (by kernel_rfl) ?_
  show wpAnyH _ _ _ _ _ 24 _ _ w.drew
  have hN : New w w.drew := (Mods.refl _ _).drew
  have hS : New w w.drew := (Mods.refl _ _).drew
  refine anyH_take 0 (some 5) (.pointer (some ⟨B, 0, none⟩)) rfl rfl (by kernel_rfl) (by kernel_rfl) (by kernel_rfl) (fun _ _ _ h => h.elim) (.inl ⟨by rfl, fun W hW => by go_simp⟩) hS ?_
  simp only [Act.put, List.setIfInBounds_toArray, List.set_cons_succ, List.set_cons_zero]
  refine anyH_take 1 (some 6) (.int .i64 0) rfl rfl (by kernel_rfl) (by kernel_rfl) (by kernel_rfl) (fun _ _ _ h => h.elim) (.inl ⟨by rfl, fun W hW => by have hh : New w W := hW; have q := hh.cell p0 id; go_simp⟩) hS ?_
  simp only [Act.put, List.setIfInBounds_toArray, List.set_cons_succ, List.set_cons_zero]
  refine anyH_take 2 (some 7) (.bool false) rfl rfl (by kernel_rfl) (by kernel_rfl) (by kernel_rfl) (fun _ _ _ h => h.elim) (.inl ⟨by rfl, fun W hW => by go_simp⟩) hS ?_
  simp only [Act.put, List.setIfInBounds_toArray, List.set_cons_succ, List.set_cons_zero]
  refine anyH_take 3 (some 8) (.bool false) rfl rfl (by kernel_rfl) (by kernel_rfl) (by kernel_rfl) (fun _ _ _ h => h.elim) (.inl ⟨by rfl, fun W hW => by go_simp⟩) hS ?_
  simp only [Act.put, List.setIfInBounds_toArray, List.set_cons_succ, List.set_cons_zero]
  refine anyH_take 4 (some 9) undef rfl rfl (by kernel_rfl) (by kernel_rfl) (by kernel_rfl) (fun _ _ _ h => h.elim) (.inr ⟨by rfl, rfl⟩) hS ?_
  simp only [Act.put, List.setIfInBounds_toArray, List.set_cons_succ, List.set_cons_zero]
  refine anyH_take 5 (some 10) undef rfl rfl (by kernel_rfl) (by kernel_rfl) (by kernel_rfl) (fun _ _ _ h => h.elim) (.inr ⟨by rfl, rfl⟩) hS ?_
  simp only [Act.put, List.setIfInBounds_toArray, List.set_cons_succ, List.set_cons_zero]
  refine anyH_take 6 (some 11) undef rfl rfl (by kernel_rfl) (by kernel_rfl) (by kernel_rfl) (fun _ _ _ h => h.elim) (.inr ⟨by rfl, rfl⟩) hS ?_
  simp only [Act.put, List.setIfInBounds_toArray, List.set_cons_succ, List.set_cons_zero]
  refine anyH_take 7 (some 12) undef rfl rfl (by kernel_rfl) (by kernel_rfl) (by kernel_rfl) (fun _ _ _ h => h.elim) (.inr ⟨by rfl, rfl⟩) hS ?_
  simp only [Act.put, List.setIfInBounds_toArray, List.set_cons_succ, List.set_cons_zero]
  refine anyH_take 8 (some 13) (.bool false) rfl rfl (by kernel_rfl) (by kernel_rfl) (by kernel_rfl) (fun _ _ _ h => h.elim) (.inl ⟨by rfl, fun W hW => by go_simp⟩) hS ?_
  simp only [Act.put, List.setIfInBounds_toArray, List.set_cons_succ, List.set_cons_zero]
  refine anyH_take 9 (some 14) (.bool false) rfl rfl (by kernel_rfl) (by kernel_rfl) (by kernel_rfl) (fun _ _ _ h => h.elim) (.inl ⟨by rfl, fun W hW => by go_simp⟩) hS ?_
  simp only [Act.put, List.setIfInBounds_toArray, List.set_cons_succ, List.set_cons_zero]
  refine anyH_take 10 (some 15) (.pointer (some ⟨B, 1, none⟩)) rfl rfl (by kernel_rfl) (by kernel_rfl) (by kernel_rfl) (fun _ _ _ h => h.elim) (.inl ⟨by rfl, fun W hW => by go_simp⟩) hS ?_
  simp only [Act.put, List.setIfInBounds_toArray, List.set_cons_succ, List.set_cons_zero]
  refine anyH_take 11 (some 16) (.slice ao n cap) rfl rfl (by kernel_rfl) (by kernel_rfl) (by kernel_rfl) (fun _ _ _ h => h.elim) (.inl ⟨by rfl, fun W hW => by have hh : New w W := hW; have q := hh.cell p1 id; go_simp⟩) hS ?_
  simp only [Act.put, List.setIfInBounds_toArray, List.set_cons_succ, List.set_cons_zero]
  refine anyH_take 12 (some 17) (.int .i64 n) rfl rfl (by kernel_rfl) (by kernel_rfl) (by kernel_rfl) (fun _ _ _ h => h.elim) (.inl ⟨by rfl, fun W hW => by go_simp⟩) hS ?_
  simp only [Act.put, List.setIfInBounds_toArray, List.set_cons_succ, List.set_cons_zero]
  refine anyH_take 13 (some 18) (.bool true) rfl rfl (by kernel_rfl) (by kernel_rfl) (by kernel_rfl) (fun _ _ _ h => h.elim) (.inl ⟨by rfl, fun W hW => by go_simp⟩) hS ?_
  simp only [Act.put, List.setIfInBounds_toArray, List.set_cons_succ, List.set_cons_zero]
  refine anyH_take 14 (some 19) (.bool true) rfl rfl (by kernel_rfl) (by kernel_rfl) (by kernel_rfl) (fun _ _ _ h => h.elim) (.inl ⟨by rfl, fun W hW => by go_simp⟩) hS ?_
  simp only [Act.put, List.setIfInBounds_toArray, List.set_cons_succ, List.set_cons_zero]
  refine anyH_take 15 (some 20) (.bool true) rfl rfl (by kernel_rfl) (by kernel_rfl) (by kernel_rfl) (fun _ _ _ h => h.elim) (.inl ⟨by rfl, fun W hW => by go_simp⟩) hS ?_
  simp only [Act.put, List.setIfInBounds_toArray, List.set_cons_succ, List.set_cons_zero]
  refine anyH_take 16 (some 21) undef rfl rfl (by kernel_rfl) (by kernel_rfl) (by kernel_rfl) (fun _ _ _ h => h.elim) (.inr ⟨by rfl, rfl⟩) hS ?_
  simp only [Act.put, List.setIfInBounds_toArray, List.set_cons_succ, List.set_cons_zero]
  refine anyH_take 17 (some 22) undef rfl rfl (by kernel_rfl) (by kernel_rfl) (by kernel_rfl) (fun _ _ _ h => h.elim) (.inr ⟨by rfl, rfl⟩) hS ?_
  simp only [Act.put, List.setIfInBounds_toArray, List.set_cons_succ, List.set_cons_zero]
  refine anyH_take 18 (some 23) undef rfl rfl (by kernel_rfl) (by kernel_rfl) (by kernel_rfl) (fun _ _ _ h => h.elim) (.inr ⟨by rfl, rfl⟩) hS ?_
  simp only [Act.put, List.setIfInBounds_toArray, List.set_cons_succ, List.set_cons_zero]
  refine anyH_take 19 (some 24) undef rfl rfl (by kernel_rfl) (by kernel_rfl) (by kernel_rfl) (fun _ _ _ h => h.elim) (.inr ⟨by rfl, rfl⟩) hS ?_
  simp only [Act.put, List.setIfInBounds_toArray, List.set_cons_succ, List.set_cons_zero]
  refine anyH_take 20 (some 25) undef rfl rfl (by kernel_rfl) (by kernel_rfl) (by kernel_rfl) (fun _ _ _ h => h.elim) (.inr ⟨by rfl, rfl⟩) hS ?_
  simp only [Act.put, List.setIfInBounds_toArray, List.set_cons_succ, List.set_cons_zero]
  refine anyH_take 21 (some 26) undef rfl rfl (by kernel_rfl) (by kernel_rfl) (by kernel_rfl) (fun _ _ _ h => h.elim) (.inr ⟨by rfl, rfl⟩) hS ?_
  simp only [Act.put, List.setIfInBounds_toArray, List.set_cons_succ, List.set_cons_zero]
  refine anyH_take 22 (some 27) undef rfl rfl (by kernel_rfl) (by kernel_rfl) (by kernel_rfl) (fun _ _ _ h => h.elim) (.inr ⟨by rfl, rfl⟩) hS ?_
  simp only [Act.put, List.setIfInBounds_toArray, List.set_cons_succ, List.set_cons_zero]
  refine anyH_take 23 (some 28) (.bool true) rfl rfl (by kernel_rfl) (by kernel_rfl) (by kernel_rfl) (fun _ _ _ h => h.elim) (.inl ⟨by rfl, fun W hW => by go_simp⟩) hS ?_
  simp only [Act.put, List.setIfInBounds_toArray, List.set_cons_succ, List.set_cons_zero]
  refine wpAnyH_done (by kernel_rfl) ?_ _
  exact ⟨(fun zz => ([.pointer (some ⟨B, 0, none⟩), .int .i64 0, .bool false, .bool false, undef, undef, undef, undef, .bool false, .bool false, .pointer (some ⟨B, 1, none⟩), .slice ao n cap, .int .i64 n, .bool true, .bool true, .bool true, undef, undef, undef, undef, undef, undef, undef] : List Value).getD (cond (Nat.beq zz 5) 0 (cond (Nat.beq zz 6) 1 (cond (Nat.beq zz 7) 2 (cond (Nat.beq zz 8) 3 (cond (Nat.beq zz 9) 4 (cond (Nat.beq zz 10) 5 (cond (Nat.beq zz 11) 6 (cond (Nat.beq zz 12) 7 (cond (Nat.beq zz 13) 8 (cond (Nat.beq zz 14) 9 (cond (Nat.beq zz 15) 10 (cond (Nat.beq zz 16) 11 (cond (Nat.beq zz 17) 12 (cond (Nat.beq zz 18) 13 (cond (Nat.beq zz 19) 14 (cond (Nat.beq zz 20) 15 (cond (Nat.beq zz 21) 16 (cond (Nat.beq zz 22) 17 (cond (Nat.beq zz 23) 18 (cond (Nat.beq zz 24) 19 (cond (Nat.beq zz 25) 20 (cond (Nat.beq zz 26) 21 (cond (Nat.beq zz 27) 22 (0)))))))))))))))))))))))) undef), rfl, hN⟩
set_option maxHeartbeats 4000000 in
set_option maxRecDepth 100000 in
theorem right1_long (t : Array Value) (hs : t.size = 48) (w : World) {B n cap : Nat} {l : Int} {ao : Option Addr}
    (hq1 : t.getD 1 undef = .pointer (some ⟨B, 0, none⟩))
    (p0 : w.cell? ⟨B, 0, none⟩ = some (.int .i64 l)) (p1 : w.cell? ⟨B, 1, none⟩ = some (.slice ao n cap))
    (hz : ¬ l = 0) (ho : oddP l = true)
    (hgt : decide ((4 : Int) < (n : Int)) = true) :
    reg_prio_Right_1.wp Tryz.prog (Only fun a' W' => ∃ z : Nat → Value, a' = ⟨((((((((((((((((((((((((t).setIfInBounds 5 (z 5)).setIfInBounds 6 (z 6)).setIfInBounds 7 (z 7)).setIfInBounds 8 (z 8)).setIfInBounds 9 (z 9)).setIfInBounds 10 (z 10)).setIfInBounds 11 (z 11)).setIfInBounds 12 (z 12)).setIfInBounds 13 (z 13)).setIfInBounds 14 (z 14)).setIfInBounds 15 (z 15)).setIfInBounds 16 (z 16)).setIfInBounds 17 (z 17)).setIfInBounds 18 (z 18)).setIfInBounds 19 (z 19)).setIfInBounds 20 (z 20)).setIfInBounds 21 (z 21)).setIfInBounds 22 (z 22)).setIfInBounds 23 (z 23)).setIfInBounds 24 (z 24)).setIfInBounds 25 (z 25)).setIfInBounds 26 (z 26)).setIfInBounds 27 (z 27)).setIfInBounds 28 (.bool true), []⟩ ∧ New w W') ⟨t, []⟩ w := by
  conv => arg 2; whnf
  obtain ⟨u, rfl⟩ := lit48 t hs
  have hq1 : u 1 = .pointer (some ⟨B, 0, none⟩) := hq1
  rw [hq1]
  clear hq1 hs
  refine wp_region_held (S := fun W => New w W) (by kernel_rfl) ?_
  show wpAnyH _ _ _ _ _ 24 _ _ w.drew
  have hN : New w w.drew := (Mods.refl _ _).drew
  have hS : New w w.drew := (Mods.refl _ _).drew
  refine anyH_take 0 (some 5) (.pointer (some ⟨B, 0, none⟩)) rfl rfl (by kernel_rfl) (by kernel_rfl) (by kernel_rfl) (fun _ _ _ h => h.elim) (.inl ⟨by rfl, fun W hW => by go_simp⟩) hS ?_
  simp only [Act.put, List.setIfInBounds_toArray, List.set_cons_succ, List.set_cons_zero]
  refine anyH_take 1 (some 6) (.int .i64 l) rfl rfl (by kernel_rfl) (by kernel_rfl) (by kernel_rfl) (fun _ _ _ h => h.elim) (.inl ⟨by rfl, fun W hW => by have hh : New w W := hW; have q := hh.cell p0 id; go_simp⟩) hS ?_
  simp only [Act.put, List.setIfInBounds_toArray, List.set_cons_succ, List.set_cons_zero]
  refine anyH_take 2 (some 7) (.bool true) rfl rfl (by kernel_rfl) (by kernel_rfl) (by kernel_rfl) (fun _ _ _ h => h.elim) (.inl ⟨by rfl, fun W hW => by go_simp; first | done | exact hz⟩) hS ?_
  simp only [Act.put, List.setIfInBounds_toArray, List.set_cons_succ, List.set_cons_zero]
  refine anyH_take 3 (some 8) (.bool true) rfl rfl (by kernel_rfl) (by kernel_rfl) (by kernel_rfl) (fun _ _ _ h => h.elim) (.inl ⟨by rfl, fun W hW => by go_simp⟩) hS ?_
  simp only [Act.put, List.setIfInBounds_toArray, List.set_cons_succ, List.set_cons_zero]
  refine anyH_take 4 (some 9) (.pointer (some ⟨B, 0, none⟩)) rfl rfl (by kernel_rfl) (by kernel_rfl) (by kernel_rfl) (fun _ _ _ h => h.elim) (.inl ⟨by rfl, fun W hW => by go_simp⟩) hS ?_
  simp only [Act.put, List.setIfInBounds_toArray, List.set_cons_succ, List.set_cons_zero]
  refine anyH_take 5 (some 10) (.int .i64 l) rfl rfl (by kernel_rfl) (by kernel_rfl) (by kernel_rfl) (fun _ _ _ h => h.elim) (.inl ⟨by rfl, fun W hW => by have hh : New w W := hW; have q := hh.cell p0 id; go_simp⟩) hS ?_
  simp only [Act.put, List.setIfInBounds_toArray, List.set_cons_succ, List.set_cons_zero]
  refine wpAnyH_all (rs := [6]) (by kernel_rfl) (by simp) ?_
  simp only [List.mem_cons, List.not_mem_nil, or_false, forall_eq]
  refine opH_call (some 11) rfl (by rfl) rfl 51 #[.int .i64 l] (by go_simp) ((((odd_p l _).mono (R' := fun e w' => e = .returned (.bool true) ∧ New _ w') (by rintro e w' ⟨rfl, rfl⟩; exact ⟨by rw [ho], Mods.refl _ _⟩))).mono ?_)
  rintro e w6 ⟨rfl, hk⟩
  have hS := hS.trans hk
  have hN := hN.trans hk
  clear hk
  refine ⟨_, rfl, hS, ?_⟩
  simp only [Act.put, List.setIfInBounds_toArray, List.set_cons_succ, List.set_cons_zero]
  refine anyH_take 7 (some 12) (.bool false) rfl rfl (by kernel_rfl) (by kernel_rfl) (by kernel_rfl) (fun _ _ _ h => h.elim) (.inl ⟨by rfl, fun W hW => by go_simp⟩) hS ?_
  simp only [Act.put, List.setIfInBounds_toArray, List.set_cons_succ, List.set_cons_zero]
  refine anyH_take 8 (some 13) (.bool false) rfl rfl (by kernel_rfl) (by kernel_rfl) (by kernel_rfl) (fun _ _ _ h => h.elim) (.inl ⟨by rfl, fun W hW => by go_simp⟩) hS ?_
  simp only [Act.put, List.setIfInBounds_toArray, List.set_cons_succ, List.set_cons_zero]
  refine anyH_take 9 (some 14) (.bool false) rfl rfl (by kernel_rfl) (by kernel_rfl) (by kernel_rfl) (fun _ _ _ h => h.elim) (.inl ⟨by rfl, fun W hW => by go_simp⟩) hS ?_
  simp only [Act.put, List.setIfInBounds_toArray, List.set_cons_succ, List.set_cons_zero]
  refine anyH_take 10 (some 15) (.pointer (some ⟨B, 1, none⟩)) rfl rfl (by kernel_rfl) (by kernel_rfl) (by kernel_rfl) (fun _ _ _ h => h.elim) (.inl ⟨by rfl, fun W hW => by go_simp⟩) hS ?_
  simp only [Act.put, List.setIfInBounds_toArray, List.set_cons_succ, List.set_cons_zero]
  refine anyH_take 11 (some 16) (.slice ao n cap) rfl rfl (by kernel_rfl) (by kernel_rfl) (by kernel_rfl) (fun _ _ _ h => h.elim) (.inl ⟨by rfl, fun W hW => by have hh : New w W := hW; have q := hh.cell p1 id; go_simp⟩) hS ?_
  simp only [Act.put, List.setIfInBounds_toArray, List.set_cons_succ, List.set_cons_zero]
  refine anyH_take 12 (some 17) (.int .i64 n) rfl rfl (by kernel_rfl) (by kernel_rfl) (by kernel_rfl) (fun _ _ _ h => h.elim) (.inl ⟨by rfl, fun W hW => by go_simp⟩) hS ?_
  simp only [Act.put, List.setIfInBounds_toArray, List.set_cons_succ, List.set_cons_zero]
  refine anyH_take 13 (some 18) (.bool true) rfl rfl (by kernel_rfl) (by kernel_rfl) (by kernel_rfl) (fun _ _ _ h => h.elim) (.inl ⟨by rfl, fun W hW => by go_simp⟩) hS ?_
  simp only [Act.put, List.setIfInBounds_toArray, List.set_cons_succ, List.set_cons_zero]
  refine anyH_take 14 (some 19) (.bool true) rfl rfl (by kernel_rfl) (by kernel_rfl) (by kernel_rfl) (fun _ _ _ h => h.elim) (.inl ⟨by rfl, fun W hW => by go_simp⟩) hS ?_
  simp only [Act.put, List.setIfInBounds_toArray, List.set_cons_succ, List.set_cons_zero]
  refine anyH_take 15 (some 20) (.bool true) rfl rfl (by kernel_rfl) (by kernel_rfl) (by kernel_rfl) (fun _ _ _ h => h.elim) (.inl ⟨by rfl, fun W hW => by go_simp⟩) hS ?_
  simp only [Act.put, List.setIfInBounds_toArray, List.set_cons_succ, List.set_cons_zero]
  refine anyH_take 16 (some 21) undef rfl rfl (by kernel_rfl) (by kernel_rfl) (by kernel_rfl) (fun _ _ _ h => h.elim) (.inr ⟨by rfl, rfl⟩) hS ?_
  simp only [Act.put, List.setIfInBounds_toArray, List.set_cons_succ, List.set_cons_zero]
  refine anyH_take 17 (some 22) undef rfl rfl (by kernel_rfl) (by kernel_rfl) (by kernel_rfl) (fun _ _ _ h => h.elim) (.inr ⟨by rfl, rfl⟩) hS ?_
  simp only [Act.put, List.setIfInBounds_toArray, List.set_cons_succ, List.set_cons_zero]
  refine anyH_take 18 (some 23) undef rfl rfl (by kernel_rfl) (by kernel_rfl) (by kernel_rfl) (fun _ _ _ h => h.elim) (.inr ⟨by rfl, rfl⟩) hS ?_
  simp only [Act.put, List.setIfInBounds_toArray, List.set_cons_succ, List.set_cons_zero]
  refine anyH_take 19 (some 24) undef rfl rfl (by kernel_rfl) (by kernel_rfl) (by kernel_rfl) (fun _ _ _ h => h.elim) (.inr ⟨by rfl, rfl⟩) hS ?_
  simp only [Act.put, List.setIfInBounds_toArray, List.set_cons_succ, List.set_cons_zero]
  refine anyH_take 20 (some 25) undef rfl rfl (by kernel_rfl) (by kernel_rfl) (by kernel_rfl) (fun _ _ _ h => h.elim) (.inr ⟨by rfl, rfl⟩) hS ?_
  simp only [Act.put, List.setIfInBounds_toArray, List.set_cons_succ, List.set_cons_zero]
  refine anyH_take 21 (some 26) undef rfl rfl (by kernel_rfl) (by kernel_rfl) (by kernel_rfl) (fun _ _ _ h => h.elim) (.inr ⟨by rfl, rfl⟩) hS ?_
  simp only [Act.put, List.setIfInBounds_toArray, List.set_cons_succ, List.set_cons_zero]
  refine anyH_take 22 (some 27) undef rfl rfl (by kernel_rfl) (by kernel_rfl) (by kernel_rfl) (fun _ _ _ h => h.elim) (.inr ⟨by rfl, rfl⟩) hS ?_
  simp only [Act.put, List.setIfInBounds_toArray, List.set_cons_succ, List.set_cons_zero]
  refine anyH_take 23 (some 28) (.bool true) rfl rfl (by kernel_rfl) (by kernel_rfl) (by kernel_rfl) (fun _ _ _ h => h.elim) (.inl ⟨by rfl, fun W hW => by go_simp⟩) hS ?_
  simp only [Act.put, List.setIfInBounds_toArray, List.set_cons_succ, List.set_cons_zero]
  refine wpAnyH_done (by kernel_rfl) ?_ _
  exact ⟨(fun zz => ([.pointer (some ⟨B, 0, none⟩), .int .i64 l, .bool true, .bool true, .pointer (some ⟨B, 0, none⟩), .int .i64 l, .bool true, .bool false, .bool false, .bool false, .pointer (some ⟨B, 1, none⟩), .slice ao n cap, .int .i64 n, .bool true, .bool true, .bool true, undef, undef, undef, undef, undef, undef, undef] : List Value).getD (cond (Nat.beq zz 5) 0 (cond (Nat.beq zz 6) 1 (cond (Nat.beq zz 7) 2 (cond (Nat.beq zz 8) 3 (cond (Nat.beq zz 9) 4 (cond (Nat.beq zz 10) 5 (cond (Nat.beq zz 11) 6 (cond (Nat.beq zz 12) 7 (cond (Nat.beq zz 13) 8 (cond (Nat.beq zz 14) 9 (cond (Nat.beq zz 15) 10 (cond (Nat.beq zz 16) 11 (cond (Nat.beq zz 17) 12 (cond (Nat.beq zz 18) 13 (cond (Nat.beq zz 19) 14 (cond (Nat.beq zz 20) 15 (cond (Nat.beq zz 21) 16 (cond (Nat.beq zz 22) 17 (cond (Nat.beq zz 23) 18 (cond (Nat.beq zz 24) 19 (cond (Nat.beq zz 25) 20 (cond (Nat.beq zz 26) 21 (cond (Nat.beq zz 27) 22 (0)))))))))))))))))))))))) undef), rfl, hN⟩
set_option maxHeartbeats 4000000 in
set_option maxRecDepth 100000 in
theorem right1_map0 (t : Array Value) (hs : t.size = 48) (w : World) {B n cap : Nat} {l : Int} {ao : Option Addr} {m : Nat} {y : Bool} {f : Int → Option Value}
    (hq1 : t.getD 1 undef = .pointer (some ⟨B, 0, none⟩))
    (p0 : w.cell? ⟨B, 0, none⟩ = some (.int .i64 0)) (p1 : w.cell? ⟨B, 1, none⟩ = some (.slice ao n cap))
    (hgt : decide ((4 : Int) < (n : Int)) = false) (hm : ((m : Int) != (n : Int)) = y)
    (HK : Hid (∀ W, New w W → Calls Tryz.prog 55 #[.agg #[.int .i64 0, .slice ao n cap]] W fun e w' => ∃ M, e = .returned (.map (some M)) ∧ MapD (k1 .i64) w' M m f ∧ New W w')) :
    reg_prio_Right_1.wp Tryz.prog (Only fun a' W' => ∃ z : Nat → Value, a' = ⟨((((((((((((((((((((((((t).setIfInBounds 5 (z 5)).setIfInBounds 6 (z 6)).setIfInBounds 7 (z 7)).setIfInBounds 8 (z 8)).setIfInBounds 9 (z 9)).setIfInBounds 10 (z 10)).setIfInBounds 11 (z 11)).setIfInBounds 12 (z 12)).setIfInBounds 13 (z 13)).setIfInBounds 14 (z 14)).setIfInBounds 15 (z 15)).setIfInBounds 16 (z 16)).setIfInBounds 17 (z 17)).setIfInBounds 18 (z 18)).setIfInBounds 19 (z 19)).setIfInBounds 20 (z 20)).setIfInBounds 21 (z 21)).setIfInBounds 22 (z 22)).setIfInBounds 23 (z 23)).setIfInBounds 24 (z 24)).setIfInBounds 25 (z 25)).setIfInBounds 26 (z 26)).setIfInBounds 27 (z 27)).setIfInBounds 28 (.bool y), []⟩ ∧ New w W') ⟨t, []⟩ w := by
  conv => arg 2; whnf
  obtain ⟨u, rfl⟩ := lit48 t hs
  have hq1 : u 1 = .pointer (some ⟨B, 0, none⟩) := hq1
  rw [hq1]
  clear hq1 hs
  refine wp_region_held (S := fun W => New w W) (by kernel_rfl) ?_
  show wpAnyH _ _ _ _ _ 24 _ _ w.drew
  have hN : New w w.drew := (Mods.refl _ _).drew
  have hS : New w w.drew := (Mods.refl _ _).drew
  refine anyH_take 0 (some 5) (.pointer (some ⟨B, 0, none⟩)) rfl rfl (by kernel_rfl) (by kernel_rfl) (by kernel_rfl) (fun _ _ _ h => h.elim) (.inl ⟨by rfl, fun W hW => by go_simp⟩) hS ?_
  simp only [Act.put, List.setIfInBounds_toArray, List.set_cons_succ, List.set_cons_zero]
  refine anyH_take 1 (some 6) (.int .i64 0) rfl rfl (by kernel_rfl) (by kernel_rfl) (by kernel_rfl) (fun _ _ _ h => h.elim) (.inl ⟨by rfl, fun W hW => by have hh : New w W := hW; have q := hh.cell p0 id; go_simp⟩) hS ?_
  simp only [Act.put, List.setIfInBounds_toArray, List.set_cons_succ, List.set_cons_zero]
  refine anyH_take 2 (some 7) (.bool false) rfl rfl (by kernel_rfl) (by kernel_rfl) (by kernel_rfl) (fun _ _ _ h => h.elim) (.inl ⟨by rfl, fun W hW => by go_simp⟩) hS ?_
  simp only [Act.put, List.setIfInBounds_toArray, List.set_cons_succ, List.set_cons_zero]
  refine anyH_take 3 (some 8) (.bool false) rfl rfl (by kernel_rfl) (by kernel_rfl) (by kernel_rfl) (fun _ _ _ h => h.elim) (.inl ⟨by rfl, fun W hW => by go_simp⟩) hS ?_
  simp only [Act.put, List.setIfInBounds_toArray, List.set_cons_succ, List.set_cons_zero]
  refine anyH_take 4 (some 9) undef rfl rfl (by kernel_rfl) (by kernel_rfl) (by kernel_rfl) (fun _ _ _ h => h.elim) (.inr ⟨by rfl, rfl⟩) hS ?_
  simp only [Act.put, List.setIfInBounds_toArray, List.set_cons_succ, List.set_cons_zero]
  refine anyH_take 5 (some 10) undef rfl rfl (by kernel_rfl) (by kernel_rfl) (by kernel_rfl) (fun _ _ _ h => h.elim) (.inr ⟨by rfl, rfl⟩) hS ?_
  simp only [Act.put, List.setIfInBounds_toArray, List.set_cons_succ, List.set_cons_zero]
  refine anyH_take 6 (some 11) undef rfl rfl (by kernel_rfl) (by kernel_rfl) (by kernel_rfl) (fun _ _ _ h => h.elim) (.inr ⟨by rfl, rfl⟩) hS ?_
  simp only [Act.put, List.setIfInBounds_toArray, List.set_cons_succ, List.set_cons_zero]
  refine anyH_take 7 (some 12) undef rfl rfl (by kernel_rfl) (by kernel_rfl) (by kernel_rfl) (fun _ _ _ h => h.elim) (.inr ⟨by rfl, rfl⟩) hS ?_
  simp only [Act.put, List.setIfInBounds_toArray, List.set_cons_succ, List.set_cons_zero]
  refine anyH_take 8 (some 13) (.bool false) rfl rfl (by kernel_rfl) (by kernel_rfl) (by kernel_rfl) (fun _ _ _ h => h.elim) (.inl ⟨by rfl, fun W hW => by go_simp⟩) hS ?_
  simp only [Act.put, List.setIfInBounds_toArray, List.set_cons_succ, List.set_cons_zero]
  refine anyH_take 9 (some 14) (.bool false) rfl rfl (by kernel_rfl) (by kernel_rfl) (by kernel_rfl) (fun _ _ _ h => h.elim) (.inl ⟨by rfl, fun W hW => by go_simp⟩) hS ?_
  simp only [Act.put, List.setIfInBounds_toArray, List.set_cons_succ, List.set_cons_zero]
  refine anyH_take 10 (some 15) (.pointer (some ⟨B, 1, none⟩)) rfl rfl (by kernel_rfl) (by kernel_rfl) (by kernel_rfl) (fun _ _ _ h => h.elim) (.inl ⟨by rfl, fun W hW => by go_simp⟩) hS ?_
  simp only [Act.put, List.setIfInBounds_toArray, List.set_cons_succ, List.set_cons_zero]
  refine anyH_take 11 (some 16) (.slice ao n cap) rfl rfl (by kernel_rfl) (by kernel_rfl) (by kernel_rfl) (fun _ _ _ h => h.elim) (.inl ⟨by rfl, fun W hW => by have hh : New w W := hW; have q := hh.cell p1 id; go_simp⟩) hS ?_
  simp only [Act.put, List.setIfInBounds_toArray, List.set_cons_succ, List.set_cons_zero]
  refine anyH_take 12 (some 17) (.int .i64 n) rfl rfl (by kernel_rfl) (by kernel_rfl) (by kernel_rfl) (fun _ _ _ h => h.elim) (.inl ⟨by rfl, fun W hW => by go_simp⟩) hS ?_
  simp only [Act.put, List.setIfInBounds_toArray, List.set_cons_succ, List.set_cons_zero]
  refine anyH_take 13 (some 18) (.bool false) rfl rfl (by kernel_rfl) (by kernel_rfl) (by kernel_rfl) (fun _ _ _ h => h.elim) (.inl ⟨by rfl, fun W hW => by go_simp⟩) hS ?_
  simp only [Act.put, List.setIfInBounds_toArray, List.set_cons_succ, List.set_cons_zero]
  refine anyH_take 14 (some 19) (.bool false) rfl rfl (by kernel_rfl) (by kernel_rfl) (by kernel_rfl) (fun _ _ _ h => h.elim) (.inl ⟨by rfl, fun W hW => by go_simp⟩) hS ?_
  simp only [Act.put, List.setIfInBounds_toArray, List.set_cons_succ, List.set_cons_zero]
  refine anyH_take 15 (some 20) (.bool false) rfl rfl (by kernel_rfl) (by kernel_rfl) (by kernel_rfl) (fun _ _ _ h => h.elim) (.inl ⟨by rfl, fun W hW => by go_simp⟩) hS ?_
  simp only [Act.put, List.setIfInBounds_toArray, List.set_cons_succ, List.set_cons_zero]
  refine anyH_take 16 (some 21) (.agg #[.int .i64 0, .slice ao n cap]) rfl rfl (by kernel_rfl) (by kernel_rfl) (by kernel_rfl) (fun _ _ _ h => h.elim) (.inl ⟨by rfl, fun W hW => by have hh : New w W := hW; have q0 := hh.cell p0 id; have q1 := hh.cell p1 id; go_simp⟩) hS ?_
  simp only [Act.put, List.setIfInBounds_toArray, List.set_cons_succ, List.set_cons_zero]
  refine anyH_take 19 (some 24) (.pointer (some ⟨B, 1, none⟩)) rfl rfl (by kernel_rfl) (by kernel_rfl) (by kernel_rfl) (fun _ _ _ h => h.elim) (.inl ⟨by rfl, fun W hW => by go_simp⟩) hS ?_
  simp only [Act.put, List.setIfInBounds_toArray, List.set_cons_succ, List.set_cons_zero]
  refine anyH_take 20 (some 25) (.slice ao n cap) rfl rfl (by kernel_rfl) (by kernel_rfl) (by kernel_rfl) (fun _ _ _ h => h.elim) (.inl ⟨by rfl, fun W hW => by have hh : New w W := hW; have q := hh.cell p1 id; go_simp⟩) hS ?_
  simp only [Act.put, List.setIfInBounds_toArray, List.set_cons_succ, List.set_cons_zero]
  refine anyH_take 21 (some 26) (.int .i64 n) rfl rfl (by kernel_rfl) (by kernel_rfl) (by kernel_rfl) (fun _ _ _ h => h.elim) (.inl ⟨by rfl, fun W hW => by go_simp⟩) hS ?_
  simp only [Act.put, List.setIfInBounds_toArray, List.set_cons_succ, List.set_cons_zero]
  refine wpAnyH_all (rs := [17]) (by kernel_rfl) (by simp) ?_
  simp only [List.mem_cons, List.not_mem_nil, or_false, forall_eq]
  refine opH_call (some 22) rfl (by rfl) rfl 55 #[.agg #[.int .i64 0, .slice ao n cap]] (by go_simp) ((HK.out _ hN).mono ?_)
  rintro e w17 ⟨M, rfl, hM, hk⟩
  have hS := hS.trans hk
  have hN := hN.trans hk
  clear hk
  refine ⟨_, rfl, hS, ?_⟩
  simp only [Act.put, List.setIfInBounds_toArray, List.set_cons_succ, List.set_cons_zero]
  refine wpAnyH_all (rs := [18]) (by kernel_rfl) (by simp) ?_
  simp only [List.mem_cons, List.not_mem_nil, or_false, forall_eq]
  refine opH_value (some 23) rfl (by rfl) rfl (v := .int .i64 m) (w' := w17) (run_lenMap (s := .tmp 22) rfl rfl hM) ?_
  refine ⟨hS, ?_⟩
  simp only [Act.put, List.setIfInBounds_toArray, List.set_cons_succ, List.set_cons_zero]
  refine anyH_take 22 (some 27) (.bool y) rfl rfl (by kernel_rfl) (by kernel_rfl) (by kernel_rfl) (fun _ _ _ h => h.elim) (.inl ⟨by rfl, fun W hW => by go_simp; first | done | exact hm⟩) hS ?_
  simp only [Act.put, List.setIfInBounds_toArray, List.set_cons_succ, List.set_cons_zero]
  refine anyH_take 23 (some 28) (.bool y) rfl rfl (by kernel_rfl) (by kernel_rfl) (by kernel_rfl) (fun _ _ _ h => h.elim) (.inl ⟨by rfl, fun W hW => by go_simp⟩) hS ?_
  simp only [Act.put, List.setIfInBounds_toArray, List.set_cons_succ, List.set_cons_zero]
  refine wpAnyH_done (by kernel_rfl) ?_ _
  exact ⟨(fun zz => ([.pointer (some ⟨B, 0, none⟩), .int .i64 0, .bool false, .bool false, undef, undef, undef, undef, .bool false, .bool false, .pointer (some ⟨B, 1, none⟩), .slice ao n cap, .int .i64 n, .bool false, .bool false, .bool false, .agg #[.int .i64 0, .slice ao n cap], .map (some M), .int .i64 m, .pointer (some ⟨B, 1, none⟩), .slice ao n cap, .int .i64 n, .bool y] : List Value).getD (cond (Nat.beq zz 5) 0 (cond (Nat.beq zz 6) 1 (cond (Nat.beq zz 7) 2 (cond (Nat.beq zz 8) 3 (cond (Nat.beq zz 9) 4 (cond (Nat.beq zz 10) 5 (cond (Nat.beq zz 11) 6 (cond (Nat.beq zz 12) 7 (cond (Nat.beq zz 13) 8 (cond (Nat.beq zz 14) 9 (cond (Nat.beq zz 15) 10 (cond (Nat.beq zz 16) 11 (cond (Nat.beq zz 17) 12 (cond (Nat.beq zz 18) 13 (cond (Nat.beq zz 19) 14 (cond (Nat.beq zz 20) 15 (cond (Nat.beq zz 21) 16 (cond (Nat.beq zz 22) 17 (cond (Nat.beq zz 23) 18 (cond (Nat.beq zz 24) 19 (cond (Nat.beq zz 25) 20 (cond (Nat.beq zz 26) 21 (cond (Nat.beq zz 27) 22 (0)))))))))))))))))))))))) undef), rfl, hN⟩
set_option maxHeartbeats 4000000 in
set_option maxRecDepth 100000 in
theorem right1_map (t : Array Value) (hs : t.size = 48) (w : World) {B n cap : Nat} {l : Int} {ao : Option Addr} {m : Nat} {y : Bool} {f : Int → Option Value}
    (hq1 : t.getD 1 undef = .pointer (some ⟨B, 0, none⟩))
    (p0 : w.cell? ⟨B, 0, none⟩ = some (.int .i64 l)) (p1 : w.cell? ⟨B, 1, none⟩ = some (.slice ao n cap))
    (hz : ¬ l = 0) (ho : oddP l = true)
    (hgt : decide ((4 : Int) < (n : Int)) = false) (hm : ((m : Int) != (n : Int)) = y)
    (HK : Hid (∀ W, New w W → Calls Tryz.prog 55 #[.agg #[.int .i64 l, .slice ao n cap]] W fun e w' => ∃ M, e = .returned (.map (some M)) ∧ MapD (k1 .i64) w' M m f ∧ New W w')) :
    reg_prio_Right_1.wp Tryz.prog (Only fun a' W' => ∃ z : Nat → Value, a' = ⟨((((((((((((((((((((((((t).setIfInBounds 5 (z 5)).setIfInBounds 6 (z 6)).setIfInBounds 7 (z 7)).setIfInBounds 8 (z 8)).setIfInBounds 9 (z 9)).setIfInBounds 10 (z 10)).setIfInBounds 11 (z 11)).setIfInBounds 12 (z 12)).setIfInBounds 13 (z 13)).setIfInBounds 14 (z 14)).setIfInBounds 15 (z 15)).setIfInBounds 16 (z 16)).setIfInBounds 17 (z 17)).setIfInBounds 18 (z 18)).setIfInBounds 19 (z 19)).setIfInBounds 20 (z 20)).setIfInBounds 21 (z 21)).setIfInBounds 22 (z 22)).setIfInBounds 23 (z 23)).setIfInBounds 24 (z 24)).setIfInBounds 25 (z 25)).setIfInBounds 26 (z 26)).setIfInBounds 27 (z 27)).setIfInBounds 28 (.bool y), []⟩ ∧ New w W') ⟨t, []⟩ w := by
  conv => arg 2; whnf
  obtain ⟨u, rfl⟩ := lit48 t hs
  have hq1 : u 1 = .pointer (some ⟨B, 0, none⟩) := hq1
  rw [hq1]
  clear hq1 hs
  refine wp_region_held (S := fun W => New w W) (by kernel_rfl) ?_
  show wpAnyH _ _ _ _ _ 24 _ _ w.drew
  have hN : New w w.drew := (Mods.refl _ _).drew
  have hS : New w w.drew := (Mods.refl _ _).drew
  refine anyH_take 0 (some 5) (.pointer (some ⟨B, 0, none⟩)) rfl rfl (by kernel_rfl) (by kernel_rfl) (by kernel_rfl) (fun _ _ _ h => h.elim) (.inl ⟨by rfl, fun W hW => by go_simp⟩) hS ?_
  simp only [Act.put, List.setIfInBounds_toArray, List.set_cons_succ, List.set_cons_zero]
  refine anyH_take 1 (some 6) (.int .i64 l) rfl rfl (by kernel_rfl) (by kernel_rfl) (by kernel_rfl) (fun _ _ _ h => h.elim) (.inl ⟨by rfl, fun W hW => by have hh : New w W := hW; have q := hh.cell p0 id; go_simp⟩) hS ?_
  simp only [Act.put, List.setIfInBounds_toArray, List.set_cons_succ, List.set_cons_zero]
  refine anyH_take 2 (some 7) (.bool true) rfl rfl (by kernel_rfl) (by kernel_rfl) (by kernel_rfl) (fun _ _ _ h => h.elim) (.inl ⟨by rfl, fun W hW => by go_simp; first | done | exact hz⟩) hS ?_
  simp only [Act.put, List.setIfInBounds_toArray, List.set_cons_succ, List.set_cons_zero]
  refine anyH_take 3 (some 8) (.bool true) rfl rfl (by kernel_rfl) (by kernel_rfl) (by kernel_rfl) (fun _ _ _ h => h.elim) (.inl ⟨by rfl, fun W hW => by go_simp⟩) hS ?_
  simp only [Act.put, List.setIfInBounds_toArray, List.set_cons_succ, List.set_cons_zero]
  refine anyH_take 4 (some 9) (.pointer (some ⟨B, 0, none⟩)) rfl rfl (by kernel_rfl) (by kernel_rfl) (by kernel_rfl) (fun _ _ _ h => h.elim) (.inl ⟨by rfl, fun W hW => by go_simp⟩) hS ?_
  simp only [Act.put, List.setIfInBounds_toArray, List.set_cons_succ, List.set_cons_zero]
  refine anyH_take 5 (some 10) (.int .i64 l) rfl rfl (by kernel_rfl) (by kernel_rfl) (by kernel_rfl) (fun _ _ _ h => h.elim) (.inl ⟨by rfl, fun W hW => by have hh : New w W := hW; have q := hh.cell p0 id; go_simp⟩) hS ?_
  simp only [Act.put, List.setIfInBounds_toArray, List.set_cons_succ, List.set_cons_zero]
  refine wpAnyH_all (rs := [6]) (by kernel_rfl) (by simp) ?_
  simp only [List.mem_cons, List.not_mem_nil, or_false, forall_eq]
  refine opH_call (some 11) rfl (by rfl) rfl 51 #[.int .i64 l] (by go_simp) ((((odd_p l _).mono (R' := fun e w' => e = .returned (.bool true) ∧ New _ w') (by rintro e w' ⟨rfl, rfl⟩; exact ⟨by rw [ho], Mods.refl _ _⟩))).mono ?_)
  rintro e w6 ⟨rfl, hk⟩
  have hS := hS.trans hk
  have hN := hN.trans hk
  clear hk
  refine ⟨_, rfl, hS, ?_⟩
  simp only [Act.put, List.setIfInBounds_toArray, List.set_cons_succ, List.set_cons_zero]
  refine anyH_take 7 (some 12) (.bool false) rfl rfl (by kernel_rfl) (by kernel_rfl) (by kernel_rfl) (fun _ _ _ h => h.elim) (.inl ⟨by rfl, fun W hW => by go_simp⟩) hS ?_
  simp only [Act.put, List.setIfInBounds_toArray, List.set_cons_succ, List.set_cons_zero]
  refine anyH_take 8 (some 13) (.bool false) rfl rfl (by kernel_rfl) (by kernel_rfl) (by kernel_rfl) (fun _ _ _ h => h.elim) (.inl ⟨by rfl, fun W hW => by go_simp⟩) hS ?_
  simp only [Act.put, List.setIfInBounds_toArray, List.set_cons_succ, List.set_cons_zero]
  refine anyH_take 9 (some 14) (.bool false) rfl rfl (by kernel_rfl) (by kernel_rfl) (by kernel_rfl) (fun _ _ _ h => h.elim) (.inl ⟨by rfl, fun W hW => by go_simp⟩) hS ?_
  simp only [Act.put, List.setIfInBounds_toArray, List.set_cons_succ, List.set_cons_zero]
  refine anyH_take 10 (some 15) (.pointer (some ⟨B, 1, none⟩)) rfl rfl (by kernel_rfl) (by kernel_rfl) (by kernel_rfl) (fun _ _ _ h => h.elim) (.inl ⟨by rfl, fun W hW => by go_simp⟩) hS ?_
  simp only [Act.put, List.setIfInBounds_toArray, List.set_cons_succ, List.set_cons_zero]
  refine anyH_take 11 (some 16) (.slice ao n cap) rfl rfl (by kernel_rfl) (by kernel_rfl) (by kernel_rfl) (fun _ _ _ h => h.elim) (.inl ⟨by rfl, fun W hW => by have hh : New w W := hW; have q := hh.cell p1 id; go_simp⟩) hS ?_
  simp only [Act.put, List.setIfInBounds_toArray, List.set_cons_succ, List.set_cons_zero]
  refine anyH_take 12 (some 17) (.int .i64 n) rfl rfl (by kernel_rfl) (by kernel_rfl) (by kernel_rfl) (fun _ _ _ h => h.elim) (.inl ⟨by rfl, fun W hW => by go_simp⟩) hS ?_
  simp only [Act.put, List.setIfInBounds_toArray, List.set_cons_succ, List.set_cons_zero]
  refine anyH_take 13 (some 18) (.bool false) rfl rfl (by kernel_rfl) (by kernel_rfl) (by kernel_rfl) (fun _ _ _ h => h.elim) (.inl ⟨by rfl, fun W hW => by go_simp⟩) hS ?_
  simp only [Act.put, List.setIfInBounds_toArray, List.set_cons_succ, List.set_cons_zero]
  refine anyH_take 14 (some 19) (.bool false) rfl rfl (by kernel_rfl) (by kernel_rfl) (by kernel_rfl) (fun _ _ _ h => h.elim) (.inl ⟨by rfl, fun W hW => by go_simp⟩) hS ?_
  simp only [Act.put, List.setIfInBounds_toArray, List.set_cons_succ, List.set_cons_zero]
  refine anyH_take 15 (some 20) (.bool false) rfl rfl (by kernel_rfl) (by kernel_rfl) (by kernel_rfl) (fun _ _ _ h => h.elim) (.inl ⟨by rfl, fun W hW => by go_simp⟩) hS ?_
  simp only [Act.put, List.setIfInBounds_toArray, List.set_cons_succ, List.set_cons_zero]
  refine anyH_take 16 (some 21) (.agg #[.int .i64 l, .slice ao n cap]) rfl rfl (by kernel_rfl) (by kernel_rfl) (by kernel_rfl) (fun _ _ _ h => h.elim) (.inl ⟨by rfl, fun W hW => by have hh : New w W := hW; have q0 := hh.cell p0 id; have q1 := hh.cell p1 id; go_simp⟩) hS ?_
  simp only [Act.put, List.setIfInBounds_toArray, List.set_cons_succ, List.set_cons_zero]
  refine anyH_take 19 (some 24) (.pointer (some ⟨B, 1, none⟩)) rfl rfl (by kernel_rfl) (by kernel_rfl) (by kernel_rfl) (fun _ _ _ h => h.elim) (.inl ⟨by rfl, fun W hW => by go_simp⟩) hS ?_
  simp only [Act.put, List.setIfInBounds_toArray, List.set_cons_succ, List.set_cons_zero]
  refine anyH_take 20 (some 25) (.slice ao n cap) rfl rfl (by kernel_rfl) (by kernel_rfl) (by kernel_rfl) (fun _ _ _ h => h.elim) (.inl ⟨by rfl, fun W hW => by have hh : New w W := hW; have q := hh.cell p1 id; go_simp⟩) hS ?_
  simp only [Act.put, List.setIfInBounds_toArray, List.set_cons_succ, List.set_cons_zero]
  refine anyH_take 21 (some 26) (.int .i64 n) rfl rfl (by kernel_rfl) (by kernel_rfl) (by kernel_rfl) (fun _ _ _ h => h.elim) (.inl ⟨by rfl, fun W hW => by go_simp⟩) hS ?_
  simp only [Act.put, List.setIfInBounds_toArray, List.set_cons_succ, List.set_cons_zero]
  refine wpAnyH_all (rs := [17]) (by kernel_rfl) (by simp) ?_
  simp only [List.mem_cons, List.not_mem_nil, or_false, forall_eq]
  refine opH_call (some 22) rfl (by rfl) rfl 55 #[.agg #[.int .i64 l, .slice ao n cap]] (by go_simp) ((HK.out _ hN).mono ?_)
  rintro e w17 ⟨M, rfl, hM, hk⟩
  have hS := hS.trans hk
  have hN := hN.trans hk
  clear hk
  refine ⟨_, rfl, hS, ?_⟩
  simp only [Act.put, List.setIfInBounds_toArray, List.set_cons_succ, List.set_cons_zero]
  refine wpAnyH_all (rs := [18]) (by kernel_rfl) (by simp) ?_
  simp only [List.mem_cons, List.not_mem_nil, or_false, forall_eq]
  refine opH_value (some 23) rfl (by rfl) rfl (v := .int .i64 m) (w' := w17) (run_lenMap (s := .tmp 22) rfl rfl hM) ?_
  refine ⟨hS, ?_⟩
  simp only [Act.put, List.setIfInBounds_toArray, List.set_cons_succ, List.set_cons_zero]
  refine anyH_take 22 (some 27) (.bool y) rfl rfl (by kernel_rfl) (by kernel_rfl) (by kernel_rfl) (fun _ _ _ h => h.elim) (.inl ⟨by rfl, fun W hW => by go_simp; first | done | exact hm⟩) hS ?_
  simp only [Act.put, List.setIfInBounds_toArray, List.set_cons_succ, List.set_cons_zero]
  refine anyH_take 23 (some 28) (.bool y) rfl rfl (by kernel_rfl) (by kernel_rfl) (by kernel_rfl) (fun _ _ _ h => h.elim) (.inl ⟨by rfl, fun W hW => by go_simp⟩) hS ?_
  simp only [Act.put, List.setIfInBounds_toArray, List.set_cons_succ, List.set_cons_zero]
  refine wpAnyH_done (by kernel_rfl) ?_ _
  exact ⟨(fun zz => ([.pointer (some ⟨B, 0, none⟩), .int .i64 l, .bool true, .bool true, .pointer (some ⟨B, 0, none⟩), .int .i64 l, .bool true, .bool false, .bool false, .bool false, .pointer (some ⟨B, 1, none⟩), .slice ao n cap, .int .i64 n, .bool false, .bool false, .bool false, .agg #[.int .i64 l, .slice ao n cap], .map (some M), .int .i64 m, .pointer (some ⟨B, 1, none⟩), .slice ao n cap, .int .i64 n, .bool y] : List Value).getD (cond (Nat.beq zz 5) 0 (cond (Nat.beq zz 6) 1 (cond (Nat.beq zz 7) 2 (cond (Nat.beq zz 8) 3 (cond (Nat.beq zz 9) 4 (cond (Nat.beq zz 10) 5 (cond (Nat.beq zz 11) 6 (cond (Nat.beq zz 12) 7 (cond (Nat.beq zz 13) 8 (cond (Nat.beq zz 14) 9 (cond (Nat.beq zz 15) 10 (cond (Nat.beq zz 16) 11 (cond (Nat.beq zz 17) 12 (cond (Nat.beq zz 18) 13 (cond (Nat.beq zz 19) 14 (cond (Nat.beq zz 20) 15 (cond (Nat.beq zz 21) 16 (cond (Nat.beq zz 22) 17 (cond (Nat.beq zz 23) 18 (cond (Nat.beq zz 24) 19 (cond (Nat.beq zz 25) 20 (cond (Nat.beq zz 26) 21 (cond (Nat.beq zz 27) 22 (0)))))))))))))))))))))))) undef), rfl, hN⟩
end Go.Proofs.YtkiiameibdhdfaaGreatDoor
/- Right (the program). -/
namespace Go.Proofs.YtkiiameibdhdfaaGreatDoor
open Go.RowKit Go.Shelf Go.Cs
attribute [local go_sem] Oper.semAt_some
set_option linter.unusedVariables false
set_option linter.unusedSimpArgs false
def okW (l : Int) (x : WP) : Bool := withinP l x.s && decide (x.u ≤ 7)
/-- May it be known? -/
def rightP (l : Int) (d : List WP) : Bool := (decide (l = 0) || oddP l) && (decide (d.length ≤ 4) && (decide (kN d d.length = d.length) && d.all (okW l)))
theorem odd_facts {l : Int} (h : oddP l = true) : 0 < l ∧ l < 2147483648 ∧ l % 2 = 1 := of_decide_eq_true h
set_option maxHeartbeats 4000000 in
set_option maxRecDepth 100000 in
theorem right_p (l : Int) (v : Value) (d : List WP) (w : World) (h : RdW w v d) (hu : ∀ x ∈ d, x.u < 256) :
    Calls Tryz.prog 43 #[.agg #[.int .i64 l, v]] w fun e w' => e = .returned (.bool (rightP l d)) ∧ New w w' := by
  have H := Lib.hid h
  have HU := Lib.hid hu
  have HK := Lib.hid (fun W (hN : New w W) => known_p l v d W (h.new hN))
  have hn1 : d.length ≤ 281474976710656 := h.1
  obtain ⟨ao, cap, rfl⟩ := h.slice
  obtain ⟨m, hm⟩ : ∃ m, kN d d.length = m := ⟨_, rfl⟩
  obtain ⟨f, hf⟩ : ∃ f, kF d = f := ⟨_, rfl⟩
  rw [hm, hf] at HK
  obtain ⟨n, hn⟩ : ∃ n, d.length = n := ⟨_, rfl⟩
  obtain ⟨z, hz⟩ : ∃ z, rightP l d = z := ⟨_, rfl⟩
  have hz' : ((decide (l = 0) || oddP l) && (decide (n ≤ 4) && (decide (m = n) && d.all (okW l)))) = z := by
    rw [← hz, ← hm, ← hn]; rfl
  rw [hn] at H hn1 HK
  have Hn := Lib.hid hn
  rw [hz, hn]
  clear h hn hz hm hf hu
  have r0 := World.alloc_heap_new w (.cells #[.int .i64 l, .slice ao n cap] 26)
  have hA : New w (w.alloc (.cells #[.int .i64 l, .slice ao n cap] 26)) := (Mods.refl _ _).alloc _
  obtain ⟨W0, hW0⟩ : ∃ W, w.alloc (.cells #[.int .i64 l, .slice ao n cap] 26) = W := ⟨_, rfl⟩
  obtain ⟨B, hB⟩ : ∃ B, w.heap.size = B := ⟨_, rfl⟩
  have hB' : W0.heap.size = B + 1 := by rw [← hW0, ← hB]; simp
  rw [hW0] at r0 hA
  rw [hB] at r0
  obtain ⟨⟨p0, p1⟩, -⟩ := pc_facts r0
  have HZZ := Lib.hid hz'
  clear hz'
  go_enter Tryz.func43, Tryz.ntmps43
  go_upto_region 1 with fail
  refine wp_scope_fwd 0 (fun a W => (a.tmps.size = 48 ∧ a.defers = []) ∧ Hid (z = false) ∧ New w W) rfl ?first ?pass
  case pass =>
    rintro ⟨y, dfs⟩ W ⟨⟨hs, hd⟩, hrn, hN⟩
    simp only at hs hd
    subst hd
    obtain ⟨u, rfl⟩ := lit48 y hs
    obtain rfl := hrn.out
    clear hs hrn HZZ
    go_wp2_with fail
    rw [Exit.noGoto_ret]
    go_ret
    exact ⟨rfl, hN⟩
  case first =>
  have hz' := HZZ.out
  clear HZZ
  by_cases hl : l = 0
  · subst hl
    by_cases hgt : 4 < n
    · have hg : decide ((4 : Int) < (n : Int)) = true := decide_eq_true (by omega)
      have hz2 : z = false := by rw [← hz', decide_eq_false (show ¬ n ≤ 4 by omega)]; simp
      subst hz2
      clear hz'
      go_upto_region 1 with fail
      refine piece (fun _ => _) (right1_long0 (l := 0) _ rfl W0 rfl p0 p1 hg) ?_
      rintro a' w1 ⟨zz, rfl, hN1⟩
      simp only [List.setIfInBounds_toArray, List.set_cons_succ, List.set_cons_zero]
      go_wp2_with fail
      exact wp_goto (And.intro rfl ⟨⟨rfl, rfl⟩, Lib.hid rfl, hA.trans hN1⟩)
    · have hg : decide ((4 : Int) < (n : Int)) = false := decide_eq_false (by omega)
      have HK0 := Lib.hid (fun W (hN : New W0 W) => HK.out W (hA.trans hN))
      by_cases hmn : m = n
      · have hm1 : ((m : Int) != (n : Int)) = false := by subst hmn; simp
        have hz2 : d.all (okW 0) = z := by rw [← hz', decide_eq_true (show n ≤ 4 by omega), decide_eq_true hmn]; simp
        clear hz' HK
        go_upto_region 1 with fail
        refine piece (fun _ => _) (right1_map0 (l := 0) _ rfl W0 rfl p0 p1 hg hm1 HK0) ?_
        rintro a' w1 ⟨zz, rfl, hN1⟩
        simp only [List.setIfInBounds_toArray, List.set_cons_succ, List.set_cons_zero]
        replace r0 := hN1.heap r0 id
        clear p0 p1
        obtain ⟨⟨p0, p1⟩, -⟩ := pc_facts r0
        have hN := hA.trans hN1
        clear HK0 hA hN1
        go_upto_region 3 with fail
        have HZ := Lib.hid hz2
        have r0' := Lib.hid r0
        clear hz2 r0
        go_loopw [32] (fun t wr => ∃ k : Nat, k ≤ n ∧ t = .int .i64 k ∧ Hid (∀ j, j < k → okW 0 (d.getD j noW) = true) ∧ New w wr ∧ New w1 wr) (fun t _ => n - (intOf t).toNat)
        case atStart => exact ⟨0, Nat.zero_le _, rfl, Lib.hid fun i hi => by omega, hN, Mods.refl _ _⟩
        case round =>
          clear hN
          obtain ⟨k, hk, rfl, hbef, hN, hN1⟩ := hrel
          have r0 := hN1.heap r0'.out id
          clear p0 p1
          obtain ⟨⟨p0, p1⟩, -⟩ := pc_facts r0
          by_cases hlt : k < n
          · have hkd : decide ((k : Int) < (n : Int)) = true := decide_eq_true (by omega)
            obtain ⟨b1, o1, rfl, hrow⟩ := (H.out.new hN).at.2.2 k hlt
            obtain ⟨x, hx⟩ : ∃ x, d.getD k noW = x := ⟨_, rfl⟩
            have hrow : wr.rangeAt b1 (o1 + k * 3) (wcs x) := by rw [← hx]; exact hrow
            obtain ⟨q0, q1, q2⟩ := cells3w hrow
            have hxm : x ∈ d := by rw [← hx]; exact getD_mem (by have := Hn.out; omega)
            have hxu := HU.out x hxm
            clear hrow
            have r1 := World.alloc_heap_new wr (.cells #[.int .i64 x.s, .int .u8 x.u, .bool x.i] 40)
            have hAx : New wr (wr.alloc (.cells #[.int .i64 x.s, .int .u8 x.u, .bool x.i] 40)) := (Mods.refl _ _).alloc _
            obtain ⟨W2, hW2⟩ : ∃ W, wr.alloc (.cells #[.int .i64 x.s, .int .u8 x.u, .bool x.i] 40) = W := ⟨_, rfl⟩
            obtain ⟨X, hX⟩ : ∃ X, wr.heap.size = X := ⟨_, rfl⟩
            go_upto_region 5 with fail
            rw [hW2] at hAx r1
            rw [hX] at r1
            replace hN := hN.trans hAx
            replace hN1 := hN1.trans hAx
            replace r0 := hAx.heap r0 id
            clear q0 q1 q2 p0 p1 hW2 hX hAx
            obtain ⟨⟨p0, p1⟩, -⟩ := pc_facts r0
            have q0 := cell_of_row _ _ 0 _ _ _ r1
            simp only [List.getElem?_toArray, List.getElem?_cons_zero, List.getElem?_cons_succ] at q0
            have HWi := Lib.hid (within_p 0 x.s (.slice (some ⟨b1, o1, none⟩) n cap) W2 (by decide) (by decide))
            cases hwi : withinP 0 x.s with
            | false =>
              rw [hwi] at HWi
              obtain rfl : z = false := by
                rw [← HZ.out]
                refine Bool.eq_false_iff.2 fun h => ?_
                have := List.all_eq_true.1 h x hxm
                unfold okW at this
                rw [hwi] at this
                cases this
              clear hbef r0 hx
              go_wp2_with fail
              refine HWi.out.mono ?_
              rintro e w2 ⟨rfl, hk2⟩
              go_wp2_with fail
              exact wp_goto (And.intro rfl ⟨⟨rfl, rfl⟩, Lib.hid rfl, hN.trans hk2⟩)
            | true =>
              rw [hwi] at HWi
              have HRu := Lib.hid (fun W => right_pr x.u x.i hxu W)
              unfold prV at HRu
              by_cases h7 : x.u ≤ 7
              · rw [decide_eq_true h7] at HRu
                have hok : okW 0 x = true := by unfold okW; rw [hwi, decide_eq_true h7]; rfl
                have hh : Hid (∀ j, j < k + 1 → okW 0 (d.getD j noW) = true) := Lib.hid fun i hi => by
                  by_cases hik : i < k
                  · exact hbef.out i hik
                  · obtain rfl : i = k := by omega
                    rw [hx]; exact hok
                clear hbef r0 hx hok
                go_wp2_with fail
                refine HWi.out.mono ?_
                rintro e w2 ⟨rfl, hk2⟩
                replace hN := hN.trans hk2
                replace hN1 := hN1.trans hk2
                replace r1 := hk2.heap r1 id
                clear q0 p0 p1 hk2
                have q0 := cell_of_row _ _ 0 _ _ _ r1
                have q1 := cell_of_row _ _ 1 _ _ _ r1
                have q2 := cell_of_row _ _ 2 _ _ _ r1
                simp only [List.getElem?_toArray, List.getElem?_cons_zero, List.getElem?_cons_succ] at q0 q1 q2
                clear r1
                go_wp2_with fail
                refine (HRu.out _).mono ?_
                rintro e w3 ⟨rfl, hk2⟩
                replace hN := hN.trans hk2
                replace hN1 := hN1.trans hk2
                clear q0 q1 q2 hk2
                go_wp2_with fail
                go_roundw
                case rel => exact ⟨k + 1, by omega, by go_num, hh, hN, hN1⟩
                case measure => simp [intOf]; omega
              · rw [decide_eq_false h7] at HRu
                obtain rfl : z = false := by
                  rw [← HZ.out]
                  refine Bool.eq_false_iff.2 fun h => ?_
                  have := List.all_eq_true.1 h x hxm
                  unfold okW at this
                  rw [hwi, decide_eq_false h7] at this
                  cases this
                clear hbef r0 hx
                go_wp2_with fail
                refine HWi.out.mono ?_
                rintro e w2 ⟨rfl, hk2⟩
                replace hN := hN.trans hk2
                replace r1 := hk2.heap r1 id
                clear q0 p0 p1 hk2
                have q0 := cell_of_row _ _ 0 _ _ _ r1
                have q1 := cell_of_row _ _ 1 _ _ _ r1
                have q2 := cell_of_row _ _ 2 _ _ _ r1
                simp only [List.getElem?_toArray, List.getElem?_cons_zero, List.getElem?_cons_succ] at q0 q1 q2
                clear r1
                go_wp2_with fail
                refine (HRu.out _).mono ?_
                rintro e w3 ⟨rfl, hk2⟩
                replace hN := hN.trans hk2
                clear q0 q1 q2 hk2
                go_wp2_with fail
                exact wp_goto (And.intro rfl ⟨⟨rfl, rfl⟩, Lib.hid rfl, hN⟩)
          · have hkd : decide ((k : Int) < (n : Int)) = false := decide_eq_false (by omega)
            obtain rfl : z = true := by
              rw [← HZ.out]
              refine List.all_eq_true.2 fun x hx => ?_
              obtain ⟨i, hi⟩ := List.getElem?_of_mem hx
              have hil := (List.getElem?_eq_some_iff.1 hi).1
              have := hbef.out i (by have := Hn.out; omega)
              rw [List.getD_eq_getElem?_getD, hi] at this
              exact this
            clear hbef r0
            go_wp2_with fail
            simp only [Exit.jump]
            go_ret
            exact ⟨rfl, hN⟩
      · have hm1 : ((m : Int) != (n : Int)) = true := bne_iff_ne.2 (by omega)
        have hz2 : z = false := by rw [← hz', decide_eq_false hmn]; simp
        subst hz2
        clear hz' HK
        go_upto_region 1 with fail
        refine piece (fun _ => _) (right1_map0 (l := 0) _ rfl W0 rfl p0 p1 hg hm1 HK0) ?_
        rintro a' w1 ⟨zz, rfl, hN1⟩
        simp only [List.setIfInBounds_toArray, List.set_cons_succ, List.set_cons_zero]
        go_wp2_with fail
        exact wp_goto (And.intro rfl ⟨⟨rfl, rfl⟩, Lib.hid rfl, hA.trans hN1⟩)
  · have hlz : decide (l = 0) = false := decide_eq_false hl
    rw [hlz, Bool.false_or] at hz'
    cases ho : oddP l with
    | false =>
      rw [ho, Bool.false_and] at hz'
      subst hz'
      go_upto_region 1 with fail
      refine piece (fun _ => _) (right1_bad _ rfl W0 rfl p0 p1 hl ho) ?_
      rintro a' w1 ⟨z, rfl, hN1⟩
      simp only [List.setIfInBounds_toArray, List.set_cons_succ, List.set_cons_zero]
      go_wp2_with fail
      exact wp_goto (And.intro rfl ⟨⟨rfl, rfl⟩, Lib.hid rfl, hA.trans hN1⟩)
    | true =>
      rw [ho, Bool.true_and] at hz'
      have hb := odd_facts ho
      by_cases hgt : 4 < n
      · have hg : decide ((4 : Int) < (n : Int)) = true := decide_eq_true (by omega)
        have hz2 : z = false := by rw [← hz', decide_eq_false (show ¬ n ≤ 4 by omega)]; simp
        subst hz2
        clear hz'
        go_upto_region 1 with fail
        refine piece (fun _ => _) (right1_long _ rfl W0 rfl p0 p1 hl ho hg) ?_
        rintro a' w1 ⟨zz, rfl, hN1⟩
        simp only [List.setIfInBounds_toArray, List.set_cons_succ, List.set_cons_zero]
        go_wp2_with fail
        exact wp_goto (And.intro rfl ⟨⟨rfl, rfl⟩, Lib.hid rfl, hA.trans hN1⟩)
      · have hg : decide ((4 : Int) < (n : Int)) = false := decide_eq_false (by omega)
        have HK0 := Lib.hid (fun W (hN : New W0 W) => HK.out W (hA.trans hN))
        by_cases hmn : m = n
        · have hm1 : ((m : Int) != (n : Int)) = false := by subst hmn; simp
          have hz2 : d.all (okW l) = z := by rw [← hz', decide_eq_true (show n ≤ 4 by omega), decide_eq_true hmn]; simp
          clear hz' HK
          go_upto_region 1 with fail
          refine piece (fun _ => _) (right1_map _ rfl W0 rfl p0 p1 hl ho hg hm1 HK0) ?_
          rintro a' w1 ⟨zz, rfl, hN1⟩
          simp only [List.setIfInBounds_toArray, List.set_cons_succ, List.set_cons_zero]
          replace r0 := hN1.heap r0 id
          clear p0 p1
          obtain ⟨⟨p0, p1⟩, -⟩ := pc_facts r0
          have hN := hA.trans hN1
          clear HK0 hA hN1
          go_upto_region 3 with fail
          have HZ := Lib.hid hz2
          have r0' := Lib.hid r0
          clear hz2 r0
          go_loopw [32] (fun t wr => ∃ k : Nat, k ≤ n ∧ t = .int .i64 k ∧ Hid (∀ j, j < k → okW l (d.getD j noW) = true) ∧ New w wr ∧ New w1 wr) (fun t _ => n - (intOf t).toNat)
          case atStart => exact ⟨0, Nat.zero_le _, rfl, Lib.hid fun i hi => by omega, hN, Mods.refl _ _⟩
          case round =>
            clear hN
            obtain ⟨k, hk, rfl, hbef, hN, hN1⟩ := hrel
            have r0 := hN1.heap r0'.out id
            clear p0 p1
            obtain ⟨⟨p0, p1⟩, -⟩ := pc_facts r0
            by_cases hlt : k < n
            · have hkd : decide ((k : Int) < (n : Int)) = true := decide_eq_true (by omega)
              obtain ⟨b1, o1, rfl, hrow⟩ := (H.out.new hN).at.2.2 k hlt
              obtain ⟨x, hx⟩ : ∃ x, d.getD k noW = x := ⟨_, rfl⟩
              have hrow : wr.rangeAt b1 (o1 + k * 3) (wcs x) := by rw [← hx]; exact hrow
              obtain ⟨q0, q1, q2⟩ := cells3w hrow
              have hxm : x ∈ d := by rw [← hx]; exact getD_mem (by have := Hn.out; omega)
              have hxu := HU.out x hxm
              clear hrow
              have r1 := World.alloc_heap_new wr (.cells #[.int .i64 x.s, .int .u8 x.u, .bool x.i] 40)
              have hAx : New wr (wr.alloc (.cells #[.int .i64 x.s, .int .u8 x.u, .bool x.i] 40)) := (Mods.refl _ _).alloc _
              obtain ⟨W2, hW2⟩ : ∃ W, wr.alloc (.cells #[.int .i64 x.s, .int .u8 x.u, .bool x.i] 40) = W := ⟨_, rfl⟩
              obtain ⟨X, hX⟩ : ∃ X, wr.heap.size = X := ⟨_, rfl⟩
              go_upto_region 5 with fail
              rw [hW2] at hAx r1
              rw [hX] at r1
              replace hN := hN.trans hAx
              replace hN1 := hN1.trans hAx
              replace r0 := hAx.heap r0 id
              clear q0 q1 q2 p0 p1 hW2 hX hAx
              obtain ⟨⟨p0, p1⟩, -⟩ := pc_facts r0
              have q0 := cell_of_row _ _ 0 _ _ _ r1
              simp only [List.getElem?_toArray, List.getElem?_cons_zero, List.getElem?_cons_succ] at q0
              have HWi := Lib.hid (within_p l x.s (.slice (some ⟨b1, o1, none⟩) n cap) W2 (by omega) (by omega))
              cases hwi : withinP l x.s with
              | false =>
                rw [hwi] at HWi
                obtain rfl : z = false := by
                  rw [← HZ.out]
                  refine Bool.eq_false_iff.2 fun h => ?_
                  have := List.all_eq_true.1 h x hxm
                  unfold okW at this
                  rw [hwi] at this
                  cases this
                clear hbef r0 hx
                go_wp2_with fail
                refine HWi.out.mono ?_
                rintro e w2 ⟨rfl, hk2⟩
                go_wp2_with fail
                exact wp_goto (And.intro rfl ⟨⟨rfl, rfl⟩, Lib.hid rfl, hN.trans hk2⟩)
              | true =>
                rw [hwi] at HWi
                have HRu := Lib.hid (fun W => right_pr x.u x.i hxu W)
                unfold prV at HRu
                by_cases h7 : x.u ≤ 7
                · rw [decide_eq_true h7] at HRu
                  have hok : okW l x = true := by unfold okW; rw [hwi, decide_eq_true h7]; rfl
                  have hh : Hid (∀ j, j < k + 1 → okW l (d.getD j noW) = true) := Lib.hid fun i hi => by
                    by_cases hik : i < k
                    · exact hbef.out i hik
                    · obtain rfl : i = k := by omega
                      rw [hx]; exact hok
                  clear hbef r0 hx hok
                  go_wp2_with fail
                  refine HWi.out.mono ?_
                  rintro e w2 ⟨rfl, hk2⟩
                  replace hN := hN.trans hk2
                  replace hN1 := hN1.trans hk2
                  replace r1 := hk2.heap r1 id
                  clear q0 p0 p1 hk2
                  have q0 := cell_of_row _ _ 0 _ _ _ r1
                  have q1 := cell_of_row _ _ 1 _ _ _ r1
                  have q2 := cell_of_row _ _ 2 _ _ _ r1
                  simp only [List.getElem?_toArray, List.getElem?_cons_zero, List.getElem?_cons_succ] at q0 q1 q2
                  clear r1
                  go_wp2_with fail
                  refine (HRu.out _).mono ?_
                  rintro e w3 ⟨rfl, hk2⟩
                  replace hN := hN.trans hk2
                  replace hN1 := hN1.trans hk2
                  clear q0 q1 q2 hk2
                  go_wp2_with fail
                  go_roundw
                  case rel => exact ⟨k + 1, by omega, by go_num, hh, hN, hN1⟩
                  case measure => simp [intOf]; omega
                · rw [decide_eq_false h7] at HRu
                  obtain rfl : z = false := by
                    rw [← HZ.out]
                    refine Bool.eq_false_iff.2 fun h => ?_
                    have := List.all_eq_true.1 h x hxm
                    unfold okW at this
                    rw [hwi, decide_eq_false h7] at this
                    cases this
                  clear hbef r0 hx
                  go_wp2_with fail
                  refine HWi.out.mono ?_
                  rintro e w2 ⟨rfl, hk2⟩
                  replace hN := hN.trans hk2
                  replace r1 := hk2.heap r1 id
                  clear q0 p0 p1 hk2
                  have q0 := cell_of_row _ _ 0 _ _ _ r1
                  have q1 := cell_of_row _ _ 1 _ _ _ r1
                  have q2 := cell_of_row _ _ 2 _ _ _ r1
                  simp only [List.getElem?_toArray, List.getElem?_cons_zero, List.getElem?_cons_succ] at q0 q1 q2
                  clear r1
                  go_wp2_with fail
                  refine (HRu.out _).mono ?_
                  rintro e w3 ⟨rfl, hk2⟩
                  replace hN := hN.trans hk2
                  clear q0 q1 q2 hk2
                  go_wp2_with fail
                  exact wp_goto (And.intro rfl ⟨⟨rfl, rfl⟩, Lib.hid rfl, hN⟩)
            · have hkd : decide ((k : Int) < (n : Int)) = false := decide_eq_false (by omega)
              obtain rfl : z = true := by
                rw [← HZ.out]
                refine List.all_eq_true.2 fun x hx => ?_
                obtain ⟨i, hi⟩ := List.getElem?_of_mem hx
                have hil := (List.getElem?_eq_some_iff.1 hi).1
                have := hbef.out i (by have := Hn.out; omega)
                rw [List.getD_eq_getElem?_getD, hi] at this
                exact this
              clear hbef r0
              go_wp2_with fail
              simp only [Exit.jump]
              go_ret
              exact ⟨rfl, hN⟩
        · have hm1 : ((m : Int) != (n : Int)) = true := bne_iff_ne.2 (by omega)
          have hz2 : z = false := by rw [← hz', decide_eq_false hmn]; simp
          subst hz2
          clear hz' HK
          go_upto_region 1 with fail
          refine piece (fun _ => _) (right1_map _ rfl W0 rfl p0 p1 hl ho hg hm1 HK0) ?_
          rintro a' w1 ⟨zz, rfl, hN1⟩
          simp only [List.setIfInBounds_toArray, List.set_cons_succ, List.set_cons_zero]
          go_wp2_with fail
          exact wp_goto (And.intro rfl ⟨⟨rfl, rfl⟩, Lib.hid rfl, hA.trans hN1⟩)
end Go.Proofs.YtkiiameibdhdfaaGreatDoor
/- Waiting (the program). -/
namespace Go.Proofs.YtkiiameibdhdfaaGreatDoor
open Go.RowKit Go.Shelf Go.Cs
attribute [local go_sem] Oper.semAt_some
set_option linter.unusedVariables false
set_option linter.unusedSimpArgs false
/-- What waits for a stream. -/
def waitP (l : Int) (d : List WP) (s : Int) : Option WP := if rightP l d then d.reverse.find? (fun x => decide (x.s = s)) else none
def waitV (o : Option WP) : Value := .tuple #[(o.map pv).getD (prV 3 false), .bool o.isSome]
set_option maxHeartbeats 4000000 in
set_option maxRecDepth 100000 in
theorem waiting_p (l : Int) (v : Value) (d : List WP) (s : Int) (w : World) (h : RdW w v d) (hu : ∀ x ∈ d, x.u < 256) :
    Calls Tryz.prog 22 #[.agg #[.int .i64 l, v], .int .i64 s] w fun e w' => e = .returned (waitV (waitP l d s)) ∧ New w w' := by
  have HR := Lib.hid (fun W (hN : New w W) => right_p l v d W (h.new hN) hu)
  have HK := Lib.hid (fun W (hN : New w W) => known_p l v d W (h.new hN))
  obtain ⟨ao, cap, rfl⟩ := h.slice
  obtain ⟨n, hn⟩ : ∃ n, d.length = n := ⟨_, rfl⟩
  obtain ⟨o, ho⟩ : ∃ o, waitP l d s = o := ⟨_, rfl⟩
  have HO := Lib.hid ho
  rw [ho]
  obtain ⟨f, hf⟩ : ∃ f, kF d = f := ⟨_, rfl⟩
  have HF := Lib.hid hf
  rw [hn] at HR HK ⊢
  rw [hf] at HK
  clear h hu hn ho hf
  have r0 := World.alloc_heap_new w (.cells #[.int .i64 l, .slice ao n cap] 26)
  have hA0 : New w (w.alloc (.cells #[.int .i64 l, .slice ao n cap] 26)) := (Mods.refl _ _).alloc _
  have hs0 : (w.alloc (.cells #[.int .i64 l, .slice ao n cap] 26)).heap.size = w.heap.size + 1 := by simp
  obtain ⟨W0, hW0⟩ : ∃ W, w.alloc (.cells #[.int .i64 l, .slice ao n cap] 26) = W := ⟨_, rfl⟩
  rw [hW0] at r0 hA0 hs0
  have r1 := World.alloc_heap_new W0 (.cells #[.int .u8 0, .bool false] 31)
  have hA1 : New W0 (W0.alloc (.cells #[.int .u8 0, .bool false] 31)) := (Mods.refl _ _).alloc _
  obtain ⟨W1, hW1⟩ : ∃ W, W0.alloc (.cells #[.int .u8 0, .bool false] 31) = W := ⟨_, rfl⟩
  rw [hW1] at r1 hA1
  replace r0 := hA1.heap r0 id
  obtain ⟨B, hB⟩ : ∃ B, w.heap.size = B := ⟨_, rfl⟩
  rw [hB] at r0 hs0
  rw [hs0] at r1
  have hN := hA0.trans hA1
  have hwB : w.heap.size ≤ B := by omega
  go_enter Tryz.func22, Tryz.ntmps22
  go_upto_region 1 with fail
  clear hA0 hA1 hW0 hW1 hs0 hB
  obtain ⟨⟨p0, p1⟩, -⟩ := pc_facts r0
  cases hr : rightP l d with
  | false =>
    obtain rfl : o = none := by rw [← HO.out]; unfold waitP; rw [hr]; rfl
    rw [hr] at HR
    clear hr HO HK
    go_wp2_with fail
    refine (HR.out _ hN).mono ?_
    rintro e w1 ⟨rfl, hk⟩
    replace hN := hN.trans hk
    replace r1 := hk.heap r1 id
    clear hk
    go_wp2_with fail
    refine (first_u _).mono ?_
    rintro e w3 ⟨rfl, hk⟩
    unfold prV
    replace hN := hN.trans hk
    replace r1 := hk.heap r1 id
    go_wp2_with (refine op_skip rfl (run_store_row 31 (.tmp 4) (.tmp 20) rfl (B + 1) rfl 31 [.int .u8 0, .bool false] [.int .u8 3, .bool false] rfl r1 sizePr rfl (by decide)) ?_)
    have hrow := setRow_heap w3 (B + 1) _ #[.int .u8 3, .bool false] _ _ r1
    refine bodyPost_ret (v := .tuple #[.agg #[.int .u8 3, .bool false], .bool false]) (results_row2 rfl _ _ (B + 1) 31 _ (0, 0) _ rfl hrow Tryz.underlying31 rfl sizePr rfl) rfl ?_
    exact ⟨rfl, hN.setRow (by omega) _⟩
  | true =>
    have hof : o.map pv = f s := by rw [← HO.out, ← HF.out]; unfold waitP kF; rw [hr, if_pos rfl]
    rw [hr] at HR
    clear hr HO
    go_wp2_with fail
    refine (HR.out _ hN).mono ?_
    rintro e w1 ⟨rfl, hk⟩
    replace hN := hN.trans hk
    replace r0 := hk.heap r0 id
    replace r1 := hk.heap r1 id
    clear hk p0 p1
    obtain ⟨⟨p0, p1⟩, -⟩ := pc_facts r0
    go_wp2_with fail
    refine (HK.out _ hN).mono ?_
    rintro e w2 ⟨M, rfl, hM, hk⟩
    replace hN := hN.trans hk
    replace r1 := hk.heap r1 id
    clear hk p0 p1 r0
    have hlook := hM.fn.look keyW Tryz.underlying88 (z := .agg #[.int .u8 0, .bool false]) (by go_simp) s true
    rw [← hof] at hlook
    unfold k1 at hlook
    cases o with
    | none =>
      have hlook : (Instr.lookup 88 (.map (some M)) (.agg #[.int .i64 s]) true).run Tryz.prog w2 = .ok (.tuple #[.agg #[.int .u8 0, .bool false], .bool false]) w2 := hlook
      have hAx : New w2 (w2.alloc (.cells #[.int .u8 0, .bool false] 31)) := (Mods.refl _ _).alloc _
      go_wp2_with fail
      refine (first_u _).mono ?_
      rintro e w3 ⟨rfl, hk⟩
      unfold prV
      replace hN := (hN.trans hAx).trans hk
      replace r1 := hk.heap (hAx.heap r1 id) id
      clear hk hAx
      go_wp2_with (refine op_skip rfl (run_store_row 31 (.tmp 4) (.tmp 20) rfl (B + 1) rfl 31 [.int .u8 0, .bool false] [.int .u8 3, .bool false] rfl r1 sizePr rfl (by decide)) ?_)
      have hrow := setRow_heap w3 (B + 1) _ #[.int .u8 3, .bool false] _ _ r1
      refine bodyPost_ret (v := .tuple #[.agg #[.int .u8 3, .bool false], .bool false]) (results_row2 rfl _ _ (B + 1) 31 _ (0, 0) _ rfl hrow Tryz.underlying31 rfl sizePr rfl) rfl ?_
      exact ⟨rfl, hN.setRow (by omega) _⟩
    | some x =>
      have hlook : (Instr.lookup 88 (.map (some M)) (.agg #[.int .i64 s]) true).run Tryz.prog w2 = .ok (.tuple #[.agg #[.int .u8 x.u, .bool x.i], .bool true]) w2 := hlook
      have hAx : New w2 (w2.alloc (.cells #[.int .u8 x.u, .bool x.i] 31)) := (Mods.refl _ _).alloc _
      have rx := World.alloc_heap_new w2 (.cells #[.int .u8 x.u, .bool x.i] 31)
      go_upto_region 4 with fail
      replace hN := hN.trans hAx
      replace r1 := hAx.heap r1 id
      obtain ⟨w3, hw3⟩ : ∃ W, w2.alloc (.cells #[.int .u8 x.u, .bool x.i] 31) = W := ⟨_, rfl⟩
      rw [hw3] at hN r1 rx ⊢
      obtain ⟨⟨q0, q1⟩, -⟩ := pr_facts rx
      clear hAx hw3 rx
      go_wp2_with (refine op_skip rfl (run_store_row 31 (.tmp 4) (.tmp 19) rfl (B + 1) rfl 31 [.int .u8 0, .bool false] [.int .u8 x.u, .bool x.i] rfl r1 sizePr rfl (by intro v hv; simp only [List.mem_cons, List.not_mem_nil, or_false] at hv; rcases hv with rfl | rfl <;> rfl)) ?_)
      have hrow := setRow_heap w3 (B + 1) _ #[.int .u8 x.u, .bool x.i] _ _ r1
      refine bodyPost_ret (v := .tuple #[.agg #[.int .u8 x.u, .bool x.i], .bool true]) (results_row2 rfl _ _ (B + 1) 31 _ (0, 0) _ rfl hrow Tryz.underlying31 rfl sizePr rfl) rfl ?_
      exact ⟨rfl, hN.setRow (by omega) _⟩
end Go.Proofs.YtkiiameibdhdfaaGreatDoor
/- A range over a function whose values are a known list, its round told whole (the assignments write memory, too). -/
namespace Go.Cs
open Go.RowKit
variable {P : Program}
theorem wp_rangeListA {g : Operand} {ps : Array Tmp} {assign body : Code} {Q : Exit → Act → World → Prop} {a : Act} {w : World}
    {gf : Nat} {lb : Array Value} (hg : a.eval g = .func (.func gf) #[] lb) (eg : ∀ args w, (callFunc gf args).run P w = .ok (.enter gf args) w)
    (L : List (Array Value)) (S : Nat → Prop) (hit : ∀ W, New w W → IterAt P gf lb L S W) (hps : ∀ x ∈ L, x.size = ps.size)
    (I : Nat → World → Prop) (Ix : Code → Nat → World → Prop) (hI : ∀ k, Stab w.heap.size (I k)) (hIx : ∀ c k, Stab w.heap.size (Ix c k)) (h0 : I 0 w)
    (hround : ∀ (l k : Nat) (x : Array Value) (W : World), L[k]? = some x → w.heap.size ≤ l → (∃ r, W.heap[l]? = some (.loop r)) → I k W →
      assign.wpIn (Fr (some l)) 0 P (Exit.then (fun a1 W1 => Mods S W W1 ∧ ∀ W2, Quiet w.heap.size W1 W2 → (∃ r, W2.heap[l]? = some (.loop r)) → body.wpIn (Fr (some l)) 0 P (roundQ S I Ix (k + 1) W2) a1 W2) (fun _ _ _ => False))
        { tmps := (ps.zip x).foldl (fun t (p, v) => t.setIfInBounds p v) a.tmps, defers := [] } W)
    (hdone : ∀ W, I L.length W → W.heap[w.heap.size]? = some (.deferred (some [])) → Q .normal { a with defers := { target := .collected w.heap.size, args := #[] } :: a.defers } W)
    (hstop : ∀ c k W, k ≤ L.length → Ix c k W → W.heap[w.heap.size]? = some (.deferred (some [])) → c.wp P Q { a with defers := { target := .collected w.heap.size, args := #[] } :: a.defers } W) :
    (Code.rangeFunc g ps assign body).wp P Q a w := by
  refine (wpIn_wide (n := 0)).1 ?_
  refine rangeList_core (P := P) none hg eg L S hit hps (w.alloc (.deferred (some []))) ((Mods.refl _ _).alloc _) [{ target := .collected w.heap.size, args := #[] }] w.heap.size ?_ I Ix hI hIx h0 hround ?_ ?_
  · intro fn
    rw [World.size_alloc]
    exact run_enterLoop_outer _ _ _ _ _
  · intro W hi ho
    exact hdone W hi (ho _ _ (World.alloc_heap_new w _) rfl)
  · intro c k W hk hi ho
    exact (wpIn_wide (n := 0)).2 (hstop c k W hk hi (ho _ _ (World.alloc_heap_new w _) rfl))
end Go.Cs
