/- The wakes of priorities. -/
import Derived.Test.YtkiiameibdhdfaaGreatDoorM18
import Derived.Test.YtkiiameibdhdfaaGreatDoorM11
set_option linter.unusedSimpArgs false
set_option linter.unusedVariables false
namespace Go.Proofs.YtkiiameibdhdfaaGreatDoor
open Go.RowKit Go.Shelf Go.Cs
attribute [local go_sem] Oper.semAt_some
set_option linter.unusedVariables false
set_option linter.unusedSimpArgs false
theorem eq_pr (d : Nat) (u v : Int) (i j : Bool) (w : World) : (Op.equalIn (d + 2) 31 (.agg #[.int .u8 u, .bool i]) (.agg #[.int .u8 v, .bool j])).run Tryz.prog w = .ok (decide (u = v) && decide (i = j)) w := by
  rw [show d + 2 = (d + 1) + 1 from rfl, run_equalIn_agg w (d + 1) 31 _ _ (by unfold Program.fieldsOf; rw [Tryz.underlying31]) (by kernel_rfl)]
  unfold Program.fieldsOf
  rw [Tryz.underlying31]
  have h0 := fun (k : Int) (y : Bool) w => partAt 5 _ Tryz.underlying5 rfl #[.int .u8 k, .bool y] 0 (.int .u8 k) w rfl
  have h3 := fun (k : Int) (y : Bool) w => partAt 4 _ Tryz.underlying4 rfl #[.int .u8 k, .bool y] 1 (.bool y) w rfl
  have e5 := fun w (a b : Int) => run_equalIn_int w d 5 .u8 .u8 a b Tryz.underlying5
  have e4 := fun w (a b : Bool) => run_equalIn_bool w d 4 a b Tryz.underlying4
  have n1 : ("Urgency" ≠ "_") = True := by simp
  have n2 : ("Incremental" ≠ "_") = True := by simp
  simp only [Op.eqFields, n1, n2, if_true, Sem.run_bind, h0, e5, Result.andThen_ok]
  by_cases hk : u = v <;> by_cases hy : i = j <;> simp [hk, hy, Sem.run_bind, h3, e4]
theorem binop_pr (u v : Int) (i j : Bool) (w : World) : (binOp .eql 31 (.agg #[.int .u8 u, .bool i]) (.agg #[.int .u8 v, .bool j])).run Tryz.prog w = .ok (.bool (decide (u = v) && decide (i = j))) w := by
  have h := eq_pr 9998 u v i j w
  simp only [binOp]
  simp [Op.equal, Op.maxDepth, h]
theorem nbinop_pr (u v : Int) (i j : Bool) (w : World) : (binOp .neq 31 (.agg #[.int .u8 u, .bool i]) (.agg #[.int .u8 v, .bool j])).run Tryz.prog w = .ok (.bool (!(decide (u = v) && decide (i = j)))) w := by
  have h := eq_pr 9998 u v i j w
  simp only [binOp]
  simp [Op.equal, Op.maxDepth, h]
def wkD : List Bare.Mem := [⟨[117], false, [⟨⟨1, 9, [], false⟩, [⟨[120], Bare.yesI⟩]⟩], []⟩, ⟨[105], false, [⟨⟨1, 1, [], false⟩, []⟩], []⟩]
theorem wk1 : Bare.parseD [117, 61, 53, 44, 32, 105] = some (Bare.prioD 5 true) := by decide +kernel
theorem wk2 : Bare.parseD [117, 61, 57, 59, 120, 44, 32, 105, 61, 49] = some wkD := by decide +kernel
theorem wk3 : Bare.parseD [117, 61] = none := by decide +kernel
theorem wk1u : Bare.urgOf (Bare.prioD 5 true) = 5 ∧ Bare.incOf (Bare.prioD 5 true) = true := by decide +kernel
theorem wk2u : Bare.urgOf wkD = 3 ∧ Bare.incOf wkD = false := by decide +kernel
theorem wk4 : prioT 3 true = some [105] := by decide +kernel
theorem wk5 : prioT 1 false = some [117, 61, 49] := by decide +kernel
theorem wk6 : prioT 8 false = none := by decide +kernel
theorem wk7 : Bare.urgOf [] = 3 ∧ Bare.incOf [] = false := by decide +kernel
theorem lit115 (t : Array Value) (h : t.size = 115) : ∃ u : Nat → Value, t = (u 0 :: u 1 :: u 2 :: u 3 :: u 4 :: u 5 :: u 6 :: u 7 :: u 8 :: u 9 :: u 10 :: u 11 :: u 12 :: u 13 :: u 14 :: u 15 :: u 16 :: u 17 :: u 18 :: u 19 :: u 20 :: u 21 :: u 22 :: u 23 :: u 24 :: u 25 :: u 26 :: u 27 :: u 28 :: u 29 :: u 30 :: u 31 :: u 32 :: u 33 :: u 34 :: u 35 :: u 36 :: u 37 :: u 38 :: u 39 :: u 40 :: u 41 :: u 42 :: u 43 :: u 44 :: u 45 :: u 46 :: u 47 :: u 48 :: u 49 :: u 50 :: u 51 :: u 52 :: u 53 :: u 54 :: u 55 :: u 56 :: u 57 :: u 58 :: u 59 :: u 60 :: u 61 :: u 62 :: u 63 :: u 64 :: u 65 :: u 66 :: u 67 :: u 68 :: u 69 :: u 70 :: u 71 :: u 72 :: u 73 :: u 74 :: u 75 :: u 76 :: u 77 :: u 78 :: u 79 :: u 80 :: u 81 :: u 82 :: u 83 :: u 84 :: u 85 :: u 86 :: u 87 :: u 88 :: u 89 :: u 90 :: u 91 :: u 92 :: u 93 :: u 94 :: u 95 :: u 96 :: u 97 :: u 98 :: u 99 :: u 100 :: u 101 :: u 102 :: u 103 :: u 104 :: u 105 :: u 106 :: u 107 :: u 108 :: u 109 :: u 110 :: u 111 :: u 112 :: u 113 :: u 114 :: ([] : List Value)).toArray := ⟨fun i => t.getD i undef, range_lit t 115 h⟩
noncomputable def reg_causeylaw14_wakes_8 : Code := ((Tryz.f36.body.bind (regionOf 8)).getD .skip)
set_option maxHeartbeats 4000000 in
set_option maxRecDepth 100000 in
theorem wk14 (t : Array Value) (hs : t.size = 115) (w : World) {a b c d : Nat}
    (hq1 : t.getD 1 undef = .pointer (some ⟨a, 0, none⟩))
    (hq2 : t.getD 2 undef = .bool true)
    (hq3 : t.getD 3 undef = .pointer (some ⟨b, 0, none⟩))
    (hq4 : t.getD 4 undef = .bool true)
    (hq5 : t.getD 5 undef = .pointer (some ⟨c, 0, none⟩))
    (hq6 : t.getD 6 undef = .bool false)
    (hq7 : t.getD 7 undef = .string ⟨#[105]⟩)
    (hq8 : t.getD 8 undef = .int .i64 0)
    (hq9 : t.getD 9 undef = .string ⟨#[117, 61, 49]⟩)
    (hq10 : t.getD 10 undef = .int .i64 0)
    (hq12 : t.getD 12 undef = .int .i64 2)
    (hq13 : t.getD 13 undef = .pointer (some ⟨d, 0, none⟩))
    (a0 : w.cell? ⟨a, 0, none⟩ = some (.int .u8 5)) (a1 : w.cell? ⟨a, 1, none⟩ = some (.bool true)) (b0 : w.cell? ⟨b, 0, none⟩ = some (.int .u8 3)) (b1 : w.cell? ⟨b, 1, none⟩ = some (.bool false)) (c0 : w.cell? ⟨c, 0, none⟩ = some (.int .u8 3)) (c1 : w.cell? ⟨c, 1, none⟩ = some (.bool false)) (d0 : w.cell? ⟨d, 0, none⟩ = some (.int .u8 3)) (d1 : w.cell? ⟨d, 1, none⟩ = some (.bool false)) :
    reg_causeylaw14_wakes_8.wp Tryz.prog (Only fun a' W' => (a'.tmps.size = 115 ∧ a'.defers = [] ∧ a'.tmps.getD 0 undef = .bool true) ∧ New w W') ⟨t, []⟩ w := by
  conv => arg 2; whnf
  obtain ⟨u, rfl⟩ := lit115 t hs
  have hq1 : u 1 = .pointer (some ⟨a, 0, none⟩) := hq1
  have hq2 : u 2 = .bool true := hq2
  have hq3 : u 3 = .pointer (some ⟨b, 0, none⟩) := hq3
  have hq4 : u 4 = .bool true := hq4
  have hq5 : u 5 = .pointer (some ⟨c, 0, none⟩) := hq5
  have hq6 : u 6 = .bool false := hq6
  have hq7 : u 7 = .string ⟨#[105]⟩ := hq7
  have hq8 : u 8 = .int .i64 0 := hq8
  have hq9 : u 9 = .string ⟨#[117, 61, 49]⟩ := hq9
  have hq10 : u 10 = .int .i64 0 := hq10
  have hq12 : u 12 = .int .i64 2 := hq12
  have hq13 : u 13 = .pointer (some ⟨d, 0, none⟩) := hq13
  rw [hq1, hq2, hq3, hq4, hq5, hq6, hq7, hq8, hq9, hq10, hq12, hq13]
  clear hq1 hq2 hq3 hq4 hq5 hq6 hq7 hq8 hq9 hq10 hq12 hq13 hs
  refine wp_region_held (S := fun W => New w W) (by kernel_rfl) ?_
  show wpAnyH _ _ _ _ _ 74 _ _ w.drew
  have hN : New w w.drew := (Mods.refl _ _).drew
  have hS : New w w.drew := (Mods.refl _ _).drew
  refine anyH_take 0 (some 42) (.bool true) rfl rfl (by kernel_rfl) (by kernel_rfl) (by kernel_rfl) (fun _ _ _ h => h.elim) (.inl ⟨by rfl, fun W hW => by go_simp⟩) hS ?_
  simp only [Act.put, List.setIfInBounds_toArray, List.set_cons_succ, List.set_cons_zero]
  refine anyH_take 1 (some 43) (.bool true) rfl rfl (by kernel_rfl) (by kernel_rfl) (by kernel_rfl) (fun _ _ _ h => h.elim) (.inl ⟨by rfl, fun W hW => by go_simp⟩) hS ?_
  simp only [Act.put, List.setIfInBounds_toArray, List.set_cons_succ, List.set_cons_zero]
  refine anyH_take 2 (some 44) (.agg #[.int .u8 5, .bool true]) rfl rfl (by kernel_rfl) (by kernel_rfl) (by kernel_rfl) (fun _ _ _ h => h.elim) (.inl ⟨by rfl, fun W hW => by have hh : New w W := hW; have q0 := hh.cell a0 id; have q1 := hh.cell a1 id; go_simp⟩) hS ?_
  simp only [Act.put, List.setIfInBounds_toArray, List.set_cons_succ, List.set_cons_zero]
  refine anyH_take 3 (some 45) (.agg #[.int .u8 5, .bool true]) rfl rfl (by kernel_rfl) (by kernel_rfl) (by kernel_rfl) (fun _ _ _ h => h.elim) (.inl ⟨by rfl, fun W hW => by go_simp⟩) hS ?_
  simp only [Act.put, List.setIfInBounds_toArray, List.set_cons_succ, List.set_cons_zero]
  refine anyH_take 4 (some 46) (.bool true) rfl rfl (by kernel_rfl) (by kernel_rfl) (by kernel_rfl) (fun _ _ _ h => h.elim) (.inl ⟨by rfl, fun W hW => by have q := binop_pr 5 5 true true; go_simp⟩) hS ?_
  simp only [Act.put, List.setIfInBounds_toArray, List.set_cons_succ, List.set_cons_zero]
  refine anyH_take 5 (some 47) (.bool true) rfl rfl (by kernel_rfl) (by kernel_rfl) (by kernel_rfl) (fun _ _ _ h => h.elim) (.inl ⟨by rfl, fun W hW => by go_simp⟩) hS ?_
  simp only [Act.put, List.setIfInBounds_toArray, List.set_cons_succ, List.set_cons_zero]
  refine anyH_take 6 (some 48) (.bool true) rfl rfl (by kernel_rfl) (by kernel_rfl) (by kernel_rfl) (fun _ _ _ h => h.elim) (.inl ⟨by rfl, fun W hW => by go_simp⟩) hS ?_
  simp only [Act.put, List.setIfInBounds_toArray, List.set_cons_succ, List.set_cons_zero]
  refine anyH_take 7 (some 49) (.bool true) rfl rfl (by kernel_rfl) (by kernel_rfl) (by kernel_rfl) (fun _ _ _ h => h.elim) (.inl ⟨by rfl, fun W hW => by go_simp⟩) hS ?_
  simp only [Act.put, List.setIfInBounds_toArray, List.set_cons_succ, List.set_cons_zero]
  refine anyH_take 8 (some 50) (.bool true) rfl rfl (by kernel_rfl) (by kernel_rfl) (by kernel_rfl) (fun _ _ _ h => h.elim) (.inl ⟨by rfl, fun W hW => by go_simp⟩) hS ?_
  simp only [Act.put, List.setIfInBounds_toArray, List.set_cons_succ, List.set_cons_zero]
  refine anyH_take 9 (some 51) (.bool true) rfl rfl (by kernel_rfl) (by kernel_rfl) (by kernel_rfl) (fun _ _ _ h => h.elim) (.inl ⟨by rfl, fun W hW => by go_simp⟩) hS ?_
  simp only [Act.put, List.setIfInBounds_toArray, List.set_cons_succ, List.set_cons_zero]
  refine anyH_take 10 (some 52) (.agg #[.int .u8 3, .bool false]) rfl rfl (by kernel_rfl) (by kernel_rfl) (by kernel_rfl) (fun _ _ _ h => h.elim) (.inl ⟨by rfl, fun W hW => by have hh : New w W := hW; have q0 := hh.cell b0 id; have q1 := hh.cell b1 id; go_simp⟩) hS ?_
  simp only [Act.put, List.setIfInBounds_toArray, List.set_cons_succ, List.set_cons_zero]
  refine anyH_take 11 (some 53) (.agg #[.int .u8 3, .bool false]) rfl rfl (by kernel_rfl) (by kernel_rfl) (by kernel_rfl) (fun _ _ _ h => h.elim) (.inl ⟨by rfl, fun W hW => by have hh : New w W := hW; have q0 := hh.cell d0 id; have q1 := hh.cell d1 id; go_simp⟩) hS ?_
  simp only [Act.put, List.setIfInBounds_toArray, List.set_cons_succ, List.set_cons_zero]
  refine anyH_take 12 (some 54) (.bool true) rfl rfl (by kernel_rfl) (by kernel_rfl) (by kernel_rfl) (fun _ _ _ h => h.elim) (.inl ⟨by rfl, fun W hW => by have q := binop_pr 3 3 false false; go_simp⟩) hS ?_
  simp only [Act.put, List.setIfInBounds_toArray, List.set_cons_succ, List.set_cons_zero]
  refine anyH_take 13 (some 55) (.bool true) rfl rfl (by kernel_rfl) (by kernel_rfl) (by kernel_rfl) (fun _ _ _ h => h.elim) (.inl ⟨by rfl, fun W hW => by go_simp⟩) hS ?_
  simp only [Act.put, List.setIfInBounds_toArray, List.set_cons_succ, List.set_cons_zero]
  refine anyH_take 14 (some 56) (.bool true) rfl rfl (by kernel_rfl) (by kernel_rfl) (by kernel_rfl) (fun _ _ _ h => h.elim) (.inl ⟨by rfl, fun W hW => by go_simp⟩) hS ?_
  simp only [Act.put, List.setIfInBounds_toArray, List.set_cons_succ, List.set_cons_zero]
  refine anyH_take 15 (some 57) (.bool false) rfl rfl (by kernel_rfl) (by kernel_rfl) (by kernel_rfl) (fun _ _ _ h => h.elim) (.inl ⟨by rfl, fun W hW => by go_simp⟩) hS ?_
  simp only [Act.put, List.setIfInBounds_toArray, List.set_cons_succ, List.set_cons_zero]
  refine anyH_take 16 (some 58) (.bool true) rfl rfl (by kernel_rfl) (by kernel_rfl) (by kernel_rfl) (fun _ _ _ h => h.elim) (.inl ⟨by rfl, fun W hW => by go_simp⟩) hS ?_
  simp only [Act.put, List.setIfInBounds_toArray, List.set_cons_succ, List.set_cons_zero]
  refine anyH_take 17 (some 59) (.bool true) rfl rfl (by kernel_rfl) (by kernel_rfl) (by kernel_rfl) (fun _ _ _ h => h.elim) (.inl ⟨by rfl, fun W hW => by go_simp⟩) hS ?_
  simp only [Act.put, List.setIfInBounds_toArray, List.set_cons_succ, List.set_cons_zero]
  refine anyH_take 18 (some 60) (.bool true) rfl rfl (by kernel_rfl) (by kernel_rfl) (by kernel_rfl) (fun _ _ _ h => h.elim) (.inl ⟨by rfl, fun W hW => by go_simp⟩) hS ?_
  simp only [Act.put, List.setIfInBounds_toArray, List.set_cons_succ, List.set_cons_zero]
  refine anyH_take 19 (some 61) (.agg #[.int .u8 3, .bool false]) rfl rfl (by kernel_rfl) (by kernel_rfl) (by kernel_rfl) (fun _ _ _ h => h.elim) (.inl ⟨by rfl, fun W hW => by have hh : New w W := hW; have q0 := hh.cell c0 id; have q1 := hh.cell c1 id; go_simp⟩) hS ?_
  simp only [Act.put, List.setIfInBounds_toArray, List.set_cons_succ, List.set_cons_zero]
  refine anyH_take 20 (some 62) (.agg #[.int .u8 3, .bool false]) rfl rfl (by kernel_rfl) (by kernel_rfl) (by kernel_rfl) (fun _ _ _ h => h.elim) (.inl ⟨by rfl, fun W hW => by have hh : New w W := hW; have q0 := hh.cell d0 id; have q1 := hh.cell d1 id; go_simp⟩) hS ?_
  simp only [Act.put, List.setIfInBounds_toArray, List.set_cons_succ, List.set_cons_zero]
  refine anyH_take 21 (some 63) (.bool true) rfl rfl (by kernel_rfl) (by kernel_rfl) (by kernel_rfl) (fun _ _ _ h => h.elim) (.inl ⟨by rfl, fun W hW => by have q := binop_pr 3 3 false false; go_simp⟩) hS ?_
  simp only [Act.put, List.setIfInBounds_toArray, List.set_cons_succ, List.set_cons_zero]
  refine anyH_take 22 (some 64) (.bool true) rfl rfl (by kernel_rfl) (by kernel_rfl) (by kernel_rfl) (fun _ _ _ h => h.elim) (.inl ⟨by rfl, fun W hW => by go_simp⟩) hS ?_
  simp only [Act.put, List.setIfInBounds_toArray, List.set_cons_succ, List.set_cons_zero]
  refine anyH_take 23 (some 65) (.bool true) rfl rfl (by kernel_rfl) (by kernel_rfl) (by kernel_rfl) (fun _ _ _ h => h.elim) (.inl ⟨by rfl, fun W hW => by go_simp⟩) hS ?_
  simp only [Act.put, List.setIfInBounds_toArray, List.set_cons_succ, List.set_cons_zero]
  refine anyH_take 24 (some 66) (.int .i64 0) rfl rfl (by kernel_rfl) (by kernel_rfl) (by kernel_rfl) (fun _ _ _ h => h.elim) (.inl ⟨by rfl, fun W hW => by go_simp⟩) hS ?_
  simp only [Act.put, List.setIfInBounds_toArray, List.set_cons_succ, List.set_cons_zero]
  refine anyH_take 25 (some 67) (.bool true) rfl rfl (by kernel_rfl) (by kernel_rfl) (by kernel_rfl) (fun _ _ _ h => h.elim) (.inl ⟨by rfl, fun W hW => by go_simp⟩) hS ?_
  simp only [Act.put, List.setIfInBounds_toArray, List.set_cons_succ, List.set_cons_zero]
  refine anyH_take 26 (some 68) (.bool true) rfl rfl (by kernel_rfl) (by kernel_rfl) (by kernel_rfl) (fun _ _ _ h => h.elim) (.inl ⟨by rfl, fun W hW => by go_simp⟩) hS ?_
  simp only [Act.put, List.setIfInBounds_toArray, List.set_cons_succ, List.set_cons_zero]
  refine anyH_take 27 (some 69) (.bool true) rfl rfl (by kernel_rfl) (by kernel_rfl) (by kernel_rfl) (fun _ _ _ h => h.elim) (.inl ⟨by rfl, fun W hW => by go_simp⟩) hS ?_
  simp only [Act.put, List.setIfInBounds_toArray, List.set_cons_succ, List.set_cons_zero]
  refine anyH_take 28 (some 70) (.string ⟨#[105]⟩) rfl rfl (by kernel_rfl) (by kernel_rfl) (by kernel_rfl) (fun _ _ _ h => h.elim) (.inl ⟨by rfl, fun W hW => by go_simp⟩) hS ?_
  simp only [Act.put, List.setIfInBounds_toArray, List.set_cons_succ, List.set_cons_zero]
  refine anyH_take 29 (some 71) (.bool true) rfl rfl (by kernel_rfl) (by kernel_rfl) (by kernel_rfl) (fun _ _ _ h => h.elim) (.inl ⟨by rfl, fun W hW => by go_simp⟩) hS ?_
  simp only [Act.put, List.setIfInBounds_toArray, List.set_cons_succ, List.set_cons_zero]
  refine anyH_take 30 (some 72) (.bool true) rfl rfl (by kernel_rfl) (by kernel_rfl) (by kernel_rfl) (fun _ _ _ h => h.elim) (.inl ⟨by rfl, fun W hW => by go_simp⟩) hS ?_
  simp only [Act.put, List.setIfInBounds_toArray, List.set_cons_succ, List.set_cons_zero]
  refine anyH_take 31 (some 73) (.bool true) rfl rfl (by kernel_rfl) (by kernel_rfl) (by kernel_rfl) (fun _ _ _ h => h.elim) (.inl ⟨by rfl, fun W hW => by go_simp⟩) hS ?_
  simp only [Act.put, List.setIfInBounds_toArray, List.set_cons_succ, List.set_cons_zero]
  refine anyH_take 32 (some 74) (.int .i64 0) rfl rfl (by kernel_rfl) (by kernel_rfl) (by kernel_rfl) (fun _ _ _ h => h.elim) (.inl ⟨by rfl, fun W hW => by go_simp⟩) hS ?_
  simp only [Act.put, List.setIfInBounds_toArray, List.set_cons_succ, List.set_cons_zero]
  refine anyH_take 33 (some 75) (.bool true) rfl rfl (by kernel_rfl) (by kernel_rfl) (by kernel_rfl) (fun _ _ _ h => h.elim) (.inl ⟨by rfl, fun W hW => by go_simp⟩) hS ?_
  simp only [Act.put, List.setIfInBounds_toArray, List.set_cons_succ, List.set_cons_zero]
  refine anyH_take 34 (some 76) (.bool true) rfl rfl (by kernel_rfl) (by kernel_rfl) (by kernel_rfl) (fun _ _ _ h => h.elim) (.inl ⟨by rfl, fun W hW => by go_simp⟩) hS ?_
  simp only [Act.put, List.setIfInBounds_toArray, List.set_cons_succ, List.set_cons_zero]
  refine anyH_take 35 (some 77) (.bool true) rfl rfl (by kernel_rfl) (by kernel_rfl) (by kernel_rfl) (fun _ _ _ h => h.elim) (.inl ⟨by rfl, fun W hW => by go_simp⟩) hS ?_
  simp only [Act.put, List.setIfInBounds_toArray, List.set_cons_succ, List.set_cons_zero]
  refine anyH_take 36 (some 78) (.string ⟨#[117, 61, 49]⟩) rfl rfl (by kernel_rfl) (by kernel_rfl) (by kernel_rfl) (fun _ _ _ h => h.elim) (.inl ⟨by rfl, fun W hW => by go_simp⟩) hS ?_
  simp only [Act.put, List.setIfInBounds_toArray, List.set_cons_succ, List.set_cons_zero]
  refine anyH_take 37 (some 79) (.bool true) rfl rfl (by kernel_rfl) (by kernel_rfl) (by kernel_rfl) (fun _ _ _ h => h.elim) (.inl ⟨by rfl, fun W hW => by go_simp⟩) hS ?_
  simp only [Act.put, List.setIfInBounds_toArray, List.set_cons_succ, List.set_cons_zero]
  refine anyH_take 38 (some 80) (.bool true) rfl rfl (by kernel_rfl) (by kernel_rfl) (by kernel_rfl) (fun _ _ _ h => h.elim) (.inl ⟨by rfl, fun W hW => by go_simp⟩) hS ?_
  simp only [Act.put, List.setIfInBounds_toArray, List.set_cons_succ, List.set_cons_zero]
  refine anyH_take 39 (some 81) (.bool true) rfl rfl (by kernel_rfl) (by kernel_rfl) (by kernel_rfl) (fun _ _ _ h => h.elim) (.inl ⟨by rfl, fun W hW => by go_simp⟩) hS ?_
  simp only [Act.put, List.setIfInBounds_toArray, List.set_cons_succ, List.set_cons_zero]
  refine anyH_take 40 (some 82) (.int .i64 2) rfl rfl (by kernel_rfl) (by kernel_rfl) (by kernel_rfl) (fun _ _ _ h => h.elim) (.inl ⟨by rfl, fun W hW => by go_simp⟩) hS ?_
  simp only [Act.put, List.setIfInBounds_toArray, List.set_cons_succ, List.set_cons_zero]
  refine anyH_take 41 (some 83) (.bool true) rfl rfl (by kernel_rfl) (by kernel_rfl) (by kernel_rfl) (fun _ _ _ h => h.elim) (.inl ⟨by rfl, fun W hW => by go_simp⟩) hS ?_
  simp only [Act.put, List.setIfInBounds_toArray, List.set_cons_succ, List.set_cons_zero]
  refine anyH_take 42 (some 84) (.bool true) rfl rfl (by kernel_rfl) (by kernel_rfl) (by kernel_rfl) (fun _ _ _ h => h.elim) (.inl ⟨by rfl, fun W hW => by go_simp⟩) hS ?_
  simp only [Act.put, List.setIfInBounds_toArray, List.set_cons_succ, List.set_cons_zero]
  refine anyH_take 43 (some 85) (.bool true) rfl rfl (by kernel_rfl) (by kernel_rfl) (by kernel_rfl) (fun _ _ _ h => h.elim) (.inl ⟨by rfl, fun W hW => by go_simp⟩) hS ?_
  simp only [Act.put, List.setIfInBounds_toArray, List.set_cons_succ, List.set_cons_zero]
  refine anyH_take 45 (some 87) (.agg #[.int .u8 3, .bool false]) rfl rfl (by kernel_rfl) (by kernel_rfl) (by kernel_rfl) (fun _ _ _ h => h.elim) (.inl ⟨by rfl, fun W hW => by have hh : New w W := hW; have q0 := hh.cell d0 id; have q1 := hh.cell d1 id; go_simp⟩) hS ?_
  simp only [Act.put, List.setIfInBounds_toArray, List.set_cons_succ, List.set_cons_zero]
  refine wpAnyH_all (rs := [44]) (by kernel_rfl) (by simp) ?_
  simp only [List.mem_cons, List.not_mem_nil, or_false, forall_eq]
  refine opH_call (some 86) rfl (by rfl) rfl 46 #[] (by go_simp) (((first_u _).mono (R' := fun e w' => e = .returned (.agg #[.int .u8 3, .bool false]) ∧ New _ w') (by rintro e w' ⟨rfl, h⟩; exact ⟨rfl, h⟩)).mono ?_)
  rintro e w44 ⟨rfl, hk⟩
  have hS := hS.trans hk
  have hN := hN.trans hk
  clear hk
  refine ⟨_, rfl, hS, ?_⟩
  simp only [Act.put, List.setIfInBounds_toArray, List.set_cons_succ, List.set_cons_zero]
  refine anyH_take 46 (some 88) (.bool true) rfl rfl (by kernel_rfl) (by kernel_rfl) (by kernel_rfl) (fun _ _ _ h => h.elim) (.inl ⟨by rfl, fun W hW => by have q := binop_pr 3 3 false false; go_simp⟩) hS ?_
  simp only [Act.put, List.setIfInBounds_toArray, List.set_cons_succ, List.set_cons_zero]
  refine anyH_take 47 (some 89) (.bool true) rfl rfl (by kernel_rfl) (by kernel_rfl) (by kernel_rfl) (fun _ _ _ h => h.elim) (.inl ⟨by rfl, fun W hW => by go_simp⟩) hS ?_
  simp only [Act.put, List.setIfInBounds_toArray, List.set_cons_succ, List.set_cons_zero]
  refine anyH_take 48 (some 90) (.bool true) rfl rfl (by kernel_rfl) (by kernel_rfl) (by kernel_rfl) (fun _ _ _ h => h.elim) (.inl ⟨by rfl, fun W hW => by go_simp⟩) hS ?_
  simp only [Act.put, List.setIfInBounds_toArray, List.set_cons_succ, List.set_cons_zero]
  refine anyH_take 49 (some 91) (.agg #[.int .u8 5, .bool true]) rfl rfl (by kernel_rfl) (by kernel_rfl) (by kernel_rfl) (fun _ _ _ h => h.elim) (.inl ⟨by rfl, fun W hW => by have hh : New w W := hW; have q0 := hh.cell a0 id; have q1 := hh.cell a1 id; go_simp⟩) hS ?_
  simp only [Act.put, List.setIfInBounds_toArray, List.set_cons_succ, List.set_cons_zero]
  refine wpAnyH_all (rs := [50]) (by kernel_rfl) (by simp) ?_
  simp only [List.mem_cons, List.not_mem_nil, or_false, forall_eq]
  refine opH_call (some 92) rfl (by rfl) rfl 42 #[.agg #[.int .u8 5, .bool true]] (by go_simp) (((right_pr 5 true (by decide) _).mono (R' := fun e w' => e = .returned (.bool true) ∧ New _ w') (by rintro e w' ⟨rfl, h⟩; exact ⟨rfl, h⟩)).mono ?_)
  rintro e w50 ⟨rfl, hk⟩
  have hS := hS.trans hk
  have hN := hN.trans hk
  clear hk
  refine ⟨_, rfl, hS, ?_⟩
  simp only [Act.put, List.setIfInBounds_toArray, List.set_cons_succ, List.set_cons_zero]
  refine anyH_take 51 (some 93) (.bool true) rfl rfl (by kernel_rfl) (by kernel_rfl) (by kernel_rfl) (fun _ _ _ h => h.elim) (.inl ⟨by rfl, fun W hW => by go_simp⟩) hS ?_
  simp only [Act.put, List.setIfInBounds_toArray, List.set_cons_succ, List.set_cons_zero]
  refine anyH_take 52 (some 94) (.bool true) rfl rfl (by kernel_rfl) (by kernel_rfl) (by kernel_rfl) (fun _ _ _ h => h.elim) (.inl ⟨by rfl, fun W hW => by go_simp⟩) hS ?_
  simp only [Act.put, List.setIfInBounds_toArray, List.set_cons_succ, List.set_cons_zero]
  refine anyH_take 53 (some 95) (.agg #[.int .u8 8, .bool false]) rfl rfl (by kernel_rfl) (by kernel_rfl) (by kernel_rfl) (fun _ _ _ h => h.elim) (.inl ⟨by rfl, fun W hW => by go_simp⟩) hS ?_
  simp only [Act.put, List.setIfInBounds_toArray, List.set_cons_succ, List.set_cons_zero]
  refine wpAnyH_all (rs := [54]) (by kernel_rfl) (by simp) ?_
  simp only [List.mem_cons, List.not_mem_nil, or_false, forall_eq]
  refine opH_call (some 96) rfl (by rfl) rfl 42 #[.agg #[.int .u8 8, .bool false]] (by go_simp) (((right_pr 8 false (by decide) _).mono (R' := fun e w' => e = .returned (.bool false) ∧ New _ w') (by rintro e w' ⟨rfl, h⟩; exact ⟨rfl, h⟩)).mono ?_)
  rintro e w54 ⟨rfl, hk⟩
  have hS := hS.trans hk
  have hN := hN.trans hk
  clear hk
  refine ⟨_, rfl, hS, ?_⟩
  simp only [Act.put, List.setIfInBounds_toArray, List.set_cons_succ, List.set_cons_zero]
  refine anyH_take 55 (some 97) (.bool true) rfl rfl (by kernel_rfl) (by kernel_rfl) (by kernel_rfl) (fun _ _ _ h => h.elim) (.inl ⟨by rfl, fun W hW => by go_simp⟩) hS ?_
  simp only [Act.put, List.setIfInBounds_toArray, List.set_cons_succ, List.set_cons_zero]
  refine anyH_take 56 (some 98) (.bool true) rfl rfl (by kernel_rfl) (by kernel_rfl) (by kernel_rfl) (fun _ _ _ h => h.elim) (.inl ⟨by rfl, fun W hW => by go_simp⟩) hS ?_
  simp only [Act.put, List.setIfInBounds_toArray, List.set_cons_succ, List.set_cons_zero]
  refine anyH_take 57 (some 99) (.bool true) rfl rfl (by kernel_rfl) (by kernel_rfl) (by kernel_rfl) (fun _ _ _ h => h.elim) (.inl ⟨by rfl, fun W hW => by go_simp⟩) hS ?_
  simp only [Act.put, List.setIfInBounds_toArray, List.set_cons_succ, List.set_cons_zero]
  refine anyH_take 58 (some 100) (.agg #[.int .u8 3, .bool false]) rfl rfl (by kernel_rfl) (by kernel_rfl) (by kernel_rfl) (fun _ _ _ h => h.elim) (.inl ⟨by rfl, fun W hW => by have hh : New w W := hW; have q0 := hh.cell d0 id; have q1 := hh.cell d1 id; go_simp⟩) hS ?_
  simp only [Act.put, List.setIfInBounds_toArray, List.set_cons_succ, List.set_cons_zero]
  refine anyH_take 59 (some 101) (.agg #[.int .u8 5, .bool true]) rfl rfl (by kernel_rfl) (by kernel_rfl) (by kernel_rfl) (fun _ _ _ h => h.elim) (.inl ⟨by rfl, fun W hW => by have hh : New w W := hW; have q0 := hh.cell a0 id; have q1 := hh.cell a1 id; go_simp⟩) hS ?_
  simp only [Act.put, List.setIfInBounds_toArray, List.set_cons_succ, List.set_cons_zero]
  refine wpAnyH_all (rs := [60]) (by kernel_rfl) (by simp) ?_
  simp only [List.mem_cons, List.not_mem_nil, or_false, forall_eq]
  refine opH_call (some 102) rfl (by rfl) rfl 81 #[.agg #[.int .u8 3, .bool false], .agg #[.int .u8 5, .bool true]] (by go_simp) (((less_pr 3 5 false true _).mono (R' := fun e w' => e = .returned (.bool true) ∧ New _ w') (by rintro e w' ⟨rfl, h⟩; exact ⟨rfl, h⟩)).mono ?_)
  rintro e w60 ⟨rfl, hk⟩
  have hS := hS.trans hk
  have hN := hN.trans hk
  clear hk
  refine ⟨_, rfl, hS, ?_⟩
  simp only [Act.put, List.setIfInBounds_toArray, List.set_cons_succ, List.set_cons_zero]
  refine anyH_take 61 (some 103) (.bool true) rfl rfl (by kernel_rfl) (by kernel_rfl) (by kernel_rfl) (fun _ _ _ h => h.elim) (.inl ⟨by rfl, fun W hW => by go_simp⟩) hS ?_
  simp only [Act.put, List.setIfInBounds_toArray, List.set_cons_succ, List.set_cons_zero]
  refine anyH_take 62 (some 104) (.bool true) rfl rfl (by kernel_rfl) (by kernel_rfl) (by kernel_rfl) (fun _ _ _ h => h.elim) (.inl ⟨by rfl, fun W hW => by go_simp⟩) hS ?_
  simp only [Act.put, List.setIfInBounds_toArray, List.set_cons_succ, List.set_cons_zero]
  refine anyH_take 63 (some 105) (.agg #[.int .u8 5, .bool true]) rfl rfl (by kernel_rfl) (by kernel_rfl) (by kernel_rfl) (fun _ _ _ h => h.elim) (.inl ⟨by rfl, fun W hW => by have hh : New w W := hW; have q0 := hh.cell a0 id; have q1 := hh.cell a1 id; go_simp⟩) hS ?_
  simp only [Act.put, List.setIfInBounds_toArray, List.set_cons_succ, List.set_cons_zero]
  refine anyH_take 64 (some 106) (.agg #[.int .u8 5, .bool true]) rfl rfl (by kernel_rfl) (by kernel_rfl) (by kernel_rfl) (fun _ _ _ h => h.elim) (.inl ⟨by rfl, fun W hW => by have hh : New w W := hW; have q0 := hh.cell a0 id; have q1 := hh.cell a1 id; go_simp⟩) hS ?_
  simp only [Act.put, List.setIfInBounds_toArray, List.set_cons_succ, List.set_cons_zero]
  refine wpAnyH_all (rs := [65]) (by kernel_rfl) (by simp) ?_
  simp only [List.mem_cons, List.not_mem_nil, or_false, forall_eq]
  refine opH_call (some 107) rfl (by rfl) rfl 81 #[.agg #[.int .u8 5, .bool true], .agg #[.int .u8 5, .bool true]] (by go_simp) (((less_pr 5 5 true true _).mono (R' := fun e w' => e = .returned (.bool false) ∧ New _ w') (by rintro e w' ⟨rfl, h⟩; exact ⟨rfl, h⟩)).mono ?_)
  rintro e w65 ⟨rfl, hk⟩
  have hS := hS.trans hk
  have hN := hN.trans hk
  clear hk
  refine ⟨_, rfl, hS, ?_⟩
  simp only [Act.put, List.setIfInBounds_toArray, List.set_cons_succ, List.set_cons_zero]
  refine anyH_take 66 (some 108) (.bool true) rfl rfl (by kernel_rfl) (by kernel_rfl) (by kernel_rfl) (fun _ _ _ h => h.elim) (.inl ⟨by rfl, fun W hW => by go_simp⟩) hS ?_
  simp only [Act.put, List.setIfInBounds_toArray, List.set_cons_succ, List.set_cons_zero]
  refine anyH_take 67 (some 109) (.bool true) rfl rfl (by kernel_rfl) (by kernel_rfl) (by kernel_rfl) (fun _ _ _ h => h.elim) (.inl ⟨by rfl, fun W hW => by go_simp⟩) hS ?_
  simp only [Act.put, List.setIfInBounds_toArray, List.set_cons_succ, List.set_cons_zero]
  refine anyH_take 68 (some 110) (.bool true) rfl rfl (by kernel_rfl) (by kernel_rfl) (by kernel_rfl) (fun _ _ _ h => h.elim) (.inl ⟨by rfl, fun W hW => by go_simp⟩) hS ?_
  simp only [Act.put, List.setIfInBounds_toArray, List.set_cons_succ, List.set_cons_zero]
  refine anyH_take 70 (some 112) (.agg #[.int .u8 3, .bool false]) rfl rfl (by kernel_rfl) (by kernel_rfl) (by kernel_rfl) (fun _ _ _ h => h.elim) (.inl ⟨by rfl, fun W hW => by have hh : New w W := hW; have q0 := hh.cell d0 id; have q1 := hh.cell d1 id; go_simp⟩) hS ?_
  simp only [Act.put, List.setIfInBounds_toArray, List.set_cons_succ, List.set_cons_zero]
  refine wpAnyH_all (rs := [69]) (by kernel_rfl) (by simp) ?_
  simp only [List.mem_cons, List.not_mem_nil, or_false, forall_eq]
  refine opH_call (some 111) rfl (by rfl) rfl 40 #[.slice none 0 0] (by go_simp) (((of_any (.slice none 0 0) [] _ (RdD.nil false _ 0) (fun m hm => by cases hm) (fun b hb => by cases hb)).mono (R' := fun e w' => e = .returned (.agg #[.int .u8 3, .bool false]) ∧ New _ w') (by rintro e w' ⟨rfl, h⟩; refine ⟨?_, h⟩; rw [wk7.1, wk7.2]; rfl)).mono ?_)
  rintro e w69 ⟨rfl, hk⟩
  have hS := hS.trans hk
  have hN := hN.trans hk
  clear hk
  refine ⟨_, rfl, hS, ?_⟩
  simp only [Act.put, List.setIfInBounds_toArray, List.set_cons_succ, List.set_cons_zero]
  refine anyH_take 71 (some 113) (.bool true) rfl rfl (by kernel_rfl) (by kernel_rfl) (by kernel_rfl) (fun _ _ _ h => h.elim) (.inl ⟨by rfl, fun W hW => by have q := binop_pr 3 3 false false; go_simp⟩) hS ?_
  simp only [Act.put, List.setIfInBounds_toArray, List.set_cons_succ, List.set_cons_zero]
  refine anyH_take 72 (some 114) (.bool true) rfl rfl (by kernel_rfl) (by kernel_rfl) (by kernel_rfl) (fun _ _ _ h => h.elim) (.inl ⟨by rfl, fun W hW => by go_simp⟩) hS ?_
  simp only [Act.put, List.setIfInBounds_toArray, List.set_cons_succ, List.set_cons_zero]
  refine anyH_take 73 (some 0) (.bool true) rfl rfl (by kernel_rfl) (by kernel_rfl) (by kernel_rfl) (fun _ _ _ h => h.elim) (.inl ⟨by rfl, fun W hW => by go_simp⟩) hS ?_
  simp only [Act.put, List.setIfInBounds_toArray, List.set_cons_succ, List.set_cons_zero]
  refine wpAnyH_done (by kernel_rfl) ?_ _
  exact ⟨⟨rfl, rfl, rfl⟩, hN⟩
set_option maxHeartbeats 4000000 in
set_option maxRecDepth 100000 in
theorem wakes_u (w : World) (hT : Tab w) : Calls Tryz.prog 36 #[] w fun e w' => e = .returned (.bool true) ∧ New w w' := by
  have hN : New w w := Mods.refl _ _
  have H1 : Hid (∀ W, New w W → Calls Tryz.prog 38 #[.string ⟨#[117, 61, 53, 44, 32, 105]⟩] W fun e w' => e = .returned (.tuple #[.agg #[.int .u8 5, .bool true], .bool true]) ∧ New W w') := Lib.hid fun W hN => (read_u ⟨#[117, 61, 53, 44, 32, 105]⟩ W (by decide) (hT.new hN)).mono fun e w' h => by
    refine ⟨h.1.trans ?_, h.2⟩
    rw [show bl ⟨#[117, 61, 53, 44, 32, 105]⟩ = [117, 61, 53, 44, 32, 105] from rfl, wk1]
    simp only [wk1u.1, wk1u.2]; rfl
  have H2 : Hid (∀ W, New w W → Calls Tryz.prog 38 #[.string ⟨#[117, 61, 57, 59, 120, 44, 32, 105, 61, 49]⟩] W fun e w' => e = .returned (.tuple #[.agg #[.int .u8 3, .bool false], .bool true]) ∧ New W w') := Lib.hid fun W hN => (read_u ⟨#[117, 61, 57, 59, 120, 44, 32, 105, 61, 49]⟩ W (by decide) (hT.new hN)).mono fun e w' h => by
    refine ⟨h.1.trans ?_, h.2⟩
    rw [show bl ⟨#[117, 61, 57, 59, 120, 44, 32, 105, 61, 49]⟩ = [117, 61, 57, 59, 120, 44, 32, 105, 61, 49] from rfl, wk2]
    simp only [wk2u.1, wk2u.2]; rfl
  have H3 : Hid (∀ W, New w W → Calls Tryz.prog 38 #[.string ⟨#[117, 61]⟩] W fun e w' => e = .returned (.tuple #[.agg #[.int .u8 3, .bool false], .bool false]) ∧ New W w') := Lib.hid fun W hN => (read_u ⟨#[117, 61]⟩ W (by decide) (hT.new hN)).mono fun e w' h => by
    refine ⟨h.1.trans ?_, h.2⟩
    rw [show bl ⟨#[117, 61]⟩ = [117, 61] from rfl, wk3]
    rfl
  have H4 : Hid (∀ W, New w W → Calls Tryz.prog 37 #[.agg #[.int .u8 3, .bool true]] W fun e w' => e = .returned (.tuple #[.string ⟨#[105]⟩, .int .i64 0]) ∧ New W w') := Lib.hid fun W hN => (print_u 3 true (by decide) W (hT.new hN)).mono fun e w' h => ⟨h.1.trans (by rw [wk4]; rfl), h.2⟩
  have H5 : Hid (∀ W, New w W → Calls Tryz.prog 37 #[.agg #[.int .u8 1, .bool false]] W fun e w' => e = .returned (.tuple #[.string ⟨#[117, 61, 49]⟩, .int .i64 0]) ∧ New W w') := Lib.hid fun W hN => (print_u 1 false (by decide) W (hT.new hN)).mono fun e w' h => ⟨h.1.trans (by rw [wk5]; rfl), h.2⟩
  have H6 : Hid (∀ W, New w W → Calls Tryz.prog 37 #[.agg #[.int .u8 8, .bool false]] W fun e w' => e = .returned (.tuple #[.string ⟨#[]⟩, .int .i64 2]) ∧ New W w') := Lib.hid fun W hN => (print_u 8 false (by decide) W (hT.new hN)).mono fun e w' h => ⟨h.1.trans (by rw [wk6]; rfl), h.2⟩
  clear hT
  go_enter Tryz.func36, Tryz.ntmps36
  go_wp2_with fail
  refine (H1.out _ hN).mono ?_
  rintro e w1 ⟨rfl, hk⟩
  replace hN := hN.trans hk
  clear hk H1
  go_upto_region 2 with fail
  have ra := World.alloc_heap_new w1 (.cells #[.int .u8 5, .bool true] 31)
  have hA : New w1 (w1.alloc (.cells #[.int .u8 5, .bool true] 31)) := (Mods.refl _ _).alloc _
  obtain ⟨v1, hv⟩ : ∃ V, w1.alloc (.cells #[.int .u8 5, .bool true] 31) = V := ⟨_, rfl⟩
  obtain ⟨a, hb⟩ : ∃ b, w1.heap.size = b := ⟨_, rfl⟩
  rw [hv] at ra hA ⊢
  rw [hb] at ra ⊢
  clear hv hb
  replace hN := hN.trans hA
  clear hA
  go_wp2_with fail
  refine (H2.out _ hN).mono ?_
  rintro e w2 ⟨rfl, hk⟩
  replace hN := hN.trans hk
  replace ra := hk.heap ra id
  clear hk H2
  go_upto_region 3 with fail
  have rb := World.alloc_heap_new w2 (.cells #[.int .u8 3, .bool false] 31)
  have hA : New w2 (w2.alloc (.cells #[.int .u8 3, .bool false] 31)) := (Mods.refl _ _).alloc _
  obtain ⟨v2, hv⟩ : ∃ V, w2.alloc (.cells #[.int .u8 3, .bool false] 31) = V := ⟨_, rfl⟩
  obtain ⟨b, hb⟩ : ∃ b, w2.heap.size = b := ⟨_, rfl⟩
  rw [hv] at rb hA ⊢
  rw [hb] at rb ⊢
  clear hv hb
  replace hN := hN.trans hA
  replace ra := hA.heap ra id
  clear hA
  go_wp2_with fail
  refine (H3.out _ hN).mono ?_
  rintro e w3 ⟨rfl, hk⟩
  replace hN := hN.trans hk
  replace ra := hk.heap ra id
  replace rb := hk.heap rb id
  clear hk H3
  go_upto_region 4 with fail
  have rc := World.alloc_heap_new w3 (.cells #[.int .u8 3, .bool false] 31)
  have hA : New w3 (w3.alloc (.cells #[.int .u8 3, .bool false] 31)) := (Mods.refl _ _).alloc _
  obtain ⟨v3, hv⟩ : ∃ V, w3.alloc (.cells #[.int .u8 3, .bool false] 31) = V := ⟨_, rfl⟩
  obtain ⟨c, hb⟩ : ∃ b, w3.heap.size = b := ⟨_, rfl⟩
  rw [hv] at rc hA ⊢
  rw [hb] at rc ⊢
  clear hv hb
  replace hN := hN.trans hA
  replace ra := hA.heap ra id
  replace rb := hA.heap rb id
  clear hA
  go_wp2_with fail
  refine (H4.out _ hN).mono ?_
  rintro e w4 ⟨rfl, hk⟩
  replace hN := hN.trans hk
  replace ra := hk.heap ra id
  replace rb := hk.heap rb id
  replace rc := hk.heap rc id
  clear hk H4
  go_wp2_with fail
  refine (H5.out _ hN).mono ?_
  rintro e w5 ⟨rfl, hk⟩
  replace hN := hN.trans hk
  replace ra := hk.heap ra id
  replace rb := hk.heap rb id
  replace rc := hk.heap rc id
  clear hk H5
  go_wp2_with fail
  refine (H6.out _ hN).mono ?_
  rintro e w6 ⟨rfl, hk⟩
  replace hN := hN.trans hk
  replace ra := hk.heap ra id
  replace rb := hk.heap rb id
  replace rc := hk.heap rc id
  clear hk H6
  go_upto_region 8 with fail
  have rd := World.alloc_heap_new w6 (.cells #[.int .u8 3, .bool false] 31)
  have hA : New w6 (w6.alloc (.cells #[.int .u8 3, .bool false] 31)) := (Mods.refl _ _).alloc _
  obtain ⟨v6, hv⟩ : ∃ V, w6.alloc (.cells #[.int .u8 3, .bool false] 31) = V := ⟨_, rfl⟩
  obtain ⟨d, hb⟩ : ∃ b, w6.heap.size = b := ⟨_, rfl⟩
  rw [hv] at rd hA ⊢
  rw [hb] at rd ⊢
  clear hv hb
  replace hN := hN.trans hA
  replace ra := hA.heap ra id
  replace rb := hA.heap rb id
  replace rc := hA.heap rc id
  obtain ⟨⟨a0, a1⟩, -⟩ := pr_facts ra
  obtain ⟨⟨b0, b1⟩, -⟩ := pr_facts rb
  obtain ⟨⟨c0, c1⟩, -⟩ := pr_facts rc
  obtain ⟨⟨d0, d1⟩, -⟩ := pr_facts rd
  clear hA ra rb rc rd
  refine piece (fun _ => _) (wk14 _ rfl v6 rfl rfl rfl rfl rfl rfl rfl rfl rfl rfl rfl rfl a0 a1 b0 b1 c0 c1 d0 d1) ?_
  rintro ⟨z, dfs⟩ w8 ⟨⟨hs, hd, hq0⟩, hN8⟩
  simp only at hs hd hq0
  subst hd
  obtain ⟨u, rfl⟩ := lit115 z hs
  have hp0 : u 0 = .bool true := hq0
  rw [hp0]
  clear hp0 hq0 hs
  replace hN := hN.trans hN8
  go_wp2_with fail
  go_ret
  exact ⟨rfl, hN⟩
end Go.Proofs.YtkiiameibdhdfaaGreatDoor
