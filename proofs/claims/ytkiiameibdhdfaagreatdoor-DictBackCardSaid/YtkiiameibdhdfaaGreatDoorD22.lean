/- The wakes of dictionaries: the great conjunction, its beginning. -/
import Derived.Test.YtkiiameibdhdfaaGreatDoorD21
set_option linter.unusedSimpArgs false
set_option linter.unusedVariables false
namespace Go.Proofs.YtkiiameibdhdfaaGreatDoor
open Go.RowKit Go.Shelf Go.Cs
attribute [local go_sem] Oper.semAt_some
set_option linter.unusedVariables false
set_option linter.unusedSimpArgs false
set_option maxHeartbeats 8000000 in
set_option maxRecDepth 100000 in
theorem wk13a (t : Array Value) (hs : t.size = 224) (w0 w : World) {la oa na pa' : Option Addr} {lc oc nc ic B7 ib io ub uo uc pm pcc : Nat} {Q : Exit → Act → World → Prop} (listed : Array Bool) (hl : listed = #[false, false, false, false, false, false, false, false, false, false, false, false, false, false, false, false, false, false, false, false, false, false, false, false, false, false, false, false, false, false, false, false, false, false, false, false, false, false, false, false, false, false, false, false, false, false, false, false, false, false, false, false, false, false, false, false, false, false, false, false, false, false, false, false, false, false, false, false, false, false, false, false, false, false, false, false, false, false, false, false, false, false, false, false, false, false, false, false, false, false, false, false, false, false, false, false, false, false, false, false, false, false, false, false, false, false, false, false, false, false, false, false, false, false, false, false, false, false, false, false, false, false, false, false])
    (hq1 : t.getD 1 undef = .slice la 2 lc)
    (hq2 : t.getD 2 undef = .int .i64 0)
    (hq3 : t.getD 3 undef = .string ⟨#[117, 61, 49, 44, 32, 105]⟩)
    (hq4 : t.getD 4 undef = .int .i64 0)
    (hq5 : t.getD 5 undef = .slice oa 1 oc)
    (hq6 : t.getD 6 undef = .int .i64 0)
    (hq7 : t.getD 7 undef = .pointer (some ⟨B7, 0, none⟩))
    (hq8 : t.getD 8 undef = .bool true)
    (hq10 : t.getD 10 undef = .bool false)
    (hq12 : t.getD 12 undef = .int .i64 130)
    (hq14 : t.getD 14 undef = .int .i64 130)
    (hq16 : t.getD 16 undef = .int .i64 130)
    (hq17 : t.getD 17 undef = .slice na 0 nc)
    (hq18 : t.getD 18 undef = .int .i64 0)
    (hq19 : t.getD 19 undef = .slice (some ⟨ib, io, none⟩) 1 ic)
    (hq20 : t.getD 20 undef = .int .i64 0)
    (hq22 : t.getD 22 undef = .int .i64 2)
    (hq23 : t.getD 23 undef = .string ⟨#[97, 61, 40, 49, 32, 50, 59, 120, 41, 59, 121]⟩)
    (hq24 : t.getD 24 undef = .int .i64 0)
    (hS : New w0 w) (k2 : w0.cell? ⟨B7, 2, none⟩ = some (.slice (some ⟨ub, uo, none⟩) 1 uc)) (u0 : w0.cell? ⟨ub, uo, none⟩ = some (.int .u8 1)) (u1 : w0.cell? ⟨ub, uo + 1, none⟩ = some (.int .i64 1)) (u2 : w0.cell? ⟨ub, uo + 2, none⟩ = some (.string ⟨#[]⟩)) (u3 : w0.cell? ⟨ub, uo + 3, none⟩ = some (.bool false))
    (i1 : w0.cell? ⟨ib, io + 1, none⟩ = some (.bool true)) (i3 : w0.cell? ⟨ib, io + 3, none⟩ = some (.slice pa' 1 pcc))
    (HO : Hid (RdD true w0 (.slice oa 1 oc) dwO)) (HI : Hid (RdD true w0 (.slice (some ⟨ib, io, none⟩) 1 ic) dwI))
    (HNP : ∀ c a w, ¬ Q (.panic c) a w) (HQ : ∀ a' W', a'.tmps.size = 224 → a'.defers = [] → a'.tmps.getD 0 undef = .bool true → New w0 W' → Q .normal a' W') :
    wpAnyH Tryz.prog .any (opsOf reg_causeylaw13_wakes_15) Q (fun W => New w0 W) 124 listed ⟨t, []⟩ w := by
  subst hl
  conv => arg 3; whnf
  obtain ⟨u, rfl⟩ := lit224 t hs
  have hq1 : u 1 = .slice la 2 lc := hq1
  have hq2 : u 2 = .int .i64 0 := hq2
  have hq3 : u 3 = .string ⟨#[117, 61, 49, 44, 32, 105]⟩ := hq3
  have hq4 : u 4 = .int .i64 0 := hq4
  have hq5 : u 5 = .slice oa 1 oc := hq5
  have hq6 : u 6 = .int .i64 0 := hq6
  have hq7 : u 7 = .pointer (some ⟨B7, 0, none⟩) := hq7
  have hq8 : u 8 = .bool true := hq8
  have hq10 : u 10 = .bool false := hq10
  have hq12 : u 12 = .int .i64 130 := hq12
  have hq14 : u 14 = .int .i64 130 := hq14
  have hq16 : u 16 = .int .i64 130 := hq16
  have hq17 : u 17 = .slice na 0 nc := hq17
  have hq18 : u 18 = .int .i64 0 := hq18
  have hq19 : u 19 = .slice (some ⟨ib, io, none⟩) 1 ic := hq19
  have hq20 : u 20 = .int .i64 0 := hq20
  have hq22 : u 22 = .int .i64 2 := hq22
  have hq23 : u 23 = .string ⟨#[97, 61, 40, 49, 32, 50, 59, 120, 41, 59, 121]⟩ := hq23
  have hq24 : u 24 = .int .i64 0 := hq24
  rw [hq1, hq2, hq3, hq4, hq5, hq6, hq7, hq8, hq10, hq12, hq14, hq16, hq17, hq18, hq19, hq20, hq22, hq23, hq24]
  clear hq1 hq2 hq3 hq4 hq5 hq6 hq7 hq8 hq10 hq12 hq14 hq16 hq17 hq18 hq19 hq20 hq22 hq23 hq24 hs
  refine anyH_take 0 (some 101) (.int .i64 0) rfl rfl (by kernel_rfl) (by kernel_rfl) (by kernel_rfl) (fun _ _ _ h => (HNP _ _ _ h).elim) (.inl ⟨by rfl, fun W hW => by go_simp⟩) hS ?_
  simp only [Act.put, List.setIfInBounds_toArray, List.set_cons_succ, List.set_cons_zero]
  refine anyH_take 1 (some 102) (.bool true) rfl rfl (by kernel_rfl) (by kernel_rfl) (by kernel_rfl) (fun _ _ _ h => (HNP _ _ _ h).elim) (.inl ⟨by rfl, fun W hW => by go_simp⟩) hS ?_
  simp only [Act.put, List.setIfInBounds_toArray, List.set_cons_succ, List.set_cons_zero]
  refine anyH_take 2 (some 103) (.bool true) rfl rfl (by kernel_rfl) (by kernel_rfl) (by kernel_rfl) (fun _ _ _ h => (HNP _ _ _ h).elim) (.inl ⟨by rfl, fun W hW => by go_simp⟩) hS ?_
  simp only [Act.put, List.setIfInBounds_toArray, List.set_cons_succ, List.set_cons_zero]
  refine anyH_take 3 (some 104) (.slice la 2 lc) rfl rfl (by kernel_rfl) (by kernel_rfl) (by kernel_rfl) (fun _ _ _ h => (HNP _ _ _ h).elim) (.inl ⟨by rfl, fun W hW => by go_simp⟩) hS ?_
  simp only [Act.put, List.setIfInBounds_toArray, List.set_cons_succ, List.set_cons_zero]
  refine anyH_take 4 (some 105) (.int .i64 2) rfl rfl (by kernel_rfl) (by kernel_rfl) (by kernel_rfl) (fun _ _ _ h => (HNP _ _ _ h).elim) (.inl ⟨by rfl, fun W hW => by go_simp⟩) hS ?_
  simp only [Act.put, List.setIfInBounds_toArray, List.set_cons_succ, List.set_cons_zero]
  refine anyH_take 5 (some 106) (.bool true) rfl rfl (by kernel_rfl) (by kernel_rfl) (by kernel_rfl) (fun _ _ _ h => (HNP _ _ _ h).elim) (.inl ⟨by rfl, fun W hW => by go_simp⟩) hS ?_
  simp only [Act.put, List.setIfInBounds_toArray, List.set_cons_succ, List.set_cons_zero]
  refine anyH_take 6 (some 107) (.bool true) rfl rfl (by kernel_rfl) (by kernel_rfl) (by kernel_rfl) (fun _ _ _ h => (HNP _ _ _ h).elim) (.inl ⟨by rfl, fun W hW => by go_simp⟩) hS ?_
  simp only [Act.put, List.setIfInBounds_toArray, List.set_cons_succ, List.set_cons_zero]
  refine anyH_take 7 (some 108) (.bool true) rfl rfl (by kernel_rfl) (by kernel_rfl) (by kernel_rfl) (fun _ _ _ h => (HNP _ _ _ h).elim) (.inl ⟨by rfl, fun W hW => by go_simp⟩) hS ?_
  simp only [Act.put, List.setIfInBounds_toArray, List.set_cons_succ, List.set_cons_zero]
  refine anyH_take 8 (some 109) (.string ⟨#[117, 61, 49, 44, 32, 105]⟩) rfl rfl (by kernel_rfl) (by kernel_rfl) (by kernel_rfl) (fun _ _ _ h => (HNP _ _ _ h).elim) (.inl ⟨by rfl, fun W hW => by go_simp⟩) hS ?_
  simp only [Act.put, List.setIfInBounds_toArray, List.set_cons_succ, List.set_cons_zero]
  refine anyH_take 9 (some 110) (.bool true) rfl rfl (by kernel_rfl) (by kernel_rfl) (by kernel_rfl) (fun _ _ _ h => (HNP _ _ _ h).elim) (.inl ⟨by rfl, fun W hW => by go_simp⟩) hS ?_
  simp only [Act.put, List.setIfInBounds_toArray, List.set_cons_succ, List.set_cons_zero]
  refine anyH_take 10 (some 111) (.bool true) rfl rfl (by kernel_rfl) (by kernel_rfl) (by kernel_rfl) (fun _ _ _ h => (HNP _ _ _ h).elim) (.inl ⟨by rfl, fun W hW => by go_simp⟩) hS ?_
  simp only [Act.put, List.setIfInBounds_toArray, List.set_cons_succ, List.set_cons_zero]
  refine anyH_take 11 (some 112) (.bool true) rfl rfl (by kernel_rfl) (by kernel_rfl) (by kernel_rfl) (fun _ _ _ h => (HNP _ _ _ h).elim) (.inl ⟨by rfl, fun W hW => by go_simp⟩) hS ?_
  simp only [Act.put, List.setIfInBounds_toArray, List.set_cons_succ, List.set_cons_zero]
  refine anyH_take 12 (some 113) (.int .i64 0) rfl rfl (by kernel_rfl) (by kernel_rfl) (by kernel_rfl) (fun _ _ _ h => (HNP _ _ _ h).elim) (.inl ⟨by rfl, fun W hW => by go_simp⟩) hS ?_
  simp only [Act.put, List.setIfInBounds_toArray, List.set_cons_succ, List.set_cons_zero]
  refine anyH_take 13 (some 114) (.bool true) rfl rfl (by kernel_rfl) (by kernel_rfl) (by kernel_rfl) (fun _ _ _ h => (HNP _ _ _ h).elim) (.inl ⟨by rfl, fun W hW => by go_simp⟩) hS ?_
  simp only [Act.put, List.setIfInBounds_toArray, List.set_cons_succ, List.set_cons_zero]
  refine anyH_take 14 (some 115) (.bool true) rfl rfl (by kernel_rfl) (by kernel_rfl) (by kernel_rfl) (fun _ _ _ h => (HNP _ _ _ h).elim) (.inl ⟨by rfl, fun W hW => by go_simp⟩) hS ?_
  simp only [Act.put, List.setIfInBounds_toArray, List.set_cons_succ, List.set_cons_zero]
  refine anyH_take 15 (some 116) (.bool true) rfl rfl (by kernel_rfl) (by kernel_rfl) (by kernel_rfl) (fun _ _ _ h => (HNP _ _ _ h).elim) (.inl ⟨by rfl, fun W hW => by go_simp⟩) hS ?_
  simp only [Act.put, List.setIfInBounds_toArray, List.set_cons_succ, List.set_cons_zero]
  refine anyH_take 16 (some 117) (.int .i64 0) rfl rfl (by kernel_rfl) (by kernel_rfl) (by kernel_rfl) (fun _ _ _ h => (HNP _ _ _ h).elim) (.inl ⟨by rfl, fun W hW => by go_simp⟩) hS ?_
  simp only [Act.put, List.setIfInBounds_toArray, List.set_cons_succ, List.set_cons_zero]
  refine anyH_take 17 (some 118) (.bool true) rfl rfl (by kernel_rfl) (by kernel_rfl) (by kernel_rfl) (fun _ _ _ h => (HNP _ _ _ h).elim) (.inl ⟨by rfl, fun W hW => by go_simp⟩) hS ?_
  simp only [Act.put, List.setIfInBounds_toArray, List.set_cons_succ, List.set_cons_zero]
  refine anyH_take 18 (some 119) (.bool true) rfl rfl (by kernel_rfl) (by kernel_rfl) (by kernel_rfl) (fun _ _ _ h => (HNP _ _ _ h).elim) (.inl ⟨by rfl, fun W hW => by go_simp⟩) hS ?_
  simp only [Act.put, List.setIfInBounds_toArray, List.set_cons_succ, List.set_cons_zero]
  refine anyH_take 19 (some 120) (.bool true) rfl rfl (by kernel_rfl) (by kernel_rfl) (by kernel_rfl) (fun _ _ _ h => (HNP _ _ _ h).elim) (.inl ⟨by rfl, fun W hW => by go_simp⟩) hS ?_
  simp only [Act.put, List.setIfInBounds_toArray, List.set_cons_succ, List.set_cons_zero]
  refine anyH_take 20 (some 121) (.slice oa 1 oc) rfl rfl (by kernel_rfl) (by kernel_rfl) (by kernel_rfl) (fun _ _ _ h => (HNP _ _ _ h).elim) (.inl ⟨by rfl, fun W hW => by go_simp⟩) hS ?_
  simp only [Act.put, List.setIfInBounds_toArray, List.set_cons_succ, List.set_cons_zero]
  refine wpAnyH_all (rs := [21]) (by kernel_rfl) (by simp) ?_
  simp only [List.mem_cons, List.not_mem_nil, or_false, forall_eq]
  refine opH_call (some 122) rfl (by rfl) rfl 56 #[] (by go_simp) ((yes_w w).mono ?_)
  rintro e w21 ⟨rfl, hk⟩
  have hS := hS.trans hk
  clear hk
  refine ⟨_, rfl, hS, ?_⟩
  simp only [Act.put, List.setIfInBounds_toArray, List.set_cons_succ, List.set_cons_zero]
  refine anyH_take 22 (some 123) (.agg #[.int .u8 6, .int .i64 0, .string ⟨#[]⟩, .bool true, .slice none 0 0]) rfl rfl (by kernel_rfl) (by kernel_rfl) (by kernel_rfl) (fun _ _ _ h => (HNP _ _ _ h).elim) (.inl ⟨by rfl, fun W hW => by go_simp⟩) hS ?_
  simp only [Act.put, List.setIfInBounds_toArray, List.set_cons_succ, List.set_cons_zero]
  refine wpAnyH_all (rs := [23]) (by kernel_rfl) (by simp) ?_
  simp only [List.mem_cons, List.not_mem_nil, or_false, forall_eq]
  refine opH_value (some 124) (v := .slice (some ⟨w21.heap.size, 0, none⟩) 1 1) (w' := w21.alloc (.cells #[.int .u8 6, .int .i64 0, .string ⟨#[]⟩, .bool true, .slice none 0 0] 71)) rfl (by rfl) rfl (by go_simp) ?_
  have hS := hS.trans ((Mods.refl (fun _ => False) w21).alloc (.cells #[.int .u8 6, .int .i64 0, .string ⟨#[]⟩, .bool true, .slice none 0 0] 71))
  refine ⟨hS, ?_⟩
  simp only [Act.put, List.setIfInBounds_toArray, List.set_cons_succ, List.set_cons_zero]
  refine anyH_take 24 (some 125) (.agg #[.string ⟨#[97]⟩, .bool false, .slice (some ⟨w21.heap.size, 0, none⟩) 1 1, .slice none 0 0]) rfl rfl (by kernel_rfl) (by kernel_rfl) (by kernel_rfl) (fun _ _ _ h => (HNP _ _ _ h).elim) (.inl ⟨by rfl, fun W hW => by go_simp⟩) hS ?_
  simp only [Act.put, List.setIfInBounds_toArray, List.set_cons_succ, List.set_cons_zero]
  refine wpAnyH_all (rs := [25]) (by kernel_rfl) (by simp) ?_
  simp only [List.mem_cons, List.not_mem_nil, or_false, forall_eq]
  refine opH_value (some 126) (v := .slice (some ⟨w21.heap.size + 1, 0, none⟩) 1 1) (w' := (w21.alloc (.cells #[.int .u8 6, .int .i64 0, .string ⟨#[]⟩, .bool true, .slice none 0 0] 71)).alloc (.cells #[.string ⟨#[97]⟩, .bool false, .slice (some ⟨w21.heap.size, 0, none⟩) 1 1, .slice none 0 0] 64)) rfl (by rfl) rfl (by go_simp) ?_
  have hS := hS.trans ((Mods.refl (fun _ => False) (w21.alloc (.cells #[.int .u8 6, .int .i64 0, .string ⟨#[]⟩, .bool true, .slice none 0 0] 71))).alloc (.cells #[.string ⟨#[97]⟩, .bool false, .slice (some ⟨w21.heap.size, 0, none⟩) 1 1, .slice none 0 0] 64))
  refine ⟨hS, ?_⟩
  simp only [Act.put, List.setIfInBounds_toArray, List.set_cons_succ, List.set_cons_zero]
  refine wpAnyH_all (rs := [26]) (by kernel_rfl) (by simp) ?_
  simp only [List.mem_cons, List.not_mem_nil, or_false, forall_eq]
  refine opH_call (some 127) rfl (by rfl) rfl 29 #[.slice oa 1 oc, .slice (some ⟨w21.heap.size + 1, 0, none⟩) 1 1] (by go_simp) (((rsame_d _ _ dwO dwO _ (HO.out.new hS) (one_d w21 [97] false Bare.yesI)).mono (R' := fun e w' => e = .returned (.bool true) ∧ New _ w') (by rintro e w' ⟨rfl, h⟩; exact ⟨by rw [decide_eq_true rfl], h⟩)).mono ?_)
  rintro e w26 ⟨rfl, hk⟩
  have hS := hS.trans hk
  clear hk
  refine ⟨_, rfl, hS, ?_⟩
  simp only [Act.put, List.setIfInBounds_toArray, List.set_cons_succ, List.set_cons_zero]
  refine anyH_take 27 (some 128) (.bool true) rfl rfl (by kernel_rfl) (by kernel_rfl) (by kernel_rfl) (fun _ _ _ h => (HNP _ _ _ h).elim) (.inl ⟨by rfl, fun W hW => by go_simp⟩) hS ?_
  simp only [Act.put, List.setIfInBounds_toArray, List.set_cons_succ, List.set_cons_zero]
  refine anyH_take 28 (some 129) (.bool true) rfl rfl (by kernel_rfl) (by kernel_rfl) (by kernel_rfl) (fun _ _ _ h => (HNP _ _ _ h).elim) (.inl ⟨by rfl, fun W hW => by go_simp⟩) hS ?_
  simp only [Act.put, List.setIfInBounds_toArray, List.set_cons_succ, List.set_cons_zero]
  refine anyH_take 29 (some 130) (.bool true) rfl rfl (by kernel_rfl) (by kernel_rfl) (by kernel_rfl) (fun _ _ _ h => (HNP _ _ _ h).elim) (.inl ⟨by rfl, fun W hW => by go_simp⟩) hS ?_
  simp only [Act.put, List.setIfInBounds_toArray, List.set_cons_succ, List.set_cons_zero]
  refine anyH_take 30 (some 131) (.bool true) rfl rfl (by kernel_rfl) (by kernel_rfl) (by kernel_rfl) (fun _ _ _ h => (HNP _ _ _ h).elim) (.inl ⟨by rfl, fun W hW => by go_simp⟩) hS ?_
  simp only [Act.put, List.setIfInBounds_toArray, List.set_cons_succ, List.set_cons_zero]
  refine anyH_take 31 (some 132) (.bool true) rfl rfl (by kernel_rfl) (by kernel_rfl) (by kernel_rfl) (fun _ _ _ h => (HNP _ _ _ h).elim) (.inl ⟨by rfl, fun W hW => by go_simp⟩) hS ?_
  simp only [Act.put, List.setIfInBounds_toArray, List.set_cons_succ, List.set_cons_zero]
  refine anyH_take 32 (some 133) (.pointer (some ⟨B7, 2, none⟩)) rfl rfl (by kernel_rfl) (by kernel_rfl) (by kernel_rfl) (fun _ _ _ h => (HNP _ _ _ h).elim) (.inl ⟨by rfl, fun W hW => by go_simp⟩) hS ?_
  simp only [Act.put, List.setIfInBounds_toArray, List.set_cons_succ, List.set_cons_zero]
  refine anyH_take 33 (some 134) (.slice (some ⟨ub, uo, none⟩) 1 uc) rfl rfl (by kernel_rfl) (by kernel_rfl) (by kernel_rfl) (fun _ _ _ h => (HNP _ _ _ h).elim) (.inl ⟨by rfl, fun W hW => by have hh : New w0 W := hW; have q := hh.cell k2 id; go_simp⟩) hS ?_
  simp only [Act.put, List.setIfInBounds_toArray, List.set_cons_succ, List.set_cons_zero]
  refine anyH_take 34 (some 135) (.pointer (some ⟨ub, uo, none⟩)) rfl rfl (by kernel_rfl) (by kernel_rfl) (by kernel_rfl) (fun _ _ _ h => (HNP _ _ _ h).elim) (.inl ⟨by rfl, fun W hW => by go_simp⟩) hS ?_
  simp only [Act.put, List.setIfInBounds_toArray, List.set_cons_succ, List.set_cons_zero]
  refine anyH_take 35 (some 136) (.pointer (some ⟨ub, uo, none⟩)) rfl rfl (by kernel_rfl) (by kernel_rfl) (by kernel_rfl) (fun _ _ _ h => (HNP _ _ _ h).elim) (.inl ⟨by rfl, fun W hW => by go_simp⟩) hS ?_
  simp only [Act.put, List.setIfInBounds_toArray, List.set_cons_succ, List.set_cons_zero]
  refine anyH_take 36 (some 137) (.agg #[.int .u8 1, .int .i64 1, .string ⟨#[]⟩, .bool false]) rfl rfl (by kernel_rfl) (by kernel_rfl) (by kernel_rfl) (fun _ _ _ h => (HNP _ _ _ h).elim) (.inl ⟨by rfl, fun W hW => by have hh : New w0 W := hW; have q0 := hh.cell u0 id; have q1 := hh.cell u1 id; have q2 := hh.cell u2 id; have q3 := hh.cell u3 id; go_simp⟩) hS ?_
  simp only [Act.put, List.setIfInBounds_toArray, List.set_cons_succ, List.set_cons_zero]
  refine wpAnyH_all (rs := [37]) (by kernel_rfl) (by simp) ?_
  simp only [List.mem_cons, List.not_mem_nil, or_false, forall_eq]
  refine opH_call (some 138) rfl (by rfl) rfl 57 #[.int .i64 1] (by go_simp) ((number_w 1 w26).mono ?_)
  rintro e w37 ⟨rfl, hk⟩
  have hS := hS.trans hk
  clear hk
  refine ⟨_, rfl, hS, ?_⟩
  simp only [Act.put, List.setIfInBounds_toArray, List.set_cons_succ, List.set_cons_zero]
  refine anyH_take 38 (some 139) (.bool true) rfl rfl (by kernel_rfl) (by kernel_rfl) (by kernel_rfl) (fun _ _ _ h => (HNP _ _ _ h).elim) (.inl ⟨by rfl, fun W hW => by have q := binop_item ⟨1, 1, [], false⟩ ⟨1, 1, [], false⟩; simp only [decide_true] at q; have q' : (binOp .eql 66 (.agg #[.int .u8 1, .int .i64 1, .string ⟨#[]⟩, .bool false]) (.agg #[.int .u8 1, .int .i64 1, .string ⟨#[]⟩, .bool false])).run Tryz.prog W = .ok (.bool true) W := q W; clear q; go_simp⟩) hS ?_
  simp only [Act.put, List.setIfInBounds_toArray, List.set_cons_succ, List.set_cons_zero]
  refine anyH_take 39 (some 140) (.bool true) rfl rfl (by kernel_rfl) (by kernel_rfl) (by kernel_rfl) (fun _ _ _ h => (HNP _ _ _ h).elim) (.inl ⟨by rfl, fun W hW => by go_simp⟩) hS ?_
  simp only [Act.put, List.setIfInBounds_toArray, List.set_cons_succ, List.set_cons_zero]
  refine anyH_take 40 (some 141) (.bool true) rfl rfl (by kernel_rfl) (by kernel_rfl) (by kernel_rfl) (fun _ _ _ h => (HNP _ _ _ h).elim) (.inl ⟨by rfl, fun W hW => by go_simp⟩) hS ?_
  simp only [Act.put, List.setIfInBounds_toArray, List.set_cons_succ, List.set_cons_zero]
  exact wk13b (pm := 0) _ rfl w0 _ _ (by kernel_rfl) rfl rfl rfl rfl rfl rfl rfl rfl rfl rfl rfl rfl rfl rfl rfl rfl rfl rfl rfl rfl hS k2 u0 u1 u2 u3 i1 i3 HO HI HNP HQ
set_option maxHeartbeats 4000000 in
set_option maxRecDepth 100000 in
theorem wk13 (t : Array Value) (hs : t.size = 224) (w : World) {la oa na pa' : Option Addr} {lc oc nc ic B7 ib io ub uo uc pm pcc : Nat}
    (hq1 : t.getD 1 undef = .slice la 2 lc)
    (hq2 : t.getD 2 undef = .int .i64 0)
    (hq3 : t.getD 3 undef = .string ⟨#[117, 61, 49, 44, 32, 105]⟩)
    (hq4 : t.getD 4 undef = .int .i64 0)
    (hq5 : t.getD 5 undef = .slice oa 1 oc)
    (hq6 : t.getD 6 undef = .int .i64 0)
    (hq7 : t.getD 7 undef = .pointer (some ⟨B7, 0, none⟩))
    (hq8 : t.getD 8 undef = .bool true)
    (hq10 : t.getD 10 undef = .bool false)
    (hq12 : t.getD 12 undef = .int .i64 130)
    (hq14 : t.getD 14 undef = .int .i64 130)
    (hq16 : t.getD 16 undef = .int .i64 130)
    (hq17 : t.getD 17 undef = .slice na 0 nc)
    (hq18 : t.getD 18 undef = .int .i64 0)
    (hq19 : t.getD 19 undef = .slice (some ⟨ib, io, none⟩) 1 ic)
    (hq20 : t.getD 20 undef = .int .i64 0)
    (hq22 : t.getD 22 undef = .int .i64 2)
    (hq23 : t.getD 23 undef = .string ⟨#[97, 61, 40, 49, 32, 50, 59, 120, 41, 59, 121]⟩)
    (hq24 : t.getD 24 undef = .int .i64 0)
    (k2 : w.cell? ⟨B7, 2, none⟩ = some (.slice (some ⟨ub, uo, none⟩) 1 uc)) (u0 : w.cell? ⟨ub, uo, none⟩ = some (.int .u8 1)) (u1 : w.cell? ⟨ub, uo + 1, none⟩ = some (.int .i64 1)) (u2 : w.cell? ⟨ub, uo + 2, none⟩ = some (.string ⟨#[]⟩)) (u3 : w.cell? ⟨ub, uo + 3, none⟩ = some (.bool false))
    (i1 : w.cell? ⟨ib, io + 1, none⟩ = some (.bool true)) (i3 : w.cell? ⟨ib, io + 3, none⟩ = some (.slice pa' 1 pcc))
    (HO : Hid (RdD true w (.slice oa 1 oc) dwO)) (HI : Hid (RdD true w (.slice (some ⟨ib, io, none⟩) 1 ic) dwI)) :
    reg_causeylaw13_wakes_15.wp Tryz.prog (Only fun a' W' => (a'.tmps.size = 224 ∧ a'.defers = [] ∧ a'.tmps.getD 0 undef = .bool true) ∧ New w W') ⟨t, []⟩ w := by
  have hd : New w w.drew := (Mods.refl _ _).drew
  conv => arg 2; whnf
  refine wp_region_held (S := fun W => New w.drew W) (by kernel_rfl) ?_
  exact wk13a (pm := 0) t hs w.drew w.drew _ (by kernel_rfl) hq1 hq2 hq3 hq4 hq5 hq6 hq7 hq8 hq10 hq12 hq14 hq16 hq17 hq18 hq19 hq20 hq22 hq23 hq24 (Mods.refl _ _) k2 u0 u1 u2 u3 i1 i3 (Lib.hid (HO.out.new hd)) (Lib.hid (HI.out.new hd)) (fun _ _ _ h => h) (fun a' W' h1 h2 h3 h4 => ⟨⟨h1, h2, h3⟩, hd.trans h4⟩)
end Go.Proofs.YtkiiameibdhdfaaGreatDoor
