/- The wakes of dictionaries: the great conjunction, its middle. -/
import Derived.Test.YtkiiameibdhdfaaGreatDoorD20
set_option linter.unusedSimpArgs false
set_option linter.unusedVariables false
namespace Go.Proofs.YtkiiameibdhdfaaGreatDoor
open Go.RowKit Go.Shelf Go.Cs
attribute [local go_sem] Oper.semAt_some
set_option linter.unusedVariables false
set_option linter.unusedSimpArgs false
set_option maxHeartbeats 8000000 in
set_option maxRecDepth 100000 in
theorem wk13b (t : Array Value) (hs : t.size = 224) (w0 w : World) {la oa na pa' : Option Addr} {lc oc nc ic B7 ib io ub uo uc pm pcc : Nat} {Q : Exit → Act → World → Prop} (listed : Array Bool) (hl : listed = #[true, true, true, true, true, true, true, true, true, true, true, true, true, true, true, true, true, true, true, true, true, true, true, true, true, true, true, true, true, true, true, true, true, true, true, true, true, true, true, true, true, false, false, false, false, false, false, false, false, false, false, false, false, false, false, false, false, false, false, false, false, false, false, false, false, false, false, false, false, false, false, false, false, false, false, false, false, false, false, false, false, false, false, false, false, false, false, false, false, false, false, false, false, false, false, false, false, false, false, false, false, false, false, false, false, false, false, false, false, false, false, false, false, false, false, false, false, false, false, false, false, false, false, false])
    (hq1 : t.getD 1 undef = .slice la 2 lc)
    (hq2 : t.getD 2 undef = .int .i64 0)
    (hq3 : t.getD 3 undef = .string ⟨#[117, 61, 49, 44, 32, 105]⟩)
    (hq4 : t.getD 4 undef = .int .i64 0)
    (hq5 : t.getD 5 undef = .slice oa 1 oc)
    (hq6 : t.getD 6 undef = .int .i64 0)
    (hq7 : t.getD 7 undef = .pointer (some ⟨B7, 0, none⟩))
    (hq8 : t.getD 8 undef = .bool true)
    (hq10 : t.getD 10 undef = .bool false)
    (hq12 : t.getD 12 undef = .int .i64 130)
    (hq14 : t.getD 14 undef = .int .i64 130)
    (hq16 : t.getD 16 undef = .int .i64 130)
    (hq17 : t.getD 17 undef = .slice na 0 nc)
    (hq18 : t.getD 18 undef = .int .i64 0)
    (hq19 : t.getD 19 undef = .slice (some ⟨ib, io, none⟩) 1 ic)
    (hq20 : t.getD 20 undef = .int .i64 0)
    (hq22 : t.getD 22 undef = .int .i64 2)
    (hq23 : t.getD 23 undef = .string ⟨#[97, 61, 40, 49, 32, 50, 59, 120, 41, 59, 121]⟩)
    (hq24 : t.getD 24 undef = .int .i64 0)
    (hq141 : t.getD 141 undef = .bool true)
    (hS : New w0 w) (k2 : w0.cell? ⟨B7, 2, none⟩ = some (.slice (some ⟨ub, uo, none⟩) 1 uc)) (u0 : w0.cell? ⟨ub, uo, none⟩ = some (.int .u8 1)) (u1 : w0.cell? ⟨ub, uo + 1, none⟩ = some (.int .i64 1)) (u2 : w0.cell? ⟨ub, uo + 2, none⟩ = some (.string ⟨#[]⟩)) (u3 : w0.cell? ⟨ub, uo + 3, none⟩ = some (.bool false))
    (i1 : w0.cell? ⟨ib, io + 1, none⟩ = some (.bool true)) (i3 : w0.cell? ⟨ib, io + 3, none⟩ = some (.slice pa' 1 pcc))
    (HO : Hid (RdD true w0 (.slice oa 1 oc) dwO)) (HI : Hid (RdD true w0 (.slice (some ⟨ib, io, none⟩) 1 ic) dwI))
    (HNP : ∀ c a w, ¬ Q (.panic c) a w) (HQ : ∀ a' W', a'.tmps.size = 224 → a'.defers = [] → a'.tmps.getD 0 undef = .bool true → New w0 W' → Q .normal a' W') :
    wpAnyH Tryz.prog .any (opsOf reg_causeylaw13_wakes_15) Q (fun W => New w0 W) 83 listed ⟨t, []⟩ w := by
  subst hl
  conv => arg 3; whnf
  obtain ⟨u, rfl⟩ := lit224 t hs
  have hq1 : u 1 = .slice la 2 lc := hq1
  have hq2 : u 2 = .int .i64 0 := hq2
  have hq3 : u 3 = .string ⟨#[117, 61, 49, 44, 32, 105]⟩ := hq3
  have hq4 : u 4 = .int .i64 0 := hq4
  have hq5 : u 5 = .slice oa 1 oc := hq5
  have hq6 : u 6 = .int .i64 0 := hq6
  have hq7 : u 7 = .pointer (some ⟨B7, 0, none⟩) := hq7
  have hq8 : u 8 = .bool true := hq8
  have hq10 : u 10 = .bool false := hq10
  have hq12 : u 12 = .int .i64 130 := hq12
  have hq14 : u 14 = .int .i64 130 := hq14
  have hq16 : u 16 = .int .i64 130 := hq16
  have hq17 : u 17 = .slice na 0 nc := hq17
  have hq18 : u 18 = .int .i64 0 := hq18
  have hq19 : u 19 = .slice (some ⟨ib, io, none⟩) 1 ic := hq19
  have hq20 : u 20 = .int .i64 0 := hq20
  have hq22 : u 22 = .int .i64 2 := hq22
  have hq23 : u 23 = .string ⟨#[97, 61, 40, 49, 32, 50, 59, 120, 41, 59, 121]⟩ := hq23
  have hq24 : u 24 = .int .i64 0 := hq24
  have hq141 : u 141 = .bool true := hq141
  rw [hq1, hq2, hq3, hq4, hq5, hq6, hq7, hq8, hq10, hq12, hq14, hq16, hq17, hq18, hq19, hq20, hq22, hq23, hq24, hq141]
  clear hq1 hq2 hq3 hq4 hq5 hq6 hq7 hq8 hq10 hq12 hq14 hq16 hq17 hq18 hq19 hq20 hq22 hq23 hq24 hq141 hs
  refine anyH_take 41 (some 142) (.bool false) rfl rfl (by kernel_rfl) (by kernel_rfl) (by kernel_rfl) (fun _ _ _ h => (HNP _ _ _ h).elim) (.inl ⟨by rfl, fun W hW => by go_simp⟩) hS ?_
  simp only [Act.put, List.setIfInBounds_toArray, List.set_cons_succ, List.set_cons_zero]
  refine anyH_take 42 (some 143) (.bool true) rfl rfl (by kernel_rfl) (by kernel_rfl) (by kernel_rfl) (fun _ _ _ h => (HNP _ _ _ h).elim) (.inl ⟨by rfl, fun W hW => by go_simp⟩) hS ?_
  simp only [Act.put, List.setIfInBounds_toArray, List.set_cons_succ, List.set_cons_zero]
  refine anyH_take 43 (some 144) (.bool true) rfl rfl (by kernel_rfl) (by kernel_rfl) (by kernel_rfl) (fun _ _ _ h => (HNP _ _ _ h).elim) (.inl ⟨by rfl, fun W hW => by go_simp⟩) hS ?_
  simp only [Act.put, List.setIfInBounds_toArray, List.set_cons_succ, List.set_cons_zero]
  refine anyH_take 44 (some 145) (.bool true) rfl rfl (by kernel_rfl) (by kernel_rfl) (by kernel_rfl) (fun _ _ _ h => (HNP _ _ _ h).elim) (.inl ⟨by rfl, fun W hW => by go_simp⟩) hS ?_
  simp only [Act.put, List.setIfInBounds_toArray, List.set_cons_succ, List.set_cons_zero]
  refine anyH_take 45 (some 146) (.int .i64 130) rfl rfl (by kernel_rfl) (by kernel_rfl) (by kernel_rfl) (fun _ _ _ h => (HNP _ _ _ h).elim) (.inl ⟨by rfl, fun W hW => by go_simp⟩) hS ?_
  simp only [Act.put, List.setIfInBounds_toArray, List.set_cons_succ, List.set_cons_zero]
  refine anyH_take 46 (some 147) (.bool true) rfl rfl (by kernel_rfl) (by kernel_rfl) (by kernel_rfl) (fun _ _ _ h => (HNP _ _ _ h).elim) (.inl ⟨by rfl, fun W hW => by go_simp⟩) hS ?_
  simp only [Act.put, List.setIfInBounds_toArray, List.set_cons_succ, List.set_cons_zero]
  refine anyH_take 47 (some 148) (.bool true) rfl rfl (by kernel_rfl) (by kernel_rfl) (by kernel_rfl) (fun _ _ _ h => (HNP _ _ _ h).elim) (.inl ⟨by rfl, fun W hW => by go_simp⟩) hS ?_
  simp only [Act.put, List.setIfInBounds_toArray, List.set_cons_succ, List.set_cons_zero]
  refine anyH_take 48 (some 149) (.bool true) rfl rfl (by kernel_rfl) (by kernel_rfl) (by kernel_rfl) (fun _ _ _ h => (HNP _ _ _ h).elim) (.inl ⟨by rfl, fun W hW => by go_simp⟩) hS ?_
  simp only [Act.put, List.setIfInBounds_toArray, List.set_cons_succ, List.set_cons_zero]
  refine anyH_take 49 (some 150) (.int .i64 130) rfl rfl (by kernel_rfl) (by kernel_rfl) (by kernel_rfl) (fun _ _ _ h => (HNP _ _ _ h).elim) (.inl ⟨by rfl, fun W hW => by go_simp⟩) hS ?_
  simp only [Act.put, List.setIfInBounds_toArray, List.set_cons_succ, List.set_cons_zero]
  refine anyH_take 50 (some 151) (.bool true) rfl rfl (by kernel_rfl) (by kernel_rfl) (by kernel_rfl) (fun _ _ _ h => (HNP _ _ _ h).elim) (.inl ⟨by rfl, fun W hW => by go_simp⟩) hS ?_
  simp only [Act.put, List.setIfInBounds_toArray, List.set_cons_succ, List.set_cons_zero]
  refine anyH_take 51 (some 152) (.bool true) rfl rfl (by kernel_rfl) (by kernel_rfl) (by kernel_rfl) (fun _ _ _ h => (HNP _ _ _ h).elim) (.inl ⟨by rfl, fun W hW => by go_simp⟩) hS ?_
  simp only [Act.put, List.setIfInBounds_toArray, List.set_cons_succ, List.set_cons_zero]
  refine anyH_take 52 (some 153) (.bool true) rfl rfl (by kernel_rfl) (by kernel_rfl) (by kernel_rfl) (fun _ _ _ h => (HNP _ _ _ h).elim) (.inl ⟨by rfl, fun W hW => by go_simp⟩) hS ?_
  simp only [Act.put, List.setIfInBounds_toArray, List.set_cons_succ, List.set_cons_zero]
  refine anyH_take 53 (some 154) (.int .i64 130) rfl rfl (by kernel_rfl) (by kernel_rfl) (by kernel_rfl) (fun _ _ _ h => (HNP _ _ _ h).elim) (.inl ⟨by rfl, fun W hW => by go_simp⟩) hS ?_
  simp only [Act.put, List.setIfInBounds_toArray, List.set_cons_succ, List.set_cons_zero]
  refine anyH_take 54 (some 155) (.bool true) rfl rfl (by kernel_rfl) (by kernel_rfl) (by kernel_rfl) (fun _ _ _ h => (HNP _ _ _ h).elim) (.inl ⟨by rfl, fun W hW => by go_simp⟩) hS ?_
  simp only [Act.put, List.setIfInBounds_toArray, List.set_cons_succ, List.set_cons_zero]
  refine anyH_take 55 (some 156) (.bool true) rfl rfl (by kernel_rfl) (by kernel_rfl) (by kernel_rfl) (fun _ _ _ h => (HNP _ _ _ h).elim) (.inl ⟨by rfl, fun W hW => by go_simp⟩) hS ?_
  simp only [Act.put, List.setIfInBounds_toArray, List.set_cons_succ, List.set_cons_zero]
  refine anyH_take 56 (some 157) (.bool true) rfl rfl (by kernel_rfl) (by kernel_rfl) (by kernel_rfl) (fun _ _ _ h => (HNP _ _ _ h).elim) (.inl ⟨by rfl, fun W hW => by go_simp⟩) hS ?_
  simp only [Act.put, List.setIfInBounds_toArray, List.set_cons_succ, List.set_cons_zero]
  refine anyH_take 57 (some 158) (.slice na 0 nc) rfl rfl (by kernel_rfl) (by kernel_rfl) (by kernel_rfl) (fun _ _ _ h => (HNP _ _ _ h).elim) (.inl ⟨by rfl, fun W hW => by go_simp⟩) hS ?_
  simp only [Act.put, List.setIfInBounds_toArray, List.set_cons_succ, List.set_cons_zero]
  refine anyH_take 58 (some 159) (.int .i64 0) rfl rfl (by kernel_rfl) (by kernel_rfl) (by kernel_rfl) (fun _ _ _ h => (HNP _ _ _ h).elim) (.inl ⟨by rfl, fun W hW => by go_simp⟩) hS ?_
  simp only [Act.put, List.setIfInBounds_toArray, List.set_cons_succ, List.set_cons_zero]
  refine anyH_take 59 (some 160) (.bool true) rfl rfl (by kernel_rfl) (by kernel_rfl) (by kernel_rfl) (fun _ _ _ h => (HNP _ _ _ h).elim) (.inl ⟨by rfl, fun W hW => by go_simp⟩) hS ?_
  simp only [Act.put, List.setIfInBounds_toArray, List.set_cons_succ, List.set_cons_zero]
  refine anyH_take 60 (some 161) (.bool true) rfl rfl (by kernel_rfl) (by kernel_rfl) (by kernel_rfl) (fun _ _ _ h => (HNP _ _ _ h).elim) (.inl ⟨by rfl, fun W hW => by go_simp⟩) hS ?_
  simp only [Act.put, List.setIfInBounds_toArray, List.set_cons_succ, List.set_cons_zero]
  refine anyH_take 61 (some 162) (.bool true) rfl rfl (by kernel_rfl) (by kernel_rfl) (by kernel_rfl) (fun _ _ _ h => (HNP _ _ _ h).elim) (.inl ⟨by rfl, fun W hW => by go_simp⟩) hS ?_
  simp only [Act.put, List.setIfInBounds_toArray, List.set_cons_succ, List.set_cons_zero]
  refine anyH_take 62 (some 163) (.int .i64 0) rfl rfl (by kernel_rfl) (by kernel_rfl) (by kernel_rfl) (fun _ _ _ h => (HNP _ _ _ h).elim) (.inl ⟨by rfl, fun W hW => by go_simp⟩) hS ?_
  simp only [Act.put, List.setIfInBounds_toArray, List.set_cons_succ, List.set_cons_zero]
  refine anyH_take 63 (some 164) (.bool true) rfl rfl (by kernel_rfl) (by kernel_rfl) (by kernel_rfl) (fun _ _ _ h => (HNP _ _ _ h).elim) (.inl ⟨by rfl, fun W hW => by go_simp⟩) hS ?_
  simp only [Act.put, List.setIfInBounds_toArray, List.set_cons_succ, List.set_cons_zero]
  refine anyH_take 64 (some 165) (.bool true) rfl rfl (by kernel_rfl) (by kernel_rfl) (by kernel_rfl) (fun _ _ _ h => (HNP _ _ _ h).elim) (.inl ⟨by rfl, fun W hW => by go_simp⟩) hS ?_
  simp only [Act.put, List.setIfInBounds_toArray, List.set_cons_succ, List.set_cons_zero]
  refine anyH_take 65 (some 166) (.bool true) rfl rfl (by kernel_rfl) (by kernel_rfl) (by kernel_rfl) (fun _ _ _ h => (HNP _ _ _ h).elim) (.inl ⟨by rfl, fun W hW => by go_simp⟩) hS ?_
  simp only [Act.put, List.setIfInBounds_toArray, List.set_cons_succ, List.set_cons_zero]
  refine anyH_take 66 (some 167) (.int .i64 0) rfl rfl (by kernel_rfl) (by kernel_rfl) (by kernel_rfl) (fun _ _ _ h => (HNP _ _ _ h).elim) (.inl ⟨by rfl, fun W hW => by go_simp⟩) hS ?_
  simp only [Act.put, List.setIfInBounds_toArray, List.set_cons_succ, List.set_cons_zero]
  refine anyH_take 67 (some 168) (.bool true) rfl rfl (by kernel_rfl) (by kernel_rfl) (by kernel_rfl) (fun _ _ _ h => (HNP _ _ _ h).elim) (.inl ⟨by rfl, fun W hW => by go_simp⟩) hS ?_
  simp only [Act.put, List.setIfInBounds_toArray, List.set_cons_succ, List.set_cons_zero]
  refine anyH_take 68 (some 169) (.bool true) rfl rfl (by kernel_rfl) (by kernel_rfl) (by kernel_rfl) (fun _ _ _ h => (HNP _ _ _ h).elim) (.inl ⟨by rfl, fun W hW => by go_simp⟩) hS ?_
  simp only [Act.put, List.setIfInBounds_toArray, List.set_cons_succ, List.set_cons_zero]
  exact wk13b2 (pm := 0) _ rfl w0 _ _ (by kernel_rfl) rfl rfl rfl rfl rfl rfl rfl rfl rfl rfl rfl rfl rfl rfl rfl rfl rfl rfl rfl rfl hS k2 u0 u1 u2 u3 i1 i3 HO HI HNP HQ
end Go.Proofs.YtkiiameibdhdfaaGreatDoor
