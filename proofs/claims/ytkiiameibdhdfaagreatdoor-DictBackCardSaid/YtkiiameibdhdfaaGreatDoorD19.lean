/- The wakes of dictionaries: the great conjunction. -/
import Derived.Test.YtkiiameibdhdfaaGreatDoorD18
import Derived.Test.YtkiiameibdhdfaaGreatDoorD16
import Derived.Test.YtkiiameibdhdfaaGreatDoorD08
import Derived.Test.YtkiiameibdhdfaaGreatDoorD11
set_option linter.unusedSimpArgs false
set_option linter.unusedVariables false
namespace Go.Proofs.YtkiiameibdhdfaaGreatDoor
open Go.RowKit Go.Shelf Go.Cs
attribute [local go_sem] Oper.semAt_some
set_option linter.unusedVariables false
set_option linter.unusedSimpArgs false
theorem smI : ∀ m ∈ dwI, SmM m := by
  intro m hm
  unfold dwI at hm
  rw [List.mem_singleton] at hm
  subst hm
  refine ⟨by decide, by decide, by decide, fun x hx => ?_, fun p hp => ?_⟩
  · simp only [List.mem_cons, List.not_mem_nil, or_false] at hx
    rcases hx with rfl | rfl
    · exact ⟨by decide, by decide, by decide, fun p hp => by cases hp⟩
    · refine ⟨by decide, by decide, by decide, fun p hp => ?_⟩
      rw [List.mem_singleton] at hp
      subst hp
      exact ⟨by decide, by decide, by decide⟩
  · rw [List.mem_singleton] at hp
    subst hp
    exact ⟨by decide, by decide, by decide⟩
theorem smB : ∀ m ∈ ([⟨[97], false, [], []⟩] : List Bare.Mem), SmM m := by
  intro m hm
  rw [List.mem_singleton] at hm
  subst hm
  refine ⟨by decide, by decide, by decide, fun x hx => ?_, fun p hp => ?_⟩
  · cases hx
  · cases hp
theorem lit224 (t : Array Value) (h : t.size = 224) : ∃ u : Nat → Value, t = (u 0 :: u 1 :: u 2 :: u 3 :: u 4 :: u 5 :: u 6 :: u 7 :: u 8 :: u 9 :: u 10 :: u 11 :: u 12 :: u 13 :: u 14 :: u 15 :: u 16 :: u 17 :: u 18 :: u 19 :: u 20 :: u 21 :: u 22 :: u 23 :: u 24 :: u 25 :: u 26 :: u 27 :: u 28 :: u 29 :: u 30 :: u 31 :: u 32 :: u 33 :: u 34 :: u 35 :: u 36 :: u 37 :: u 38 :: u 39 :: u 40 :: u 41 :: u 42 :: u 43 :: u 44 :: u 45 :: u 46 :: u 47 :: u 48 :: u 49 :: u 50 :: u 51 :: u 52 :: u 53 :: u 54 :: u 55 :: u 56 :: u 57 :: u 58 :: u 59 :: u 60 :: u 61 :: u 62 :: u 63 :: u 64 :: u 65 :: u 66 :: u 67 :: u 68 :: u 69 :: u 70 :: u 71 :: u 72 :: u 73 :: u 74 :: u 75 :: u 76 :: u 77 :: u 78 :: u 79 :: u 80 :: u 81 :: u 82 :: u 83 :: u 84 :: u 85 :: u 86 :: u 87 :: u 88 :: u 89 :: u 90 :: u 91 :: u 92 :: u 93 :: u 94 :: u 95 :: u 96 :: u 97 :: u 98 :: u 99 :: u 100 :: u 101 :: u 102 :: u 103 :: u 104 :: u 105 :: u 106 :: u 107 :: u 108 :: u 109 :: u 110 :: u 111 :: u 112 :: u 113 :: u 114 :: u 115 :: u 116 :: u 117 :: u 118 :: u 119 :: u 120 :: u 121 :: u 122 :: u 123 :: u 124 :: u 125 :: u 126 :: u 127 :: u 128 :: u 129 :: u 130 :: u 131 :: u 132 :: u 133 :: u 134 :: u 135 :: u 136 :: u 137 :: u 138 :: u 139 :: u 140 :: u 141 :: u 142 :: u 143 :: u 144 :: u 145 :: u 146 :: u 147 :: u 148 :: u 149 :: u 150 :: u 151 :: u 152 :: u 153 :: u 154 :: u 155 :: u 156 :: u 157 :: u 158 :: u 159 :: u 160 :: u 161 :: u 162 :: u 163 :: u 164 :: u 165 :: u 166 :: u 167 :: u 168 :: u 169 :: u 170 :: u 171 :: u 172 :: u 173 :: u 174 :: u 175 :: u 176 :: u 177 :: u 178 :: u 179 :: u 180 :: u 181 :: u 182 :: u 183 :: u 184 :: u 185 :: u 186 :: u 187 :: u 188 :: u 189 :: u 190 :: u 191 :: u 192 :: u 193 :: u 194 :: u 195 :: u 196 :: u 197 :: u 198 :: u 199 :: u 200 :: u 201 :: u 202 :: u 203 :: u 204 :: u 205 :: u 206 :: u 207 :: u 208 :: u 209 :: u 210 :: u 211 :: u 212 :: u 213 :: u 214 :: u 215 :: u 216 :: u 217 :: u 218 :: u 219 :: u 220 :: u 221 :: u 222 :: u 223 :: ([] : List Value)).toArray := ⟨fun i => t.getD i undef, range_lit t 224 h⟩
noncomputable def reg_causeylaw13_wakes_15 : Code := ((Tryz.f25.body.bind (regionOf 15)).getD .skip)
set_option maxHeartbeats 8000000 in
set_option maxRecDepth 100000 in
theorem wk13c (t : Array Value) (hs : t.size = 224) (w0 w : World) {la oa na pa' : Option Addr} {lc oc nc ic B7 ib io ub uo uc pm pcc : Nat} {Q : Exit → Act → World → Prop} (listed : Array Bool) (hl : listed = #[true, true, true, true, true, true, true, true, true, true, true, true, true, true, true, true, true, true, true, true, true, true, true, true, true, true, true, true, true, true, true, true, true, true, true, true, true, true, true, true, true, true, true, true, true, true, true, true, true, true, true, true, true, true, true, true, true, true, true, true, true, true, true, true, true, true, true, true, true, true, true, true, true, true, true, true, true, true, true, true, true, true, true, true, true, true, true, true, true, true, true, true, true, true, true, true, false, false, false, false, false, false, false, false, false, false, false, false, false, false, false, false, false, false, false, false, false, false, false, false, false, false, false, false])
    (hq1 : t.getD 1 undef = .slice la 2 lc)
    (hq2 : t.getD 2 undef = .int .i64 0)
    (hq3 : t.getD 3 undef = .string ⟨#[117, 61, 49, 44, 32, 105]⟩)
    (hq4 : t.getD 4 undef = .int .i64 0)
    (hq5 : t.getD 5 undef = .slice oa 1 oc)
    (hq6 : t.getD 6 undef = .int .i64 0)
    (hq7 : t.getD 7 undef = .pointer (some ⟨B7, 0, none⟩))
    (hq8 : t.getD 8 undef = .bool true)
    (hq10 : t.getD 10 undef = .bool false)
    (hq12 : t.getD 12 undef = .int .i64 130)
    (hq14 : t.getD 14 undef = .int .i64 130)
    (hq16 : t.getD 16 undef = .int .i64 130)
    (hq17 : t.getD 17 undef = .slice na 0 nc)
    (hq18 : t.getD 18 undef = .int .i64 0)
    (hq19 : t.getD 19 undef = .slice (some ⟨ib, io, none⟩) 1 ic)
    (hq20 : t.getD 20 undef = .int .i64 0)
    (hq22 : t.getD 22 undef = .int .i64 2)
    (hq23 : t.getD 23 undef = .string ⟨#[97, 61, 40, 49, 32, 50, 59, 120, 41, 59, 121]⟩)
    (hq24 : t.getD 24 undef = .int .i64 0)
    (hq196 : t.getD 196 undef = .bool true)
    (hS : New w0 w) (k2 : w0.cell? ⟨B7, 2, none⟩ = some (.slice (some ⟨ub, uo, none⟩) 1 uc)) (u0 : w0.cell? ⟨ub, uo, none⟩ = some (.int .u8 1)) (u1 : w0.cell? ⟨ub, uo + 1, none⟩ = some (.int .i64 1)) (u2 : w0.cell? ⟨ub, uo + 2, none⟩ = some (.string ⟨#[]⟩)) (u3 : w0.cell? ⟨ub, uo + 3, none⟩ = some (.bool false))
    (i1 : w0.cell? ⟨ib, io + 1, none⟩ = some (.bool true)) (i3 : w0.cell? ⟨ib, io + 3, none⟩ = some (.slice pa' 1 pcc))
    (HO : Hid (RdD true w0 (.slice oa 1 oc) dwO)) (HI : Hid (RdD true w0 (.slice (some ⟨ib, io, none⟩) 1 ic) dwI))
    (HNP : ∀ c a w, ¬ Q (.panic c) a w) (HQ : ∀ a' W', a'.tmps.size = 224 → a'.defers = [] → a'.tmps.getD 0 undef = .bool true → New w0 W' → Q .normal a' W') :
    wpAnyH Tryz.prog .any (opsOf reg_causeylaw13_wakes_15) Q (fun W => New w0 W) 28 listed ⟨t, []⟩ w := by
  subst hl
  conv => arg 3; whnf
  obtain ⟨u, rfl⟩ := lit224 t hs
  have hq1 : u 1 = .slice la 2 lc := hq1
  have hq2 : u 2 = .int .i64 0 := hq2
  have hq3 : u 3 = .string ⟨#[117, 61, 49, 44, 32, 105]⟩ := hq3
  have hq4 : u 4 = .int .i64 0 := hq4
  have hq5 : u 5 = .slice oa 1 oc := hq5
  have hq6 : u 6 = .int .i64 0 := hq6
  have hq7 : u 7 = .pointer (some ⟨B7, 0, none⟩) := hq7
  have hq8 : u 8 = .bool true := hq8
  have hq10 : u 10 = .bool false := hq10
  have hq12 : u 12 = .int .i64 130 := hq12
  have hq14 : u 14 = .int .i64 130 := hq14
  have hq16 : u 16 = .int .i64 130 := hq16
  have hq17 : u 17 = .slice na 0 nc := hq17
  have hq18 : u 18 = .int .i64 0 := hq18
  have hq19 : u 19 = .slice (some ⟨ib, io, none⟩) 1 ic := hq19
  have hq20 : u 20 = .int .i64 0 := hq20
  have hq22 : u 22 = .int .i64 2 := hq22
  have hq23 : u 23 = .string ⟨#[97, 61, 40, 49, 32, 50, 59, 120, 41, 59, 121]⟩ := hq23
  have hq24 : u 24 = .int .i64 0 := hq24
  have hq196 : u 196 = .bool true := hq196
  rw [hq1, hq2, hq3, hq4, hq5, hq6, hq7, hq8, hq10, hq12, hq14, hq16, hq17, hq18, hq19, hq20, hq22, hq23, hq24, hq196]
  clear hq1 hq2 hq3 hq4 hq5 hq6 hq7 hq8 hq10 hq12 hq14 hq16 hq17 hq18 hq19 hq20 hq22 hq23 hq24 hq196 hs
  refine wpAnyH_all (rs := [96]) (by kernel_rfl) (by simp) ?_
  simp only [List.mem_cons, List.not_mem_nil, or_false, forall_eq]
  refine opH_call (some 197) rfl (by rfl) rfl 32 #[.string ⟨#[42, 97, 45, 49]⟩] (by go_simp) (((key_any ⟨#[42, 97, 45, 49]⟩ w (by decide)).mono (R' := fun e w' => e = .returned (.bool true) ∧ New w w') (by rintro e w' ⟨rfl, h⟩; exact ⟨by rw [show bl ⟨#[42, 97, 45, 49]⟩ = [42, 97, 45, 49] from rfl, dwk1], h⟩)).mono ?_)
  rintro e w96 ⟨rfl, hk⟩
  have hS := hS.trans hk
  clear hk
  refine ⟨_, rfl, hS, ?_⟩
  simp only [Act.put, List.setIfInBounds_toArray, List.set_cons_succ, List.set_cons_zero]
  refine anyH_take 97 (some 198) (.bool true) rfl rfl (by kernel_rfl) (by kernel_rfl) (by kernel_rfl) (fun _ _ _ h => (HNP _ _ _ h).elim) (.inl ⟨by rfl, fun W hW => by go_simp⟩) hS ?_
  simp only [Act.put, List.setIfInBounds_toArray, List.set_cons_succ, List.set_cons_zero]
  refine anyH_take 98 (some 199) (.bool true) rfl rfl (by kernel_rfl) (by kernel_rfl) (by kernel_rfl) (fun _ _ _ h => (HNP _ _ _ h).elim) (.inl ⟨by rfl, fun W hW => by go_simp⟩) hS ?_
  simp only [Act.put, List.setIfInBounds_toArray, List.set_cons_succ, List.set_cons_zero]
  refine wpAnyH_all (rs := [99]) (by kernel_rfl) (by simp) ?_
  simp only [List.mem_cons, List.not_mem_nil, or_false, forall_eq]
  refine opH_call (some 200) rfl (by rfl) rfl 32 #[.string ⟨#[49, 97]⟩] (by go_simp) (((key_any ⟨#[49, 97]⟩ w96 (by decide)).mono (R' := fun e w' => e = .returned (.bool false) ∧ New w96 w') (by rintro e w' ⟨rfl, h⟩; exact ⟨by rw [show bl ⟨#[49, 97]⟩ = [49, 97] from rfl, dwk2], h⟩)).mono ?_)
  rintro e w99 ⟨rfl, hk⟩
  have hS := hS.trans hk
  clear hk
  refine ⟨_, rfl, hS, ?_⟩
  simp only [Act.put, List.setIfInBounds_toArray, List.set_cons_succ, List.set_cons_zero]
  refine anyH_take 100 (some 201) (.bool true) rfl rfl (by kernel_rfl) (by kernel_rfl) (by kernel_rfl) (fun _ _ _ h => (HNP _ _ _ h).elim) (.inl ⟨by rfl, fun W hW => by go_simp⟩) hS ?_
  simp only [Act.put, List.setIfInBounds_toArray, List.set_cons_succ, List.set_cons_zero]
  refine anyH_take 101 (some 202) (.bool true) rfl rfl (by kernel_rfl) (by kernel_rfl) (by kernel_rfl) (fun _ _ _ h => (HNP _ _ _ h).elim) (.inl ⟨by rfl, fun W hW => by go_simp⟩) hS ?_
  simp only [Act.put, List.setIfInBounds_toArray, List.set_cons_succ, List.set_cons_zero]
  refine anyH_take 102 (some 203) (.bool true) rfl rfl (by kernel_rfl) (by kernel_rfl) (by kernel_rfl) (fun _ _ _ h => (HNP _ _ _ h).elim) (.inl ⟨by rfl, fun W hW => by go_simp⟩) hS ?_
  simp only [Act.put, List.setIfInBounds_toArray, List.set_cons_succ, List.set_cons_zero]
  refine anyH_take 103 (some 204) (.slice (some ⟨ib, io, none⟩) 1 ic) rfl rfl (by kernel_rfl) (by kernel_rfl) (by kernel_rfl) (fun _ _ _ h => (HNP _ _ _ h).elim) (.inl ⟨by rfl, fun W hW => by go_simp⟩) hS ?_
  simp only [Act.put, List.setIfInBounds_toArray, List.set_cons_succ, List.set_cons_zero]
  refine wpAnyH_all (rs := [104]) (by kernel_rfl) (by simp) ?_
  simp only [List.mem_cons, List.not_mem_nil, or_false, forall_eq]
  refine opH_call (some 205) rfl (by rfl) rfl 27 #[.slice (some ⟨ib, io, none⟩) 1 ic] (by go_simp) (((right_d _ dwI _ (HI.out.new hS) smI).mono (R' := fun e w' => e = .returned (.bool true) ∧ New _ w') (by rintro e w' ⟨rfl, h⟩; exact ⟨by rw [dwr1], h⟩)).mono ?_)
  rintro e w104 ⟨rfl, hk⟩
  have hS := hS.trans hk
  clear hk
  refine ⟨_, rfl, hS, ?_⟩
  simp only [Act.put, List.setIfInBounds_toArray, List.set_cons_succ, List.set_cons_zero]
  refine anyH_take 105 (some 206) (.bool true) rfl rfl (by kernel_rfl) (by kernel_rfl) (by kernel_rfl) (fun _ _ _ h => (HNP _ _ _ h).elim) (.inl ⟨by rfl, fun W hW => by go_simp⟩) hS ?_
  simp only [Act.put, List.setIfInBounds_toArray, List.set_cons_succ, List.set_cons_zero]
  refine anyH_take 106 (some 207) (.bool true) rfl rfl (by kernel_rfl) (by kernel_rfl) (by kernel_rfl) (fun _ _ _ h => (HNP _ _ _ h).elim) (.inl ⟨by rfl, fun W hW => by go_simp⟩) hS ?_
  simp only [Act.put, List.setIfInBounds_toArray, List.set_cons_succ, List.set_cons_zero]
  refine anyH_take 107 (some 208) (.agg #[.string ⟨#[97]⟩, .bool false, .slice none 0 0, .slice none 0 0]) rfl rfl (by kernel_rfl) (by kernel_rfl) (by kernel_rfl) (fun _ _ _ h => (HNP _ _ _ h).elim) (.inl ⟨by rfl, fun W hW => by go_simp⟩) hS ?_
  simp only [Act.put, List.setIfInBounds_toArray, List.set_cons_succ, List.set_cons_zero]
  refine wpAnyH_all (rs := [108]) (by kernel_rfl) (by simp) ?_
  simp only [List.mem_cons, List.not_mem_nil, or_false, forall_eq]
  refine opH_value (some 209) (v := .slice (some ⟨w104.heap.size, 0, none⟩) 1 1) (w' := w104.alloc (.cells #[.string ⟨#[97]⟩, .bool false, .slice none 0 0, .slice none 0 0] 64)) rfl (by rfl) rfl (by go_simp) ?_
  have hS := hS.trans ((Mods.refl (fun _ => False) w104).alloc (.cells #[.string ⟨#[97]⟩, .bool false, .slice none 0 0, .slice none 0 0] 64))
  refine ⟨hS, ?_⟩
  simp only [Act.put, List.setIfInBounds_toArray, List.set_cons_succ, List.set_cons_zero]
  refine wpAnyH_all (rs := [109]) (by kernel_rfl) (by simp) ?_
  simp only [List.mem_cons, List.not_mem_nil, or_false, forall_eq]
  refine opH_call (some 210) rfl (by rfl) rfl 27 #[.slice (some ⟨w104.heap.size, 0, none⟩) 1 1] (by go_simp) (((right_d _ [⟨[97], false, [], []⟩] _ (bare_d w104 [97]) smB).mono (R' := fun e w' => e = .returned (.bool false) ∧ New _ w') (by rintro e w' ⟨rfl, h⟩; exact ⟨by rw [dwr2], h⟩)).mono ?_)
  rintro e w109 ⟨rfl, hk⟩
  have hS := hS.trans hk
  clear hk
  refine ⟨_, rfl, hS, ?_⟩
  simp only [Act.put, List.setIfInBounds_toArray, List.set_cons_succ, List.set_cons_zero]
  refine anyH_take 110 (some 211) (.bool true) rfl rfl (by kernel_rfl) (by kernel_rfl) (by kernel_rfl) (fun _ _ _ h => (HNP _ _ _ h).elim) (.inl ⟨by rfl, fun W hW => by go_simp⟩) hS ?_
  simp only [Act.put, List.setIfInBounds_toArray, List.set_cons_succ, List.set_cons_zero]
  refine anyH_take 111 (some 212) (.bool true) rfl rfl (by kernel_rfl) (by kernel_rfl) (by kernel_rfl) (fun _ _ _ h => (HNP _ _ _ h).elim) (.inl ⟨by rfl, fun W hW => by go_simp⟩) hS ?_
  simp only [Act.put, List.setIfInBounds_toArray, List.set_cons_succ, List.set_cons_zero]
  refine anyH_take 112 (some 213) (.bool true) rfl rfl (by kernel_rfl) (by kernel_rfl) (by kernel_rfl) (fun _ _ _ h => (HNP _ _ _ h).elim) (.inl ⟨by rfl, fun W hW => by go_simp⟩) hS ?_
  simp only [Act.put, List.setIfInBounds_toArray, List.set_cons_succ, List.set_cons_zero]
  refine anyH_take 113 (some 214) (.slice (some ⟨ib, io, none⟩) 1 ic) rfl rfl (by kernel_rfl) (by kernel_rfl) (by kernel_rfl) (fun _ _ _ h => (HNP _ _ _ h).elim) (.inl ⟨by rfl, fun W hW => by go_simp⟩) hS ?_
  simp only [Act.put, List.setIfInBounds_toArray, List.set_cons_succ, List.set_cons_zero]
  refine anyH_take 114 (some 215) (.slice (some ⟨ib, io, none⟩) 1 ic) rfl rfl (by kernel_rfl) (by kernel_rfl) (by kernel_rfl) (fun _ _ _ h => (HNP _ _ _ h).elim) (.inl ⟨by rfl, fun W hW => by go_simp⟩) hS ?_
  simp only [Act.put, List.setIfInBounds_toArray, List.set_cons_succ, List.set_cons_zero]
  refine wpAnyH_all (rs := [115]) (by kernel_rfl) (by simp) ?_
  simp only [List.mem_cons, List.not_mem_nil, or_false, forall_eq]
  refine opH_call (some 216) rfl (by rfl) rfl 58 #[.slice (some ⟨ib, io, none⟩) 1 ic, .slice (some ⟨ib, io, none⟩) 1 ic] (by go_simp) (((same_d _ _ dwI dwI _ (HI.out.new hS) (HI.out.new hS)).mono (R' := fun e w' => e = .returned (.bool true) ∧ New _ w') (by rintro e w' ⟨rfl, h⟩; exact ⟨by rw [decide_eq_true rfl], h⟩)).mono ?_)
  rintro e w115 ⟨rfl, hk⟩
  have hS := hS.trans hk
  clear hk
  refine ⟨_, rfl, hS, ?_⟩
  simp only [Act.put, List.setIfInBounds_toArray, List.set_cons_succ, List.set_cons_zero]
  refine anyH_take 116 (some 217) (.bool true) rfl rfl (by kernel_rfl) (by kernel_rfl) (by kernel_rfl) (fun _ _ _ h => (HNP _ _ _ h).elim) (.inl ⟨by rfl, fun W hW => by go_simp⟩) hS ?_
  simp only [Act.put, List.setIfInBounds_toArray, List.set_cons_succ, List.set_cons_zero]
  refine anyH_take 117 (some 218) (.bool true) rfl rfl (by kernel_rfl) (by kernel_rfl) (by kernel_rfl) (fun _ _ _ h => (HNP _ _ _ h).elim) (.inl ⟨by rfl, fun W hW => by go_simp⟩) hS ?_
  simp only [Act.put, List.setIfInBounds_toArray, List.set_cons_succ, List.set_cons_zero]
  refine anyH_take 118 (some 219) (.slice (some ⟨ib, io, none⟩) 1 ic) rfl rfl (by kernel_rfl) (by kernel_rfl) (by kernel_rfl) (fun _ _ _ h => (HNP _ _ _ h).elim) (.inl ⟨by rfl, fun W hW => by go_simp⟩) hS ?_
  simp only [Act.put, List.setIfInBounds_toArray, List.set_cons_succ, List.set_cons_zero]
  refine anyH_take 119 (some 220) (.slice oa 1 oc) rfl rfl (by kernel_rfl) (by kernel_rfl) (by kernel_rfl) (fun _ _ _ h => (HNP _ _ _ h).elim) (.inl ⟨by rfl, fun W hW => by go_simp⟩) hS ?_
  simp only [Act.put, List.setIfInBounds_toArray, List.set_cons_succ, List.set_cons_zero]
  refine wpAnyH_all (rs := [120]) (by kernel_rfl) (by simp) ?_
  simp only [List.mem_cons, List.not_mem_nil, or_false, forall_eq]
  refine opH_call (some 221) rfl (by rfl) rfl 58 #[.slice (some ⟨ib, io, none⟩) 1 ic, .slice oa 1 oc] (by go_simp) (((same_d _ _ dwI dwO _ (HI.out.new hS) (HO.out.new hS)).mono (R' := fun e w' => e = .returned (.bool false) ∧ New _ w') (by rintro e w' ⟨rfl, h⟩; exact ⟨by rw [decide_eq_false (by decide)], h⟩)).mono ?_)
  rintro e w120 ⟨rfl, hk⟩
  have hS := hS.trans hk
  clear hk
  refine ⟨_, rfl, hS, ?_⟩
  simp only [Act.put, List.setIfInBounds_toArray, List.set_cons_succ, List.set_cons_zero]
  refine anyH_take 121 (some 222) (.bool true) rfl rfl (by kernel_rfl) (by kernel_rfl) (by kernel_rfl) (fun _ _ _ h => (HNP _ _ _ h).elim) (.inl ⟨by rfl, fun W hW => by go_simp⟩) hS ?_
  simp only [Act.put, List.setIfInBounds_toArray, List.set_cons_succ, List.set_cons_zero]
  refine anyH_take 122 (some 223) (.bool true) rfl rfl (by kernel_rfl) (by kernel_rfl) (by kernel_rfl) (fun _ _ _ h => (HNP _ _ _ h).elim) (.inl ⟨by rfl, fun W hW => by go_simp⟩) hS ?_
  simp only [Act.put, List.setIfInBounds_toArray, List.set_cons_succ, List.set_cons_zero]
  refine anyH_take 123 (some 0) (.bool true) rfl rfl (by kernel_rfl) (by kernel_rfl) (by kernel_rfl) (fun _ _ _ h => (HNP _ _ _ h).elim) (.inl ⟨by rfl, fun W hW => by go_simp⟩) hS ?_
  simp only [Act.put, List.setIfInBounds_toArray, List.set_cons_succ, List.set_cons_zero]
  refine wpAnyH_done (by kernel_rfl) ?_ _
  exact HQ _ _ rfl rfl rfl hS
end Go.Proofs.YtkiiameibdhdfaaGreatDoor
