/- HandlerWhole: its parts. -/
import Derived.Test.YtkjghojdfjhhkaaDoorM33
import Derived.Test.YtkjghojdfjhhkaaDoorM39
import Derived.Test.YtkjghojdfjhhkaaDoorM23
import Derived.Test.YtkjghojdfjhhkaaDoorM26
import Derived.Test.YtkjghojdfjhhkaaDoorM29
import Derived.Test.YtkjghojdfjhhkaaDoorM30
set_option linter.unusedSimpArgs false
set_option linter.unusedVariables false
namespace Go.Proofs.YtkjghojdfjhhkaaDoor
open Go.RowKit Go.Shelf Go.Cs
attribute [local go_sem] Oper.semAt_some
set_option linter.unusedVariables false
set_option linter.unusedSimpArgs false
theorem lit233 (t : Array Value) (h : t.size = 233) : ∃ u : Nat → Value, t = (u 0 :: u 1 :: u 2 :: u 3 :: u 4 :: u 5 :: u 6 :: u 7 :: u 8 :: u 9 :: u 10 :: u 11 :: u 12 :: u 13 :: u 14 :: u 15 :: u 16 :: u 17 :: u 18 :: u 19 :: u 20 :: u 21 :: u 22 :: u 23 :: u 24 :: u 25 :: u 26 :: u 27 :: u 28 :: u 29 :: u 30 :: u 31 :: u 32 :: u 33 :: u 34 :: u 35 :: u 36 :: u 37 :: u 38 :: u 39 :: u 40 :: u 41 :: u 42 :: u 43 :: u 44 :: u 45 :: u 46 :: u 47 :: u 48 :: u 49 :: u 50 :: u 51 :: u 52 :: u 53 :: u 54 :: u 55 :: u 56 :: u 57 :: u 58 :: u 59 :: u 60 :: u 61 :: u 62 :: u 63 :: u 64 :: u 65 :: u 66 :: u 67 :: u 68 :: u 69 :: u 70 :: u 71 :: u 72 :: u 73 :: u 74 :: u 75 :: u 76 :: u 77 :: u 78 :: u 79 :: u 80 :: u 81 :: u 82 :: u 83 :: u 84 :: u 85 :: u 86 :: u 87 :: u 88 :: u 89 :: u 90 :: u 91 :: u 92 :: u 93 :: u 94 :: u 95 :: u 96 :: u 97 :: u 98 :: u 99 :: u 100 :: u 101 :: u 102 :: u 103 :: u 104 :: u 105 :: u 106 :: u 107 :: u 108 :: u 109 :: u 110 :: u 111 :: u 112 :: u 113 :: u 114 :: u 115 :: u 116 :: u 117 :: u 118 :: u 119 :: u 120 :: u 121 :: u 122 :: u 123 :: u 124 :: u 125 :: u 126 :: u 127 :: u 128 :: u 129 :: u 130 :: u 131 :: u 132 :: u 133 :: u 134 :: u 135 :: u 136 :: u 137 :: u 138 :: u 139 :: u 140 :: u 141 :: u 142 :: u 143 :: u 144 :: u 145 :: u 146 :: u 147 :: u 148 :: u 149 :: u 150 :: u 151 :: u 152 :: u 153 :: u 154 :: u 155 :: u 156 :: u 157 :: u 158 :: u 159 :: u 160 :: u 161 :: u 162 :: u 163 :: u 164 :: u 165 :: u 166 :: u 167 :: u 168 :: u 169 :: u 170 :: u 171 :: u 172 :: u 173 :: u 174 :: u 175 :: u 176 :: u 177 :: u 178 :: u 179 :: u 180 :: u 181 :: u 182 :: u 183 :: u 184 :: u 185 :: u 186 :: u 187 :: u 188 :: u 189 :: u 190 :: u 191 :: u 192 :: u 193 :: u 194 :: u 195 :: u 196 :: u 197 :: u 198 :: u 199 :: u 200 :: u 201 :: u 202 :: u 203 :: u 204 :: u 205 :: u 206 :: u 207 :: u 208 :: u 209 :: u 210 :: u 211 :: u 212 :: u 213 :: u 214 :: u 215 :: u 216 :: u 217 :: u 218 :: u 219 :: u 220 :: u 221 :: u 222 :: u 223 :: u 224 :: u 225 :: u 226 :: u 227 :: u 228 :: u 229 :: u 230 :: u 231 :: u 232 :: ([] : List Value)).toArray := ⟨fun i => t.getD i undef, range_lit t 233 h⟩
def blockOf (id : Nat) : Code → Option Code
  | .block i c => if i = id then some (.block i c) else blockOf id c
  | .seq a b => match blockOf id a with
    | some c => some c
    | none => blockOf id b
  | .loop c => blockOf id c
  | .scope c => blockOf id c
  | .cond _ a b => match blockOf id a with
    | some c => some c
    | none => blockOf id b
  | _ => none
/-- What HandlerWhole's rounds keep of memory. -/
def WhJ (w0 W : World) (S : Nat) (iv yv : Value) (s : St) (x y : List Int) : Prop :=
  ∃ ov, W.heap[S]? = some (.cells (s.cs ov).toArray 24 (0, 0)) ∧ OwB w0.heap.size W ov s.out ∧ OwB w0.heap.size W iv x ∧ OwB w0.heap.size W yv y ∧ Apart iv ov ∧ Apart yv ov ∧ Apart iv yv ∧ w0.heap.size ≤ S ∧ New w0 W
theorem WhJ.new {w0 W W' : World} {S : Nat} {iv yv : Value} {s : St} {x y : List Int} (h : WhJ w0 W S iv yv s x y) (hN : New W W') : WhJ w0 W' S iv yv s x y := by
  obtain ⟨ov, h1, h2, h3, h4, h5, h6, h7, h8, h9⟩ := h
  exact ⟨ov, hN.heap h1 id, h2.new hN, h3.new hN, h4.new hN, h5, h6, h7, h8, h9.trans hN⟩
noncomputable def reg4_38 : Code := ((Tryd.f4.body.bind (regionOf 38)).getD .skip)
set_option maxHeartbeats 8000000 in
set_option maxRecDepth 100000 in
theorem check4 (t : Array Value) (hs : t.size = 233) (w : World) {S : Nat} {s : St} {x y : List Int} {lo xa ya oa : Option Addr} {ln lc xn xc yn yc on oc : Nat} {told ended : Bool} {k : Int} {z0 z2 z3 z20 z21 z22 z23 z24 z25 z26 z220 z221 z222 z223 z224 z225 z226 z227 z228 z229 z230 z231 z232 : Value}
    (hq0 : t.getD 0 undef = z0)
    (hq2 : t.getD 2 undef = z2)
    (hq3 : t.getD 3 undef = z3)
    (hq20 : t.getD 20 undef = z20)
    (hq21 : t.getD 21 undef = z21)
    (hq22 : t.getD 22 undef = z22)
    (hq23 : t.getD 23 undef = z23)
    (hq24 : t.getD 24 undef = z24)
    (hq25 : t.getD 25 undef = z25)
    (hq26 : t.getD 26 undef = z26)
    (hq220 : t.getD 220 undef = z220)
    (hq221 : t.getD 221 undef = z221)
    (hq222 : t.getD 222 undef = z222)
    (hq223 : t.getD 223 undef = z223)
    (hq224 : t.getD 224 undef = z224)
    (hq225 : t.getD 225 undef = z225)
    (hq226 : t.getD 226 undef = z226)
    (hq227 : t.getD 227 undef = z227)
    (hq228 : t.getD 228 undef = z228)
    (hq229 : t.getD 229 undef = z229)
    (hq230 : t.getD 230 undef = z230)
    (hq231 : t.getD 231 undef = z231)
    (hq232 : t.getD 232 undef = z232)
    (hq1 : t.getD 1 undef = .slice lo ln lc)
    (hq5 : t.getD 5 undef = .pointer (some ⟨S, 0, none⟩))
    (hq6 : t.getD 6 undef = .slice xa xn xc)
    (hq7 : t.getD 7 undef = .slice ya yn yc)
    (hq8 : t.getD 8 undef = .bool told)
    (hq9 : t.getD 9 undef = .bool ended)
    (hq10 : t.getD 10 undef = .int .i64 k)
    (r : w.heap[S]? = some (.cells (St.cs s (.slice oa on oc)).toArray 24 (0, 0))) (hx : RdB w (.slice xa xn xc) x) (hy : RdB w (.slice ya yn yc) y) (ho : RdB w (.slice oa on oc) s.out) (hall : x = y ++ s.out) (hoff : ended = true → told = true ∧ s.out = []) :
    reg4_38.wp Tryd.prog (Only fun a' W' => (a'.tmps.size = 233 ∧ a'.defers = [] ∧ a'.tmps.getD 0 undef = z0 ∧ a'.tmps.getD 2 undef = z2 ∧ a'.tmps.getD 3 undef = z3 ∧ a'.tmps.getD 20 undef = z20 ∧ a'.tmps.getD 21 undef = z21 ∧ a'.tmps.getD 22 undef = z22 ∧ a'.tmps.getD 23 undef = z23 ∧ a'.tmps.getD 24 undef = z24 ∧ a'.tmps.getD 25 undef = z25 ∧ a'.tmps.getD 26 undef = z26 ∧ a'.tmps.getD 220 undef = z220 ∧ a'.tmps.getD 221 undef = z221 ∧ a'.tmps.getD 222 undef = z222 ∧ a'.tmps.getD 223 undef = z223 ∧ a'.tmps.getD 224 undef = z224 ∧ a'.tmps.getD 225 undef = z225 ∧ a'.tmps.getD 226 undef = z226 ∧ a'.tmps.getD 227 undef = z227 ∧ a'.tmps.getD 228 undef = z228 ∧ a'.tmps.getD 229 undef = z229 ∧ a'.tmps.getD 230 undef = z230 ∧ a'.tmps.getD 231 undef = z231 ∧ a'.tmps.getD 232 undef = z232 ∧ a'.tmps.getD 1 undef = .slice lo ln lc ∧ a'.tmps.getD 5 undef = .pointer (some ⟨S, 0, none⟩) ∧ a'.tmps.getD 6 undef = .slice xa xn xc ∧ a'.tmps.getD 7 undef = .slice ya yn yc ∧ a'.tmps.getD 8 undef = .bool told ∧ a'.tmps.getD 9 undef = .bool ended ∧ a'.tmps.getD 10 undef = .int .i64 k ∧ a'.tmps.getD 219 undef = .bool false) ∧ New w W') ⟨t, []⟩ w := by
  conv => arg 2; whnf
  obtain ⟨u, rfl⟩ := lit233 t hs
  have hq0 : u 0 = z0 := hq0
  have hq2 : u 2 = z2 := hq2
  have hq3 : u 3 = z3 := hq3
  have hq20 : u 20 = z20 := hq20
  have hq21 : u 21 = z21 := hq21
  have hq22 : u 22 = z22 := hq22
  have hq23 : u 23 = z23 := hq23
  have hq24 : u 24 = z24 := hq24
  have hq25 : u 25 = z25 := hq25
  have hq26 : u 26 = z26 := hq26
  have hq220 : u 220 = z220 := hq220
  have hq221 : u 221 = z221 := hq221
  have hq222 : u 222 = z222 := hq222
  have hq223 : u 223 = z223 := hq223
  have hq224 : u 224 = z224 := hq224
  have hq225 : u 225 = z225 := hq225
  have hq226 : u 226 = z226 := hq226
  have hq227 : u 227 = z227 := hq227
  have hq228 : u 228 = z228 := hq228
  have hq229 : u 229 = z229 := hq229
  have hq230 : u 230 = z230 := hq230
  have hq231 : u 231 = z231 := hq231
  have hq232 : u 232 = z232 := hq232
  have hq1 : u 1 = .slice lo ln lc := hq1
  have hq5 : u 5 = .pointer (some ⟨S, 0, none⟩) := hq5
  have hq6 : u 6 = .slice xa xn xc := hq6
  have hq7 : u 7 = .slice ya yn yc := hq7
  have hq8 : u 8 = .bool told := hq8
  have hq9 : u 9 = .bool ended := hq9
  have hq10 : u 10 = .int .i64 k := hq10
  rw [hq0, hq2, hq3, hq20, hq21, hq22, hq23, hq24, hq25, hq26, hq220, hq221, hq222, hq223, hq224, hq225, hq226, hq227, hq228, hq229, hq230, hq231, hq232, hq1, hq5, hq6, hq7, hq8, hq9, hq10]
  clear hq0 hq2 hq3 hq20 hq21 hq22 hq23 hq24 hq25 hq26 hq220 hq221 hq222 hq223 hq224 hq225 hq226 hq227 hq228 hq229 hq230 hq231 hq232 hq1 hq5 hq6 hq7 hq8 hq9 hq10 hs
  have k7 : w.cell? ⟨S, 7, none⟩ = some (.slice oa on oc) := cell_of_row _ _ 7 _ _ _ r
  have hxl : x.length = xn := hx.cells.1
  have hyl : y.length = yn := hy.cells.1
  have hxy : xn = yn + s.out.length := by rw [← hxl, ← hyl, hall]; simp
  have hcap : xn ≤ xc := (hx.2 _ _ _ rfl).1
  have hle2 : yn ≤ xn := by omega
  have hle : yn ≤ xc := by omega
  have q1 : ∀ W, New w W → (convert 22 9 (.slice ya yn yc)).run Tryd.prog W = .ok (.string (strOfNums y)) W := fun W hN => (hy.new hN).str
  have q2 : ∀ W, New w W → (convert 22 9 (.slice xa yn xc)).run Tryd.prog W = .ok (.string (strOfNums y)) W := fun W hN => by
    have h1 : x.take yn = y := by rw [hall, ← hyl]; simp
    have := ((hx.prefx hle2).new hN).str
    rw [h1] at this
    exact this
  have q3 : ∀ W, New w W → (convert 22 9 (.slice oa on oc)).run Tryd.prog W = .ok (.string (strOfNums s.out)) W := fun W hN => (ho.new hN).str
  have q4 : ∀ W, New w W → (convert 22 9 (.slice (if xc = yn then xa else xa.map (·.add (yn * 1))) (xn - yn) (xc - yn))).run Tryd.prog W = .ok (.string (strOfNums s.out)) W := fun W hN => by
    have h1 : x.drop yn = s.out := by rw [hall, ← hyl]; simp
    have := ((hx.suffx hle2).new hN).str
    rw [h1] at this
    exact this
  have q5 : ∀ W, (Instr.slice 22 (.slice xa xn xc) (some (.int .i64 (yn : Int))) .none .none).run Tryd.prog W = .ok (.slice (if xc = yn then xa else xa.map (·.add (yn * 1))) (xn - yn) (xc - yn)) W := fun W => run_suffix_B W xa xn xc yn hle2
  obtain ⟨sv, hsv⟩ : ∃ z, Value.slice (if xc = yn then xa else xa.map (·.add (yn * 1))) (xn - yn) (xc - yn) = z := ⟨_, rfl⟩
  rw [hsv] at q4 q5
  clear hsv
  have hoff' : ended = true → told = true ∧ xn = yn := fun h => ⟨(hoff h).1, by rw [hxy, (hoff h).2]; rfl⟩
  have hd : decide ((xn : Int) < (yn : Int)) = false := decide_eq_false (by omega)
  obtain ⟨Sy, hSy⟩ : ∃ z, strOfNums y = z := ⟨_, rfl⟩
  obtain ⟨So, hSo⟩ : ∃ z, strOfNums s.out = z := ⟨_, rfl⟩
  rw [hSy] at q1 q2
  rw [hSo] at q3 q4
  clear hSy hSo hxl hyl hxy hcap hx hy ho hall hoff r
  have hS : New w w.drew := (Mods.refl _ _).drew
  cases ended with
  | true =>
    obtain ⟨rfl, he⟩ := hoff' rfl
    subst he
    refine wp_region_held (by kernel_rfl) (S := fun W => New w W) ?_
    show wpAnyH _ _ _ _ _ _ _ _ w.drew
    obtain ⟨Wd, hWd⟩ : ∃ V, w.drew = V := ⟨_, rfl⟩
    rw [hWd] at hS ⊢
    clear hWd hoff'
    refine anyH_take 0 (some 180) (.slice ya xn yc) rfl rfl (by kernel_rfl) (by kernel_rfl) (by kernel_rfl) (fun _ _ _ h => h.elim) (.inl ⟨by rfl, fun W hW => by go_simp⟩) hS ?_
    simp only [Act.put, List.setIfInBounds_toArray, List.set_cons_succ, List.set_cons_zero]
    refine anyH_take 1 (some 181) (.int .i64 xn) rfl rfl (by kernel_rfl) (by kernel_rfl) (by kernel_rfl) (fun _ _ _ h => h.elim) (.inl ⟨by rfl, fun W hW => by go_simp⟩) hS ?_
    simp only [Act.put, List.setIfInBounds_toArray, List.set_cons_succ, List.set_cons_zero]
    refine anyH_take 2 (some 182) (.slice xa xn xc) rfl rfl (by kernel_rfl) (by kernel_rfl) (by kernel_rfl) (fun _ _ _ h => h.elim) (.inl ⟨by rfl, fun W hW => by go_simp⟩) hS ?_
    simp only [Act.put, List.setIfInBounds_toArray, List.set_cons_succ, List.set_cons_zero]
    refine anyH_take 3 (some 183) (.int .i64 xn) rfl rfl (by kernel_rfl) (by kernel_rfl) (by kernel_rfl) (fun _ _ _ h => h.elim) (.inl ⟨by rfl, fun W hW => by go_simp⟩) hS ?_
    simp only [Act.put, List.setIfInBounds_toArray, List.set_cons_succ, List.set_cons_zero]
    refine anyH_take 4 (some 184) (.bool false) rfl rfl (by kernel_rfl) (by kernel_rfl) (by kernel_rfl) (fun _ _ _ h => h.elim) (.inl ⟨by rfl, fun W hW => by go_simp⟩) hS ?_
    simp only [Act.put, List.setIfInBounds_toArray, List.set_cons_succ, List.set_cons_zero]
    refine anyH_take 5 (some 185) (.bool false) rfl rfl (by kernel_rfl) (by kernel_rfl) (by kernel_rfl) (fun _ _ _ h => h.elim) (.inl ⟨by rfl, fun W hW => by go_simp⟩) hS ?_
    simp only [Act.put, List.setIfInBounds_toArray, List.set_cons_succ, List.set_cons_zero]
    refine anyH_take 6 (some 186) (.slice ya xn yc) rfl rfl (by kernel_rfl) (by kernel_rfl) (by kernel_rfl) (fun _ _ _ h => h.elim) (.inl ⟨by rfl, fun W hW => by go_simp⟩) hS ?_
    simp only [Act.put, List.setIfInBounds_toArray, List.set_cons_succ, List.set_cons_zero]
    refine anyH_take 7 (some 187) (.string Sy) rfl rfl (by kernel_rfl) (by kernel_rfl) (by kernel_rfl) (fun _ _ _ h => h.elim) (.inl ⟨by rfl, fun W hW => by have c := q1 W hW; go_simp⟩) hS ?_
    simp only [Act.put, List.setIfInBounds_toArray, List.set_cons_succ, List.set_cons_zero]
    refine anyH_take 8 (some 188) (.slice xa xn xc) rfl rfl (by kernel_rfl) (by kernel_rfl) (by kernel_rfl) (fun _ _ _ h => h.elim) (.inl ⟨by rfl, fun W hW => by go_simp⟩) hS ?_
    simp only [Act.put, List.setIfInBounds_toArray, List.set_cons_succ, List.set_cons_zero]
    refine anyH_take 9 (some 189) (.slice ya xn yc) rfl rfl (by kernel_rfl) (by kernel_rfl) (by kernel_rfl) (fun _ _ _ h => h.elim) (.inl ⟨by rfl, fun W hW => by go_simp⟩) hS ?_
    simp only [Act.put, List.setIfInBounds_toArray, List.set_cons_succ, List.set_cons_zero]
    refine anyH_take 10 (some 190) (.int .i64 xn) rfl rfl (by kernel_rfl) (by kernel_rfl) (by kernel_rfl) (fun _ _ _ h => h.elim) (.inl ⟨by rfl, fun W hW => by go_simp⟩) hS ?_
    simp only [Act.put, List.setIfInBounds_toArray, List.set_cons_succ, List.set_cons_zero]
    refine anyH_take 11 (some 191) (.slice xa xn xc) rfl rfl (by kernel_rfl) (by kernel_rfl) (by kernel_rfl) (fun _ _ _ h => h.elim) (.inl ⟨by rfl, fun W hW => by have c := run_prefix_B W xa xn xc xn hle; go_simp⟩) hS ?_
    simp only [Act.put, List.setIfInBounds_toArray, List.set_cons_succ, List.set_cons_zero]
    refine anyH_take 12 (some 192) (.string Sy) rfl rfl (by kernel_rfl) (by kernel_rfl) (by kernel_rfl) (fun _ _ _ h => h.elim) (.inl ⟨by rfl, fun W hW => by have c := q2 W hW; go_simp⟩) hS ?_
    simp only [Act.put, List.setIfInBounds_toArray, List.set_cons_succ, List.set_cons_zero]
    refine anyH_take 13 (some 193) (.bool false) rfl rfl (by kernel_rfl) (by kernel_rfl) (by kernel_rfl) (fun _ _ _ h => h.elim) (.inl ⟨by rfl, fun W hW => by go_simp⟩) hS ?_
    simp only [Act.put, List.setIfInBounds_toArray, List.set_cons_succ, List.set_cons_zero]
    refine anyH_take 14 (some 194) (.bool false) rfl rfl (by kernel_rfl) (by kernel_rfl) (by kernel_rfl) (fun _ _ _ h => h.elim) (.inl ⟨by rfl, fun W hW => by go_simp⟩) hS ?_
    simp only [Act.put, List.setIfInBounds_toArray, List.set_cons_succ, List.set_cons_zero]
    refine anyH_take 15 (some 195) (.bool false) rfl rfl (by kernel_rfl) (by kernel_rfl) (by kernel_rfl) (fun _ _ _ h => h.elim) (.inl ⟨by rfl, fun W hW => by go_simp⟩) hS ?_
    simp only [Act.put, List.setIfInBounds_toArray, List.set_cons_succ, List.set_cons_zero]
    refine anyH_take 16 (some 196) (.bool true) rfl rfl (by kernel_rfl) (by kernel_rfl) (by kernel_rfl) (fun _ _ _ h => h.elim) (.inl ⟨by rfl, fun W hW => by go_simp⟩) hS ?_
    simp only [Act.put, List.setIfInBounds_toArray, List.set_cons_succ, List.set_cons_zero]
    refine anyH_take 17 (some 197) (.bool true) rfl rfl (by kernel_rfl) (by kernel_rfl) (by kernel_rfl) (fun _ _ _ h => h.elim) (.inl ⟨by rfl, fun W hW => by go_simp⟩) hS ?_
    simp only [Act.put, List.setIfInBounds_toArray, List.set_cons_succ, List.set_cons_zero]
    refine anyH_take 18 (some 198) (.slice ya xn yc) rfl rfl (by kernel_rfl) (by kernel_rfl) (by kernel_rfl) (fun _ _ _ h => h.elim) (.inl ⟨by rfl, fun W hW => by go_simp⟩) hS ?_
    simp only [Act.put, List.setIfInBounds_toArray, List.set_cons_succ, List.set_cons_zero]
    refine anyH_take 19 (some 199) (.int .i64 xn) rfl rfl (by kernel_rfl) (by kernel_rfl) (by kernel_rfl) (fun _ _ _ h => h.elim) (.inl ⟨by rfl, fun W hW => by go_simp⟩) hS ?_
    simp only [Act.put, List.setIfInBounds_toArray, List.set_cons_succ, List.set_cons_zero]
    refine anyH_take 20 (some 200) (.slice xa xn xc) rfl rfl (by kernel_rfl) (by kernel_rfl) (by kernel_rfl) (fun _ _ _ h => h.elim) (.inl ⟨by rfl, fun W hW => by go_simp⟩) hS ?_
    simp only [Act.put, List.setIfInBounds_toArray, List.set_cons_succ, List.set_cons_zero]
    refine anyH_take 21 (some 201) (.int .i64 xn) rfl rfl (by kernel_rfl) (by kernel_rfl) (by kernel_rfl) (fun _ _ _ h => h.elim) (.inl ⟨by rfl, fun W hW => by go_simp⟩) hS ?_
    simp only [Act.put, List.setIfInBounds_toArray, List.set_cons_succ, List.set_cons_zero]
    refine anyH_take 22 (some 202) (.bool false) rfl rfl (by kernel_rfl) (by kernel_rfl) (by kernel_rfl) (fun _ _ _ h => h.elim) (.inl ⟨by rfl, fun W hW => by go_simp⟩) hS ?_
    simp only [Act.put, List.setIfInBounds_toArray, List.set_cons_succ, List.set_cons_zero]
    refine anyH_take 23 (some 203) (.bool false) rfl rfl (by kernel_rfl) (by kernel_rfl) (by kernel_rfl) (fun _ _ _ h => h.elim) (.inl ⟨by rfl, fun W hW => by go_simp⟩) hS ?_
    simp only [Act.put, List.setIfInBounds_toArray, List.set_cons_succ, List.set_cons_zero]
    refine anyH_take 24 (some 204) (.bool true) rfl rfl (by kernel_rfl) (by kernel_rfl) (by kernel_rfl) (fun _ _ _ h => h.elim) (.inl ⟨by rfl, fun W hW => by go_simp⟩) hS ?_
    simp only [Act.put, List.setIfInBounds_toArray, List.set_cons_succ, List.set_cons_zero]
    refine anyH_take 25 (some 205) (.bool false) rfl rfl (by kernel_rfl) (by kernel_rfl) (by kernel_rfl) (fun _ _ _ h => h.elim) (.inl ⟨by rfl, fun W hW => by go_simp⟩) hS ?_
    simp only [Act.put, List.setIfInBounds_toArray, List.set_cons_succ, List.set_cons_zero]
    refine anyH_take 26 (some 206) (.bool false) rfl rfl (by kernel_rfl) (by kernel_rfl) (by kernel_rfl) (fun _ _ _ h => h.elim) (.inl ⟨by rfl, fun W hW => by go_simp⟩) hS ?_
    simp only [Act.put, List.setIfInBounds_toArray, List.set_cons_succ, List.set_cons_zero]
    refine anyH_take 27 (some 207) (.bool false) rfl rfl (by kernel_rfl) (by kernel_rfl) (by kernel_rfl) (fun _ _ _ h => h.elim) (.inl ⟨by rfl, fun W hW => by go_simp⟩) hS ?_
    simp only [Act.put, List.setIfInBounds_toArray, List.set_cons_succ, List.set_cons_zero]
    refine anyH_take 28 (some 208) (.bool false) rfl rfl (by kernel_rfl) (by kernel_rfl) (by kernel_rfl) (fun _ _ _ h => h.elim) (.inl ⟨by rfl, fun W hW => by go_simp⟩) hS ?_
    simp only [Act.put, List.setIfInBounds_toArray, List.set_cons_succ, List.set_cons_zero]
    refine anyH_take 29 (some 209) (.bool false) rfl rfl (by kernel_rfl) (by kernel_rfl) (by kernel_rfl) (fun _ _ _ h => h.elim) (.inl ⟨by rfl, fun W hW => by go_simp⟩) hS ?_
    simp only [Act.put, List.setIfInBounds_toArray, List.set_cons_succ, List.set_cons_zero]
    refine anyH_take 30 (some 210) (.pointer (some ⟨S, 7, none⟩)) rfl rfl (by kernel_rfl) (by kernel_rfl) (by kernel_rfl) (fun _ _ _ h => h.elim) (.inl ⟨by rfl, fun W hW => by go_simp⟩) hS ?_
    simp only [Act.put, List.setIfInBounds_toArray, List.set_cons_succ, List.set_cons_zero]
    refine anyH_take 31 (some 211) (.slice oa on oc) rfl rfl (by kernel_rfl) (by kernel_rfl) (by kernel_rfl) (fun _ _ _ h => h.elim) (.inl ⟨by rfl, fun W hW => by have hh : New w W := hW; have c := hh.cell k7 id; go_simp⟩) hS ?_
    simp only [Act.put, List.setIfInBounds_toArray, List.set_cons_succ, List.set_cons_zero]
    refine anyH_take 32 (some 212) (.string So) rfl rfl (by kernel_rfl) (by kernel_rfl) (by kernel_rfl) (fun _ _ _ h => h.elim) (.inl ⟨by rfl, fun W hW => by have c := q3 W hW; go_simp⟩) hS ?_
    simp only [Act.put, List.setIfInBounds_toArray, List.set_cons_succ, List.set_cons_zero]
    refine anyH_take 33 (some 213) (.slice xa xn xc) rfl rfl (by kernel_rfl) (by kernel_rfl) (by kernel_rfl) (fun _ _ _ h => h.elim) (.inl ⟨by rfl, fun W hW => by go_simp⟩) hS ?_
    simp only [Act.put, List.setIfInBounds_toArray, List.set_cons_succ, List.set_cons_zero]
    refine anyH_take 34 (some 214) (.slice ya xn yc) rfl rfl (by kernel_rfl) (by kernel_rfl) (by kernel_rfl) (fun _ _ _ h => h.elim) (.inl ⟨by rfl, fun W hW => by go_simp⟩) hS ?_
    simp only [Act.put, List.setIfInBounds_toArray, List.set_cons_succ, List.set_cons_zero]
    refine anyH_take 35 (some 215) (.int .i64 xn) rfl rfl (by kernel_rfl) (by kernel_rfl) (by kernel_rfl) (fun _ _ _ h => h.elim) (.inl ⟨by rfl, fun W hW => by go_simp⟩) hS ?_
    simp only [Act.put, List.setIfInBounds_toArray, List.set_cons_succ, List.set_cons_zero]
    refine anyH_take 36 (some 216) (sv) rfl rfl (by kernel_rfl) (by kernel_rfl) (by kernel_rfl) (fun _ _ _ h => h.elim) (.inl ⟨by rfl, fun W hW => by have c := q5 W; go_simp⟩) hS ?_
    simp only [Act.put, List.setIfInBounds_toArray, List.set_cons_succ, List.set_cons_zero]
    refine anyH_take 37 (some 217) (.string So) rfl rfl (by kernel_rfl) (by kernel_rfl) (by kernel_rfl) (fun _ _ _ h => h.elim) (.inl ⟨by rfl, fun W hW => by have c := q4 W hW; go_simp⟩) hS ?_
    simp only [Act.put, List.setIfInBounds_toArray, List.set_cons_succ, List.set_cons_zero]
    refine anyH_take 38 (some 218) (.bool false) rfl rfl (by kernel_rfl) (by kernel_rfl) (by kernel_rfl) (fun _ _ _ h => h.elim) (.inl ⟨by rfl, fun W hW => by go_simp⟩) hS ?_
    simp only [Act.put, List.setIfInBounds_toArray, List.set_cons_succ, List.set_cons_zero]
    refine anyH_take 39 (some 219) (.bool false) rfl rfl (by kernel_rfl) (by kernel_rfl) (by kernel_rfl) (fun _ _ _ h => h.elim) (.inl ⟨by rfl, fun W hW => by go_simp⟩) hS ?_
    simp only [Act.put, List.setIfInBounds_toArray, List.set_cons_succ, List.set_cons_zero]
    refine wpAnyH_done (by kernel_rfl) ?_ _
    exact ⟨⟨rfl, rfl, rfl, rfl, rfl, rfl, rfl, rfl, rfl, rfl, rfl, rfl, rfl, rfl, rfl, rfl, rfl, rfl, rfl, rfl, rfl, rfl, rfl, rfl, rfl, rfl, rfl, rfl, rfl, rfl, rfl, rfl, rfl⟩, hS⟩
  | false =>
    clear hoff'
    refine wp_region_held (by kernel_rfl) (S := fun W => New w W) ?_
    show wpAnyH _ _ _ _ _ _ _ _ w.drew
    obtain ⟨Wd, hWd⟩ : ∃ V, w.drew = V := ⟨_, rfl⟩
    rw [hWd] at hS ⊢
    clear hWd
    refine anyH_take 0 (some 180) (.slice ya yn yc) rfl rfl (by kernel_rfl) (by kernel_rfl) (by kernel_rfl) (fun _ _ _ h => h.elim) (.inl ⟨by rfl, fun W hW => by go_simp⟩) hS ?_
    simp only [Act.put, List.setIfInBounds_toArray, List.set_cons_succ, List.set_cons_zero]
    refine anyH_take 1 (some 181) (.int .i64 yn) rfl rfl (by kernel_rfl) (by kernel_rfl) (by kernel_rfl) (fun _ _ _ h => h.elim) (.inl ⟨by rfl, fun W hW => by go_simp⟩) hS ?_
    simp only [Act.put, List.setIfInBounds_toArray, List.set_cons_succ, List.set_cons_zero]
    refine anyH_take 2 (some 182) (.slice xa xn xc) rfl rfl (by kernel_rfl) (by kernel_rfl) (by kernel_rfl) (fun _ _ _ h => h.elim) (.inl ⟨by rfl, fun W hW => by go_simp⟩) hS ?_
    simp only [Act.put, List.setIfInBounds_toArray, List.set_cons_succ, List.set_cons_zero]
    refine anyH_take 3 (some 183) (.int .i64 xn) rfl rfl (by kernel_rfl) (by kernel_rfl) (by kernel_rfl) (fun _ _ _ h => h.elim) (.inl ⟨by rfl, fun W hW => by go_simp⟩) hS ?_
    simp only [Act.put, List.setIfInBounds_toArray, List.set_cons_succ, List.set_cons_zero]
    refine anyH_take 4 (some 184) (.bool false) rfl rfl (by kernel_rfl) (by kernel_rfl) (by kernel_rfl) (fun _ _ _ h => h.elim) (.inl ⟨by rfl, fun W hW => by go_simp⟩) hS ?_
    simp only [Act.put, List.setIfInBounds_toArray, List.set_cons_succ, List.set_cons_zero]
    refine anyH_take 5 (some 185) (.bool false) rfl rfl (by kernel_rfl) (by kernel_rfl) (by kernel_rfl) (fun _ _ _ h => h.elim) (.inl ⟨by rfl, fun W hW => by go_simp⟩) hS ?_
    simp only [Act.put, List.setIfInBounds_toArray, List.set_cons_succ, List.set_cons_zero]
    refine anyH_take 6 (some 186) (.slice ya yn yc) rfl rfl (by kernel_rfl) (by kernel_rfl) (by kernel_rfl) (fun _ _ _ h => h.elim) (.inl ⟨by rfl, fun W hW => by go_simp⟩) hS ?_
    simp only [Act.put, List.setIfInBounds_toArray, List.set_cons_succ, List.set_cons_zero]
    refine anyH_take 7 (some 187) (.string Sy) rfl rfl (by kernel_rfl) (by kernel_rfl) (by kernel_rfl) (fun _ _ _ h => h.elim) (.inl ⟨by rfl, fun W hW => by have c := q1 W hW; go_simp⟩) hS ?_
    simp only [Act.put, List.setIfInBounds_toArray, List.set_cons_succ, List.set_cons_zero]
    refine anyH_take 8 (some 188) (.slice xa xn xc) rfl rfl (by kernel_rfl) (by kernel_rfl) (by kernel_rfl) (fun _ _ _ h => h.elim) (.inl ⟨by rfl, fun W hW => by go_simp⟩) hS ?_
    simp only [Act.put, List.setIfInBounds_toArray, List.set_cons_succ, List.set_cons_zero]
    refine anyH_take 9 (some 189) (.slice ya yn yc) rfl rfl (by kernel_rfl) (by kernel_rfl) (by kernel_rfl) (fun _ _ _ h => h.elim) (.inl ⟨by rfl, fun W hW => by go_simp⟩) hS ?_
    simp only [Act.put, List.setIfInBounds_toArray, List.set_cons_succ, List.set_cons_zero]
    refine anyH_take 10 (some 190) (.int .i64 yn) rfl rfl (by kernel_rfl) (by kernel_rfl) (by kernel_rfl) (fun _ _ _ h => h.elim) (.inl ⟨by rfl, fun W hW => by go_simp⟩) hS ?_
    simp only [Act.put, List.setIfInBounds_toArray, List.set_cons_succ, List.set_cons_zero]
    refine anyH_take 11 (some 191) (.slice xa yn xc) rfl rfl (by kernel_rfl) (by kernel_rfl) (by kernel_rfl) (fun _ _ _ h => h.elim) (.inl ⟨by rfl, fun W hW => by have c := run_prefix_B W xa xn xc yn hle; go_simp⟩) hS ?_
    simp only [Act.put, List.setIfInBounds_toArray, List.set_cons_succ, List.set_cons_zero]
    refine anyH_take 12 (some 192) (.string Sy) rfl rfl (by kernel_rfl) (by kernel_rfl) (by kernel_rfl) (fun _ _ _ h => h.elim) (.inl ⟨by rfl, fun W hW => by have c := q2 W hW; go_simp⟩) hS ?_
    simp only [Act.put, List.setIfInBounds_toArray, List.set_cons_succ, List.set_cons_zero]
    refine anyH_take 13 (some 193) (.bool false) rfl rfl (by kernel_rfl) (by kernel_rfl) (by kernel_rfl) (fun _ _ _ h => h.elim) (.inl ⟨by rfl, fun W hW => by go_simp⟩) hS ?_
    simp only [Act.put, List.setIfInBounds_toArray, List.set_cons_succ, List.set_cons_zero]
    refine anyH_take 14 (some 194) (.bool false) rfl rfl (by kernel_rfl) (by kernel_rfl) (by kernel_rfl) (fun _ _ _ h => h.elim) (.inl ⟨by rfl, fun W hW => by go_simp⟩) hS ?_
    simp only [Act.put, List.setIfInBounds_toArray, List.set_cons_succ, List.set_cons_zero]
    refine anyH_take 15 (some 195) (.bool false) rfl rfl (by kernel_rfl) (by kernel_rfl) (by kernel_rfl) (fun _ _ _ h => h.elim) (.inl ⟨by rfl, fun W hW => by go_simp⟩) hS ?_
    simp only [Act.put, List.setIfInBounds_toArray, List.set_cons_succ, List.set_cons_zero]
    refine anyH_take 16 (some 196) (.bool false) rfl rfl (by kernel_rfl) (by kernel_rfl) (by kernel_rfl) (fun _ _ _ h => h.elim) (.inl ⟨by rfl, fun W hW => by go_simp⟩) hS ?_
    simp only [Act.put, List.setIfInBounds_toArray, List.set_cons_succ, List.set_cons_zero]
    refine anyH_take 17 (some 197) (.bool false) rfl rfl (by kernel_rfl) (by kernel_rfl) (by kernel_rfl) (fun _ _ _ h => h.elim) (.inl ⟨by rfl, fun W hW => by go_simp⟩) hS ?_
    simp only [Act.put, List.setIfInBounds_toArray, List.set_cons_succ, List.set_cons_zero]
    refine anyH_take 18 (some 198) undef rfl rfl (by kernel_rfl) (by kernel_rfl) (by kernel_rfl) (fun _ _ _ h => h.elim) (.inr ⟨by rfl, rfl⟩) hS ?_
    simp only [Act.put, List.setIfInBounds_toArray, List.set_cons_succ, List.set_cons_zero]
    refine anyH_take 19 (some 199) undef rfl rfl (by kernel_rfl) (by kernel_rfl) (by kernel_rfl) (fun _ _ _ h => h.elim) (.inr ⟨by rfl, rfl⟩) hS ?_
    simp only [Act.put, List.setIfInBounds_toArray, List.set_cons_succ, List.set_cons_zero]
    refine anyH_take 20 (some 200) undef rfl rfl (by kernel_rfl) (by kernel_rfl) (by kernel_rfl) (fun _ _ _ h => h.elim) (.inr ⟨by rfl, rfl⟩) hS ?_
    simp only [Act.put, List.setIfInBounds_toArray, List.set_cons_succ, List.set_cons_zero]
    refine anyH_take 21 (some 201) undef rfl rfl (by kernel_rfl) (by kernel_rfl) (by kernel_rfl) (fun _ _ _ h => h.elim) (.inr ⟨by rfl, rfl⟩) hS ?_
    simp only [Act.put, List.setIfInBounds_toArray, List.set_cons_succ, List.set_cons_zero]
    refine anyH_take 22 (some 202) undef rfl rfl (by kernel_rfl) (by kernel_rfl) (by kernel_rfl) (fun _ _ _ h => h.elim) (.inr ⟨by rfl, rfl⟩) hS ?_
    simp only [Act.put, List.setIfInBounds_toArray, List.set_cons_succ, List.set_cons_zero]
    refine anyH_take 23 (some 203) undef rfl rfl (by kernel_rfl) (by kernel_rfl) (by kernel_rfl) (fun _ _ _ h => h.elim) (.inr ⟨by rfl, rfl⟩) hS ?_
    simp only [Act.put, List.setIfInBounds_toArray, List.set_cons_succ, List.set_cons_zero]
    refine anyH_take 24 (some 204) undef rfl rfl (by kernel_rfl) (by kernel_rfl) (by kernel_rfl) (fun _ _ _ h => h.elim) (.inr ⟨by rfl, rfl⟩) hS ?_
    simp only [Act.put, List.setIfInBounds_toArray, List.set_cons_succ, List.set_cons_zero]
    refine anyH_take 25 (some 205) undef rfl rfl (by kernel_rfl) (by kernel_rfl) (by kernel_rfl) (fun _ _ _ h => h.elim) (.inr ⟨by rfl, rfl⟩) hS ?_
    simp only [Act.put, List.setIfInBounds_toArray, List.set_cons_succ, List.set_cons_zero]
    refine anyH_take 26 (some 206) undef rfl rfl (by kernel_rfl) (by kernel_rfl) (by kernel_rfl) (fun _ _ _ h => h.elim) (.inr ⟨by rfl, rfl⟩) hS ?_
    simp only [Act.put, List.setIfInBounds_toArray, List.set_cons_succ, List.set_cons_zero]
    refine anyH_take 27 (some 207) (.bool false) rfl rfl (by kernel_rfl) (by kernel_rfl) (by kernel_rfl) (fun _ _ _ h => h.elim) (.inl ⟨by rfl, fun W hW => by go_simp⟩) hS ?_
    simp only [Act.put, List.setIfInBounds_toArray, List.set_cons_succ, List.set_cons_zero]
    refine anyH_take 28 (some 208) (.bool false) rfl rfl (by kernel_rfl) (by kernel_rfl) (by kernel_rfl) (fun _ _ _ h => h.elim) (.inl ⟨by rfl, fun W hW => by go_simp⟩) hS ?_
    simp only [Act.put, List.setIfInBounds_toArray, List.set_cons_succ, List.set_cons_zero]
    refine anyH_take 29 (some 209) (.bool false) rfl rfl (by kernel_rfl) (by kernel_rfl) (by kernel_rfl) (fun _ _ _ h => h.elim) (.inl ⟨by rfl, fun W hW => by go_simp⟩) hS ?_
    simp only [Act.put, List.setIfInBounds_toArray, List.set_cons_succ, List.set_cons_zero]
    refine anyH_take 30 (some 210) (.pointer (some ⟨S, 7, none⟩)) rfl rfl (by kernel_rfl) (by kernel_rfl) (by kernel_rfl) (fun _ _ _ h => h.elim) (.inl ⟨by rfl, fun W hW => by go_simp⟩) hS ?_
    simp only [Act.put, List.setIfInBounds_toArray, List.set_cons_succ, List.set_cons_zero]
    refine anyH_take 31 (some 211) (.slice oa on oc) rfl rfl (by kernel_rfl) (by kernel_rfl) (by kernel_rfl) (fun _ _ _ h => h.elim) (.inl ⟨by rfl, fun W hW => by have hh : New w W := hW; have c := hh.cell k7 id; go_simp⟩) hS ?_
    simp only [Act.put, List.setIfInBounds_toArray, List.set_cons_succ, List.set_cons_zero]
    refine anyH_take 32 (some 212) (.string So) rfl rfl (by kernel_rfl) (by kernel_rfl) (by kernel_rfl) (fun _ _ _ h => h.elim) (.inl ⟨by rfl, fun W hW => by have c := q3 W hW; go_simp⟩) hS ?_
    simp only [Act.put, List.setIfInBounds_toArray, List.set_cons_succ, List.set_cons_zero]
    refine anyH_take 33 (some 213) (.slice xa xn xc) rfl rfl (by kernel_rfl) (by kernel_rfl) (by kernel_rfl) (fun _ _ _ h => h.elim) (.inl ⟨by rfl, fun W hW => by go_simp⟩) hS ?_
    simp only [Act.put, List.setIfInBounds_toArray, List.set_cons_succ, List.set_cons_zero]
    refine anyH_take 34 (some 214) (.slice ya yn yc) rfl rfl (by kernel_rfl) (by kernel_rfl) (by kernel_rfl) (fun _ _ _ h => h.elim) (.inl ⟨by rfl, fun W hW => by go_simp⟩) hS ?_
    simp only [Act.put, List.setIfInBounds_toArray, List.set_cons_succ, List.set_cons_zero]
    refine anyH_take 35 (some 215) (.int .i64 yn) rfl rfl (by kernel_rfl) (by kernel_rfl) (by kernel_rfl) (fun _ _ _ h => h.elim) (.inl ⟨by rfl, fun W hW => by go_simp⟩) hS ?_
    simp only [Act.put, List.setIfInBounds_toArray, List.set_cons_succ, List.set_cons_zero]
    refine anyH_take 36 (some 216) (sv) rfl rfl (by kernel_rfl) (by kernel_rfl) (by kernel_rfl) (fun _ _ _ h => h.elim) (.inl ⟨by rfl, fun W hW => by have c := q5 W; go_simp⟩) hS ?_
    simp only [Act.put, List.setIfInBounds_toArray, List.set_cons_succ, List.set_cons_zero]
    refine anyH_take 37 (some 217) (.string So) rfl rfl (by kernel_rfl) (by kernel_rfl) (by kernel_rfl) (fun _ _ _ h => h.elim) (.inl ⟨by rfl, fun W hW => by have c := q4 W hW; go_simp⟩) hS ?_
    simp only [Act.put, List.setIfInBounds_toArray, List.set_cons_succ, List.set_cons_zero]
    refine anyH_take 38 (some 218) (.bool false) rfl rfl (by kernel_rfl) (by kernel_rfl) (by kernel_rfl) (fun _ _ _ h => h.elim) (.inl ⟨by rfl, fun W hW => by go_simp⟩) hS ?_
    simp only [Act.put, List.setIfInBounds_toArray, List.set_cons_succ, List.set_cons_zero]
    refine anyH_take 39 (some 219) (.bool false) rfl rfl (by kernel_rfl) (by kernel_rfl) (by kernel_rfl) (fun _ _ _ h => h.elim) (.inl ⟨by rfl, fun W hW => by go_simp⟩) hS ?_
    simp only [Act.put, List.setIfInBounds_toArray, List.set_cons_succ, List.set_cons_zero]
    refine wpAnyH_done (by kernel_rfl) ?_ _
    exact ⟨⟨rfl, rfl, rfl, rfl, rfl, rfl, rfl, rfl, rfl, rfl, rfl, rfl, rfl, rfl, rfl, rfl, rfl, rfl, rfl, rfl, rfl, rfl, rfl, rfl, rfl, rfl, rfl, rfl, rfl, rfl, rfl, rfl, rfl⟩, hS⟩
noncomputable def sw4 : Code := ((Tryd.f4.body.bind (blockOf 2)).getD .skip)
/-- What a deed leaves. -/
def After4 (w0 : World) (S n : Nat) (lo : Option Addr) (ln lc : Nat) (k : Int) (z0 z2 z3 z20 z21 z22 z23 z24 z25 z26 z220 z221 z222 z223 z224 z225 z226 z227 z228 z229 z230 z231 z232 : Value) (a' : Act) (W' : World) : Prop :=
  ∃ iv' yv' s' x' y' told' ended', (a'.tmps.size = 233 ∧ a'.defers = [] ∧ a'.tmps.getD 1 undef = .slice lo ln lc ∧ a'.tmps.getD 5 undef = .pointer (some ⟨S, 0, none⟩) ∧ a'.tmps.getD 6 undef = iv' ∧ a'.tmps.getD 7 undef = yv' ∧ a'.tmps.getD 8 undef = .bool told' ∧ a'.tmps.getD 9 undef = .bool ended' ∧ a'.tmps.getD 10 undef = .int .i64 k ∧ a'.tmps.getD 0 undef = z0 ∧ a'.tmps.getD 2 undef = z2 ∧ a'.tmps.getD 3 undef = z3 ∧ a'.tmps.getD 20 undef = z20 ∧ a'.tmps.getD 21 undef = z21 ∧ a'.tmps.getD 22 undef = z22 ∧ a'.tmps.getD 23 undef = z23 ∧ a'.tmps.getD 24 undef = z24 ∧ a'.tmps.getD 25 undef = z25 ∧ a'.tmps.getD 26 undef = z26 ∧ a'.tmps.getD 220 undef = z220 ∧ a'.tmps.getD 221 undef = z221 ∧ a'.tmps.getD 222 undef = z222 ∧ a'.tmps.getD 223 undef = z223 ∧ a'.tmps.getD 224 undef = z224 ∧ a'.tmps.getD 225 undef = z225 ∧ a'.tmps.getD 226 undef = z226 ∧ a'.tmps.getD 227 undef = z227 ∧ a'.tmps.getD 228 undef = z228 ∧ a'.tmps.getD 229 undef = z229 ∧ a'.tmps.getD 230 undef = z230 ∧ a'.tmps.getD 231 undef = z231 ∧ a'.tmps.getD 232 undef = z232) ∧ WhJ w0 W' S iv' yv' s' x' y' ∧ WInv (n + 1) s' x' y' told' ended' ∧ In8 x' ∧ I64 s'.send
set_option maxHeartbeats 8000000 in
set_option maxRecDepth 100000 in
theorem window4 (t : Array Value) (hs : t.size = 233) (w : World) {w0 : World} {S E n : Nat} {s : St} {x y : List Int} {iv yv bv : Value} {lo : Option Addr} {ln lc : Nat} {told ended : Bool} {k : Int} {d : Dd} {z0 z2 z3 z20 z21 z22 z23 z24 z25 z26 z220 z221 z222 z223 z224 z225 z226 z227 z228 z229 z230 z231 z232 : Value}
    (hq0 : t.getD 0 undef = z0)
    (hq2 : t.getD 2 undef = z2)
    (hq3 : t.getD 3 undef = z3)
    (hq20 : t.getD 20 undef = z20)
    (hq21 : t.getD 21 undef = z21)
    (hq22 : t.getD 22 undef = z22)
    (hq23 : t.getD 23 undef = z23)
    (hq24 : t.getD 24 undef = z24)
    (hq25 : t.getD 25 undef = z25)
    (hq26 : t.getD 26 undef = z26)
    (hq220 : t.getD 220 undef = z220)
    (hq221 : t.getD 221 undef = z221)
    (hq222 : t.getD 222 undef = z222)
    (hq223 : t.getD 223 undef = z223)
    (hq224 : t.getD 224 undef = z224)
    (hq225 : t.getD 225 undef = z225)
    (hq226 : t.getD 226 undef = z226)
    (hq227 : t.getD 227 undef = z227)
    (hq228 : t.getD 228 undef = z228)
    (hq229 : t.getD 229 undef = z229)
    (hq230 : t.getD 230 undef = z230)
    (hq231 : t.getD 231 undef = z231)
    (hq232 : t.getD 232 undef = z232)
    (hq1 : t.getD 1 undef = .slice lo ln lc)
    (hq5 : t.getD 5 undef = .pointer (some ⟨S, 0, none⟩))
    (hq6 : t.getD 6 undef = iv)
    (hq7 : t.getD 7 undef = yv)
    (hq8 : t.getD 8 undef = .bool told)
    (hq9 : t.getD 9 undef = .bool ended)
    (hq10 : t.getD 10 undef = .int .i64 k)
    (hq11 : t.getD 11 undef = .pointer (some ⟨E, 0, none⟩))
    (hq43 : t.getD 43 undef = .int .i64 2)
    (hJ : WhJ w0 w S iv yv s x y) (hI : WInv n s x y told ended) (hn : n < 30) (rE : w.heap[E]? = some (.cells (d.cs bv).toArray 44 (0, 0))) (hb : RdB w0 bv d.bytes) (hbl : d.bytes.length ≤ 100) (hd : d.Ok) (hx8 : In8 x) (hs8 : I64 s.send)  :
    sw4.wp Tryd.prog (Only (After4 w0 S n lo ln lc k z0 z2 z3 z20 z21 z22 z23 z24 z25 z26 z220 z221 z222 z223 z224 z225 z226 z227 z228 z229 z230 z231 z232)) ⟨t, []⟩ w := by
  conv => arg 2; whnf
  obtain ⟨u, rfl⟩ := lit233 t hs
  have hq0 : u 0 = z0 := hq0
  have hq2 : u 2 = z2 := hq2
  have hq3 : u 3 = z3 := hq3
  have hq20 : u 20 = z20 := hq20
  have hq21 : u 21 = z21 := hq21
  have hq22 : u 22 = z22 := hq22
  have hq23 : u 23 = z23 := hq23
  have hq24 : u 24 = z24 := hq24
  have hq25 : u 25 = z25 := hq25
  have hq26 : u 26 = z26 := hq26
  have hq220 : u 220 = z220 := hq220
  have hq221 : u 221 = z221 := hq221
  have hq222 : u 222 = z222 := hq222
  have hq223 : u 223 = z223 := hq223
  have hq224 : u 224 = z224 := hq224
  have hq225 : u 225 = z225 := hq225
  have hq226 : u 226 = z226 := hq226
  have hq227 : u 227 = z227 := hq227
  have hq228 : u 228 = z228 := hq228
  have hq229 : u 229 = z229 := hq229
  have hq230 : u 230 = z230 := hq230
  have hq231 : u 231 = z231 := hq231
  have hq232 : u 232 = z232 := hq232
  have hq1 : u 1 = .slice lo ln lc := hq1
  have hq5 : u 5 = .pointer (some ⟨S, 0, none⟩) := hq5
  have hq6 : u 6 = iv := hq6
  have hq7 : u 7 = yv := hq7
  have hq8 : u 8 = .bool told := hq8
  have hq9 : u 9 = .bool ended := hq9
  have hq10 : u 10 = .int .i64 k := hq10
  have hq11 : u 11 = .pointer (some ⟨E, 0, none⟩) := hq11
  have hq43 : u 43 = .int .i64 2 := hq43
  rw [hq0, hq2, hq3, hq20, hq21, hq22, hq23, hq24, hq25, hq26, hq220, hq221, hq222, hq223, hq224, hq225, hq226, hq227, hq228, hq229, hq230, hq231, hq232, hq1, hq5, hq6, hq7, hq8, hq9, hq10, hq11, hq43]
  clear hq0 hq2 hq3 hq20 hq21 hq22 hq23 hq24 hq25 hq26 hq220 hq221 hq222 hq223 hq224 hq225 hq226 hq227 hq228 hq229 hq230 hq231 hq232 hq1 hq5 hq6 hq7 hq8 hq9 hq10 hq11 hq43 hs
  obtain ⟨ov, rS, hO, hi, hy, a1, a2, a3, hSl, hN⟩ := hJ
  obtain ⟨oa, oc, rfl⟩ := hO.slice
  obtain ⟨xa, xc, rfl⟩ := hi.slice
  obtain ⟨ya, yc, rfl⟩ := hy.slice
  obtain ⟨ba, bc, rfl⟩ := hb.slice
  have hxl : x.length ≤ 3000 := by have := hI.len; omega
  have hyo : y.length + s.out.length = x.length := by rw [hI.all]; simp
  have k2 : w.cell? ⟨E, 2, none⟩ = some (.int .i64 d.send) := cell_of_row _ _ 2 _ _ _ rE
  have q2 : w.cell? ⟨S, 2, none⟩ = some (.int .i64 s.send) := cell_of_row _ _ 2 _ _ _ rS
  have fz := frozen_row (i := 2) rS
  have hst : (w.setCell ⟨S, 2, none⟩ (.int .i64 d.send)).heap[S]? = some (.cells (St.cs { s with send := d.send } (.slice oa s.out.length oc)).toArray 24 (0, 0)) := cell_stored (i := 2) rS rfl
  have h1 := owB_set (i := 2) (u := .int .i64 d.send) hO rS (by decide)
  have h2 := owB_set (i := 2) (u := .int .i64 d.send) hi rS (by decide)
  have h3 := owB_set (i := 2) (u := .int .i64 d.send) hy rS (by decide)
  have h4 : New w0 (w.setCell ⟨S, 2, none⟩ (.int .i64 d.send)) := hN.setCell (p := ⟨S, 2, none⟩) (.inl hSl) _
  have HF := Lib.hid (And.intro (hI.window d.send) (And.intro hx8 hd.2.2.1))
  have HM := Lib.hid (And.intro hst (And.intro h1 (And.intro h2 (And.intro h3 (And.intro a1 (And.intro a2 (And.intro a3 (And.intro hSl h4))))))))
  clear hO hi hy a1 a2 a3 hSl hN hI hn rE hb hbl hd hx8 hs8 hst h1 h2 h3 h4 hxl hyo
  go_wp2_with fail
  exact ⟨_, _, { s with send := d.send }, x, y, told, ended, ⟨rfl, rfl, rfl, rfl, rfl, rfl, rfl, rfl, rfl, rfl, rfl, rfl, rfl, rfl, rfl, rfl, rfl, rfl, rfl, rfl, rfl, rfl, rfl, rfl, rfl, rfl, rfl, rfl, rfl, rfl, rfl, rfl⟩, ⟨_, HM.out⟩, HF.out.1, HF.out.2.1, HF.out.2.2⟩
set_option maxHeartbeats 8000000 in
set_option maxRecDepth 100000 in
theorem end4 (t : Array Value) (hs : t.size = 233) (w : World) {w0 : World} {S E n : Nat} {s : St} {x y : List Int} {iv yv bv : Value} {lo : Option Addr} {ln lc : Nat} {told ended : Bool} {k : Int} {d : Dd} {z0 z2 z3 z20 z21 z22 z23 z24 z25 z26 z220 z221 z222 z223 z224 z225 z226 z227 z228 z229 z230 z231 z232 : Value}
    (hq0 : t.getD 0 undef = z0)
    (hq2 : t.getD 2 undef = z2)
    (hq3 : t.getD 3 undef = z3)
    (hq20 : t.getD 20 undef = z20)
    (hq21 : t.getD 21 undef = z21)
    (hq22 : t.getD 22 undef = z22)
    (hq23 : t.getD 23 undef = z23)
    (hq24 : t.getD 24 undef = z24)
    (hq25 : t.getD 25 undef = z25)
    (hq26 : t.getD 26 undef = z26)
    (hq220 : t.getD 220 undef = z220)
    (hq221 : t.getD 221 undef = z221)
    (hq222 : t.getD 222 undef = z222)
    (hq223 : t.getD 223 undef = z223)
    (hq224 : t.getD 224 undef = z224)
    (hq225 : t.getD 225 undef = z225)
    (hq226 : t.getD 226 undef = z226)
    (hq227 : t.getD 227 undef = z227)
    (hq228 : t.getD 228 undef = z228)
    (hq229 : t.getD 229 undef = z229)
    (hq230 : t.getD 230 undef = z230)
    (hq231 : t.getD 231 undef = z231)
    (hq232 : t.getD 232 undef = z232)
    (hq1 : t.getD 1 undef = .slice lo ln lc)
    (hq5 : t.getD 5 undef = .pointer (some ⟨S, 0, none⟩))
    (hq6 : t.getD 6 undef = iv)
    (hq7 : t.getD 7 undef = yv)
    (hq8 : t.getD 8 undef = .bool told)
    (hq9 : t.getD 9 undef = .bool ended)
    (hq10 : t.getD 10 undef = .int .i64 k)
    (hq11 : t.getD 11 undef = .pointer (some ⟨E, 0, none⟩))
    (hq43 : t.getD 43 undef = .int .i64 1)
    (hJ : WhJ w0 w S iv yv s x y) (hI : WInv n s x y told ended) (hn : n < 30) (rE : w.heap[E]? = some (.cells (d.cs bv).toArray 44 (0, 0))) (hb : RdB w0 bv d.bytes) (hbl : d.bytes.length ≤ 100) (hd : d.Ok) (hx8 : In8 x) (hs8 : I64 s.send)  :
    sw4.wp Tryd.prog (Only (After4 w0 S n lo ln lc k z0 z2 z3 z20 z21 z22 z23 z24 z25 z26 z220 z221 z222 z223 z224 z225 z226 z227 z228 z229 z230 z231 z232)) ⟨t, []⟩ w := by
  conv => arg 2; whnf
  obtain ⟨u, rfl⟩ := lit233 t hs
  have hq0 : u 0 = z0 := hq0
  have hq2 : u 2 = z2 := hq2
  have hq3 : u 3 = z3 := hq3
  have hq20 : u 20 = z20 := hq20
  have hq21 : u 21 = z21 := hq21
  have hq22 : u 22 = z22 := hq22
  have hq23 : u 23 = z23 := hq23
  have hq24 : u 24 = z24 := hq24
  have hq25 : u 25 = z25 := hq25
  have hq26 : u 26 = z26 := hq26
  have hq220 : u 220 = z220 := hq220
  have hq221 : u 221 = z221 := hq221
  have hq222 : u 222 = z222 := hq222
  have hq223 : u 223 = z223 := hq223
  have hq224 : u 224 = z224 := hq224
  have hq225 : u 225 = z225 := hq225
  have hq226 : u 226 = z226 := hq226
  have hq227 : u 227 = z227 := hq227
  have hq228 : u 228 = z228 := hq228
  have hq229 : u 229 = z229 := hq229
  have hq230 : u 230 = z230 := hq230
  have hq231 : u 231 = z231 := hq231
  have hq232 : u 232 = z232 := hq232
  have hq1 : u 1 = .slice lo ln lc := hq1
  have hq5 : u 5 = .pointer (some ⟨S, 0, none⟩) := hq5
  have hq6 : u 6 = iv := hq6
  have hq7 : u 7 = yv := hq7
  have hq8 : u 8 = .bool told := hq8
  have hq9 : u 9 = .bool ended := hq9
  have hq10 : u 10 = .int .i64 k := hq10
  have hq11 : u 11 = .pointer (some ⟨E, 0, none⟩) := hq11
  have hq43 : u 43 = .int .i64 1 := hq43
  rw [hq0, hq2, hq3, hq20, hq21, hq22, hq23, hq24, hq25, hq26, hq220, hq221, hq222, hq223, hq224, hq225, hq226, hq227, hq228, hq229, hq230, hq231, hq232, hq1, hq5, hq6, hq7, hq8, hq9, hq10, hq11, hq43]
  clear hq0 hq2 hq3 hq20 hq21 hq22 hq23 hq24 hq25 hq26 hq220 hq221 hq222 hq223 hq224 hq225 hq226 hq227 hq228 hq229 hq230 hq231 hq232 hq1 hq5 hq6 hq7 hq8 hq9 hq10 hq11 hq43 hs
  obtain ⟨ov, rS, hO, hi, hy, a1, a2, a3, hSl, hN⟩ := hJ
  obtain ⟨oa, oc, rfl⟩ := hO.slice
  obtain ⟨xa, xc, rfl⟩ := hi.slice
  obtain ⟨ya, yc, rfl⟩ := hy.slice
  obtain ⟨ba, bc, rfl⟩ := hb.slice
  have hxl : x.length ≤ 3000 := by have := hI.len; omega
  have hyo : y.length + s.out.length = x.length := by rw [hI.all]; simp
  obtain ⟨hw1, hw2⟩ := hI.close
  have HC := end_S _ s w ⟨_, rfl, hO.reads⟩ (by omega)
  rw [hw1] at HC hw2
  clear hI hn rE hb hbl hd hxl hyo hO hw1 a1 a2
  cases told with
  | true =>
    simp only [if_true] at HC hw2
    have HC : Hid (Calls Tryd.prog 21 #[.agg (St.cs s (.slice oa s.out.length oc)).toArray] w fun e w' => ∃ v', e = .returned (.tuple #[v', .int .i64 270]) ∧ OwS w.heap.size w' v' s ∧ New w w') := Lib.hid HC
    have HF := Lib.hid hw2
    go_wp2_with (first | (refine op_value rfl (run_load_row 24 (.tmp 5) rfl S rfl 24 _ (0, 0) _ rS Tryd.underlying24 rfl info24) ?_) | (refine op_value_g rfl (run_load_row 24 (.tmp 5) rfl S rfl 24 _ (0, 0) _ rS Tryd.underlying24 rfl info24) ?_))
    refine HC.out.mono ?_
    rintro e W1 ⟨v', rfl, ⟨ox, rfl, hO1⟩, hk1⟩
    obtain ⟨pa, pc, rfl⟩ := hO1.slice
    have c1 := Apart.fresh hi hO1
    have c2 := Apart.fresh hy hO1
    replace hO1 := hO1.mono hN.size
    have rS1 := hk1.heap rS id
    replace hi := hi.new hk1
    replace hy := hy.new hk1
    replace hN := hN.trans hk1
    clear hk1 HC rS
    obtain ⟨W2, X, hW, hX, rX, hk⟩ := one_row W1 #[.int .i64 s.id, .int .u8 s.state, .int .i64 s.send, .int .i64 s.recv, .int .i64 s.owed, .bool s.ans, .bool s.ends, (.slice pa s.out.length pc), .int .u8 s.urg, .bool s.inc, .int .i64 s.slot] 24
    have rS2 := hk.heap rS1 id
    replace hi := hi.new hk
    replace hy := hy.new hk
    replace hO1 := hO1.new hk
    replace hN := hN.trans hk
    clear hk rS1
    unfold St.cs
    go_upto_region 32 with fail
    clear hW hX
    have hone := cs_one s (ov := (.slice pa s.out.length pc)) rfl
    obtain ⟨V, hV, rX', kO, kR, kN⟩ := stored_row rS2 (St.cs s (.slice pa s.out.length pc)).toArray
    have HM := Lib.hid (And.intro rX' (And.intro (kO _ _ _ hO1) (And.intro (kO _ _ _ hi) (And.intro (kO _ _ _ hy) (And.intro c1 (And.intro c2 (And.intro a3 (And.intro hSl (kN _ hN hSl)))))))))
    clear rX' kO kR kN c1 c2 a3 hSl hN hi hy hO1
    go_wp2_with (first | (refine op_value rfl (run_load_row 24 (.tmp 14) rfl X rfl 24 _ (0, 0) _ rX Tryd.underlying24 rfl info24) ?_) | (refine op_value_g rfl (run_load_row 24 (.tmp 14) rfl X rfl 24 _ (0, 0) _ rX Tryd.underlying24 rfl info24) ?_) | (refine op_skip rfl (run_store_row 24 (.tmp 5) (.tmp 174) rfl S rfl 24 (St.cs s (.slice oa s.out.length oc)) (St.cs s (.slice pa s.out.length pc)) rfl rS2 info24 rfl hone) ?_))
    rw [hV]
    exact ⟨_, _, s, x, y, true, ended, ⟨rfl, rfl, rfl, rfl, rfl, rfl, rfl, rfl, rfl, rfl, rfl, rfl, rfl, rfl, rfl, rfl, rfl, rfl, rfl, rfl, rfl, rfl, rfl, rfl, rfl, rfl, rfl, rfl, rfl, rfl, rfl, rfl⟩, ⟨_, HM.out⟩, HF.out, hx8, hs8⟩
  | false =>
    simp only [Bool.false_eq_true, if_false] at HC hw2
    obtain ⟨so, hso⟩ : ∃ o, ({ s with ends := true } : St) = o := ⟨_, rfl⟩
    have hsend : I64 so.send := by rw [← hso]; exact hs8
    rw [hso] at HC hw2
    clear hso
    have HC : Hid (Calls Tryd.prog 21 #[.agg (St.cs s (.slice oa s.out.length oc)).toArray] w fun e w' => ∃ v', e = .returned (.tuple #[v', .int .i64 0]) ∧ OwS w.heap.size w' v' so ∧ New w w') := Lib.hid HC
    have HF := Lib.hid hw2
    go_wp2_with (first | (refine op_value rfl (run_load_row 24 (.tmp 5) rfl S rfl 24 _ (0, 0) _ rS Tryd.underlying24 rfl info24) ?_) | (refine op_value_g rfl (run_load_row 24 (.tmp 5) rfl S rfl 24 _ (0, 0) _ rS Tryd.underlying24 rfl info24) ?_))
    refine HC.out.mono ?_
    rintro e W1 ⟨v', rfl, ⟨ox, rfl, hO1⟩, hk1⟩
    obtain ⟨pa, pc, rfl⟩ := hO1.slice
    have c1 := Apart.fresh hi hO1
    have c2 := Apart.fresh hy hO1
    replace hO1 := hO1.mono hN.size
    have rS1 := hk1.heap rS id
    replace hi := hi.new hk1
    replace hy := hy.new hk1
    replace hN := hN.trans hk1
    clear hk1 HC rS
    obtain ⟨W2, X, hW, hX, rX, hk⟩ := one_row W1 #[.int .i64 so.id, .int .u8 so.state, .int .i64 so.send, .int .i64 so.recv, .int .i64 so.owed, .bool so.ans, .bool so.ends, (.slice pa so.out.length pc), .int .u8 so.urg, .bool so.inc, .int .i64 so.slot] 24
    have rS2 := hk.heap rS1 id
    replace hi := hi.new hk
    replace hy := hy.new hk
    replace hO1 := hO1.new hk
    replace hN := hN.trans hk
    clear hk rS1
    unfold St.cs
    go_upto_region 32 with fail
    clear hW hX
    have hone := cs_one so (ov := (.slice pa so.out.length pc)) rfl
    obtain ⟨V, hV, rX', kO, kR, kN⟩ := stored_row rS2 (St.cs so (.slice pa so.out.length pc)).toArray
    have HM := Lib.hid (And.intro rX' (And.intro (kO _ _ _ hO1) (And.intro (kO _ _ _ hi) (And.intro (kO _ _ _ hy) (And.intro c1 (And.intro c2 (And.intro a3 (And.intro hSl (kN _ hN hSl)))))))))
    clear rX' kO kR kN c1 c2 a3 hSl hN hi hy hO1
    go_wp2_with (first | (refine op_value rfl (run_load_row 24 (.tmp 14) rfl X rfl 24 _ (0, 0) _ rX Tryd.underlying24 rfl info24) ?_) | (refine op_value_g rfl (run_load_row 24 (.tmp 14) rfl X rfl 24 _ (0, 0) _ rX Tryd.underlying24 rfl info24) ?_) | (refine op_skip rfl (run_store_row 24 (.tmp 5) (.tmp 174) rfl S rfl 24 (St.cs s (.slice oa s.out.length oc)) (St.cs so (.slice pa so.out.length pc)) rfl rS2 info24 rfl hone) ?_))
    rw [hV]
    exact ⟨_, _, so, x, y, true, ended, ⟨rfl, rfl, rfl, rfl, rfl, rfl, rfl, rfl, rfl, rfl, rfl, rfl, rfl, rfl, rfl, rfl, rfl, rfl, rfl, rfl, rfl, rfl, rfl, rfl, rfl, rfl, rfl, rfl, rfl, rfl, rfl, rfl⟩, ⟨_, HM.out⟩, HF.out, hx8, hsend⟩
set_option maxHeartbeats 8000000 in
set_option maxRecDepth 100000 in
theorem write4 (t : Array Value) (hs : t.size = 233) (w : World) {w0 : World} {S E n : Nat} {s : St} {x y : List Int} {iv yv bv : Value} {lo : Option Addr} {ln lc : Nat} {told ended : Bool} {k : Int} {d : Dd} {z0 z2 z3 z20 z21 z22 z23 z24 z25 z26 z220 z221 z222 z223 z224 z225 z226 z227 z228 z229 z230 z231 z232 : Value}
    (hq0 : t.getD 0 undef = z0)
    (hq2 : t.getD 2 undef = z2)
    (hq3 : t.getD 3 undef = z3)
    (hq20 : t.getD 20 undef = z20)
    (hq21 : t.getD 21 undef = z21)
    (hq22 : t.getD 22 undef = z22)
    (hq23 : t.getD 23 undef = z23)
    (hq24 : t.getD 24 undef = z24)
    (hq25 : t.getD 25 undef = z25)
    (hq26 : t.getD 26 undef = z26)
    (hq220 : t.getD 220 undef = z220)
    (hq221 : t.getD 221 undef = z221)
    (hq222 : t.getD 222 undef = z222)
    (hq223 : t.getD 223 undef = z223)
    (hq224 : t.getD 224 undef = z224)
    (hq225 : t.getD 225 undef = z225)
    (hq226 : t.getD 226 undef = z226)
    (hq227 : t.getD 227 undef = z227)
    (hq228 : t.getD 228 undef = z228)
    (hq229 : t.getD 229 undef = z229)
    (hq230 : t.getD 230 undef = z230)
    (hq231 : t.getD 231 undef = z231)
    (hq232 : t.getD 232 undef = z232)
    (hq1 : t.getD 1 undef = .slice lo ln lc)
    (hq5 : t.getD 5 undef = .pointer (some ⟨S, 0, none⟩))
    (hq6 : t.getD 6 undef = iv)
    (hq7 : t.getD 7 undef = yv)
    (hq8 : t.getD 8 undef = .bool told)
    (hq9 : t.getD 9 undef = .bool ended)
    (hq10 : t.getD 10 undef = .int .i64 k)
    (hq11 : t.getD 11 undef = .pointer (some ⟨E, 0, none⟩))
    (hq43 : t.getD 43 undef = .int .i64 0)
    (hJ : WhJ w0 w S iv yv s x y) (hI : WInv n s x y told ended) (hn : n < 30) (rE : w.heap[E]? = some (.cells (d.cs bv).toArray 44 (0, 0))) (hb : RdB w0 bv d.bytes) (hbl : d.bytes.length ≤ 100) (hd : d.Ok) (hx8 : In8 x) (hs8 : I64 s.send)  :
    sw4.wp Tryd.prog (Only (After4 w0 S n lo ln lc k z0 z2 z3 z20 z21 z22 z23 z24 z25 z26 z220 z221 z222 z223 z224 z225 z226 z227 z228 z229 z230 z231 z232)) ⟨t, []⟩ w := by
  conv => arg 2; whnf
  obtain ⟨u, rfl⟩ := lit233 t hs
  have hq0 : u 0 = z0 := hq0
  have hq2 : u 2 = z2 := hq2
  have hq3 : u 3 = z3 := hq3
  have hq20 : u 20 = z20 := hq20
  have hq21 : u 21 = z21 := hq21
  have hq22 : u 22 = z22 := hq22
  have hq23 : u 23 = z23 := hq23
  have hq24 : u 24 = z24 := hq24
  have hq25 : u 25 = z25 := hq25
  have hq26 : u 26 = z26 := hq26
  have hq220 : u 220 = z220 := hq220
  have hq221 : u 221 = z221 := hq221
  have hq222 : u 222 = z222 := hq222
  have hq223 : u 223 = z223 := hq223
  have hq224 : u 224 = z224 := hq224
  have hq225 : u 225 = z225 := hq225
  have hq226 : u 226 = z226 := hq226
  have hq227 : u 227 = z227 := hq227
  have hq228 : u 228 = z228 := hq228
  have hq229 : u 229 = z229 := hq229
  have hq230 : u 230 = z230 := hq230
  have hq231 : u 231 = z231 := hq231
  have hq232 : u 232 = z232 := hq232
  have hq1 : u 1 = .slice lo ln lc := hq1
  have hq5 : u 5 = .pointer (some ⟨S, 0, none⟩) := hq5
  have hq6 : u 6 = iv := hq6
  have hq7 : u 7 = yv := hq7
  have hq8 : u 8 = .bool told := hq8
  have hq9 : u 9 = .bool ended := hq9
  have hq10 : u 10 = .int .i64 k := hq10
  have hq11 : u 11 = .pointer (some ⟨E, 0, none⟩) := hq11
  have hq43 : u 43 = .int .i64 0 := hq43
  rw [hq0, hq2, hq3, hq20, hq21, hq22, hq23, hq24, hq25, hq26, hq220, hq221, hq222, hq223, hq224, hq225, hq226, hq227, hq228, hq229, hq230, hq231, hq232, hq1, hq5, hq6, hq7, hq8, hq9, hq10, hq11, hq43]
  clear hq0 hq2 hq3 hq20 hq21 hq22 hq23 hq24 hq25 hq26 hq220 hq221 hq222 hq223 hq224 hq225 hq226 hq227 hq228 hq229 hq230 hq231 hq232 hq1 hq5 hq6 hq7 hq8 hq9 hq10 hq11 hq43 hs
  obtain ⟨ov, rS, hO, hi, hy, a1, a2, a3, hSl, hN⟩ := hJ
  obtain ⟨oa, oc, rfl⟩ := hO.slice
  obtain ⟨xa, xc, rfl⟩ := hi.slice
  obtain ⟨ya, yc, rfl⟩ := hy.slice
  obtain ⟨ba, bc, rfl⟩ := hb.slice
  have hxl : x.length ≤ 3000 := by have := hI.len; omega
  have hyo : y.length + s.out.length = x.length := by rw [hI.all]; simp
  have k1 : w.cell? ⟨E, 1, none⟩ = some (.slice ba d.bytes.length bc) := cell_of_row _ _ 1 _ _ _ rE
  obtain ⟨hw1, hw2⟩ := hI.write hn hbl
  have Hall := Lib.hid hI.all
  have HC := write_S _ _ s d.bytes w ⟨_, rfl, hO.reads⟩ (hb.new hN) (by omega) (by omega)
  rw [hw1] at HC hw2
  have hx9 : In8 (x ++ d.bytes) := fun z hz => (List.mem_append.1 hz).elim (hx8 z) (hd.1 z)
  clear hI hn rE hd hyo hw1 a1 a2
  cases told with
  | true =>
    simp only [if_true] at HC hw2
    clear hx9
    have HC : Hid (Calls Tryd.prog 19 #[.agg (St.cs s (.slice oa s.out.length oc)).toArray, .slice ba d.bytes.length bc] w fun e w' => ∃ v', e = .returned (.tuple #[v', .int .i64 270]) ∧ OwS w.heap.size w' v' s ∧ New w w') := Lib.hid HC
    have HF := Lib.hid hw2
    go_wp2_with (first | (refine op_value rfl (run_load_row 24 (.tmp 5) rfl S rfl 24 _ (0, 0) _ rS Tryd.underlying24 rfl info24) ?_) | (refine op_value_g rfl (run_load_row 24 (.tmp 5) rfl S rfl 24 _ (0, 0) _ rS Tryd.underlying24 rfl info24) ?_))
    refine HC.out.mono ?_
    rintro e W1 ⟨v', rfl, ⟨ox, rfl, hO1⟩, hk1⟩
    obtain ⟨pa, pc, rfl⟩ := hO1.slice
    have c1 := Apart.fresh hi hO1
    have c2 := Apart.fresh hy hO1
    replace hO1 := hO1.mono hN.size
    have rS1 := hk1.heap rS id
    replace hi := hi.new hk1
    replace hy := hy.new hk1
    replace hN := hN.trans hk1
    have j1 := hk1.cell k1 id
    replace hO := hO.new hk1
    clear hk1 HC rS k1
    obtain ⟨W2, X, hW, hX, rX, hk⟩ := one_row W1 #[.int .i64 s.id, .int .u8 s.state, .int .i64 s.send, .int .i64 s.recv, .int .i64 s.owed, .bool s.ans, .bool s.ends, (.slice pa s.out.length pc), .int .u8 s.urg, .bool s.inc, .int .i64 s.slot] 24
    have rS2 := hk.heap rS1 id
    replace hi := hi.new hk
    replace hy := hy.new hk
    replace hO1 := hO1.new hk
    replace hN := hN.trans hk
    have j1 := hk.cell j1 id
    replace hO := hO.new hk
    clear hk rS1
    unfold St.cs
    go_upto_region 25 with fail
    clear hW hX
    have hin : In8 s.out := fun z hz => hx8 z (by rw [Hall.out]; exact List.mem_append_right _ hz)
    have HSM := same_R _ _ s s W2 ⟨_, rfl, hO1.reads⟩ ⟨_, rfl, hO.reads⟩ hin hin
    rw [show decide (s = s) = true from decide_eq_true rfl] at HSM
    have HSM := Lib.hid HSM
    clear hin hO Hall
    go_wp2_with (first | (refine op_value rfl (run_load_row 24 (.tmp 12) rfl X rfl 24 _ (0, 0) _ rX Tryd.underlying24 rfl info24) ?_) | (refine op_value_g rfl (run_load_row 24 (.tmp 12) rfl X rfl 24 _ (0, 0) _ rX Tryd.underlying24 rfl info24) ?_) | (refine op_value rfl (run_load_row 24 (.tmp 5) rfl S rfl 24 _ (0, 0) _ rS2 Tryd.underlying24 rfl info24) ?_) | (refine op_value_g rfl (run_load_row 24 (.tmp 5) rfl S rfl 24 _ (0, 0) _ rS2 Tryd.underlying24 rfl info24) ?_))
    refine HSM.out.mono ?_
    rintro e W3 ⟨rfl, hk⟩
    have rS3 := hk.heap rS2 id
    have rX3 := hk.heap rX id
    replace hi := hi.new hk
    replace hy := hy.new hk
    replace hO1 := hO1.new hk
    replace hN := hN.trans hk
    clear hk rS2 rX HSM
    have hone := cs_one s (ov := (.slice pa s.out.length pc)) rfl
    obtain ⟨V, hV, rX', kO, kR, kN⟩ := stored_row rS3 (St.cs s (.slice pa s.out.length pc)).toArray
    have HM := Lib.hid (And.intro rX' (And.intro (kO _ _ _ hO1) (And.intro (kO _ _ _ hi) (And.intro (kO _ _ _ hy) (And.intro c1 (And.intro c2 (And.intro a3 (And.intro hSl (kN _ hN hSl)))))))))
    clear rX' kO kR kN c1 c2 a3 hSl hN hi hy hO1
    go_wp2_with (first | (refine op_value rfl (run_load_row 24 (.tmp 12) rfl X rfl 24 _ (0, 0) _ rX3 Tryd.underlying24 rfl info24) ?_) | (refine op_value_g rfl (run_load_row 24 (.tmp 12) rfl X rfl 24 _ (0, 0) _ rX3 Tryd.underlying24 rfl info24) ?_) | (refine op_skip rfl (run_store_row 24 (.tmp 5) (.tmp 162) rfl S rfl 24 (St.cs s (.slice oa s.out.length oc)) (St.cs s (.slice pa s.out.length pc)) rfl rS3 info24 rfl hone) ?_))
    rw [hV]
    exact ⟨_, _, s, x, y, true, ended, ⟨rfl, rfl, rfl, rfl, rfl, rfl, rfl, rfl, rfl, rfl, rfl, rfl, rfl, rfl, rfl, rfl, rfl, rfl, rfl, rfl, rfl, rfl, rfl, rfl, rfl, rfl, rfl, rfl, rfl, rfl, rfl, rfl⟩, ⟨_, HM.out⟩, HF.out, hx8, hs8⟩
  | false =>
    simp only [Bool.false_eq_true, if_false] at HC hw2
    obtain ⟨so, hso⟩ : ∃ o, ({ s with out := s.out ++ d.bytes } : St) = o := ⟨_, rfl⟩
    have hsend : I64 so.send := by rw [← hso]; exact hs8
    rw [hso] at HC hw2
    clear hso
    have HC : Hid (Calls Tryd.prog 19 #[.agg (St.cs s (.slice oa s.out.length oc)).toArray, .slice ba d.bytes.length bc] w fun e w' => ∃ v', e = .returned (.tuple #[v', .int .i64 0]) ∧ OwS w.heap.size w' v' so ∧ New w w') := Lib.hid HC
    have HF := Lib.hid hw2
    go_wp2_with (first | (refine op_value rfl (run_load_row 24 (.tmp 5) rfl S rfl 24 _ (0, 0) _ rS Tryd.underlying24 rfl info24) ?_) | (refine op_value_g rfl (run_load_row 24 (.tmp 5) rfl S rfl 24 _ (0, 0) _ rS Tryd.underlying24 rfl info24) ?_))
    refine HC.out.mono ?_
    rintro e W1 ⟨v', rfl, ⟨ox, rfl, hO1⟩, hk1⟩
    obtain ⟨pa, pc, rfl⟩ := hO1.slice
    have c1 := Apart.fresh hi hO1
    have c2 := Apart.fresh hy hO1
    replace hO1 := hO1.mono hN.size
    have rS1 := hk1.heap rS id
    replace hi := hi.new hk1
    replace hy := hy.new hk1
    replace hN := hN.trans hk1
    have j1 := hk1.cell k1 id
    replace hO := hO.new hk1
    clear hk1 HC rS k1
    obtain ⟨W2, X, hW, hX, rX, hk⟩ := one_row W1 #[.int .i64 so.id, .int .u8 so.state, .int .i64 so.send, .int .i64 so.recv, .int .i64 so.owed, .bool so.ans, .bool so.ends, (.slice pa so.out.length pc), .int .u8 so.urg, .bool so.inc, .int .i64 so.slot] 24
    have rS2 := hk.heap rS1 id
    replace hi := hi.new hk
    replace hy := hy.new hk
    replace hO1 := hO1.new hk
    replace hN := hN.trans hk
    have j1 := hk.cell j1 id
    replace hO := hO.new hk
    clear hk rS1
    unfold St.cs
    go_upto_region 25 with fail
    clear hW hX
    have Hb2 := Lib.hid (hb.new hN)
    have hll : x.length + d.bytes.length ≤ 100000000 := by omega
    have hsz := hN.size
    clear hO Hall
    go_upto_region 28 with fail
    go_upto_region 29 with (at_builtin; refine wpList_append_B2 (.tmp 158) (.tmp 160) rfl rfl rfl rfl hi Hb2.out hll hsz ?_; intro iv' W3 hi3 hg3 hb3)
    have rS3 : W3.heap[S]? = _ := (hg3.block S (Array.getElem?_eq_some_iff.1 rS2).1 (fun e => owB_ne hi rS2 (by decide) e.symm)).trans rS2
    have rX3 : W3.heap[X]? = _ := (hg3.block X (Array.getElem?_eq_some_iff.1 rX).1 (fun e => owB_ne hi rX (by decide) e.symm)).trans rX
    have hy3 := hy.grown a3 hg3
    have hO3 := hO1.grown c1 hg3
    have c1' := Apart.grown c1 hO1 hb3
    have a3' := Apart.grown a3 hy hb3
    have hN3 : New w0 W3 := hN.grown hg3 (fun g hg => .inl ((hi.lt g hg).1))
    clear hg3 hb3 rS2 rX hy hO1 hi c1 a3 hN hsz hll
    have hone := cs_one so (ov := (.slice pa so.out.length pc)) rfl
    obtain ⟨V, hV, rX', kO, kR, kN⟩ := stored_row rS3 (St.cs so (.slice pa so.out.length pc)).toArray
    have HM := Lib.hid (And.intro rX' (And.intro (kO _ _ _ hO3) (And.intro (kO _ _ _ hi3) (And.intro (kO _ _ _ hy3) (And.intro c1' (And.intro c2 (And.intro a3' (And.intro hSl (kN _ hN3 hSl)))))))))
    clear rX' kO kR kN c1' c2 a3' hSl hN3 hi3 hy3 hO3
    go_wp2_with (first | (refine op_value rfl (run_load_row 24 (.tmp 12) rfl X rfl 24 _ (0, 0) _ rX3 Tryd.underlying24 rfl info24) ?_) | (refine op_value_g rfl (run_load_row 24 (.tmp 12) rfl X rfl 24 _ (0, 0) _ rX3 Tryd.underlying24 rfl info24) ?_) | (refine op_skip rfl (run_store_row 24 (.tmp 5) (.tmp 162) rfl S rfl 24 (St.cs s (.slice oa s.out.length oc)) (St.cs so (.slice pa so.out.length pc)) rfl rS3 info24 rfl hone) ?_))
    rw [hV]
    exact ⟨_, _, so, x ++ d.bytes, y, false, ended, ⟨rfl, rfl, rfl, rfl, rfl, rfl, rfl, rfl, rfl, rfl, rfl, rfl, rfl, rfl, rfl, rfl, rfl, rfl, rfl, rfl, rfl, rfl, rfl, rfl, rfl, rfl, rfl, rfl, rfl, rfl, rfl, rfl⟩, ⟨_, HM.out⟩, HF.out, hx9, hsend⟩
end Go.Proofs.YtkjghojdfjhhkaaDoor
