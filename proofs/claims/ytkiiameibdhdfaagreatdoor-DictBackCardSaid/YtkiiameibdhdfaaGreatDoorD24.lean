/- The document's Great: its regions. -/
import Derived.Test.YtkiiameibdhdfaaGreatDoorD23
import Derived.Test.YtkiiameibdhdfaaGreatDoorD12
import Derived.Test.YtkiiameibdhdfaaGreatDoorD04
set_option linter.unusedSimpArgs false
set_option linter.unusedVariables false
namespace Go.Proofs.YtkiiameibdhdfaaGreatDoor
open Go.RowKit Go.Shelf Go.Cs
attribute [local go_sem] Oper.semAt_some
set_option linter.unusedVariables false
set_option linter.unusedSimpArgs false
theorem lit151 (t : Array Value) (h : t.size = 151) : ∃ u : Nat → Value, t = (u 0 :: u 1 :: u 2 :: u 3 :: u 4 :: u 5 :: u 6 :: u 7 :: u 8 :: u 9 :: u 10 :: u 11 :: u 12 :: u 13 :: u 14 :: u 15 :: u 16 :: u 17 :: u 18 :: u 19 :: u 20 :: u 21 :: u 22 :: u 23 :: u 24 :: u 25 :: u 26 :: u 27 :: u 28 :: u 29 :: u 30 :: u 31 :: u 32 :: u 33 :: u 34 :: u 35 :: u 36 :: u 37 :: u 38 :: u 39 :: u 40 :: u 41 :: u 42 :: u 43 :: u 44 :: u 45 :: u 46 :: u 47 :: u 48 :: u 49 :: u 50 :: u 51 :: u 52 :: u 53 :: u 54 :: u 55 :: u 56 :: u 57 :: u 58 :: u 59 :: u 60 :: u 61 :: u 62 :: u 63 :: u 64 :: u 65 :: u 66 :: u 67 :: u 68 :: u 69 :: u 70 :: u 71 :: u 72 :: u 73 :: u 74 :: u 75 :: u 76 :: u 77 :: u 78 :: u 79 :: u 80 :: u 81 :: u 82 :: u 83 :: u 84 :: u 85 :: u 86 :: u 87 :: u 88 :: u 89 :: u 90 :: u 91 :: u 92 :: u 93 :: u 94 :: u 95 :: u 96 :: u 97 :: u 98 :: u 99 :: u 100 :: u 101 :: u 102 :: u 103 :: u 104 :: u 105 :: u 106 :: u 107 :: u 108 :: u 109 :: u 110 :: u 111 :: u 112 :: u 113 :: u 114 :: u 115 :: u 116 :: u 117 :: u 118 :: u 119 :: u 120 :: u 121 :: u 122 :: u 123 :: u 124 :: u 125 :: u 126 :: u 127 :: u 128 :: u 129 :: u 130 :: u 131 :: u 132 :: u 133 :: u 134 :: u 135 :: u 136 :: u 137 :: u 138 :: u 139 :: u 140 :: u 141 :: u 142 :: u 143 :: u 144 :: u 145 :: u 146 :: u 147 :: u 148 :: u 149 :: u 150 :: ([] : List Value)).toArray := ⟨fun i => t.getD i undef, range_lit t 151 h⟩
noncomputable def reg_causeyref13_Great_5 : Code := ((Tryz.f24.body.bind (regionOf 5)).getD .skip)
set_option maxHeartbeats 4000000 in
set_option maxRecDepth 100000 in
theorem great5 (t : Array Value) (hs : t.size = 151) (w : World) {b1 o1 nd m1 n i li lp ic pc : Nat} {ia pa : Option Addr}
    (hq0 : t.getD 0 undef = .slice (some ⟨b1, o1, none⟩) nd m1)
    (hq3 : t.getD 3 undef = .int .i64 n)
    (hq5 : t.getD 5 undef = .int .i64 i)
    (hin : i < nd) (hn : n ≤ 40) (hli : li ≤ 281474976710656) (hlp : lp ≤ 281474976710656) (c2 : w.cell? ⟨b1, o1 + i * 4 + 2, none⟩ = some (.slice ia li ic)) (c3 : w.cell? ⟨b1, o1 + i * 4 + 3, none⟩ = some (.slice pa lp pc)) :
    reg_causeyref13_Great_5.wp Tryz.prog (Only fun a' W' => ∃ z : Nat → Value, a' = ⟨((((((((((((((((t).setIfInBounds 22 (z 22)).setIfInBounds 23 (z 23)).setIfInBounds 24 (z 24)).setIfInBounds 25 (z 25)).setIfInBounds 26 (z 26)).setIfInBounds 27 (z 27)).setIfInBounds 28 (z 28)).setIfInBounds 29 (z 29)).setIfInBounds 30 (z 30)).setIfInBounds 31 (z 31)).setIfInBounds 32 (z 32)).setIfInBounds 33 (z 33)).setIfInBounds 34 (z 34)).setIfInBounds 35 (z 35)).setIfInBounds 36 (z 36)).setIfInBounds 3 (.int .i64 (n + li + lp : Nat)), []⟩ ∧ New w W') ⟨t, []⟩ w := by
  conv => arg 2; whnf
  obtain ⟨u, rfl⟩ := lit151 t hs
  have hq0 : u 0 = .slice (some ⟨b1, o1, none⟩) nd m1 := hq0
  have hq3 : u 3 = .int .i64 n := hq3
  have hq5 : u 5 = .int .i64 i := hq5
  rw [hq0, hq3, hq5]
  clear hq0 hq3 hq5 hs
  have hi1 : decide ((i : Int) < (nd : Int)) = true := decide_eq_true (by omega)
  have hw0 : IntKind.i64.wrap ((n : Int) + (li : Int)) = (n : Int) + (li : Int) := by rw [IntKind.wrap_i64]; omega
  have hw1 : IntKind.i64.wrap ((n : Int) + (li : Int) + (lp : Int)) = (n : Int) + (li : Int) + (lp : Int) := by rw [IntKind.wrap_i64]; omega
  refine wp_region_held (S := fun W => New w W) (by kernel_rfl) ?_
  show wpAnyH _ _ _ _ _ 16 _ _ w.drew
  have hN : New w w.drew := (Mods.refl _ _).drew
  have hS : New w w.drew := (Mods.refl _ _).drew
  refine anyH_take 0 (some 22) (.int .i64 n) rfl rfl (by kernel_rfl) (by kernel_rfl) (by kernel_rfl) (fun _ _ _ h => h.elim) (.inl ⟨by rfl, fun W hW => by go_simp⟩) hS ?_
  simp only [Act.put, List.setIfInBounds_toArray, List.set_cons_succ, List.set_cons_zero]
  refine anyH_take 1 (some 23) (.slice (some ⟨b1, o1, none⟩) nd m1) rfl rfl (by kernel_rfl) (by kernel_rfl) (by kernel_rfl) (fun _ _ _ h => h.elim) (.inl ⟨by rfl, fun W hW => by go_simp⟩) hS ?_
  simp only [Act.put, List.setIfInBounds_toArray, List.set_cons_succ, List.set_cons_zero]
  refine anyH_take 2 (some 24) (.int .i64 i) rfl rfl (by kernel_rfl) (by kernel_rfl) (by kernel_rfl) (fun _ _ _ h => h.elim) (.inl ⟨by rfl, fun W hW => by go_simp⟩) hS ?_
  simp only [Act.put, List.setIfInBounds_toArray, List.set_cons_succ, List.set_cons_zero]
  refine anyH_take 3 (some 25) (.pointer (some ⟨b1, o1 + i * 4, none⟩)) rfl rfl (by kernel_rfl) (by kernel_rfl) (by kernel_rfl) (fun _ _ _ h => h.elim) (.inl ⟨by rfl, fun W hW => by go_simp⟩) hS ?_
  simp only [Act.put, List.setIfInBounds_toArray, List.set_cons_succ, List.set_cons_zero]
  refine anyH_take 4 (some 26) (.pointer (some ⟨b1, o1 + i * 4 + 2, none⟩)) rfl rfl (by kernel_rfl) (by kernel_rfl) (by kernel_rfl) (fun _ _ _ h => h.elim) (.inl ⟨by rfl, fun W hW => by go_simp⟩) hS ?_
  simp only [Act.put, List.setIfInBounds_toArray, List.set_cons_succ, List.set_cons_zero]
  refine anyH_take 5 (some 27) (.slice ia li ic) rfl rfl (by kernel_rfl) (by kernel_rfl) (by kernel_rfl) (fun _ _ _ h => h.elim) (.inl ⟨by rfl, fun W hW => by have hh : New w W := hW; have q := hh.cell c2 id; go_simp⟩) hS ?_
  simp only [Act.put, List.setIfInBounds_toArray, List.set_cons_succ, List.set_cons_zero]
  refine anyH_take 6 (some 28) (.int .i64 li) rfl rfl (by kernel_rfl) (by kernel_rfl) (by kernel_rfl) (fun _ _ _ h => h.elim) (.inl ⟨by rfl, fun W hW => by go_simp⟩) hS ?_
  simp only [Act.put, List.setIfInBounds_toArray, List.set_cons_succ, List.set_cons_zero]
  refine anyH_take 7 (some 29) (.int .i64 (n + li : Nat)) rfl rfl (by kernel_rfl) (by kernel_rfl) (by kernel_rfl) (fun _ _ _ h => h.elim) (.inl ⟨by rfl, fun W hW => by go_simp⟩) hS ?_
  simp only [Act.put, List.setIfInBounds_toArray, List.set_cons_succ, List.set_cons_zero]
  refine anyH_take 8 (some 30) (.slice (some ⟨b1, o1, none⟩) nd m1) rfl rfl (by kernel_rfl) (by kernel_rfl) (by kernel_rfl) (fun _ _ _ h => h.elim) (.inl ⟨by rfl, fun W hW => by go_simp⟩) hS ?_
  simp only [Act.put, List.setIfInBounds_toArray, List.set_cons_succ, List.set_cons_zero]
  refine anyH_take 9 (some 31) (.int .i64 i) rfl rfl (by kernel_rfl) (by kernel_rfl) (by kernel_rfl) (fun _ _ _ h => h.elim) (.inl ⟨by rfl, fun W hW => by go_simp⟩) hS ?_
  simp only [Act.put, List.setIfInBounds_toArray, List.set_cons_succ, List.set_cons_zero]
  refine anyH_take 10 (some 32) (.pointer (some ⟨b1, o1 + i * 4, none⟩)) rfl rfl (by kernel_rfl) (by kernel_rfl) (by kernel_rfl) (fun _ _ _ h => h.elim) (.inl ⟨by rfl, fun W hW => by go_simp⟩) hS ?_
  simp only [Act.put, List.setIfInBounds_toArray, List.set_cons_succ, List.set_cons_zero]
  refine anyH_take 11 (some 33) (.pointer (some ⟨b1, o1 + i * 4 + 3, none⟩)) rfl rfl (by kernel_rfl) (by kernel_rfl) (by kernel_rfl) (fun _ _ _ h => h.elim) (.inl ⟨by rfl, fun W hW => by go_simp⟩) hS ?_
  simp only [Act.put, List.setIfInBounds_toArray, List.set_cons_succ, List.set_cons_zero]
  refine anyH_take 12 (some 34) (.slice pa lp pc) rfl rfl (by kernel_rfl) (by kernel_rfl) (by kernel_rfl) (fun _ _ _ h => h.elim) (.inl ⟨by rfl, fun W hW => by have hh : New w W := hW; have q := hh.cell c3 id; go_simp⟩) hS ?_
  simp only [Act.put, List.setIfInBounds_toArray, List.set_cons_succ, List.set_cons_zero]
  refine anyH_take 13 (some 35) (.int .i64 lp) rfl rfl (by kernel_rfl) (by kernel_rfl) (by kernel_rfl) (fun _ _ _ h => h.elim) (.inl ⟨by rfl, fun W hW => by go_simp⟩) hS ?_
  simp only [Act.put, List.setIfInBounds_toArray, List.set_cons_succ, List.set_cons_zero]
  refine anyH_take 14 (some 36) (.int .i64 (n + li + lp : Nat)) rfl rfl (by kernel_rfl) (by kernel_rfl) (by kernel_rfl) (fun _ _ _ h => h.elim) (.inl ⟨by rfl, fun W hW => by go_simp⟩) hS ?_
  simp only [Act.put, List.setIfInBounds_toArray, List.set_cons_succ, List.set_cons_zero]
  refine anyH_take 15 (some 3) (.int .i64 (n + li + lp : Nat)) rfl rfl (by kernel_rfl) (by kernel_rfl) (by kernel_rfl) (fun _ _ _ h => h.elim) (.inl ⟨by rfl, fun W hW => by go_simp⟩) hS ?_
  simp only [Act.put, List.setIfInBounds_toArray, List.set_cons_succ, List.set_cons_zero]
  refine wpAnyH_done (by kernel_rfl) ?_ _
  exact ⟨(fun zz => ([.int .i64 n, .slice (some ⟨b1, o1, none⟩) nd m1, .int .i64 i, .pointer (some ⟨b1, o1 + i * 4, none⟩), .pointer (some ⟨b1, o1 + i * 4 + 2, none⟩), .slice ia li ic, .int .i64 li, .int .i64 (n + li : Nat), .slice (some ⟨b1, o1, none⟩) nd m1, .int .i64 i, .pointer (some ⟨b1, o1 + i * 4, none⟩), .pointer (some ⟨b1, o1 + i * 4 + 3, none⟩), .slice pa lp pc, .int .i64 lp, .int .i64 (n + li + lp : Nat)] : List Value).getD (cond (Nat.beq zz 22) 0 (cond (Nat.beq zz 23) 1 (cond (Nat.beq zz 24) 2 (cond (Nat.beq zz 25) 3 (cond (Nat.beq zz 26) 4 (cond (Nat.beq zz 27) 5 (cond (Nat.beq zz 28) 6 (cond (Nat.beq zz 29) 7 (cond (Nat.beq zz 30) 8 (cond (Nat.beq zz 31) 9 (cond (Nat.beq zz 32) 10 (cond (Nat.beq zz 33) 11 (cond (Nat.beq zz 34) 12 (cond (Nat.beq zz 35) 13 (cond (Nat.beq zz 36) 14 (0)))))))))))))))) undef), rfl, hN⟩
noncomputable def reg_causeyref13_Great_10 : Code := ((Tryz.f24.body.bind (regionOf 10)).getD .skip)
set_option maxHeartbeats 4000000 in
set_option maxRecDepth 100000 in
theorem great10 (t : Array Value) (hs : t.size = 151) (w : World) {b1 o1 nd m1 b i k b2 o2 lp pc : Nat} {s1 s2 : ByteArray}
    (hq0 : t.getD 0 undef = .slice (some ⟨b1, o1, none⟩) nd m1)
    (hq4 : t.getD 4 undef = .int .i64 b)
    (hq5 : t.getD 5 undef = .int .i64 i)
    (hq6 : t.getD 6 undef = .int .i64 k)
    (hin : i < nd) (hkl : k < lp) (hb : b ≤ 144115188075855872) (h1 : s1.size ≤ 140737488355328) (h2 : s2.size ≤ 140737488355328) (c3 : w.cell? ⟨b1, o1 + i * 4 + 3, none⟩ = some (.slice (some ⟨b2, o2, none⟩) lp pc)) (d0 : w.cell? ⟨b2, o2 + k * 5, none⟩ = some (.string s1)) (d3 : w.cell? ⟨b2, o2 + k * 5 + 3, none⟩ = some (.string s2)) :
    reg_causeyref13_Great_10.wp Tryz.prog (Only fun a' W' => ∃ z : Nat → Value, a' = ⟨(((((((((((((((((((((((((t).setIfInBounds 59 (z 59)).setIfInBounds 60 (z 60)).setIfInBounds 61 (z 61)).setIfInBounds 62 (z 62)).setIfInBounds 63 (z 63)).setIfInBounds 64 (z 64)).setIfInBounds 65 (z 65)).setIfInBounds 66 (z 66)).setIfInBounds 67 (z 67)).setIfInBounds 68 (z 68)).setIfInBounds 69 (z 69)).setIfInBounds 70 (z 70)).setIfInBounds 71 (z 71)).setIfInBounds 72 (z 72)).setIfInBounds 73 (z 73)).setIfInBounds 74 (z 74)).setIfInBounds 75 (z 75)).setIfInBounds 76 (z 76)).setIfInBounds 77 (z 77)).setIfInBounds 78 (z 78)).setIfInBounds 79 (z 79)).setIfInBounds 80 (z 80)).setIfInBounds 81 (z 81)).setIfInBounds 82 (z 82)).setIfInBounds 4 (.int .i64 (b + s1.size + s2.size : Nat)), []⟩ ∧ New w W') ⟨t, []⟩ w := by
  conv => arg 2; whnf
  obtain ⟨u, rfl⟩ := lit151 t hs
  have hq0 : u 0 = .slice (some ⟨b1, o1, none⟩) nd m1 := hq0
  have hq4 : u 4 = .int .i64 b := hq4
  have hq5 : u 5 = .int .i64 i := hq5
  have hq6 : u 6 = .int .i64 k := hq6
  rw [hq0, hq4, hq5, hq6]
  clear hq0 hq4 hq5 hq6 hs
  have hi1 : decide ((i : Int) < (nd : Int)) = true := decide_eq_true (by omega)
  have hk1 : decide ((k : Int) < (lp : Int)) = true := decide_eq_true (by omega)
  have hw0 : IntKind.i64.wrap ((b : Int) + (s1.size : Int)) = (b : Int) + (s1.size : Int) := by rw [IntKind.wrap_i64]; omega
  have hw1 : IntKind.i64.wrap ((b : Int) + (s1.size : Int) + (s2.size : Int)) = (b : Int) + (s1.size : Int) + (s2.size : Int) := by rw [IntKind.wrap_i64]; omega
  refine wp_region_held (S := fun W => New w W) (by kernel_rfl) ?_
  show wpAnyH _ _ _ _ _ 25 _ _ w.drew
  have hN : New w w.drew := (Mods.refl _ _).drew
  have hS : New w w.drew := (Mods.refl _ _).drew
  refine anyH_take 0 (some 59) (.int .i64 b) rfl rfl (by kernel_rfl) (by kernel_rfl) (by kernel_rfl) (fun _ _ _ h => h.elim) (.inl ⟨by rfl, fun W hW => by go_simp⟩) hS ?_
  simp only [Act.put, List.setIfInBounds_toArray, List.set_cons_succ, List.set_cons_zero]
  refine anyH_take 1 (some 60) (.slice (some ⟨b1, o1, none⟩) nd m1) rfl rfl (by kernel_rfl) (by kernel_rfl) (by kernel_rfl) (fun _ _ _ h => h.elim) (.inl ⟨by rfl, fun W hW => by go_simp⟩) hS ?_
  simp only [Act.put, List.setIfInBounds_toArray, List.set_cons_succ, List.set_cons_zero]
  refine anyH_take 2 (some 61) (.int .i64 i) rfl rfl (by kernel_rfl) (by kernel_rfl) (by kernel_rfl) (fun _ _ _ h => h.elim) (.inl ⟨by rfl, fun W hW => by go_simp⟩) hS ?_
  simp only [Act.put, List.setIfInBounds_toArray, List.set_cons_succ, List.set_cons_zero]
  refine anyH_take 3 (some 62) (.pointer (some ⟨b1, o1 + i * 4, none⟩)) rfl rfl (by kernel_rfl) (by kernel_rfl) (by kernel_rfl) (fun _ _ _ h => h.elim) (.inl ⟨by rfl, fun W hW => by go_simp⟩) hS ?_
  simp only [Act.put, List.setIfInBounds_toArray, List.set_cons_succ, List.set_cons_zero]
  refine anyH_take 4 (some 63) (.pointer (some ⟨b1, o1 + i * 4 + 3, none⟩)) rfl rfl (by kernel_rfl) (by kernel_rfl) (by kernel_rfl) (fun _ _ _ h => h.elim) (.inl ⟨by rfl, fun W hW => by go_simp⟩) hS ?_
  simp only [Act.put, List.setIfInBounds_toArray, List.set_cons_succ, List.set_cons_zero]
  refine anyH_take 5 (some 64) (.slice (some ⟨b2, o2, none⟩) lp pc) rfl rfl (by kernel_rfl) (by kernel_rfl) (by kernel_rfl) (fun _ _ _ h => h.elim) (.inl ⟨by rfl, fun W hW => by have hh : New w W := hW; have q := hh.cell c3 id; go_simp⟩) hS ?_
  simp only [Act.put, List.setIfInBounds_toArray, List.set_cons_succ, List.set_cons_zero]
  refine anyH_take 6 (some 65) (.int .i64 k) rfl rfl (by kernel_rfl) (by kernel_rfl) (by kernel_rfl) (fun _ _ _ h => h.elim) (.inl ⟨by rfl, fun W hW => by go_simp⟩) hS ?_
  simp only [Act.put, List.setIfInBounds_toArray, List.set_cons_succ, List.set_cons_zero]
  refine anyH_take 7 (some 66) (.pointer (some ⟨b2, o2 + k * 5, none⟩)) rfl rfl (by kernel_rfl) (by kernel_rfl) (by kernel_rfl) (fun _ _ _ h => h.elim) (.inl ⟨by rfl, fun W hW => by go_simp⟩) hS ?_
  simp only [Act.put, List.setIfInBounds_toArray, List.set_cons_succ, List.set_cons_zero]
  refine anyH_take 8 (some 67) (.pointer (some ⟨b2, o2 + k * 5, none⟩)) rfl rfl (by kernel_rfl) (by kernel_rfl) (by kernel_rfl) (fun _ _ _ h => h.elim) (.inl ⟨by rfl, fun W hW => by go_simp⟩) hS ?_
  simp only [Act.put, List.setIfInBounds_toArray, List.set_cons_succ, List.set_cons_zero]
  refine anyH_take 9 (some 68) (.string s1) rfl rfl (by kernel_rfl) (by kernel_rfl) (by kernel_rfl) (fun _ _ _ h => h.elim) (.inl ⟨by rfl, fun W hW => by have hh : New w W := hW; have q := hh.cell d0 id; go_simp⟩) hS ?_
  simp only [Act.put, List.setIfInBounds_toArray, List.set_cons_succ, List.set_cons_zero]
  refine anyH_take 10 (some 69) (.int .i64 s1.size) rfl rfl (by kernel_rfl) (by kernel_rfl) (by kernel_rfl) (fun _ _ _ h => h.elim) (.inl ⟨by rfl, fun W hW => by go_simp⟩) hS ?_
  simp only [Act.put, List.setIfInBounds_toArray, List.set_cons_succ, List.set_cons_zero]
  refine anyH_take 11 (some 70) (.int .i64 (b + s1.size : Nat)) rfl rfl (by kernel_rfl) (by kernel_rfl) (by kernel_rfl) (fun _ _ _ h => h.elim) (.inl ⟨by rfl, fun W hW => by go_simp⟩) hS ?_
  simp only [Act.put, List.setIfInBounds_toArray, List.set_cons_succ, List.set_cons_zero]
  refine anyH_take 12 (some 71) (.slice (some ⟨b1, o1, none⟩) nd m1) rfl rfl (by kernel_rfl) (by kernel_rfl) (by kernel_rfl) (fun _ _ _ h => h.elim) (.inl ⟨by rfl, fun W hW => by go_simp⟩) hS ?_
  simp only [Act.put, List.setIfInBounds_toArray, List.set_cons_succ, List.set_cons_zero]
  refine anyH_take 13 (some 72) (.int .i64 i) rfl rfl (by kernel_rfl) (by kernel_rfl) (by kernel_rfl) (fun _ _ _ h => h.elim) (.inl ⟨by rfl, fun W hW => by go_simp⟩) hS ?_
  simp only [Act.put, List.setIfInBounds_toArray, List.set_cons_succ, List.set_cons_zero]
  refine anyH_take 14 (some 73) (.pointer (some ⟨b1, o1 + i * 4, none⟩)) rfl rfl (by kernel_rfl) (by kernel_rfl) (by kernel_rfl) (fun _ _ _ h => h.elim) (.inl ⟨by rfl, fun W hW => by go_simp⟩) hS ?_
  simp only [Act.put, List.setIfInBounds_toArray, List.set_cons_succ, List.set_cons_zero]
  refine anyH_take 15 (some 74) (.pointer (some ⟨b1, o1 + i * 4 + 3, none⟩)) rfl rfl (by kernel_rfl) (by kernel_rfl) (by kernel_rfl) (fun _ _ _ h => h.elim) (.inl ⟨by rfl, fun W hW => by go_simp⟩) hS ?_
  simp only [Act.put, List.setIfInBounds_toArray, List.set_cons_succ, List.set_cons_zero]
  refine anyH_take 16 (some 75) (.slice (some ⟨b2, o2, none⟩) lp pc) rfl rfl (by kernel_rfl) (by kernel_rfl) (by kernel_rfl) (fun _ _ _ h => h.elim) (.inl ⟨by rfl, fun W hW => by have hh : New w W := hW; have q := hh.cell c3 id; go_simp⟩) hS ?_
  simp only [Act.put, List.setIfInBounds_toArray, List.set_cons_succ, List.set_cons_zero]
  refine anyH_take 17 (some 76) (.int .i64 k) rfl rfl (by kernel_rfl) (by kernel_rfl) (by kernel_rfl) (fun _ _ _ h => h.elim) (.inl ⟨by rfl, fun W hW => by go_simp⟩) hS ?_
  simp only [Act.put, List.setIfInBounds_toArray, List.set_cons_succ, List.set_cons_zero]
  refine anyH_take 18 (some 77) (.pointer (some ⟨b2, o2 + k * 5, none⟩)) rfl rfl (by kernel_rfl) (by kernel_rfl) (by kernel_rfl) (fun _ _ _ h => h.elim) (.inl ⟨by rfl, fun W hW => by go_simp⟩) hS ?_
  simp only [Act.put, List.setIfInBounds_toArray, List.set_cons_succ, List.set_cons_zero]
  refine anyH_take 19 (some 78) (.pointer (some ⟨b2, o2 + k * 5 + 1, none⟩)) rfl rfl (by kernel_rfl) (by kernel_rfl) (by kernel_rfl) (fun _ _ _ h => h.elim) (.inl ⟨by rfl, fun W hW => by go_simp⟩) hS ?_
  simp only [Act.put, List.setIfInBounds_toArray, List.set_cons_succ, List.set_cons_zero]
  refine anyH_take 20 (some 79) (.pointer (some ⟨b2, o2 + k * 5 + 3, none⟩)) rfl rfl (by kernel_rfl) (by kernel_rfl) (by kernel_rfl) (fun _ _ _ h => h.elim) (.inl ⟨by rfl, fun W hW => by go_simp⟩) hS ?_
  simp only [Act.put, List.setIfInBounds_toArray, List.set_cons_succ, List.set_cons_zero]
  refine anyH_take 21 (some 80) (.string s2) rfl rfl (by kernel_rfl) (by kernel_rfl) (by kernel_rfl) (fun _ _ _ h => h.elim) (.inl ⟨by rfl, fun W hW => by have hh : New w W := hW; have q := hh.cell d3 id; go_simp⟩) hS ?_
  simp only [Act.put, List.setIfInBounds_toArray, List.set_cons_succ, List.set_cons_zero]
  refine anyH_take 22 (some 81) (.int .i64 s2.size) rfl rfl (by kernel_rfl) (by kernel_rfl) (by kernel_rfl) (fun _ _ _ h => h.elim) (.inl ⟨by rfl, fun W hW => by go_simp⟩) hS ?_
  simp only [Act.put, List.setIfInBounds_toArray, List.set_cons_succ, List.set_cons_zero]
  refine anyH_take 23 (some 82) (.int .i64 (b + s1.size + s2.size : Nat)) rfl rfl (by kernel_rfl) (by kernel_rfl) (by kernel_rfl) (fun _ _ _ h => h.elim) (.inl ⟨by rfl, fun W hW => by go_simp⟩) hS ?_
  simp only [Act.put, List.setIfInBounds_toArray, List.set_cons_succ, List.set_cons_zero]
  refine anyH_take 24 (some 4) (.int .i64 (b + s1.size + s2.size : Nat)) rfl rfl (by kernel_rfl) (by kernel_rfl) (by kernel_rfl) (fun _ _ _ h => h.elim) (.inl ⟨by rfl, fun W hW => by go_simp⟩) hS ?_
  simp only [Act.put, List.setIfInBounds_toArray, List.set_cons_succ, List.set_cons_zero]
  refine wpAnyH_done (by kernel_rfl) ?_ _
  exact ⟨(fun zz => ([.int .i64 b, .slice (some ⟨b1, o1, none⟩) nd m1, .int .i64 i, .pointer (some ⟨b1, o1 + i * 4, none⟩), .pointer (some ⟨b1, o1 + i * 4 + 3, none⟩), .slice (some ⟨b2, o2, none⟩) lp pc, .int .i64 k, .pointer (some ⟨b2, o2 + k * 5, none⟩), .pointer (some ⟨b2, o2 + k * 5, none⟩), .string s1, .int .i64 s1.size, .int .i64 (b + s1.size : Nat), .slice (some ⟨b1, o1, none⟩) nd m1, .int .i64 i, .pointer (some ⟨b1, o1 + i * 4, none⟩), .pointer (some ⟨b1, o1 + i * 4 + 3, none⟩), .slice (some ⟨b2, o2, none⟩) lp pc, .int .i64 k, .pointer (some ⟨b2, o2 + k * 5, none⟩), .pointer (some ⟨b2, o2 + k * 5 + 1, none⟩), .pointer (some ⟨b2, o2 + k * 5 + 3, none⟩), .string s2, .int .i64 s2.size, .int .i64 (b + s1.size + s2.size : Nat)] : List Value).getD (cond (Nat.beq zz 59) 0 (cond (Nat.beq zz 60) 1 (cond (Nat.beq zz 61) 2 (cond (Nat.beq zz 62) 3 (cond (Nat.beq zz 63) 4 (cond (Nat.beq zz 64) 5 (cond (Nat.beq zz 65) 6 (cond (Nat.beq zz 66) 7 (cond (Nat.beq zz 67) 8 (cond (Nat.beq zz 68) 9 (cond (Nat.beq zz 69) 10 (cond (Nat.beq zz 70) 11 (cond (Nat.beq zz 71) 12 (cond (Nat.beq zz 72) 13 (cond (Nat.beq zz 73) 14 (cond (Nat.beq zz 74) 15 (cond (Nat.beq zz 75) 16 (cond (Nat.beq zz 76) 17 (cond (Nat.beq zz 77) 18 (cond (Nat.beq zz 78) 19 (cond (Nat.beq zz 79) 20 (cond (Nat.beq zz 80) 21 (cond (Nat.beq zz 81) 22 (cond (Nat.beq zz 82) 23 (0))))))))))))))))))))))))) undef), rfl, hN⟩
noncomputable def reg_causeyref13_Great_20 : Code := ((Tryz.f24.body.bind (regionOf 20)).getD .skip)
set_option maxHeartbeats 4000000 in
set_option maxRecDepth 100000 in
theorem great20 (t : Array Value) (hs : t.size = 151) (w : World) {B b k b2 o2 lp pc : Nat} {s1 s2 : ByteArray}
    (hq4 : t.getD 4 undef = .int .i64 b)
    (hq8 : t.getD 8 undef = .pointer (some ⟨B, 0, none⟩))
    (hq9 : t.getD 9 undef = .int .i64 k)
    (hkl : k < lp) (hb : b ≤ 144115188075855872) (h1 : s1.size ≤ 140737488355328) (h2 : s2.size ≤ 140737488355328) (c4 : w.cell? ⟨B, 4, none⟩ = some (.slice (some ⟨b2, o2, none⟩) lp pc)) (d0 : w.cell? ⟨b2, o2 + k * 5, none⟩ = some (.string s1)) (d3 : w.cell? ⟨b2, o2 + k * 5 + 3, none⟩ = some (.string s2)) :
    reg_causeyref13_Great_20.wp Tryz.prog (Only fun a' W' => ∃ z : Nat → Value, a' = ⟨(((((((((((((((((((t).setIfInBounds 127 (z 127)).setIfInBounds 128 (z 128)).setIfInBounds 129 (z 129)).setIfInBounds 130 (z 130)).setIfInBounds 131 (z 131)).setIfInBounds 132 (z 132)).setIfInBounds 133 (z 133)).setIfInBounds 134 (z 134)).setIfInBounds 135 (z 135)).setIfInBounds 136 (z 136)).setIfInBounds 137 (z 137)).setIfInBounds 138 (z 138)).setIfInBounds 139 (z 139)).setIfInBounds 140 (z 140)).setIfInBounds 141 (z 141)).setIfInBounds 142 (z 142)).setIfInBounds 143 (z 143)).setIfInBounds 144 (z 144)).setIfInBounds 4 (.int .i64 (b + s1.size + s2.size : Nat)), []⟩ ∧ New w W') ⟨t, []⟩ w := by
  conv => arg 2; whnf
  obtain ⟨u, rfl⟩ := lit151 t hs
  have hq4 : u 4 = .int .i64 b := hq4
  have hq8 : u 8 = .pointer (some ⟨B, 0, none⟩) := hq8
  have hq9 : u 9 = .int .i64 k := hq9
  rw [hq4, hq8, hq9]
  clear hq4 hq8 hq9 hs
  have hk1 : decide ((k : Int) < (lp : Int)) = true := decide_eq_true (by omega)
  have hw0 : IntKind.i64.wrap ((b : Int) + (s1.size : Int)) = (b : Int) + (s1.size : Int) := by rw [IntKind.wrap_i64]; omega
  have hw1 : IntKind.i64.wrap ((b : Int) + (s1.size : Int) + (s2.size : Int)) = (b : Int) + (s1.size : Int) + (s2.size : Int) := by rw [IntKind.wrap_i64]; omega
  refine wp_region_held (S := fun W => New w W) (by kernel_rfl) ?_
  show wpAnyH _ _ _ _ _ 19 _ _ w.drew
  have hN : New w w.drew := (Mods.refl _ _).drew
  have hS : New w w.drew := (Mods.refl _ _).drew
  refine anyH_take 0 (some 127) (.int .i64 b) rfl rfl (by kernel_rfl) (by kernel_rfl) (by kernel_rfl) (fun _ _ _ h => h.elim) (.inl ⟨by rfl, fun W hW => by go_simp⟩) hS ?_
  simp only [Act.put, List.setIfInBounds_toArray, List.set_cons_succ, List.set_cons_zero]
  refine anyH_take 1 (some 128) (.pointer (some ⟨B, 4, none⟩)) rfl rfl (by kernel_rfl) (by kernel_rfl) (by kernel_rfl) (fun _ _ _ h => h.elim) (.inl ⟨by rfl, fun W hW => by go_simp⟩) hS ?_
  simp only [Act.put, List.setIfInBounds_toArray, List.set_cons_succ, List.set_cons_zero]
  refine anyH_take 2 (some 129) (.slice (some ⟨b2, o2, none⟩) lp pc) rfl rfl (by kernel_rfl) (by kernel_rfl) (by kernel_rfl) (fun _ _ _ h => h.elim) (.inl ⟨by rfl, fun W hW => by have hh : New w W := hW; have q := hh.cell c4 id; go_simp⟩) hS ?_
  simp only [Act.put, List.setIfInBounds_toArray, List.set_cons_succ, List.set_cons_zero]
  refine anyH_take 3 (some 130) (.int .i64 k) rfl rfl (by kernel_rfl) (by kernel_rfl) (by kernel_rfl) (fun _ _ _ h => h.elim) (.inl ⟨by rfl, fun W hW => by go_simp⟩) hS ?_
  simp only [Act.put, List.setIfInBounds_toArray, List.set_cons_succ, List.set_cons_zero]
  refine anyH_take 4 (some 131) (.pointer (some ⟨b2, o2 + k * 5, none⟩)) rfl rfl (by kernel_rfl) (by kernel_rfl) (by kernel_rfl) (fun _ _ _ h => h.elim) (.inl ⟨by rfl, fun W hW => by go_simp⟩) hS ?_
  simp only [Act.put, List.setIfInBounds_toArray, List.set_cons_succ, List.set_cons_zero]
  refine anyH_take 5 (some 132) (.pointer (some ⟨b2, o2 + k * 5, none⟩)) rfl rfl (by kernel_rfl) (by kernel_rfl) (by kernel_rfl) (fun _ _ _ h => h.elim) (.inl ⟨by rfl, fun W hW => by go_simp⟩) hS ?_
  simp only [Act.put, List.setIfInBounds_toArray, List.set_cons_succ, List.set_cons_zero]
  refine anyH_take 6 (some 133) (.string s1) rfl rfl (by kernel_rfl) (by kernel_rfl) (by kernel_rfl) (fun _ _ _ h => h.elim) (.inl ⟨by rfl, fun W hW => by have hh : New w W := hW; have q := hh.cell d0 id; go_simp⟩) hS ?_
  simp only [Act.put, List.setIfInBounds_toArray, List.set_cons_succ, List.set_cons_zero]
  refine anyH_take 7 (some 134) (.int .i64 s1.size) rfl rfl (by kernel_rfl) (by kernel_rfl) (by kernel_rfl) (fun _ _ _ h => h.elim) (.inl ⟨by rfl, fun W hW => by go_simp⟩) hS ?_
  simp only [Act.put, List.setIfInBounds_toArray, List.set_cons_succ, List.set_cons_zero]
  refine anyH_take 8 (some 135) (.int .i64 (b + s1.size : Nat)) rfl rfl (by kernel_rfl) (by kernel_rfl) (by kernel_rfl) (fun _ _ _ h => h.elim) (.inl ⟨by rfl, fun W hW => by go_simp⟩) hS ?_
  simp only [Act.put, List.setIfInBounds_toArray, List.set_cons_succ, List.set_cons_zero]
  refine anyH_take 9 (some 136) (.pointer (some ⟨B, 4, none⟩)) rfl rfl (by kernel_rfl) (by kernel_rfl) (by kernel_rfl) (fun _ _ _ h => h.elim) (.inl ⟨by rfl, fun W hW => by go_simp⟩) hS ?_
  simp only [Act.put, List.setIfInBounds_toArray, List.set_cons_succ, List.set_cons_zero]
  refine anyH_take 10 (some 137) (.slice (some ⟨b2, o2, none⟩) lp pc) rfl rfl (by kernel_rfl) (by kernel_rfl) (by kernel_rfl) (fun _ _ _ h => h.elim) (.inl ⟨by rfl, fun W hW => by have hh : New w W := hW; have q := hh.cell c4 id; go_simp⟩) hS ?_
  simp only [Act.put, List.setIfInBounds_toArray, List.set_cons_succ, List.set_cons_zero]
  refine anyH_take 11 (some 138) (.int .i64 k) rfl rfl (by kernel_rfl) (by kernel_rfl) (by kernel_rfl) (fun _ _ _ h => h.elim) (.inl ⟨by rfl, fun W hW => by go_simp⟩) hS ?_
  simp only [Act.put, List.setIfInBounds_toArray, List.set_cons_succ, List.set_cons_zero]
  refine anyH_take 12 (some 139) (.pointer (some ⟨b2, o2 + k * 5, none⟩)) rfl rfl (by kernel_rfl) (by kernel_rfl) (by kernel_rfl) (fun _ _ _ h => h.elim) (.inl ⟨by rfl, fun W hW => by go_simp⟩) hS ?_
  simp only [Act.put, List.setIfInBounds_toArray, List.set_cons_succ, List.set_cons_zero]
  refine anyH_take 13 (some 140) (.pointer (some ⟨b2, o2 + k * 5 + 1, none⟩)) rfl rfl (by kernel_rfl) (by kernel_rfl) (by kernel_rfl) (fun _ _ _ h => h.elim) (.inl ⟨by rfl, fun W hW => by go_simp⟩) hS ?_
  simp only [Act.put, List.setIfInBounds_toArray, List.set_cons_succ, List.set_cons_zero]
  refine anyH_take 14 (some 141) (.pointer (some ⟨b2, o2 + k * 5 + 3, none⟩)) rfl rfl (by kernel_rfl) (by kernel_rfl) (by kernel_rfl) (fun _ _ _ h => h.elim) (.inl ⟨by rfl, fun W hW => by go_simp⟩) hS ?_
  simp only [Act.put, List.setIfInBounds_toArray, List.set_cons_succ, List.set_cons_zero]
  refine anyH_take 15 (some 142) (.string s2) rfl rfl (by kernel_rfl) (by kernel_rfl) (by kernel_rfl) (fun _ _ _ h => h.elim) (.inl ⟨by rfl, fun W hW => by have hh : New w W := hW; have q := hh.cell d3 id; go_simp⟩) hS ?_
  simp only [Act.put, List.setIfInBounds_toArray, List.set_cons_succ, List.set_cons_zero]
  refine anyH_take 16 (some 143) (.int .i64 s2.size) rfl rfl (by kernel_rfl) (by kernel_rfl) (by kernel_rfl) (fun _ _ _ h => h.elim) (.inl ⟨by rfl, fun W hW => by go_simp⟩) hS ?_
  simp only [Act.put, List.setIfInBounds_toArray, List.set_cons_succ, List.set_cons_zero]
  refine anyH_take 17 (some 144) (.int .i64 (b + s1.size + s2.size : Nat)) rfl rfl (by kernel_rfl) (by kernel_rfl) (by kernel_rfl) (fun _ _ _ h => h.elim) (.inl ⟨by rfl, fun W hW => by go_simp⟩) hS ?_
  simp only [Act.put, List.setIfInBounds_toArray, List.set_cons_succ, List.set_cons_zero]
  refine anyH_take 18 (some 4) (.int .i64 (b + s1.size + s2.size : Nat)) rfl rfl (by kernel_rfl) (by kernel_rfl) (by kernel_rfl) (fun _ _ _ h => h.elim) (.inl ⟨by rfl, fun W hW => by go_simp⟩) hS ?_
  simp only [Act.put, List.setIfInBounds_toArray, List.set_cons_succ, List.set_cons_zero]
  refine wpAnyH_done (by kernel_rfl) ?_ _
  exact ⟨(fun zz => ([.int .i64 b, .pointer (some ⟨B, 4, none⟩), .slice (some ⟨b2, o2, none⟩) lp pc, .int .i64 k, .pointer (some ⟨b2, o2 + k * 5, none⟩), .pointer (some ⟨b2, o2 + k * 5, none⟩), .string s1, .int .i64 s1.size, .int .i64 (b + s1.size : Nat), .pointer (some ⟨B, 4, none⟩), .slice (some ⟨b2, o2, none⟩) lp pc, .int .i64 k, .pointer (some ⟨b2, o2 + k * 5, none⟩), .pointer (some ⟨b2, o2 + k * 5 + 1, none⟩), .pointer (some ⟨b2, o2 + k * 5 + 3, none⟩), .string s2, .int .i64 s2.size, .int .i64 (b + s1.size + s2.size : Nat)] : List Value).getD (cond (Nat.beq zz 127) 0 (cond (Nat.beq zz 128) 1 (cond (Nat.beq zz 129) 2 (cond (Nat.beq zz 130) 3 (cond (Nat.beq zz 131) 4 (cond (Nat.beq zz 132) 5 (cond (Nat.beq zz 133) 6 (cond (Nat.beq zz 134) 7 (cond (Nat.beq zz 135) 8 (cond (Nat.beq zz 136) 9 (cond (Nat.beq zz 137) 10 (cond (Nat.beq zz 138) 11 (cond (Nat.beq zz 139) 12 (cond (Nat.beq zz 140) 13 (cond (Nat.beq zz 141) 14 (cond (Nat.beq zz 142) 15 (cond (Nat.beq zz 143) 16 (cond (Nat.beq zz 144) 17 (0))))))))))))))))))) undef), rfl, hN⟩
end Go.Proofs.YtkiiameibdhdfaaGreatDoor
