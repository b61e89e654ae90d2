/- The handler's wakes: the great conjunction. -/
import Derived.Test.YtkjghojdfjhhkaaDoorM30
import Derived.Test.YtkjghojdfjhhkaaDoorM23
import Derived.Test.YtkjghojdfjhhkaaDoorM27
set_option linter.unusedSimpArgs false
set_option linter.unusedVariables false
namespace Go.Proofs.YtkjghojdfjhhkaaDoor
open Go.RowKit Go.Shelf Go.Cs
attribute [local go_sem] Oper.semAt_some
set_option linter.unusedVariables false
set_option linter.unusedSimpArgs false
theorem lit220 (t : Array Value) (h : t.size = 220) : ∃ u : Nat → Value, t = (u 0 :: u 1 :: u 2 :: u 3 :: u 4 :: u 5 :: u 6 :: u 7 :: u 8 :: u 9 :: u 10 :: u 11 :: u 12 :: u 13 :: u 14 :: u 15 :: u 16 :: u 17 :: u 18 :: u 19 :: u 20 :: u 21 :: u 22 :: u 23 :: u 24 :: u 25 :: u 26 :: u 27 :: u 28 :: u 29 :: u 30 :: u 31 :: u 32 :: u 33 :: u 34 :: u 35 :: u 36 :: u 37 :: u 38 :: u 39 :: u 40 :: u 41 :: u 42 :: u 43 :: u 44 :: u 45 :: u 46 :: u 47 :: u 48 :: u 49 :: u 50 :: u 51 :: u 52 :: u 53 :: u 54 :: u 55 :: u 56 :: u 57 :: u 58 :: u 59 :: u 60 :: u 61 :: u 62 :: u 63 :: u 64 :: u 65 :: u 66 :: u 67 :: u 68 :: u 69 :: u 70 :: u 71 :: u 72 :: u 73 :: u 74 :: u 75 :: u 76 :: u 77 :: u 78 :: u 79 :: u 80 :: u 81 :: u 82 :: u 83 :: u 84 :: u 85 :: u 86 :: u 87 :: u 88 :: u 89 :: u 90 :: u 91 :: u 92 :: u 93 :: u 94 :: u 95 :: u 96 :: u 97 :: u 98 :: u 99 :: u 100 :: u 101 :: u 102 :: u 103 :: u 104 :: u 105 :: u 106 :: u 107 :: u 108 :: u 109 :: u 110 :: u 111 :: u 112 :: u 113 :: u 114 :: u 115 :: u 116 :: u 117 :: u 118 :: u 119 :: u 120 :: u 121 :: u 122 :: u 123 :: u 124 :: u 125 :: u 126 :: u 127 :: u 128 :: u 129 :: u 130 :: u 131 :: u 132 :: u 133 :: u 134 :: u 135 :: u 136 :: u 137 :: u 138 :: u 139 :: u 140 :: u 141 :: u 142 :: u 143 :: u 144 :: u 145 :: u 146 :: u 147 :: u 148 :: u 149 :: u 150 :: u 151 :: u 152 :: u 153 :: u 154 :: u 155 :: u 156 :: u 157 :: u 158 :: u 159 :: u 160 :: u 161 :: u 162 :: u 163 :: u 164 :: u 165 :: u 166 :: u 167 :: u 168 :: u 169 :: u 170 :: u 171 :: u 172 :: u 173 :: u 174 :: u 175 :: u 176 :: u 177 :: u 178 :: u 179 :: u 180 :: u 181 :: u 182 :: u 183 :: u 184 :: u 185 :: u 186 :: u 187 :: u 188 :: u 189 :: u 190 :: u 191 :: u 192 :: u 193 :: u 194 :: u 195 :: u 196 :: u 197 :: u 198 :: u 199 :: u 200 :: u 201 :: u 202 :: u 203 :: u 204 :: u 205 :: u 206 :: u 207 :: u 208 :: u 209 :: u 210 :: u 211 :: u 212 :: u 213 :: u 214 :: u 215 :: u 216 :: u 217 :: u 218 :: u 219 :: ([] : List Value)).toArray := ⟨fun i => t.getD i undef, range_lit t 220 h⟩
theorem in8_of {l : List Int} (h : l.all (fun x => decide (0 ≤ x) && decide (x ≤ 255)) = true) : In8 l := fun x hx => by
  have := List.all_eq_true.1 h x hx
  simpa using this
noncomputable def reg14_15 : Code := ((Tryd.f14.body.bind (regionOf 15)).getD .skip)
set_option maxHeartbeats 8000000 in
set_option maxRecDepth 100000 in
theorem chain14 (t : Array Value) (hs : t.size = 220) (w : World) {Bs Ba Bc Bd Bo Br lc : Nat} {la : Option Addr} {xv yv : Value}
    (hq1 : t.getD 1 undef = .pointer (some ⟨Bs, 0, none⟩))
    (hq3 : t.getD 3 undef = .int .i64 270)
    (hq4 : t.getD 4 undef = .pointer (some ⟨Ba, 0, none⟩))
    (hq5 : t.getD 5 undef = .slice la 1 lc)
    (hq6 : t.getD 6 undef = .int .i64 0)
    (hq9 : t.getD 9 undef = .int .i64 270)
    (hq12 : t.getD 12 undef = .int .i64 2)
    (hq14 : t.getD 14 undef = .int .i64 0)
    (hq15 : t.getD 15 undef = .pointer (some ⟨Bc, 0, none⟩))
    (hq16 : t.getD 16 undef = .int .i64 0)
    (hq18 : t.getD 18 undef = .int .i64 270)
    (hq19 : t.getD 19 undef = .pointer (some ⟨Bd, 0, none⟩))
    (hq20 : t.getD 20 undef = xv)
    (hq21 : t.getD 21 undef = .bool false)
    (hq22 : t.getD 22 undef = .bool true)
    (hq23 : t.getD 23 undef = .bool false)
    (hq24 : t.getD 24 undef = .pointer (some ⟨Bo, 0, none⟩))
    (hq25 : t.getD 25 undef = yv)
    (hq26 : t.getD 26 undef = .bool true)
    (hq27 : t.getD 27 undef = .bool true)
    (hq28 : t.getD 28 undef = .pointer (some ⟨Br, 0, none⟩))
    (hq29 : t.getD 29 undef = .int .i64 0)
    (hq31 : t.getD 31 undef = .int .i64 270)
    (VS : Va w Bs kS) (VA : Va w Ba kA) (VC : Va w Bc kC) (VD : Va w Bd kD) (VO : Va w Bo kO) (VR : Va w Br kR) (hx : RdB w xv [104, 101, 108]) (hy : RdB w yv [108, 111]) :
    reg14_15.wp Tryd.prog (Only fun a' W' => (a'.tmps.size = 220 ∧ a'.defers = [] ∧ a'.tmps.getD 0 undef = .bool true) ∧ New w W') ⟨t, []⟩ w := by
  conv => arg 2; whnf
  obtain ⟨u, rfl⟩ := lit220 t hs
  have hq1 : u 1 = .pointer (some ⟨Bs, 0, none⟩) := hq1
  have hq3 : u 3 = .int .i64 270 := hq3
  have hq4 : u 4 = .pointer (some ⟨Ba, 0, none⟩) := hq4
  have hq5 : u 5 = .slice la 1 lc := hq5
  have hq6 : u 6 = .int .i64 0 := hq6
  have hq9 : u 9 = .int .i64 270 := hq9
  have hq12 : u 12 = .int .i64 2 := hq12
  have hq14 : u 14 = .int .i64 0 := hq14
  have hq15 : u 15 = .pointer (some ⟨Bc, 0, none⟩) := hq15
  have hq16 : u 16 = .int .i64 0 := hq16
  have hq18 : u 18 = .int .i64 270 := hq18
  have hq19 : u 19 = .pointer (some ⟨Bd, 0, none⟩) := hq19
  have hq20 : u 20 = xv := hq20
  have hq21 : u 21 = .bool false := hq21
  have hq22 : u 22 = .bool true := hq22
  have hq23 : u 23 = .bool false := hq23
  have hq24 : u 24 = .pointer (some ⟨Bo, 0, none⟩) := hq24
  have hq25 : u 25 = yv := hq25
  have hq26 : u 26 = .bool true := hq26
  have hq27 : u 27 = .bool true := hq27
  have hq28 : u 28 = .pointer (some ⟨Br, 0, none⟩) := hq28
  have hq29 : u 29 = .int .i64 0 := hq29
  have hq31 : u 31 = .int .i64 270 := hq31
  rw [hq1, hq3, hq4, hq5, hq6, hq9, hq12, hq14, hq15, hq16, hq18, hq19, hq20, hq21, hq22, hq23, hq24, hq25, hq26, hq27, hq28, hq29, hq31]
  clear hq1 hq3 hq4 hq5 hq6 hq9 hq12 hq14 hq15 hq16 hq18 hq19 hq20 hq21 hq22 hq23 hq24 hq25 hq26 hq27 hq28 hq29 hq31 hs
  obtain ⟨ovs, rs, Rs⟩ := VS
  obtain ⟨ova, ra, Ra⟩ := VA
  obtain ⟨ovc, rc, Rc⟩ := VC
  obtain ⟨ovd, rd, Rd⟩ := VD
  obtain ⟨ovo, ro, Ro⟩ := VO
  obtain ⟨ovr, rr, Rr⟩ := VR
  obtain ⟨xa, xc, rfl⟩ := hx.slice
  obtain ⟨ya, yc, rfl⟩ := hy.slice
  rw [show ([104, 101, 108] : List Int).length = 3 from rfl] at hx ⊢
  rw [show ([108, 111] : List Int).length = 2 from rfl] at hy ⊢
  have ka5 : w.cell? ⟨Ba, 5, none⟩ = some (.bool true) := cell_of_row _ _ 5 _ _ _ ra
  have ko1' : w.cell? ⟨Bo, 1, none⟩ = some (.int .u8 3) := cell_of_row _ _ 1 _ _ _ ro
  have ko2' : w.cell? ⟨Bo, 2, none⟩ = some (.int .i64 7) := cell_of_row _ _ 2 _ _ _ ro
  have kr1' : w.cell? ⟨Br, 1, none⟩ = some (.int .u8 5) := cell_of_row _ _ 1 _ _ _ rr
  have sx : ∀ W, New w W → (convert 22 9 (.slice xa 3 xc)).run Tryd.prog W = .ok (.string ⟨#[104, 101, 108]⟩) W := fun W hN => (hx.new hN).str
  have sy : ∀ W, New w W → (convert 22 9 (.slice ya 2 yc)).run Tryd.prog W = .ok (.string ⟨#[108, 111]⟩) W := fun W hN => (hy.new hN).str
  have inC : In8 kC.out := in8_of (by decide)
  have inD : In8 kD.out := in8_of (by decide)
  have c1 : Hid (∀ W, New w W → Calls Tryd.prog 29 #[.agg (St.cs kO ovo).toArray, .int .i64 99] W fun e w' => e = .returned (.bool false) ∧ New W w') := Lib.hid fun W hN => by have := send_S _ kO 99 W ⟨_, rfl, (Ro.new hN).reads⟩ ⟨by decide, by decide⟩ ⟨by decide, by decide⟩; rw [ks2] at this; exact this
  have c2 : Hid (∀ W, New w W → Calls Tryd.prog 29 #[.agg (St.cs kC ovc).toArray, .int .i64 1] W fun e w' => e = .returned (.bool true) ∧ New W w') := Lib.hid fun W hN => by have := send_S _ kC 1 W ⟨_, rfl, (Rc.new hN).reads⟩ ⟨by decide, by decide⟩ ⟨by decide, by decide⟩; rw [ks3] at this; exact this
  have c3 : Hid (∀ W, New w W → Calls Tryd.prog 29 #[.agg (St.cs kC ovc).toArray, .int .i64 0] W fun e w' => e = .returned (.bool false) ∧ New W w') := Lib.hid fun W hN => by have := send_S _ kC 0 W ⟨_, rfl, (Rc.new hN).reads⟩ ⟨by decide, by decide⟩ ⟨by decide, by decide⟩; rw [ks4] at this; exact this
  have c4 : Hid (∀ W, New w W → Calls Tryd.prog 27 #[.agg (St.cs kS ovs).toArray] W fun e w' => e = .returned (.bool true) ∧ New W w') := Lib.hid fun W hN => by have := ours_any kS ovs W; rw [ko1] at this; exact this
  have c5 : Hid (∀ W, New w W → Calls Tryd.prog 27 #[.agg (St.cs kO ovo).toArray] W fun e w' => e = .returned (.bool false) ∧ New W w') := Lib.hid fun W hN => by have := ours_any kO ovo W; rw [ko2] at this; exact this
  have c6 : Hid (∀ W, New w W → Calls Tryd.prog 32 #[.agg (St.cs kC ovc).toArray] W fun e w' => ∃ v', e = .returned v' ∧ OwS W.heap.size w' v' kC ∧ New W w') := Lib.hid fun W hN => own_S _ kC W ⟨_, rfl, (Rc.new hN).reads⟩ (by decide)
  have c7 : Hid (∀ W, New w W → Calls Tryd.prog 31 #[.agg (St.cs kC ovc).toArray, .agg (St.cs kD ovd).toArray] W fun e w' => e = .returned (.bool false) ∧ New W w') := Lib.hid fun W hN => by have := same_S _ _ kC kD W ⟨_, rfl, (Rc.new hN).reads⟩ ⟨_, rfl, (Rd.new hN).reads⟩ inC inD; rw [kcd] at this; exact this
  clear hx hy Rs Ra Rd Ro Rr
  have hS : New w w.drew := (Mods.refl _ _).drew
  have ka5 := hS.cell ka5 id
  have ko1' := hS.cell ko1' id
  have ko2' := hS.cell ko2' id
  refine line_upto 109 12 (by kernel_rfl) (by kernel_rfl) (by kernel_rfl) ?_
  intro Q' hQ'
  show wpList _ _ _ _ _ w.drew
  obtain ⟨Wd, hWd⟩ : ∃ V, w.drew = V := ⟨_, rfl⟩
  rw [hWd] at hS ka5 ko1' ko2' ⊢
  clear hWd
  have HQ := Lib.hid hQ'
  clear hQ'
  simp only [List.append, List.take_succ_cons, List.take_zero]
  have sx1 := sx _ hS
  have sy1 := sy _ hS
  go_wp2_with (refine op_value_g rfl (run_load_row 24 (.tmp 24) rfl Bo rfl 24 _ (0, 0) _ (hS.heap ro id) Tryd.underlying24 rfl info24) ?_)
  refine (c1.out _ hS).mono ?_
  rintro e w74 ⟨rfl, hk⟩
  have hS := hS.trans hk
  clear hk
  go_wp2_with (refine op_value_g rfl (run_load_row 24 (.tmp 15) rfl Bc rfl 24 _ (0, 0) _ (hS.heap rc id) Tryd.underlying24 rfl info24) ?_)
  refine (c2.out _ hS).mono ?_
  rintro e w79 ⟨rfl, hk⟩
  have hS := hS.trans hk
  clear hk
  go_wp2_with (refine op_value_g rfl (run_load_row 24 (.tmp 15) rfl Bc rfl 24 _ (0, 0) _ (hS.heap rc id) Tryd.underlying24 rfl info24) ?_)
  refine (c3.out _ hS).mono ?_
  rintro e w83 ⟨rfl, hk⟩
  have hS := hS.trans hk
  clear hk
  have kr1' := hS.cell kr1' id
  go_wp2_with (refine op_value_g rfl (run_load_row 24 (.tmp 1) rfl Bs rfl 24 _ (0, 0) _ (hS.heap rs id) Tryd.underlying24 rfl info24) ?_)
  refine (c4.out _ hS).mono ?_
  rintro e w101 ⟨rfl, hk⟩
  have hS := hS.trans hk
  clear hk
  go_wp2_with (refine op_value_g rfl (run_load_row 24 (.tmp 24) rfl Bo rfl 24 _ (0, 0) _ (hS.heap ro id) Tryd.underlying24 rfl info24) ?_)
  refine (c5.out _ hS).mono ?_
  rintro e w105 ⟨rfl, hk⟩
  have hS := hS.trans hk
  clear hk
  go_wp2_with fail
  rw [HQ.out]
  clear HQ
  show wpAny _ _ _ _ _ _ _ w105
  have hS : New w w105 := hS
  refine wpAny_of_held (S := fun W => New w W) _ _ _ _ ?_
  show wpAnyH _ _ _ _ _ 12 _ _ w105
  refine anyH_take 109 (some 209) (.agg (St.cs kC ovc).toArray) rfl rfl (by kernel_rfl) (by kernel_rfl) (by kernel_rfl) (fun _ _ _ h => h.elim) (.inl ⟨by rfl, fun W hW => run_load_row 24 (.tmp 15) rfl Bc rfl 24 _ (0, 0) _ ((show New w W from hW).heap rc id) Tryd.underlying24 rfl info24⟩) hS ?_
  simp only [Act.put, List.setIfInBounds_toArray, List.set_cons_succ, List.set_cons_zero]
  refine anyH_take 111 (some 211) (.agg (St.cs kC ovc).toArray) rfl rfl (by kernel_rfl) (by kernel_rfl) (by kernel_rfl) (fun _ _ _ h => h.elim) (.inl ⟨by rfl, fun W hW => run_load_row 24 (.tmp 15) rfl Bc rfl 24 _ (0, 0) _ ((show New w W from hW).heap rc id) Tryd.underlying24 rfl info24⟩) hS ?_
  simp only [Act.put, List.setIfInBounds_toArray, List.set_cons_succ, List.set_cons_zero]
  refine wpAnyH_all (rs := [110]) (by kernel_rfl) (by simp) ?_
  simp only [List.mem_cons, List.not_mem_nil, or_false, forall_eq]
  refine opH_call (some 210) rfl (by rfl) rfl 32 #[.agg (St.cs kC ovc).toArray] (by go_simp) ((c6.out _ hS).mono ?_)
  rintro e w110 ⟨v', rfl, ⟨ovn, rfl, hON⟩, hk⟩
  have hS := hS.trans hk
  clear hk
  refine ⟨_, rfl, hS, ?_⟩
  simp only [Act.put, List.setIfInBounds_toArray, List.set_cons_succ, List.set_cons_zero]
  refine wpAnyH_all (rs := [112]) (by kernel_rfl) (by simp) ?_
  simp only [List.mem_cons, List.not_mem_nil, or_false, forall_eq]
  refine opH_call (some 212) rfl (by rfl) rfl 31 #[.agg (St.cs kC ovn).toArray, .agg (St.cs kC ovc).toArray] (by go_simp) ((same_S _ _ kC kC _ ⟨_, rfl, hON.reads⟩ ⟨_, rfl, Rc.reads.new hS⟩ inC inC).mono ?_)
  rintro e w112 ⟨he, hk⟩
  rw [show decide (kC = kC) = true from rfl] at he
  subst he
  have hS := hS.trans hk
  clear hk
  refine ⟨_, rfl, hS, ?_⟩
  simp only [Act.put, List.setIfInBounds_toArray, List.set_cons_succ, List.set_cons_zero]
  refine anyH_take 113 (some 213) (.bool true) rfl rfl (by kernel_rfl) (by kernel_rfl) (by kernel_rfl) (fun _ _ _ h => h.elim) (.inl ⟨by rfl, fun W hW => by go_simp⟩) hS ?_
  simp only [Act.put, List.setIfInBounds_toArray, List.set_cons_succ, List.set_cons_zero]
  refine anyH_take 114 (some 214) (.bool true) rfl rfl (by kernel_rfl) (by kernel_rfl) (by kernel_rfl) (fun _ _ _ h => h.elim) (.inl ⟨by rfl, fun W hW => by go_simp⟩) hS ?_
  simp only [Act.put, List.setIfInBounds_toArray, List.set_cons_succ, List.set_cons_zero]
  refine anyH_take 115 (some 215) (.agg (St.cs kC ovc).toArray) rfl rfl (by kernel_rfl) (by kernel_rfl) (by kernel_rfl) (fun _ _ _ h => h.elim) (.inl ⟨by rfl, fun W hW => run_load_row 24 (.tmp 15) rfl Bc rfl 24 _ (0, 0) _ ((show New w W from hW).heap rc id) Tryd.underlying24 rfl info24⟩) hS ?_
  simp only [Act.put, List.setIfInBounds_toArray, List.set_cons_succ, List.set_cons_zero]
  refine anyH_take 116 (some 216) (.agg (St.cs kD ovd).toArray) rfl rfl (by kernel_rfl) (by kernel_rfl) (by kernel_rfl) (fun _ _ _ h => h.elim) (.inl ⟨by rfl, fun W hW => run_load_row 24 (.tmp 19) rfl Bd rfl 24 _ (0, 0) _ ((show New w W from hW).heap rd id) Tryd.underlying24 rfl info24⟩) hS ?_
  simp only [Act.put, List.setIfInBounds_toArray, List.set_cons_succ, List.set_cons_zero]
  refine wpAnyH_all (rs := [117]) (by kernel_rfl) (by simp) ?_
  simp only [List.mem_cons, List.not_mem_nil, or_false, forall_eq]
  refine opH_call (some 217) rfl (by rfl) rfl 31 #[.agg (St.cs kC ovc).toArray, .agg (St.cs kD ovd).toArray] (by go_simp) ((c7.out _ hS).mono ?_)
  rintro e w117 ⟨rfl, hk⟩
  have hS := hS.trans hk
  clear hk
  refine ⟨_, rfl, hS, ?_⟩
  simp only [Act.put, List.setIfInBounds_toArray, List.set_cons_succ, List.set_cons_zero]
  refine anyH_take 118 (some 218) (.bool true) rfl rfl (by kernel_rfl) (by kernel_rfl) (by kernel_rfl) (fun _ _ _ h => h.elim) (.inl ⟨by rfl, fun W hW => by go_simp⟩) hS ?_
  simp only [Act.put, List.setIfInBounds_toArray, List.set_cons_succ, List.set_cons_zero]
  refine anyH_take 119 (some 219) (.bool true) rfl rfl (by kernel_rfl) (by kernel_rfl) (by kernel_rfl) (fun _ _ _ h => h.elim) (.inl ⟨by rfl, fun W hW => by go_simp⟩) hS ?_
  simp only [Act.put, List.setIfInBounds_toArray, List.set_cons_succ, List.set_cons_zero]
  refine anyH_take 120 (some 0) (.bool true) rfl rfl (by kernel_rfl) (by kernel_rfl) (by kernel_rfl) (fun _ _ _ h => h.elim) (.inl ⟨by rfl, fun W hW => by go_simp⟩) hS ?_
  simp only [Act.put, List.setIfInBounds_toArray, List.set_cons_succ, List.set_cons_zero]
  refine wpAnyH_done (by kernel_rfl) ?_ _
  exact ⟨⟨rfl, rfl, rfl⟩, hS⟩
end Go.Proofs.YtkjghojdfjhhkaaDoor
