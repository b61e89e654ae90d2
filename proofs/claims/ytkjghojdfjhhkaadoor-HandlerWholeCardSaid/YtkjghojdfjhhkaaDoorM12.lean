/- The wakes of request: their great conjunction. -/
import Derived.Test.YtkjghojdfjhhkaaDoorM11
set_option linter.unusedSimpArgs false
set_option linter.unusedVariables false
namespace Go.Proofs.YtkjghojdfjhhkaaDoor
open Go.RowKit Go.Shelf Go.Cs
attribute [local go_sem] Oper.semAt_some
theorem lit177 (t : Array Value) (h : t.size = 177) : ∃ u : Nat → Value, t = (u 0 :: u 1 :: u 2 :: u 3 :: u 4 :: u 5 :: u 6 :: u 7 :: u 8 :: u 9 :: u 10 :: u 11 :: u 12 :: u 13 :: u 14 :: u 15 :: u 16 :: u 17 :: u 18 :: u 19 :: u 20 :: u 21 :: u 22 :: u 23 :: u 24 :: u 25 :: u 26 :: u 27 :: u 28 :: u 29 :: u 30 :: u 31 :: u 32 :: u 33 :: u 34 :: u 35 :: u 36 :: u 37 :: u 38 :: u 39 :: u 40 :: u 41 :: u 42 :: u 43 :: u 44 :: u 45 :: u 46 :: u 47 :: u 48 :: u 49 :: u 50 :: u 51 :: u 52 :: u 53 :: u 54 :: u 55 :: u 56 :: u 57 :: u 58 :: u 59 :: u 60 :: u 61 :: u 62 :: u 63 :: u 64 :: u 65 :: u 66 :: u 67 :: u 68 :: u 69 :: u 70 :: u 71 :: u 72 :: u 73 :: u 74 :: u 75 :: u 76 :: u 77 :: u 78 :: u 79 :: u 80 :: u 81 :: u 82 :: u 83 :: u 84 :: u 85 :: u 86 :: u 87 :: u 88 :: u 89 :: u 90 :: u 91 :: u 92 :: u 93 :: u 94 :: u 95 :: u 96 :: u 97 :: u 98 :: u 99 :: u 100 :: u 101 :: u 102 :: u 103 :: u 104 :: u 105 :: u 106 :: u 107 :: u 108 :: u 109 :: u 110 :: u 111 :: u 112 :: u 113 :: u 114 :: u 115 :: u 116 :: u 117 :: u 118 :: u 119 :: u 120 :: u 121 :: u 122 :: u 123 :: u 124 :: u 125 :: u 126 :: u 127 :: u 128 :: u 129 :: u 130 :: u 131 :: u 132 :: u 133 :: u 134 :: u 135 :: u 136 :: u 137 :: u 138 :: u 139 :: u 140 :: u 141 :: u 142 :: u 143 :: u 144 :: u 145 :: u 146 :: u 147 :: u 148 :: u 149 :: u 150 :: u 151 :: u 152 :: u 153 :: u 154 :: u 155 :: u 156 :: u 157 :: u 158 :: u 159 :: u 160 :: u 161 :: u 162 :: u 163 :: u 164 :: u 165 :: u 166 :: u 167 :: u 168 :: u 169 :: u 170 :: u 171 :: u 172 :: u 173 :: u 174 :: u 175 :: u 176 :: ([] : List Value)).toArray := ⟨fun i => t.getD i undef, range_lit t 177 h⟩
noncomputable def reg9 : Code := ((Tryd.f35.body.bind (regionOf 9)).getD .skip)
set_option maxHeartbeats 4000000 in
set_option maxRecDepth 100000 in
theorem chain9 (t : Array Value) (hs : t.size = 177) (w15 : World) {R fc lc : Nat} {fa la : Option Addr}
    (hq1 : t.getD 1 undef = .pointer (some ⟨R, 0, none⟩))
    (hq2 : t.getD 2 undef = .bool true)
    (hq4 : t.getD 4 undef = .bool false)
    (hq6 : t.getD 6 undef = .bool false)
    (hq8 : t.getD 8 undef = .bool false)
    (hq9 : t.getD 9 undef = .slice la 2 lc)
    (hq10 : t.getD 10 undef = .bool true)
    (hq12 : t.getD 12 undef = .bool false)
    (hq13 : t.getD 13 undef = .string ⟨#[117, 61, 49, 44, 32, 105]⟩)
    (hq14 : t.getD 14 undef = .bool true)
    (hq16 : t.getD 16 undef = .bool false)
    (Hz15 : Hid (w15.heap[R]? = some (.cells #[.string ⟨#[71, 69, 84]⟩, .string ⟨#[104, 116, 116, 112]⟩, .string ⟨#[47]⟩, .string ⟨#[]⟩, .slice fa 3 fc] 56 (0, 0)))) (HRL15 : Hid (ReadsL w15 (.slice fa 3 fc) wR)) (HL15 : Hid (ReadsL w15 (.slice la 2 lc) A4)) :
    reg9.wp Tryd.prog (Only fun a' W' => a'.tmps.size = 177 ∧ a'.defers = [] ∧ a'.tmps.getD 0 undef = .bool true ∧ New w15 W') ⟨t, []⟩ w15 := by
  conv => arg 2; whnf
  obtain ⟨u, rfl⟩ := lit177 t hs
  have hq1 : u 1 = .pointer (some ⟨R, 0, none⟩) := hq1
  have hq2 : u 2 = .bool true := hq2
  have hq4 : u 4 = .bool false := hq4
  have hq6 : u 6 = .bool false := hq6
  have hq8 : u 8 = .bool false := hq8
  have hq9 : u 9 = .slice la 2 lc := hq9
  have hq10 : u 10 = .bool true := hq10
  have hq12 : u 12 = .bool false := hq12
  have hq13 : u 13 = .string ⟨#[117, 61, 49, 44, 32, 105]⟩ := hq13
  have hq14 : u 14 = .bool true := hq14
  have hq16 : u 16 = .bool false := hq16
  rw [hq1, hq2, hq4, hq6, hq8, hq9, hq10, hq12, hq13, hq14, hq16]
  clear hq1 hq2 hq4 hq6 hq8 hq9 hq10 hq12 hq13 hq14 hq16 hs
  have kR0 : w15.cell? ⟨R, 0, none⟩ = some (.string ⟨#[71, 69, 84]⟩) := cell_of_row _ _ _ _ _ _ Hz15.out
  have kR1 : w15.cell? ⟨R, 1, none⟩ = some (.string ⟨#[104, 116, 116, 112]⟩) := cell_of_row _ _ _ _ _ _ Hz15.out
  have kR2 : w15.cell? ⟨R, 2, none⟩ = some (.string ⟨#[47]⟩) := cell_of_row _ _ _ _ _ _ Hz15.out
  have kR3 : w15.cell? ⟨R, 3, none⟩ = some (.string ⟨#[]⟩) := cell_of_row _ _ _ _ _ _ Hz15.out
  have kR4 : w15.cell? ⟨R, 4, none⟩ = some (.slice fa 3 fc) := cell_of_row _ _ _ _ _ _ Hz15.out
  go_wp2_with fail
  have hrow := World.alloc_heap_new w15 (.cells #[.string ⟨#[58, 115, 116, 97, 116, 117, 115]⟩, .string ⟨#[50, 48, 52]⟩, .string ⟨#[115, 101, 114, 118, 101, 114]⟩, .string ⟨#[]⟩] 54)
  have hk : New w15 (w15.alloc (.cells #[.string ⟨#[58, 115, 116, 97, 116, 117, 115]⟩, .string ⟨#[50, 48, 52]⟩, .string ⟨#[115, 101, 114, 118, 101, 114]⟩, .string ⟨#[]⟩] 54)) := (Mods.refl _ _).alloc _
  obtain ⟨w16, he⟩ : ∃ W, w15.alloc (.cells #[.string ⟨#[58, 115, 116, 97, 116, 117, 115]⟩, .string ⟨#[50, 48, 52]⟩, .string ⟨#[115, 101, 114, 118, 101, 114]⟩, .string ⟨#[]⟩] 54) = W := ⟨_, rfl⟩
  rw [he] at hrow hk ⊢
  have Hlit := Lib.hid (own_reads (L := A4) (base := w15.heap.size) (v := .slice (some ⟨w15.heap.size, 0, none⟩) 2 2) (W := w16) ⟨rfl, .inr ⟨w15.heap.size, 2, _, rfl, Nat.le_refl _, hrow, Nat.le_refl _, by unfold maxLen; decide, rfl, rfl⟩⟩ (by decide))
  have HL16 := Lib.hid (HL15.out.new hk)
  clear hrow he HL15 kR0 kR1 kR2 kR3 kR4
  have hN16 := hk
  have Hz16 := Lib.hid (hk.heap Hz15.out id)
  have HRL16 := Lib.hid (HRL15.out.new hk)
  clear Hz15 HRL15 hk 
  refine (c_fields _ _ _ HL16.out Hlit.out.1.1).mono ?_
  rintro e w17 ⟨rfl, hk⟩
  clear HL16 Hlit
  have hN17 := hN16.trans hk
  have Hz17 := Lib.hid (hk.heap Hz16.out id)
  have HRL17 := Lib.hid (HRL16.out.new hk)
  clear Hz16 HRL16 hk hN16
  have kR0 : w17.cell? ⟨R, 0, none⟩ = some (.string ⟨#[71, 69, 84]⟩) := cell_of_row _ _ _ _ _ _ Hz17.out
  have kR1 : w17.cell? ⟨R, 1, none⟩ = some (.string ⟨#[104, 116, 116, 112]⟩) := cell_of_row _ _ _ _ _ _ Hz17.out
  have kR2 : w17.cell? ⟨R, 2, none⟩ = some (.string ⟨#[47]⟩) := cell_of_row _ _ _ _ _ _ Hz17.out
  have kR3 : w17.cell? ⟨R, 3, none⟩ = some (.string ⟨#[]⟩) := cell_of_row _ _ _ _ _ _ Hz17.out
  have kR4 : w17.cell? ⟨R, 4, none⟩ = some (.slice fa 3 fc) := cell_of_row _ _ _ _ _ _ Hz17.out
  go_wp2_with fail
  clear kR0 kR1 kR2 kR3 kR4
  refine (c_trailT _ _ HRL17.out).mono ?_
  rintro e w18 ⟨rfl, hk⟩
  have hN18 := hN17.trans hk
  have Hz18 := Lib.hid (hk.heap Hz17.out id)
  have HRL18 := Lib.hid (HRL17.out.new hk)
  clear Hz17 HRL17 hk hN17
  have kR0 : w18.cell? ⟨R, 0, none⟩ = some (.string ⟨#[71, 69, 84]⟩) := cell_of_row _ _ _ _ _ _ Hz18.out
  have kR1 : w18.cell? ⟨R, 1, none⟩ = some (.string ⟨#[104, 116, 116, 112]⟩) := cell_of_row _ _ _ _ _ _ Hz18.out
  have kR2 : w18.cell? ⟨R, 2, none⟩ = some (.string ⟨#[47]⟩) := cell_of_row _ _ _ _ _ _ Hz18.out
  have kR3 : w18.cell? ⟨R, 3, none⟩ = some (.string ⟨#[]⟩) := cell_of_row _ _ _ _ _ _ Hz18.out
  have kR4 : w18.cell? ⟨R, 4, none⟩ = some (.slice fa 3 fc) := cell_of_row _ _ _ _ _ _ Hz18.out
  go_wp2_with fail
  clear kR0 kR1 kR2 kR3 kR4
  refine (three_any _).mono ?_
  rintro e w19 ⟨rfl, hw⟩
  have hown := own_three _ _ hw
  have hk : New w18 w19 := by rw [← hw]; exact (Mods.refl _ _).alloc _
  have Hth := Lib.hid (own_reads (L := threeL) hown (by decide)).1.1
  clear hw hown
  have hN19 := hN18.trans hk
  have Hz19 := Lib.hid (hk.heap Hz18.out id)
  have HRL19 := Lib.hid (HRL18.out.new hk)
  clear Hz18 HRL18 hk hN18
  have kR0 : w19.cell? ⟨R, 0, none⟩ = some (.string ⟨#[71, 69, 84]⟩) := cell_of_row _ _ _ _ _ _ Hz19.out
  have kR1 : w19.cell? ⟨R, 1, none⟩ = some (.string ⟨#[104, 116, 116, 112]⟩) := cell_of_row _ _ _ _ _ _ Hz19.out
  have kR2 : w19.cell? ⟨R, 2, none⟩ = some (.string ⟨#[47]⟩) := cell_of_row _ _ _ _ _ _ Hz19.out
  have kR3 : w19.cell? ⟨R, 3, none⟩ = some (.string ⟨#[]⟩) := cell_of_row _ _ _ _ _ _ Hz19.out
  have kR4 : w19.cell? ⟨R, 4, none⟩ = some (.slice fa 3 fc) := cell_of_row _ _ _ _ _ _ Hz19.out
  go_wp2_with fail
  clear kR0 kR1 kR2 kR3 kR4
  refine (c_trailF _ _ Hth.out).mono ?_
  rintro e w20 ⟨rfl, hk⟩
  have hN20 := hN19.trans hk
  have Hz20 := Lib.hid (hk.heap Hz19.out id)
  have HRL20 := Lib.hid (HRL19.out.new hk)
  clear Hz19 HRL19 hk hN19
  clear Hth
  have kR0 : w20.cell? ⟨R, 0, none⟩ = some (.string ⟨#[71, 69, 84]⟩) := cell_of_row _ _ _ _ _ _ Hz20.out
  have kR1 : w20.cell? ⟨R, 1, none⟩ = some (.string ⟨#[104, 116, 116, 112]⟩) := cell_of_row _ _ _ _ _ _ Hz20.out
  have kR2 : w20.cell? ⟨R, 2, none⟩ = some (.string ⟨#[47]⟩) := cell_of_row _ _ _ _ _ _ Hz20.out
  have kR3 : w20.cell? ⟨R, 3, none⟩ = some (.string ⟨#[]⟩) := cell_of_row _ _ _ _ _ _ Hz20.out
  have kR4 : w20.cell? ⟨R, 4, none⟩ = some (.slice fa 3 fc) := cell_of_row _ _ _ _ _ _ Hz20.out
  go_wp2_with fail
  clear kR0 kR1 kR2 kR3 kR4
  refine (c_plainT _).mono ?_
  rintro e w21 ⟨rfl, hk⟩
  have hN21 := hN20.trans hk
  have Hz21 := Lib.hid (hk.heap Hz20.out id)
  have HRL21 := Lib.hid (HRL20.out.new hk)
  clear Hz20 HRL20 hk hN20
  have kR0 : w21.cell? ⟨R, 0, none⟩ = some (.string ⟨#[71, 69, 84]⟩) := cell_of_row _ _ _ _ _ _ Hz21.out
  have kR1 : w21.cell? ⟨R, 1, none⟩ = some (.string ⟨#[104, 116, 116, 112]⟩) := cell_of_row _ _ _ _ _ _ Hz21.out
  have kR2 : w21.cell? ⟨R, 2, none⟩ = some (.string ⟨#[47]⟩) := cell_of_row _ _ _ _ _ _ Hz21.out
  have kR3 : w21.cell? ⟨R, 3, none⟩ = some (.string ⟨#[]⟩) := cell_of_row _ _ _ _ _ _ Hz21.out
  have kR4 : w21.cell? ⟨R, 4, none⟩ = some (.slice fa 3 fc) := cell_of_row _ _ _ _ _ _ Hz21.out
  go_wp2_with fail
  clear kR0 kR1 kR2 kR3 kR4
  refine (c_plainF _).mono ?_
  rintro e w22 ⟨rfl, hk⟩
  have hN22 := hN21.trans hk
  have Hz22 := Lib.hid (hk.heap Hz21.out id)
  have HRL22 := Lib.hid (HRL21.out.new hk)
  clear Hz21 HRL21 hk hN21
  have kR0 : w22.cell? ⟨R, 0, none⟩ = some (.string ⟨#[71, 69, 84]⟩) := cell_of_row _ _ _ _ _ _ Hz22.out
  have kR1 : w22.cell? ⟨R, 1, none⟩ = some (.string ⟨#[104, 116, 116, 112]⟩) := cell_of_row _ _ _ _ _ _ Hz22.out
  have kR2 : w22.cell? ⟨R, 2, none⟩ = some (.string ⟨#[47]⟩) := cell_of_row _ _ _ _ _ _ Hz22.out
  have kR3 : w22.cell? ⟨R, 3, none⟩ = some (.string ⟨#[]⟩) := cell_of_row _ _ _ _ _ _ Hz22.out
  have kR4 : w22.cell? ⟨R, 4, none⟩ = some (.slice fa 3 fc) := cell_of_row _ _ _ _ _ _ Hz22.out
  go_wp2_with fail
  clear kR0 kR1 kR2 kR3 kR4
  refine (c_nameT _).mono ?_
  rintro e w23 ⟨rfl, hk⟩
  have hN23 := hN22.trans hk
  have Hz23 := Lib.hid (hk.heap Hz22.out id)
  have HRL23 := Lib.hid (HRL22.out.new hk)
  clear Hz22 HRL22 hk hN22
  have kR0 : w23.cell? ⟨R, 0, none⟩ = some (.string ⟨#[71, 69, 84]⟩) := cell_of_row _ _ _ _ _ _ Hz23.out
  have kR1 : w23.cell? ⟨R, 1, none⟩ = some (.string ⟨#[104, 116, 116, 112]⟩) := cell_of_row _ _ _ _ _ _ Hz23.out
  have kR2 : w23.cell? ⟨R, 2, none⟩ = some (.string ⟨#[47]⟩) := cell_of_row _ _ _ _ _ _ Hz23.out
  have kR3 : w23.cell? ⟨R, 3, none⟩ = some (.string ⟨#[]⟩) := cell_of_row _ _ _ _ _ _ Hz23.out
  have kR4 : w23.cell? ⟨R, 4, none⟩ = some (.slice fa 3 fc) := cell_of_row _ _ _ _ _ _ Hz23.out
  go_wp2_with fail
  clear kR0 kR1 kR2 kR3 kR4
  refine (c_nameF _).mono ?_
  rintro e w24 ⟨rfl, hk⟩
  have hN24 := hN23.trans hk
  have Hz24 := Lib.hid (hk.heap Hz23.out id)
  have HRL24 := Lib.hid (HRL23.out.new hk)
  clear Hz23 HRL23 hk hN23
  have kR0 : w24.cell? ⟨R, 0, none⟩ = some (.string ⟨#[71, 69, 84]⟩) := cell_of_row _ _ _ _ _ _ Hz24.out
  have kR1 : w24.cell? ⟨R, 1, none⟩ = some (.string ⟨#[104, 116, 116, 112]⟩) := cell_of_row _ _ _ _ _ _ Hz24.out
  have kR2 : w24.cell? ⟨R, 2, none⟩ = some (.string ⟨#[47]⟩) := cell_of_row _ _ _ _ _ _ Hz24.out
  have kR3 : w24.cell? ⟨R, 3, none⟩ = some (.string ⟨#[]⟩) := cell_of_row _ _ _ _ _ _ Hz24.out
  have kR4 : w24.cell? ⟨R, 4, none⟩ = some (.slice fa 3 fc) := cell_of_row _ _ _ _ _ _ Hz24.out
  go_wp2_with fail
  clear kR0 kR1 kR2 kR3 kR4
  refine (c_valueT _).mono ?_
  rintro e w25 ⟨rfl, hk⟩
  have hN25 := hN24.trans hk
  have Hz25 := Lib.hid (hk.heap Hz24.out id)
  have HRL25 := Lib.hid (HRL24.out.new hk)
  clear Hz24 HRL24 hk hN24
  have kR0 : w25.cell? ⟨R, 0, none⟩ = some (.string ⟨#[71, 69, 84]⟩) := cell_of_row _ _ _ _ _ _ Hz25.out
  have kR1 : w25.cell? ⟨R, 1, none⟩ = some (.string ⟨#[104, 116, 116, 112]⟩) := cell_of_row _ _ _ _ _ _ Hz25.out
  have kR2 : w25.cell? ⟨R, 2, none⟩ = some (.string ⟨#[47]⟩) := cell_of_row _ _ _ _ _ _ Hz25.out
  have kR3 : w25.cell? ⟨R, 3, none⟩ = some (.string ⟨#[]⟩) := cell_of_row _ _ _ _ _ _ Hz25.out
  have kR4 : w25.cell? ⟨R, 4, none⟩ = some (.slice fa 3 fc) := cell_of_row _ _ _ _ _ _ Hz25.out
  go_wp2_with fail
  clear kR0 kR1 kR2 kR3 kR4
  refine (c_valueF _).mono ?_
  rintro e w26 ⟨rfl, hk⟩
  have hN26 := hN25.trans hk
  have Hz26 := Lib.hid (hk.heap Hz25.out id)
  have HRL26 := Lib.hid (HRL25.out.new hk)
  clear Hz25 HRL25 hk hN25
  have kR0 : w26.cell? ⟨R, 0, none⟩ = some (.string ⟨#[71, 69, 84]⟩) := cell_of_row _ _ _ _ _ _ Hz26.out
  have kR1 : w26.cell? ⟨R, 1, none⟩ = some (.string ⟨#[104, 116, 116, 112]⟩) := cell_of_row _ _ _ _ _ _ Hz26.out
  have kR2 : w26.cell? ⟨R, 2, none⟩ = some (.string ⟨#[47]⟩) := cell_of_row _ _ _ _ _ _ Hz26.out
  have kR3 : w26.cell? ⟨R, 3, none⟩ = some (.string ⟨#[]⟩) := cell_of_row _ _ _ _ _ _ Hz26.out
  have kR4 : w26.cell? ⟨R, 4, none⟩ = some (.slice fa 3 fc) := cell_of_row _ _ _ _ _ _ Hz26.out
  go_wp2_with fail
  clear kR0 kR1 kR2 kR3 kR4
  refine (c_sameT _ _ HRL26.out).mono ?_
  rintro e w27 ⟨rfl, hk⟩
  have hN27 := hN26.trans hk
  have Hz27 := Lib.hid (hk.heap Hz26.out id)
  have HRL27 := Lib.hid (HRL26.out.new hk)
  clear Hz26 HRL26 hk hN26
  have kR0 : w27.cell? ⟨R, 0, none⟩ = some (.string ⟨#[71, 69, 84]⟩) := cell_of_row _ _ _ _ _ _ Hz27.out
  have kR1 : w27.cell? ⟨R, 1, none⟩ = some (.string ⟨#[104, 116, 116, 112]⟩) := cell_of_row _ _ _ _ _ _ Hz27.out
  have kR2 : w27.cell? ⟨R, 2, none⟩ = some (.string ⟨#[47]⟩) := cell_of_row _ _ _ _ _ _ Hz27.out
  have kR3 : w27.cell? ⟨R, 3, none⟩ = some (.string ⟨#[]⟩) := cell_of_row _ _ _ _ _ _ Hz27.out
  have kR4 : w27.cell? ⟨R, 4, none⟩ = some (.slice fa 3 fc) := cell_of_row _ _ _ _ _ _ Hz27.out
  go_wp2_with fail
  clear kR0 kR1 kR2 kR3 kR4
  refine (c_sameF _ _ HRL27.out).mono ?_
  rintro e w28 ⟨rfl, hk⟩
  have hN28 := hN27.trans hk
  have Hz28 := Lib.hid (hk.heap Hz27.out id)
  have HRL28 := Lib.hid (HRL27.out.new hk)
  clear Hz27 HRL27 hk hN27
  go_wp2_with fail
  exact ⟨rfl, rfl, rfl, hN28⟩
end Go.Proofs.YtkjghojdfjhhkaaDoor
