/- The wakes of request: true. -/
import Derived.Test.YtkjghojdfjhhkaaDoorM12
set_option linter.unusedSimpArgs false
set_option linter.unusedVariables false
namespace Go.Proofs.YtkjghojdfjhhkaaDoor
open Go.RowKit Go.Shelf Go.Cs
attribute [local go_sem] Oper.semAt_some
set_option maxHeartbeats 4000000 in
set_option maxRecDepth 100000 in
theorem wakes_any (w : World) (hT : Tab w) : Calls Tryd.prog 35 #[] w fun e w' => e = .returned (.bool true) ∧ New w w' := by
  have H3 := Lib.hid three_any
  have HT := Lib.hid hT
  clear hT
  obtain ⟨i0, hi, hz0, hz1, hz2⟩ := info_parts info54'
  go_enter Tryd.func35, Tryd.ntmps35
  go_wp2_with fail
  refine (H3.out _).mono ?_
  rintro e w1 ⟨rfl, hw1⟩
  have hown1 := (own_three _ _ hw1).alloc (.cells #[.string ⟨#[112, 114, 105, 111, 114, 105, 116, 121]⟩, .string ⟨#[117, 61, 49]⟩, .string ⟨#[97]⟩, .string ⟨#[]⟩, .string ⟨#[112, 114, 105, 111, 114, 105, 116, 121]⟩, .string ⟨#[105]⟩] 54)
  have hN1 : New w w1 := by rw [← hw1]; exact (Mods.refl _ _).alloc _
  have hs1 := hN1.size
  clear hw1
  unfold three6 at hown1
  go_wp2_with (at_builtin; refine wpList_append_own _ rfl _ _ 25 rfl w.heap.size 54 i0 _ 2 32 Tryd.underlying25 hi hz0 hz1 hz2 rfl (by decide) _ _ _ rfl hown1 ⟨w1.heap.size, 0, none⟩ 3 3 [.string ⟨#[112, 114, 105, 111, 114, 105, 116, 121]⟩, .string ⟨#[117, 61, 49]⟩, .string ⟨#[97]⟩, .string ⟨#[]⟩, .string ⟨#[112, 114, 105, 111, 114, 105, 116, 121]⟩, .string ⟨#[105]⟩] rfl rfl ?c1 ?c2 ?c3 ?c4 ?c5 ?_)
  case c1 => exact cells_new (cs := [.string ⟨#[112, 114, 105, 111, 114, 105, 116, 121]⟩, .string ⟨#[117, 61, 49]⟩, .string ⟨#[97]⟩, .string ⟨#[]⟩, .string ⟨#[112, 114, 105, 111, 114, 105, 116, 121]⟩, .string ⟨#[105]⟩]) (World.alloc_heap_new _ _)
  case c2 =>
    intro u hu
    simp at hu
    rcases hu with rfl | rfl | rfl | rfl | rfl | rfl <;> rfl
  case c3 => unfold maxLen; omega
  case c4 => omega
  case c5 => simp; omega
  intro v1 w1b hownb hgrow _
  have hNb1 : New w w1b := ((hN1).alloc _).grown hgrow (by intro g hg; have := hown1.lt g hg; have := (hN1).size; omega)
  have Ho1 := Lib.hid (own_reads (L := wL1) hownb (by decide))
  clear hownb hgrow hown1
  go_wp2_with fail
  refine (of1_any _ _ _ Ho1.out).mono ?_
  rintro e w2 ⟨fv, rfl, hOf, hN2⟩
  have HR := Lib.hid hOf.1
  clear hOf Ho1
  have hNw2 := hNb1.trans hN2
  obtain ⟨fa, fc, rfl⟩ := HR.out.slice
  have e3 : wR.length = 3 := rfl
  rw [e3] at HR ⊢
  clear e3
  go_wp2_with fail
  obtain ⟨R, hR⟩ : ∃ R, w2.heap.size = R := ⟨_, rfl⟩
  have hz := World.alloc_heap_new w2 (.cells #[.string ⟨#[71, 69, 84]⟩, .string ⟨#[104, 116, 116, 112]⟩, .string ⟨#[47]⟩, .string ⟨#[]⟩, .slice fa 3 fc] 56)
  have hNr : New w2 (w2.alloc (.cells #[.string ⟨#[71, 69, 84]⟩, .string ⟨#[104, 116, 116, 112]⟩, .string ⟨#[47]⟩, .string ⟨#[]⟩, .slice fa 3 fc] 56)) := (Mods.refl _ _).alloc _
  obtain ⟨w3, hw3⟩ : ∃ W, w2.alloc (.cells #[.string ⟨#[71, 69, 84]⟩, .string ⟨#[104, 116, 116, 112]⟩, .string ⟨#[47]⟩, .string ⟨#[]⟩, .slice fa 3 fc] 56) = W := ⟨_, rfl⟩
  rw [hw3] at hz hNr ⊢
  rw [hR] at hz ⊢
  have hN3 := hNw2.trans hNr
  have HRL := Lib.hid (HR.out.new hNr)
  have Hz := Lib.hid hz
  clear hw3 hR hz hNr HR hNw2 hN2 hNb1 hN1 hs1
  refine (H3.out _).mono ?_
  rintro e w4 ⟨rfl, hw2⟩
  have hown2 := (own_three _ _ hw2).alloc (.cells #[.string ⟨#[65, 99, 99, 101, 112, 116]⟩, .string ⟨#[97]⟩] 54)
  have hN2 : New w3 w4 := by rw [← hw2]; exact (Mods.refl _ _).alloc _
  have hs2 := hN2.size
  clear hw2
  unfold three6 at hown2
  go_wp2_with (at_builtin; refine wpList_append_own _ rfl _ _ 25 rfl w3.heap.size 54 i0 _ 2 32 Tryd.underlying25 hi hz0 hz1 hz2 rfl (by decide) _ _ _ rfl hown2 ⟨w4.heap.size, 0, none⟩ 1 1 [.string ⟨#[65, 99, 99, 101, 112, 116]⟩, .string ⟨#[97]⟩] rfl rfl ?c1 ?c2 ?c3 ?c4 ?c5 ?_)
  case c1 => exact cells_new (cs := [.string ⟨#[65, 99, 99, 101, 112, 116]⟩, .string ⟨#[97]⟩]) (World.alloc_heap_new _ _)
  case c2 =>
    intro u hu
    simp at hu
    rcases hu with rfl | rfl <;> rfl
  case c3 => unfold maxLen; omega
  case c4 => omega
  case c5 => simp; omega
  intro v2 w2b hownb hgrow _
  have hNb2 : New w w2b := ((hN3.trans hN2).alloc _).grown hgrow (by intro g hg; have := hown2.lt g hg; have := (hN3).size; omega)
  have Ho2 := Lib.hid (own_reads (L := wL2) hownb (by decide))
  have hNK2 : New w3 w2b := ((hN2).alloc _).grown hgrow (by intro g hg; have := hown2.lt g hg; omega)
  clear hownb hgrow hown2
  go_wp2_with fail
  refine (no_any _ _ _ of2 (small_of_all rfl) _ Ho2.out).mono ?_
  rintro e w5 ⟨na, nc, rfl, hN5⟩
  have hN6 := hNb2.trans hN5
  have Hz5 := Lib.hid (hN5.heap ((hNK2).heap Hz.out id) id)
  have HRL5 := Lib.hid ((HRL.out.new hNK2).new hN5)
  clear hN5 hN2 hs2 hNb2 Ho2 Hz HRL hN3 hNK2
  go_wp2_with fail
  obtain ⟨w5a, hw5⟩ : ∃ W, w5.alloc (.cells #[.string ⟨#[]⟩, .string ⟨#[]⟩, .string ⟨#[]⟩, .string ⟨#[]⟩, .slice na 0 nc] 56) = W := ⟨_, rfl⟩
  have hk5 : New w5 w5a := by rw [← hw5]; exact (Mods.refl _ _).alloc _
  rw [hw5]
  refine (H3.out _).mono ?_
  rintro e w6 ⟨rfl, hw3⟩
  have hk6 : New w5a w6 := by rw [← hw3]; exact (Mods.refl _ _).alloc _
  have hNa := hN6.trans hk5
  have Hz5a := Lib.hid (hk5.heap Hz5.out id)
  have HRL5a := Lib.hid (HRL5.out.new hk5)
  have ht6 := own_three _ _ hw3
  clear hw3 Hz5 HRL5 hk5 hw5 hN6
  go_wp2_with fail
  refine (H3.out _).mono ?_
  rintro e w7 ⟨rfl, hw7⟩
  have hown3 := ht6.alloc (.cells three6.toArray 54)
  rw [hw7] at hown3
  have hown3 := hown3.alloc (.cells #[.string ⟨#[58, 109, 101, 116, 104, 111, 100]⟩, .string ⟨#[71, 69, 84]⟩] 54)
  have hk7 : New w6 w7 := by rw [← hw7]; exact (Mods.refl _ _).alloc _
  have h70 := World.alloc_heap_new w6 (.cells three6.toArray 54)
  rw [hw7] at h70
  unfold three6 at hown3 h70
  have c0 : w7.cell? ⟨w6.heap.size, 0, none⟩ = some (.string ⟨#[58, 109, 101, 116, 104, 111, 100]⟩) := cell_of_row _ _ _ _ _ _ h70
  have c1 : w7.cell? ⟨w6.heap.size, 1, none⟩ = some (.string ⟨#[71, 69, 84]⟩) := cell_of_row _ _ _ _ _ _ h70
  have hs3 := hNa.size
  have hk67 := hk6.size
  have hs6 := ht6.lt w5a.heap.size rfl
  clear hw7 h70
  go_wp2_with (at_builtin; refine wpList_append_own _ rfl _ _ 25 rfl w5a.heap.size 54 i0 _ 2 32 Tryd.underlying25 hi hz0 hz1 hz2 rfl (by decide) _ _ _ rfl hown3 ⟨w7.heap.size, 0, none⟩ 1 1 [.string ⟨#[58, 109, 101, 116, 104, 111, 100]⟩, .string ⟨#[71, 69, 84]⟩] rfl rfl ?c1 ?c2 ?c3 ?c4 ?c5 ?_)
  case c1 => exact cells_new (cs := [.string ⟨#[58, 109, 101, 116, 104, 111, 100]⟩, .string ⟨#[71, 69, 84]⟩]) (World.alloc_heap_new _ _)
  case c2 =>
    intro u hu
    simp at hu
    rcases hu with rfl | rfl <;> rfl
  case c3 => unfold maxLen; omega
  case c4 => omega
  case c5 => have := hk7.size; simp; omega
  intro v3 w8 hownb hgrow _
  have hkb3 : New w5a w8 := ((hk6.trans hk7).alloc _).grown hgrow (by intro g hg; have := hown3.lt g hg; omega)
  have hN8 := hNa.trans hkb3
  have Hz8 := Lib.hid (hkb3.heap Hz5a.out id)
  have HRL8 := Lib.hid (HRL5a.out.new hkb3)
  have Ho3 := Lib.hid (own_reads (L := wL3) hownb (by decide))
  clear hownb hgrow hown3
  clear Hz5a HRL5a hNa hkb3 hk67 hk6 hk7 ht6 c0 c1 hs3 hs6
  go_wp2_with fail
  refine (no_any _ _ _ of3 (small_of_all rfl) _ Ho3.out).mono ?_
  rintro e w9 ⟨na', nc', rfl, hN9⟩
  have hN10 := hN8.trans hN9
  have Hz9 := Lib.hid (hN9.heap Hz8.out id)
  have HRL9 := Lib.hid (HRL8.out.new hN9)
  clear hN8 hN9 Hz8 HRL8 Ho3
  go_wp2_with fail
  obtain ⟨w9a, he9⟩ : ∃ W, w9.alloc (.cells #[.string ⟨#[]⟩, .string ⟨#[]⟩, .string ⟨#[]⟩, .string ⟨#[]⟩, .slice na' 0 nc'] 56) = W := ⟨_, rfl⟩
  have hk : New w9 w9a := by rw [← he9]; exact (Mods.refl _ _).alloc _
  rw [he9]
  have hN9a := hN10.trans hk
  have Hz9a := Lib.hid (hk.heap Hz9.out id)
  have HRL9a := Lib.hid (HRL9.out.new hk)
  clear Hz9 HRL9 hk hN10 he9
  refine (no_any _ 0 [] of0 (small_of_all rfl) _ ⟨⟨ReadsL.nil _ _ _, fun g hg => by cases hg⟩, fun ao n cap h => by cases h; exact ⟨Nat.le_refl _, fun _ => rfl⟩⟩).mono ?_
  rintro e w10 ⟨nb, mc, rfl, hN10⟩
  have hN10' := hN9a.trans hN10
  have Hz10 := Lib.hid (hN10.heap Hz9a.out id)
  have HRL10 := Lib.hid (HRL9a.out.new hN10)
  clear Hz9a HRL9a hN10 hN9a 
  go_wp2_with fail
  obtain ⟨w10a, he10⟩ : ∃ W, w10.alloc (.cells #[.string ⟨#[]⟩, .string ⟨#[]⟩, .string ⟨#[]⟩, .string ⟨#[]⟩, .slice nb 0 mc] 56) = W := ⟨_, rfl⟩
  have hk : New w10 w10a := by rw [← he10]; exact (Mods.refl _ _).alloc _
  rw [he10]
  have hz10 : w10.heap.size + 1 = w10a.heap.size := by rw [← he10]; simp
  rw [hz10]
  have hrow := World.alloc_heap_new w10a (.cells #[.string ⟨#[115, 101, 114, 118, 101, 114]⟩, .string ⟨#[]⟩] 54)
  have hkb : New w10a (w10a.alloc (.cells #[.string ⟨#[115, 101, 114, 118, 101, 114]⟩, .string ⟨#[]⟩] 54)) := (Mods.refl _ _).alloc _
  obtain ⟨w11, he11⟩ : ∃ W, w10a.alloc (.cells #[.string ⟨#[115, 101, 114, 118, 101, 114]⟩, .string ⟨#[]⟩] 54) = W := ⟨_, rfl⟩
  rw [he11] at hrow hkb ⊢
  have Hsv := Lib.hid (own_reads (L := wL4) (base := w10a.heap.size) (v := .slice (some ⟨w10a.heap.size, 0, none⟩) 1 1) (W := w11) ⟨rfl, .inr ⟨w10a.heap.size, 1, _, rfl, Nat.le_refl _, hrow, Nat.le_refl _, by unfold maxLen; decide, rfl, rfl⟩⟩ (by decide))
  have hkk := hk.trans hkb
  clear hk hkb hrow he10 he11
  have hN11 := hN10'.trans hkk
  have Hz11 := Lib.hid (hkk.heap Hz10.out id)
  have HRL11 := Lib.hid (HRL10.out.new hkk)
  clear Hz10 HRL10 hkk hN10' 
  have HA := Lib.hid (answer_any 204 (by decide) (by decide) _ wL4 w11 Hsv.out.1.1 (small_of_all rfl) Hsv.out.2 (HT.out.new hN11) (by decide))
  unfold AnsRet at HA
  rw [ans4] at HA
  refine HA.out.mono ?_
  rintro e w12 ⟨lv, rfl, hL, -, hN12⟩
  obtain ⟨la, lc, rfl⟩ := hL.1.slice
  have HL12 := Lib.hid hL.1
  clear hL HA Hsv
  have hN12' := hN11.trans hN12
  have Hz12 := Lib.hid (hN12.heap Hz11.out id)
  have HRL12 := Lib.hid (HRL11.out.new hN12)
  clear Hz11 HRL11 hN12 hN11 
  go_wp2_with fail
  have HA := Lib.hid (answer_any 199 (by decide) (by decide) (.slice none 0 0) [] w12 (ReadsL.nil _ _ _) (small_of_all rfl) (fun ao n cap h => by cases h; exact ⟨Nat.le_refl _, fun _ => rfl⟩) (HT.out.new hN12') (by decide))
  unfold AnsRet at HA
  rw [ans0] at HA
  refine HA.out.mono ?_
  rintro e w13 ⟨ev, rfl, -, -, hN13⟩
  clear HA
  have hN13' := hN12'.trans hN13
  have Hz13 := Lib.hid (hN13.heap Hz12.out id)
  have HRL13 := Lib.hid (HRL12.out.new hN13)
  have HL13 := Lib.hid (HL12.out.new hN13)
  clear Hz12 HRL12 HL12 hN13 hN12' 
  have kR4 : w13.cell? ⟨R, 4, none⟩ = some (.slice fa 3 fc) := cell_of_row _ _ _ _ _ _ Hz13.out
  go_wp2_with fail
  have HU := (urgency_any (.slice fa 3 fc) wR w13 HRL13.out (by decide) (by decide))
  rw [urg1, urg1b] at HU
  refine HU.mono ?_
  rintro e w14 ⟨rfl, hN14⟩
  clear HU kR4
  have hN14' := hN13'.trans hN14
  have Hz14 := Lib.hid (hN14.heap Hz13.out id)
  have HRL14 := Lib.hid (HRL13.out.new hN14)
  have HL14 := Lib.hid (HL13.out.new hN14)
  clear Hz13 HRL13 HL13 hN14 hN13' 
  go_wp2_with fail
  have HU := (urgency_any (.slice none 0 0) [] w14 (ReadsL.nil _ _ _) (by decide) (by decide))
  rw [urg0, urg0b] at HU
  refine HU.mono ?_
  rintro e w15 ⟨rfl, hN15⟩
  clear HU
  have hN15' := hN14'.trans hN15
  have Hz15 := Lib.hid (hN15.heap Hz14.out id)
  have HRL15 := Lib.hid (HRL14.out.new hN15)
  have HL15 := Lib.hid (HL14.out.new hN15)
  clear Hz14 HRL14 HL14 hN15 hN14' 
  go_upto_region 9 with fail
  refine piece (fun _ a' W' => a'.tmps.size = 177 ∧ a'.defers = [] ∧ a'.tmps.getD 0 undef = .bool true ∧ New w15 W') (chain9 _ rfl w15 rfl rfl rfl rfl rfl rfl rfl rfl rfl rfl rfl Hz15 HRL15 HL15) ?_
  rintro a' w16 ⟨hs, hd, hq, hN16⟩
  obtain ⟨t, d⟩ := a'
  simp only at hs hd hq
  subst hd
  obtain ⟨u, rfl⟩ := lit177 t hs
  have hq : u 0 = .bool true := hq
  rw [hq]
  clear hq hs
  go_wp2_with fail
  go_ret
  exact ⟨rfl, hN15'.trans hN16⟩
end Go.Proofs.YtkjghojdfjhhkaaDoor
/- RequestTells: which inputs are too great. -/
namespace Go.Proofs.YtkjghojdfjhhkaaDoor
open Go.RowKit Go.Shelf Go.Cs
attribute [local go_sem] Oper.semAt_some
theorem lit148 (t : Array Value) (h : t.size = 148) : ∃ u : Nat → Value, t = (u 0 :: u 1 :: u 2 :: u 3 :: u 4 :: u 5 :: u 6 :: u 7 :: u 8 :: u 9 :: u 10 :: u 11 :: u 12 :: u 13 :: u 14 :: u 15 :: u 16 :: u 17 :: u 18 :: u 19 :: u 20 :: u 21 :: u 22 :: u 23 :: u 24 :: u 25 :: u 26 :: u 27 :: u 28 :: u 29 :: u 30 :: u 31 :: u 32 :: u 33 :: u 34 :: u 35 :: u 36 :: u 37 :: u 38 :: u 39 :: u 40 :: u 41 :: u 42 :: u 43 :: u 44 :: u 45 :: u 46 :: u 47 :: u 48 :: u 49 :: u 50 :: u 51 :: u 52 :: u 53 :: u 54 :: u 55 :: u 56 :: u 57 :: u 58 :: u 59 :: u 60 :: u 61 :: u 62 :: u 63 :: u 64 :: u 65 :: u 66 :: u 67 :: u 68 :: u 69 :: u 70 :: u 71 :: u 72 :: u 73 :: u 74 :: u 75 :: u 76 :: u 77 :: u 78 :: u 79 :: u 80 :: u 81 :: u 82 :: u 83 :: u 84 :: u 85 :: u 86 :: u 87 :: u 88 :: u 89 :: u 90 :: u 91 :: u 92 :: u 93 :: u 94 :: u 95 :: u 96 :: u 97 :: u 98 :: u 99 :: u 100 :: u 101 :: u 102 :: u 103 :: u 104 :: u 105 :: u 106 :: u 107 :: u 108 :: u 109 :: u 110 :: u 111 :: u 112 :: u 113 :: u 114 :: u 115 :: u 116 :: u 117 :: u 118 :: u 119 :: u 120 :: u 121 :: u 122 :: u 123 :: u 124 :: u 125 :: u 126 :: u 127 :: u 128 :: u 129 :: u 130 :: u 131 :: u 132 :: u 133 :: u 134 :: u 135 :: u 136 :: u 137 :: u 138 :: u 139 :: u 140 :: u 141 :: u 142 :: u 143 :: u 144 :: u 145 :: u 146 :: u 147 :: ([] : List Value)).toArray := ⟨fun i => t.getD i undef, range_lit t 148 h⟩
/-- A request that came in. -/
def ReadsRU (W : World) (v : Value) (r : Rq) : Prop := ∃ fv, v = .agg (r.cs fv).toArray ∧ ReadsU W fv r.fields
noncomputable def reg8_1 : Code := ((Tryd.f8.body.bind (regionOf 1)).getD .skip)
set_option maxHeartbeats 4000000 in
set_option maxRecDepth 100000 in
theorem great8 (t : Array Value) (hs : t.size = 148) (w : World) {s : ByteArray} {f : Fd} {lo av bv : Option Addr} {ln lcap an acap bn bcap F A B : Nat} {n : Int} {L LA LB : List Fd}
    (hq0 : t.getD 0 undef = .string s)
    (hq2 : t.getD 2 undef = .slice lo ln lcap)
    (hq3 : t.getD 3 undef = .int .i64 n)
    (hq7 : t.getD 7 undef = .pointer (some ⟨F, 0, none⟩))
    (hq10 : t.getD 10 undef = .pointer (some ⟨A, 0, none⟩))
    (hq11 : t.getD 11 undef = .pointer (some ⟨B, 0, none⟩))
    (hq12 : t.getD 12 undef = .bool false)
    (hz : s.size ≤ 9223372036854775807) (hkF : w.cell? ⟨F, 0, none⟩ = some (.string f.name)) (hkF1 : w.cell? ⟨F, 1, none⟩ = some (.string f.val))
    (hkA : w.cell? ⟨A, 4, none⟩ = some (.slice av an acap)) (hkB : w.cell? ⟨B, 4, none⟩ = some (.slice bv bn bcap)) (hf : ReachF f)
    (hL : ReadsU w (.slice lo ln lcap) L) (hLR : ReachL L) (hA : ReadsU w (.slice av an acap) LA) (hAR : ReachL LA) (hB : ReadsU w (.slice bv bn bcap) LB) (hBR : ReachL LB) :
    reg8_1.wp Tryd.prog (Only fun a' W' => (a'.tmps.size = 148 ∧ a'.defers = [] ∧ a'.tmps.getD 0 undef = .string s ∧ a'.tmps.getD 2 undef = .slice lo ln lcap ∧ a'.tmps.getD 3 undef = .int .i64 n ∧ a'.tmps.getD 7 undef = .pointer (some ⟨F, 0, none⟩) ∧ a'.tmps.getD 10 undef = .pointer (some ⟨A, 0, none⟩) ∧ a'.tmps.getD 11 undef = .pointer (some ⟨B, 0, none⟩) ∧ a'.tmps.getD 12 undef = .bool false ∧ a'.tmps.getD 46 undef = .bool (decide (200 < s.size) || (greatL [f] || (greatL L || (greatL LA || greatL LB))))) ∧ New w W') ⟨t, []⟩ w := by
  conv => arg 2; whnf
  obtain ⟨u, rfl⟩ := lit148 t hs
  have hq0 : u 0 = .string s := hq0
  have hq2 : u 2 = .slice lo ln lcap := hq2
  have hq3 : u 3 = .int .i64 n := hq3
  have hq7 : u 7 = .pointer (some ⟨F, 0, none⟩) := hq7
  have hq10 : u 10 = .pointer (some ⟨A, 0, none⟩) := hq10
  have hq11 : u 11 = .pointer (some ⟨B, 0, none⟩) := hq11
  have hq12 : u 12 = .bool false := hq12
  rw [hq0, hq2, hq3, hq7, hq10, hq11, hq12]
  clear hq0 hq2 hq3 hq7 hq10 hq11 hq12 hs
  have HL := Lib.hid (fun W hN => great_any _ L W (hL.new hN) hLR)
  have HA := Lib.hid (fun W hN => great_any _ LA W (hA.new hN) hAR)
  have HB := Lib.hid (fun W hN => great_any _ LB W (hB.new hN) hBR)
  have HF := Lib.hid (fun (W : World) (hh : W.heap[w.heap.size]? = some (.cells #[.string f.name, .string f.val] 54 (0, 0))) => great_any (.slice (some ⟨w.heap.size, 0, none⟩) 1 1) [f] W (own_reads (L := [f]) (base := w.heap.size) (W := W) ⟨rfl, .inr ⟨w.heap.size, 1, _, rfl, Nat.le_refl _, hh, Nat.le_refl _, by unfold maxLen; decide, rfl, rfl⟩⟩ (by show 1 ≤ 2000000; omega)).1.1.wide (fun p hp => by
    cases hp with
    | head => exact hf
    | tail _ h => cases h))
  clear hL hLR hA hAR hB hBR hf
  obtain ⟨bad, hbad⟩ : ∃ x, (decide (200 < s.size) || (greatL [f] || (greatL L || (greatL LA || greatL LB)))) = x := ⟨_, rfl⟩
  rw [hbad]
  have HBad := Lib.hid hbad
  clear hbad
  obtain ⟨gF, hgF⟩ : ∃ x, greatL [f] = x := ⟨_, rfl⟩
  obtain ⟨gL, hgL⟩ : ∃ x, greatL L = x := ⟨_, rfl⟩
  obtain ⟨gA, hgA⟩ : ∃ x, greatL LA = x := ⟨_, rfl⟩
  obtain ⟨gB, hgB⟩ : ∃ x, greatL LB = x := ⟨_, rfl⟩
  rw [hgF] at HF HBad
  rw [hgL] at HL HBad
  rw [hgA] at HA HBad
  rw [hgB] at HB HBad
  clear hgF hgL hgA hgB
  have hN1 : New w (w.alloc (.cells #[.string f.name, .string f.val] 54)) := (Mods.refl _ _).alloc _
  have hrow := World.alloc_heap_new w (.cells #[.string f.name, .string f.val] 54)
  by_cases hsz : 200 < s.size
  case pos =>
    have e1 : decide ((200 : Int) < (s.size : Int)) = true := decide_eq_true (by omega)
    have HV : Hid (true = bad) := Lib.hid (by rw [← HBad.out, decide_eq_true hsz]; rfl)
    clear HBad hsz
    go_wp2_with fail
    exact ⟨⟨rfl, rfl, rfl, rfl, rfl, rfl, rfl, rfl, rfl, congrArg Value.bool HV.out⟩, Mods.refl _ _⟩
  have e1 : decide ((200 : Int) < (s.size : Int)) = false := decide_eq_false (by omega)
  have HBad : Hid ((gF || (gL || (gA || gB))) = bad) := Lib.hid (by rw [← HBad.out, decide_eq_false hsz]; rfl)
  clear hsz
  cases gF with
  | true =>
    have HV : Hid (true = bad) := Lib.hid (by rw [← HBad.out]; rfl)
    clear HBad
    go_wp2_with fail
    refine (HF.out _ hrow).mono ?_
    rintro e w1 ⟨rfl, hK1⟩
    have hM1 := hN1.trans hK1
    have hkA1 := hM1.cell hkA id
    have hkB1 := hM1.cell hkB id
    go_wp2_with fail
    exact ⟨⟨rfl, rfl, rfl, rfl, rfl, rfl, rfl, rfl, rfl, congrArg Value.bool HV.out⟩, hM1⟩
  | false =>
  cases gL with
  | true =>
    have HV : Hid (true = bad) := Lib.hid (by rw [← HBad.out]; rfl)
    clear HBad
    go_wp2_with fail
    refine (HF.out _ hrow).mono ?_
    rintro e w1 ⟨rfl, hK1⟩
    have hM1 := hN1.trans hK1
    have hkA1 := hM1.cell hkA id
    have hkB1 := hM1.cell hkB id
    go_wp2_with fail
    refine (HL.out _ hM1).mono ?_
    rintro e w2 ⟨rfl, hK2⟩
    have hM2 := hM1.trans hK2
    have hkA2 := hM2.cell hkA id
    have hkB2 := hM2.cell hkB id
    go_wp2_with fail
    exact ⟨⟨rfl, rfl, rfl, rfl, rfl, rfl, rfl, rfl, rfl, congrArg Value.bool HV.out⟩, hM2⟩
  | false =>
  cases gA with
  | true =>
    have HV : Hid (true = bad) := Lib.hid (by rw [← HBad.out]; rfl)
    clear HBad
    go_wp2_with fail
    refine (HF.out _ hrow).mono ?_
    rintro e w1 ⟨rfl, hK1⟩
    have hM1 := hN1.trans hK1
    have hkA1 := hM1.cell hkA id
    have hkB1 := hM1.cell hkB id
    go_wp2_with fail
    refine (HL.out _ hM1).mono ?_
    rintro e w2 ⟨rfl, hK2⟩
    have hM2 := hM1.trans hK2
    have hkA2 := hM2.cell hkA id
    have hkB2 := hM2.cell hkB id
    go_wp2_with fail
    refine (HA.out _ hM2).mono ?_
    rintro e w3 ⟨rfl, hK3⟩
    have hM3 := hM2.trans hK3
    have hkA3 := hM3.cell hkA id
    have hkB3 := hM3.cell hkB id
    go_wp2_with fail
    exact ⟨⟨rfl, rfl, rfl, rfl, rfl, rfl, rfl, rfl, rfl, congrArg Value.bool HV.out⟩, hM3⟩
  | false =>
  have HV : Hid (gB = bad) := Lib.hid (by rw [← HBad.out]; rfl)
  clear HBad
  go_wp2_with fail
  refine (HF.out _ hrow).mono ?_
  rintro e w1 ⟨rfl, hK1⟩
  have hM1 := hN1.trans hK1
  have hkA1 := hM1.cell hkA id
  have hkB1 := hM1.cell hkB id
  go_wp2_with fail
  refine (HL.out _ hM1).mono ?_
  rintro e w2 ⟨rfl, hK2⟩
  have hM2 := hM1.trans hK2
  have hkA2 := hM2.cell hkA id
  have hkB2 := hM2.cell hkB id
  go_wp2_with fail
  refine (HA.out _ hM2).mono ?_
  rintro e w3 ⟨rfl, hK3⟩
  have hM3 := hM2.trans hK3
  have hkA3 := hM3.cell hkA id
  have hkB3 := hM3.cell hkB id
  go_wp2_with fail
  refine (HB.out _ hM3).mono ?_
  rintro e w4 ⟨rfl, hK4⟩
  have hM4 := hM3.trans hK4
  go_wp2_with fail
  exact ⟨⟨rfl, rfl, rfl, rfl, rfl, rfl, rfl, rfl, rfl, congrArg Value.bool HV.out⟩, hM4⟩
end Go.Proofs.YtkjghojdfjhhkaaDoor
/- RequestTells: the answers are the same. -/
namespace Go.Proofs.YtkjghojdfjhhkaaDoor
open Go.RowKit Go.Shelf Go.Cs
attribute [local go_sem] Oper.semAt_some
theorem sameR_self (r : Rq) : sameR r r = true := by simp [sameR]
noncomputable def reg8_9 : Code := ((Tryd.f8.body.bind (regionOf 9)).getD .skip)
set_option maxHeartbeats 4000000 in
set_option maxRecDepth 100000 in
theorem equal8 (t : Array Value) (hs : t.size = 148) (w : World) {s us : ByteArray} {lo ca da : Option Addr} {ln lcap cn cc dn dc F A B X Y : Nat} {n : Int} {ok ok2 ok3 : Bool} {r : Rq} {fx fy : Value} {M : List Fd}
    (hq0 : t.getD 0 undef = .string s)
    (hq2 : t.getD 2 undef = .slice lo ln lcap)
    (hq3 : t.getD 3 undef = .int .i64 n)
    (hq7 : t.getD 7 undef = .pointer (some ⟨F, 0, none⟩))
    (hq10 : t.getD 10 undef = .pointer (some ⟨A, 0, none⟩))
    (hq11 : t.getD 11 undef = .pointer (some ⟨B, 0, none⟩))
    (hq12 : t.getD 12 undef = .bool false)
    (hq13 : t.getD 13 undef = .pointer (some ⟨X, 0, none⟩))
    (hq15 : t.getD 15 undef = .pointer (some ⟨Y, 0, none⟩))
    (hq14 : t.getD 14 undef = .bool ok)
    (hq16 : t.getD 16 undef = .bool ok)
    (hq17 : t.getD 17 undef = .slice ca cn cc)
    (hq19 : t.getD 19 undef = .slice da dn dc)
    (hq18 : t.getD 18 undef = .bool ok2)
    (hq20 : t.getD 20 undef = .bool ok2)
    (hq21 : t.getD 21 undef = .string us)
    (hq23 : t.getD 23 undef = .string us)
    (hq22 : t.getD 22 undef = .bool ok3)
    (hq24 : t.getD 24 undef = .bool ok3)
    (hX : w.heap[X]? = some (.cells #[.string r.meth, .string r.scheme, .string r.path, .string r.host, fx] 56 (0, 0))) (hY : w.heap[Y]? = some (.cells #[.string r.meth, .string r.scheme, .string r.path, .string r.host, fy] 56 (0, 0))) (hfx : ReadsL w fx r.fields) (hfy : ReadsL w fy r.fields)
    (hC : ReadsL w (.slice ca cn cc) M) (hD : ReadsL w (.slice da dn dc) M) :
    reg8_9.wp Tryd.prog (Only fun a' W' => (a'.tmps.size = 148 ∧ a'.defers = [] ∧ a'.tmps.getD 0 undef = .string s ∧ a'.tmps.getD 2 undef = .slice lo ln lcap ∧ a'.tmps.getD 3 undef = .int .i64 n ∧ a'.tmps.getD 7 undef = .pointer (some ⟨F, 0, none⟩) ∧ a'.tmps.getD 10 undef = .pointer (some ⟨A, 0, none⟩) ∧ a'.tmps.getD 11 undef = .pointer (some ⟨B, 0, none⟩) ∧ a'.tmps.getD 12 undef = .bool false ∧ a'.tmps.getD 109 undef = .bool false) ∧ New w W') ⟨t, []⟩ w := by
  conv => arg 2; whnf
  obtain ⟨u, rfl⟩ := lit148 t hs
  have hq0 : u 0 = .string s := hq0
  have hq2 : u 2 = .slice lo ln lcap := hq2
  have hq3 : u 3 = .int .i64 n := hq3
  have hq7 : u 7 = .pointer (some ⟨F, 0, none⟩) := hq7
  have hq10 : u 10 = .pointer (some ⟨A, 0, none⟩) := hq10
  have hq11 : u 11 = .pointer (some ⟨B, 0, none⟩) := hq11
  have hq12 : u 12 = .bool false := hq12
  have hq13 : u 13 = .pointer (some ⟨X, 0, none⟩) := hq13
  have hq15 : u 15 = .pointer (some ⟨Y, 0, none⟩) := hq15
  have hq14 : u 14 = .bool ok := hq14
  have hq16 : u 16 = .bool ok := hq16
  have hq17 : u 17 = .slice ca cn cc := hq17
  have hq19 : u 19 = .slice da dn dc := hq19
  have hq18 : u 18 = .bool ok2 := hq18
  have hq20 : u 20 = .bool ok2 := hq20
  have hq21 : u 21 = .string us := hq21
  have hq23 : u 23 = .string us := hq23
  have hq22 : u 22 = .bool ok3 := hq22
  have hq24 : u 24 = .bool ok3 := hq24
  rw [hq0, hq2, hq3, hq7, hq10, hq11, hq12, hq13, hq15, hq14, hq16, hq17, hq19, hq18, hq20, hq21, hq23, hq22, hq24]
  clear hq0 hq2 hq3 hq7 hq10 hq11 hq12 hq13 hq15 hq14 hq16 hq17 hq19 hq18 hq20 hq21 hq23 hq22 hq24 hs
  have kX0 : w.cell? ⟨X, 0, none⟩ = some (.string r.meth) := cell_of_row _ _ _ _ _ _ hX
  have kX1 : w.cell? ⟨X, 1, none⟩ = some (.string r.scheme) := cell_of_row _ _ _ _ _ _ hX
  have kX2 : w.cell? ⟨X, 2, none⟩ = some (.string r.path) := cell_of_row _ _ _ _ _ _ hX
  have kX3 : w.cell? ⟨X, 3, none⟩ = some (.string r.host) := cell_of_row _ _ _ _ _ _ hX
  have kX4 : w.cell? ⟨X, 4, none⟩ = some fx := cell_of_row _ _ _ _ _ _ hX
  have kY0 : w.cell? ⟨Y, 0, none⟩ = some (.string r.meth) := cell_of_row _ _ _ _ _ _ hY
  have kY1 : w.cell? ⟨Y, 1, none⟩ = some (.string r.scheme) := cell_of_row _ _ _ _ _ _ hY
  have kY2 : w.cell? ⟨Y, 2, none⟩ = some (.string r.path) := cell_of_row _ _ _ _ _ _ hY
  have kY3 : w.cell? ⟨Y, 3, none⟩ = some (.string r.host) := cell_of_row _ _ _ _ _ _ hY
  have kY4 : w.cell? ⟨Y, 4, none⟩ = some fy := cell_of_row _ _ _ _ _ _ hY
  have HS := Lib.hid (same_ref (.agg (r.cs fx).toArray) (.agg (r.cs fy).toArray) r r w ⟨fx, rfl, hfx⟩ ⟨fy, rfl, hfy⟩)
  rw [sameR_self] at HS
  have HFl := Lib.hid (fun W (hN : New w W) => fields_any _ _ M M W (hC.new hN) (hD.new hN))
  have e1 : (ok != ok) = false := by cases ok <;> rfl
  have e2 : (ok2 != ok2) = false := by cases ok2 <;> rfl
  have e3 : (ok3 != ok3) = false := by cases ok3 <;> rfl
  obtain ⟨ao, cap, rfl⟩ := hfx.slice
  obtain ⟨ao', cap', rfl⟩ := hfy.slice
  clear hC hD hX hY hfx hfy
  go_wp2_with fail
  refine HS.out.mono ?_
  rintro e w1 ⟨rfl, hN1⟩
  clear HS
  go_wp2_with fail
  refine (HFl.out _ hN1).mono ?_
  rintro e w2 ⟨he, hN2⟩
  simp only [decide_true] at he
  subst he
  clear HFl
  have hN := hN1.trans hN2
  go_wp2_with fail
  exact ⟨⟨rfl, rfl, rfl, rfl, rfl, rfl, rfl, rfl, rfl, rfl⟩, hN⟩
end Go.Proofs.YtkjghojdfjhhkaaDoor
