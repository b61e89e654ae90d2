/- HandlerMay: its parts. -/
import Derived.Test.YtkjghojdfjhhkaaDoorM33
set_option linter.unusedSimpArgs false
set_option linter.unusedVariables false
namespace Go.Proofs.YtkjghojdfjhhkaaDoor
open Go.RowKit Go.Shelf Go.Cs
attribute [local go_sem] Oper.semAt_some
set_option linter.unusedVariables false
set_option linter.unusedSimpArgs false
theorem lit211' (t : Array Value) (h : t.size = 211) : ∃ u : Nat → Value, t = (u 0 :: u 1 :: u 2 :: u 3 :: u 4 :: u 5 :: u 6 :: u 7 :: u 8 :: u 9 :: u 10 :: u 11 :: u 12 :: u 13 :: u 14 :: u 15 :: u 16 :: u 17 :: u 18 :: u 19 :: u 20 :: u 21 :: u 22 :: u 23 :: u 24 :: u 25 :: u 26 :: u 27 :: u 28 :: u 29 :: u 30 :: u 31 :: u 32 :: u 33 :: u 34 :: u 35 :: u 36 :: u 37 :: u 38 :: u 39 :: u 40 :: u 41 :: u 42 :: u 43 :: u 44 :: u 45 :: u 46 :: u 47 :: u 48 :: u 49 :: u 50 :: u 51 :: u 52 :: u 53 :: u 54 :: u 55 :: u 56 :: u 57 :: u 58 :: u 59 :: u 60 :: u 61 :: u 62 :: u 63 :: u 64 :: u 65 :: u 66 :: u 67 :: u 68 :: u 69 :: u 70 :: u 71 :: u 72 :: u 73 :: u 74 :: u 75 :: u 76 :: u 77 :: u 78 :: u 79 :: u 80 :: u 81 :: u 82 :: u 83 :: u 84 :: u 85 :: u 86 :: u 87 :: u 88 :: u 89 :: u 90 :: u 91 :: u 92 :: u 93 :: u 94 :: u 95 :: u 96 :: u 97 :: u 98 :: u 99 :: u 100 :: u 101 :: u 102 :: u 103 :: u 104 :: u 105 :: u 106 :: u 107 :: u 108 :: u 109 :: u 110 :: u 111 :: u 112 :: u 113 :: u 114 :: u 115 :: u 116 :: u 117 :: u 118 :: u 119 :: u 120 :: u 121 :: u 122 :: u 123 :: u 124 :: u 125 :: u 126 :: u 127 :: u 128 :: u 129 :: u 130 :: u 131 :: u 132 :: u 133 :: u 134 :: u 135 :: u 136 :: u 137 :: u 138 :: u 139 :: u 140 :: u 141 :: u 142 :: u 143 :: u 144 :: u 145 :: u 146 :: u 147 :: u 148 :: u 149 :: u 150 :: u 151 :: u 152 :: u 153 :: u 154 :: u 155 :: u 156 :: u 157 :: u 158 :: u 159 :: u 160 :: u 161 :: u 162 :: u 163 :: u 164 :: u 165 :: u 166 :: u 167 :: u 168 :: u 169 :: u 170 :: u 171 :: u 172 :: u 173 :: u 174 :: u 175 :: u 176 :: u 177 :: u 178 :: u 179 :: u 180 :: u 181 :: u 182 :: u 183 :: u 184 :: u 185 :: u 186 :: u 187 :: u 188 :: u 189 :: u 190 :: u 191 :: u 192 :: u 193 :: u 194 :: u 195 :: u 196 :: u 197 :: u 198 :: u 199 :: u 200 :: u 201 :: u 202 :: u 203 :: u 204 :: u 205 :: u 206 :: u 207 :: u 208 :: u 209 :: u 210 :: ([] : List Value)).toArray := ⟨fun i => t.getD i undef, range_lit t 211 h⟩
theorem cells24 {W : World} {B : Nat} {s : St} {ov : Value} (r : W.heap[B]? = some (.cells (s.cs ov).toArray 24 (0, 0))) :
    W.cell? ⟨B, 0, none⟩ = some (.int .i64 s.id) ∧ W.cell? ⟨B, 1, none⟩ = some (.int .u8 s.state) ∧ W.cell? ⟨B, 2, none⟩ = some (.int .i64 s.send) ∧ W.cell? ⟨B, 3, none⟩ = some (.int .i64 s.recv) ∧ W.cell? ⟨B, 4, none⟩ = some (.int .i64 s.owed) ∧ W.cell? ⟨B, 5, none⟩ = some (.bool s.ans) ∧
      W.cell? ⟨B, 6, none⟩ = some (.bool s.ends) ∧ W.cell? ⟨B, 7, none⟩ = some ov ∧ W.cell? ⟨B, 8, none⟩ = some (.int .u8 s.urg) ∧ W.cell? ⟨B, 9, none⟩ = some (.bool s.inc) ∧ W.cell? ⟨B, 10, none⟩ = some (.int .i64 s.slot) :=
  ⟨cell_of_row _ _ 0 _ _ _ r, cell_of_row _ _ 1 _ _ _ r, cell_of_row _ _ 2 _ _ _ r, cell_of_row _ _ 3 _ _ _ r, cell_of_row _ _ 4 _ _ _ r, cell_of_row _ _ 5 _ _ _ r, cell_of_row _ _ 6 _ _ _ r, cell_of_row _ _ 7 _ _ _ r, cell_of_row _ _ 8 _ _ _ r, cell_of_row _ _ 9 _ _ _ r, cell_of_row _ _ 10 _ _ _ r⟩
theorem strOfNums_app (a b : List Int) : strOfNums (a ++ b) = strOfNums a ++ strOfNums b := by
  apply ByteArray.ext
  apply Array.ext'
  simp [strOfNums, ByteArray.data_append]
noncomputable def reg6_14 : Code := ((Tryd.f6.body.bind (regionOf 14)).getD .skip)
set_option maxHeartbeats 40000000 in
set_option maxRecDepth 100000 in
theorem same6 (t : Array Value) (hs : t.size = 211) (w : World) {B Y Z V : Nat} {s ys zs ws : St} {oa bo ya za va : Option Addr} {oc bn bcap yc zc vc : Nat} {ef eg eh : Int} {b : List Int}
    (hq3 : t.getD 3 undef = .slice bo bn bcap)
    (hq4 : t.getD 4 undef = .pointer (some ⟨B, 0, none⟩))
    (hq15 : t.getD 15 undef = .pointer (some ⟨Y, 0, none⟩))
    (hq16 : t.getD 16 undef = .int .i64 ef)
    (hq17 : t.getD 17 undef = .pointer (some ⟨Z, 0, none⟩))
    (hq18 : t.getD 18 undef = .int .i64 eg)
    (hq19 : t.getD 19 undef = .pointer (some ⟨V, 0, none⟩))
    (hq20 : t.getD 20 undef = .int .i64 eh)
    (r : w.heap[B]? = some (.cells (St.cs s (.slice oa s.out.length oc)).toArray 24 (0, 0))) (rY : w.heap[Y]? = some (.cells (St.cs ys (.slice ya ys.out.length yc)).toArray 24 (0, 0))) (rZ : w.heap[Z]? = some (.cells (St.cs zs (.slice za zs.out.length zc)).toArray 24 (0, 0))) (rV : w.heap[V]? = some (.cells (St.cs ws (.slice va ws.out.length vc)).toArray 24 (0, 0))) (hr : RdB w (.slice oa s.out.length oc) s.out) (hb : RdB w (.slice bo bn bcap) b) (hy1 : RdB w (.slice ya ys.out.length yc) ys.out) (hl1 : s.out.length ≤ 1000000) (hl2 : b.length ≤ 1000000) (hf : (ef = 0 ∧ ys.out = s.out ++ b) ∨ (ef ≠ 0 ∧ ys = s)) (hg : eg = 0 ∨ (eg ≠ 0 ∧ zs = s)) (hh : eh = 0 ∨ (eh ≠ 0 ∧ ws = s)) (hSY : ys = s → ∀ W, New w W → Calls Tryd.prog 17 #[.agg (St.cs ys (.slice ya ys.out.length yc)).toArray, .agg (St.cs s (.slice oa s.out.length oc)).toArray] W fun e w' => e = .returned (.bool true) ∧ New W w') (hSZ : zs = s → ∀ W, New w W → Calls Tryd.prog 17 #[.agg (St.cs zs (.slice za zs.out.length zc)).toArray, .agg (St.cs s (.slice oa s.out.length oc)).toArray] W fun e w' => e = .returned (.bool true) ∧ New W w') (hSV : ws = s → ∀ W, New w W → Calls Tryd.prog 17 #[.agg (St.cs ws (.slice va ws.out.length vc)).toArray, .agg (St.cs s (.slice oa s.out.length oc)).toArray] W fun e w' => e = .returned (.bool true) ∧ New W w') :
    reg6_14.wp Tryd.prog (Only fun a' W' => (a'.tmps.size = 211 ∧ a'.defers = [] ∧ a'.tmps.getD 19 undef = .pointer (some ⟨V, 0, none⟩) ∧ a'.tmps.getD 20 undef = .int .i64 eh ∧ a'.tmps.getD 189 undef = .bool false) ∧ New w W') ⟨t, []⟩ w := by
  conv => arg 2; whnf
  obtain ⟨u, rfl⟩ := lit211' t hs
  have hq3 : u 3 = .slice bo bn bcap := hq3
  have hq4 : u 4 = .pointer (some ⟨B, 0, none⟩) := hq4
  have hq15 : u 15 = .pointer (some ⟨Y, 0, none⟩) := hq15
  have hq16 : u 16 = .int .i64 ef := hq16
  have hq17 : u 17 = .pointer (some ⟨Z, 0, none⟩) := hq17
  have hq18 : u 18 = .int .i64 eg := hq18
  have hq19 : u 19 = .pointer (some ⟨V, 0, none⟩) := hq19
  have hq20 : u 20 = .int .i64 eh := hq20
  rw [hq3, hq4, hq15, hq16, hq17, hq18, hq19, hq20]
  clear hq3 hq4 hq15 hq16 hq17 hq18 hq19 hq20 hs
  have k7 : w.cell? ⟨B, 7, none⟩ = some (.slice oa s.out.length oc) := cell_of_row _ _ 7 _ _ _ r
  have j7 : w.cell? ⟨Y, 7, none⟩ = some (.slice ya ys.out.length yc) := cell_of_row _ _ 7 _ _ _ rY
  have hN0 := Mods.refl (fun _ => False) w
  have HSY := Lib.hid hSY
  have HSZ := Lib.hid hSZ
  have HSV := Lib.hid hSV
  clear hSY hSZ hSV
  rcases hf with ⟨rfl, hy⟩ | ⟨hne, hy⟩
  · have q1 : (convert 22 9 (.slice oa s.out.length oc)).run Tryd.prog w = .ok (.string (strOfNums s.out)) w := hr.str
    have q2 : (convert 22 9 (.slice bo bn bcap)).run Tryd.prog w = .ok (.string (strOfNums b)) w := hb.str
    have q3 : (convert 22 9 (.slice ya ys.out.length yc)).run Tryd.prog w = .ok (.string (strOfNums s.out ++ strOfNums b)) w := by
      have := hy1.str
      rw [hy, strOfNums_app] at this
      rw [hy]
      exact this
    have z1 : (strOfNums s.out).size ≤ 1000000 := by rw [Go.strOfNums_size]; exact hl1
    have z2 : (strOfNums b).size ≤ 1000000 := by rw [Go.strOfNums_size]; exact hl2
    obtain ⟨A1, hA1⟩ : ∃ x, strOfNums s.out = x := ⟨_, rfl⟩
    obtain ⟨A2, hA2⟩ : ∃ x, strOfNums b = x := ⟨_, rfl⟩
    rw [hA1] at q1 q3 z1
    rw [hA2] at q2 q3 z2
    clear hA1 hA2 hr hb hy1 hy hl1 hl2
    rcases hg with rfl | ⟨hne2, hz⟩
    · rcases hh with rfl | ⟨hne3, hw⟩
      · go_wp2_with fail
        exact ⟨⟨rfl, rfl, rfl, rfl, rfl⟩, hN0⟩
      · have HV := Lib.hid hw
        clear hw
        have h1 : (eh == 0) = false := by simpa using hne3
        have h2 : (eh != 0) = true := by rw [bne, h1]; rfl
        obtain ⟨l0_0, l0_1, l0_2, l0_3, l0_4, l0_5, l0_6, l0_7, l0_8, l0_9, l0_10⟩ := cells24 (hN0.heap rV id)
        obtain ⟨m0_0, m0_1, m0_2, m0_3, m0_4, m0_5, m0_6, m0_7, m0_8, m0_9, m0_10⟩ := cells24 (hN0.heap r id)
        go_wp2_with fail
        refine (HSV.out HV.out _ hN0).mono ?_
        rintro e w1 ⟨rfl, hk⟩
        have hN1 := hN0.trans hk
        clear hk
        go_wp2_with fail
        exact ⟨⟨rfl, rfl, rfl, rfl, rfl⟩, hN1⟩
    · have HZ := Lib.hid hz
      clear hz
      have g1 : (eg == 0) = false := by simpa using hne2
      have g2 : (eg != 0) = true := by rw [bne, g1]; rfl
      rcases hh with rfl | ⟨hne3, hw⟩
      · obtain ⟨l0_0, l0_1, l0_2, l0_3, l0_4, l0_5, l0_6, l0_7, l0_8, l0_9, l0_10⟩ := cells24 (hN0.heap rZ id)
        obtain ⟨m0_0, m0_1, m0_2, m0_3, m0_4, m0_5, m0_6, m0_7, m0_8, m0_9, m0_10⟩ := cells24 (hN0.heap r id)
        go_wp2_with fail
        refine (HSZ.out HZ.out _ hN0).mono ?_
        rintro e w1 ⟨rfl, hk⟩
        have hN1 := hN0.trans hk
        clear hk
        go_wp2_with fail
        exact ⟨⟨rfl, rfl, rfl, rfl, rfl⟩, hN1⟩
      · have HV := Lib.hid hw
        clear hw
        have h1 : (eh == 0) = false := by simpa using hne3
        have h2 : (eh != 0) = true := by rw [bne, h1]; rfl
        obtain ⟨l0_0, l0_1, l0_2, l0_3, l0_4, l0_5, l0_6, l0_7, l0_8, l0_9, l0_10⟩ := cells24 (hN0.heap rZ id)
        obtain ⟨m0_0, m0_1, m0_2, m0_3, m0_4, m0_5, m0_6, m0_7, m0_8, m0_9, m0_10⟩ := cells24 (hN0.heap r id)
        go_wp2_with fail
        refine (HSZ.out HZ.out _ hN0).mono ?_
        rintro e w1 ⟨rfl, hk⟩
        have hN1 := hN0.trans hk
        clear hk
        obtain ⟨l1_0, l1_1, l1_2, l1_3, l1_4, l1_5, l1_6, l1_7, l1_8, l1_9, l1_10⟩ := cells24 (hN1.heap rV id)
        obtain ⟨m1_0, m1_1, m1_2, m1_3, m1_4, m1_5, m1_6, m1_7, m1_8, m1_9, m1_10⟩ := cells24 (hN1.heap r id)
        go_wp2_with fail
        refine (HSV.out HV.out _ hN1).mono ?_
        rintro e w2 ⟨rfl, hk⟩
        have hN2 := hN1.trans hk
        clear hk
        go_wp2_with fail
        exact ⟨⟨rfl, rfl, rfl, rfl, rfl⟩, hN2⟩
  · have HY := Lib.hid hy
    have f1 : (ef == 0) = false := by simpa using hne
    have f2 : (ef != 0) = true := by rw [bne, f1]; rfl
    clear hr hb hy1 hl1 hl2 hy
    rcases hg with rfl | ⟨hne2, hz⟩
    · rcases hh with rfl | ⟨hne3, hw⟩
      · obtain ⟨l0_0, l0_1, l0_2, l0_3, l0_4, l0_5, l0_6, l0_7, l0_8, l0_9, l0_10⟩ := cells24 (hN0.heap rY id)
        obtain ⟨m0_0, m0_1, m0_2, m0_3, m0_4, m0_5, m0_6, m0_7, m0_8, m0_9, m0_10⟩ := cells24 (hN0.heap r id)
        go_wp2_with fail
        refine (HSY.out HY.out _ hN0).mono ?_
        rintro e w1 ⟨rfl, hk⟩
        have hN1 := hN0.trans hk
        clear hk
        go_wp2_with fail
        exact ⟨⟨rfl, rfl, rfl, rfl, rfl⟩, hN1⟩
      · have HV := Lib.hid hw
        clear hw
        have h1 : (eh == 0) = false := by simpa using hne3
        have h2 : (eh != 0) = true := by rw [bne, h1]; rfl
        obtain ⟨l0_0, l0_1, l0_2, l0_3, l0_4, l0_5, l0_6, l0_7, l0_8, l0_9, l0_10⟩ := cells24 (hN0.heap rY id)
        obtain ⟨m0_0, m0_1, m0_2, m0_3, m0_4, m0_5, m0_6, m0_7, m0_8, m0_9, m0_10⟩ := cells24 (hN0.heap r id)
        go_wp2_with fail
        refine (HSY.out HY.out _ hN0).mono ?_
        rintro e w1 ⟨rfl, hk⟩
        have hN1 := hN0.trans hk
        clear hk
        obtain ⟨l1_0, l1_1, l1_2, l1_3, l1_4, l1_5, l1_6, l1_7, l1_8, l1_9, l1_10⟩ := cells24 (hN1.heap rV id)
        obtain ⟨m1_0, m1_1, m1_2, m1_3, m1_4, m1_5, m1_6, m1_7, m1_8, m1_9, m1_10⟩ := cells24 (hN1.heap r id)
        go_wp2_with fail
        refine (HSV.out HV.out _ hN1).mono ?_
        rintro e w2 ⟨rfl, hk⟩
        have hN2 := hN1.trans hk
        clear hk
        go_wp2_with fail
        exact ⟨⟨rfl, rfl, rfl, rfl, rfl⟩, hN2⟩
    · have HZ := Lib.hid hz
      clear hz
      have g1 : (eg == 0) = false := by simpa using hne2
      have g2 : (eg != 0) = true := by rw [bne, g1]; rfl
      rcases hh with rfl | ⟨hne3, hw⟩
      · obtain ⟨l0_0, l0_1, l0_2, l0_3, l0_4, l0_5, l0_6, l0_7, l0_8, l0_9, l0_10⟩ := cells24 (hN0.heap rY id)
        obtain ⟨m0_0, m0_1, m0_2, m0_3, m0_4, m0_5, m0_6, m0_7, m0_8, m0_9, m0_10⟩ := cells24 (hN0.heap r id)
        go_wp2_with fail
        refine (HSY.out HY.out _ hN0).mono ?_
        rintro e w1 ⟨rfl, hk⟩
        have hN1 := hN0.trans hk
        clear hk
        obtain ⟨l1_0, l1_1, l1_2, l1_3, l1_4, l1_5, l1_6, l1_7, l1_8, l1_9, l1_10⟩ := cells24 (hN1.heap rZ id)
        obtain ⟨m1_0, m1_1, m1_2, m1_3, m1_4, m1_5, m1_6, m1_7, m1_8, m1_9, m1_10⟩ := cells24 (hN1.heap r id)
        go_wp2_with fail
        refine (HSZ.out HZ.out _ hN1).mono ?_
        rintro e w2 ⟨rfl, hk⟩
        have hN2 := hN1.trans hk
        clear hk
        go_wp2_with fail
        exact ⟨⟨rfl, rfl, rfl, rfl, rfl⟩, hN2⟩
      · have HV := Lib.hid hw
        clear hw
        have h1 : (eh == 0) = false := by simpa using hne3
        have h2 : (eh != 0) = true := by rw [bne, h1]; rfl
        obtain ⟨l0_0, l0_1, l0_2, l0_3, l0_4, l0_5, l0_6, l0_7, l0_8, l0_9, l0_10⟩ := cells24 (hN0.heap rY id)
        obtain ⟨m0_0, m0_1, m0_2, m0_3, m0_4, m0_5, m0_6, m0_7, m0_8, m0_9, m0_10⟩ := cells24 (hN0.heap r id)
        go_wp2_with fail
        refine (HSY.out HY.out _ hN0).mono ?_
        rintro e w1 ⟨rfl, hk⟩
        have hN1 := hN0.trans hk
        clear hk
        obtain ⟨l1_0, l1_1, l1_2, l1_3, l1_4, l1_5, l1_6, l1_7, l1_8, l1_9, l1_10⟩ := cells24 (hN1.heap rZ id)
        obtain ⟨m1_0, m1_1, m1_2, m1_3, m1_4, m1_5, m1_6, m1_7, m1_8, m1_9, m1_10⟩ := cells24 (hN1.heap r id)
        go_wp2_with fail
        refine (HSZ.out HZ.out _ hN1).mono ?_
        rintro e w2 ⟨rfl, hk⟩
        have hN2 := hN1.trans hk
        clear hk
        obtain ⟨l2_0, l2_1, l2_2, l2_3, l2_4, l2_5, l2_6, l2_7, l2_8, l2_9, l2_10⟩ := cells24 (hN2.heap rV id)
        obtain ⟨m2_0, m2_1, m2_2, m2_3, m2_4, m2_5, m2_6, m2_7, m2_8, m2_9, m2_10⟩ := cells24 (hN2.heap r id)
        go_wp2_with fail
        refine (HSV.out HV.out _ hN2).mono ?_
        rintro e w3 ⟨rfl, hk⟩
        have hN3 := hN2.trans hk
        clear hk
        go_wp2_with fail
        exact ⟨⟨rfl, rfl, rfl, rfl, rfl⟩, hN3⟩
end Go.Proofs.YtkjghojdfjhhkaaDoor
