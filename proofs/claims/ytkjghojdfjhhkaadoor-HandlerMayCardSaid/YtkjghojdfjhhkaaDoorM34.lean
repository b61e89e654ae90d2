/- HandlerMay: its parts. -/
import Derived.Test.YtkjghojdfjhhkaaDoorM33
set_option linter.unusedSimpArgs false
set_option linter.unusedVariables false
namespace Go.Proofs.YtkjghojdfjhhkaaDoor
open Go.RowKit Go.Shelf Go.Cs
attribute [local go_sem] Oper.semAt_some
set_option linter.unusedVariables false
set_option linter.unusedSimpArgs false
theorem lit211 (t : Array Value) (h : t.size = 211) : ∃ u : Nat → Value, t = (u 0 :: u 1 :: u 2 :: u 3 :: u 4 :: u 5 :: u 6 :: u 7 :: u 8 :: u 9 :: u 10 :: u 11 :: u 12 :: u 13 :: u 14 :: u 15 :: u 16 :: u 17 :: u 18 :: u 19 :: u 20 :: u 21 :: u 22 :: u 23 :: u 24 :: u 25 :: u 26 :: u 27 :: u 28 :: u 29 :: u 30 :: u 31 :: u 32 :: u 33 :: u 34 :: u 35 :: u 36 :: u 37 :: u 38 :: u 39 :: u 40 :: u 41 :: u 42 :: u 43 :: u 44 :: u 45 :: u 46 :: u 47 :: u 48 :: u 49 :: u 50 :: u 51 :: u 52 :: u 53 :: u 54 :: u 55 :: u 56 :: u 57 :: u 58 :: u 59 :: u 60 :: u 61 :: u 62 :: u 63 :: u 64 :: u 65 :: u 66 :: u 67 :: u 68 :: u 69 :: u 70 :: u 71 :: u 72 :: u 73 :: u 74 :: u 75 :: u 76 :: u 77 :: u 78 :: u 79 :: u 80 :: u 81 :: u 82 :: u 83 :: u 84 :: u 85 :: u 86 :: u 87 :: u 88 :: u 89 :: u 90 :: u 91 :: u 92 :: u 93 :: u 94 :: u 95 :: u 96 :: u 97 :: u 98 :: u 99 :: u 100 :: u 101 :: u 102 :: u 103 :: u 104 :: u 105 :: u 106 :: u 107 :: u 108 :: u 109 :: u 110 :: u 111 :: u 112 :: u 113 :: u 114 :: u 115 :: u 116 :: u 117 :: u 118 :: u 119 :: u 120 :: u 121 :: u 122 :: u 123 :: u 124 :: u 125 :: u 126 :: u 127 :: u 128 :: u 129 :: u 130 :: u 131 :: u 132 :: u 133 :: u 134 :: u 135 :: u 136 :: u 137 :: u 138 :: u 139 :: u 140 :: u 141 :: u 142 :: u 143 :: u 144 :: u 145 :: u 146 :: u 147 :: u 148 :: u 149 :: u 150 :: u 151 :: u 152 :: u 153 :: u 154 :: u 155 :: u 156 :: u 157 :: u 158 :: u 159 :: u 160 :: u 161 :: u 162 :: u 163 :: u 164 :: u 165 :: u 166 :: u 167 :: u 168 :: u 169 :: u 170 :: u 171 :: u 172 :: u 173 :: u 174 :: u 175 :: u 176 :: u 177 :: u 178 :: u 179 :: u 180 :: u 181 :: u 182 :: u 183 :: u 184 :: u 185 :: u 186 :: u 187 :: u 188 :: u 189 :: u 190 :: u 191 :: u 192 :: u 193 :: u 194 :: u 195 :: u 196 :: u 197 :: u 198 :: u 199 :: u 200 :: u 201 :: u 202 :: u 203 :: u 204 :: u 205 :: u 206 :: u 207 :: u 208 :: u 209 :: u 210 :: ([] : List Value)).toArray := ⟨fun i => t.getD i undef, range_lit t 211 h⟩
theorem may_answer {s xs : St} {n ea : Int} {L m : List Fd} (h : answerS s n L = (xs, m, ea)) : (ea = 270 ↔ ¬ (oursB s = true ∧ s.ans = false)) ∧ ((ea = 0 ∧ answerL n L = some m ∧ xs.ans = true) ∨ (ea ≠ 0 ∧ m = [] ∧ xs = s)) := by
  unfold answerS at h
  cases ho : oursB s <;> cases ha : s.ans <;> rw [ho, ha] at h <;> simp only [Bool.not_true, Bool.not_false, Bool.and_true, Bool.and_false, Bool.true_and, Bool.false_and, if_true, Bool.false_eq_true, if_false] at h
  · cases h; exact ⟨by simp, .inr ⟨by decide, rfl, rfl⟩⟩
  · cases h; exact ⟨by simp, .inr ⟨by decide, rfl, rfl⟩⟩
  · split at h
    · cases h; exact ⟨by simp, .inr ⟨by decide, rfl, rfl⟩⟩
    · rename_i l hl
      cases h
      exact ⟨by simp, .inl ⟨rfl, hl, rfl⟩⟩
  · cases h; exact ⟨by simp, .inr ⟨by decide, rfl, rfl⟩⟩
theorem may_write {s ys : St} {b : List Int} {ef : Int} (h : writeS s b = (ys, ef)) : (ef = 270 ↔ openB s = false) ∧ ((ef = 0 ∧ ys.out = s.out ++ b) ∨ (ef ≠ 0 ∧ ys = s)) := by
  unfold writeS at h
  cases ho : openB s <;> rw [ho] at h <;> simp only [Bool.false_eq_true, if_false, if_true] at h
  · cases h; exact ⟨by simp, .inr ⟨by decide, rfl⟩⟩
  · split at h
    · cases h; exact ⟨by simp, .inr ⟨by decide, rfl⟩⟩
    · cases h; exact ⟨by simp, .inl ⟨rfl, rfl⟩⟩
theorem may_end {s zs : St} {eg : Int} (h : endS s = (zs, eg)) : (eg = 0 ↔ openB s = true) ∧ (eg = 0 ∨ (eg ≠ 0 ∧ zs = s)) := by
  unfold endS at h
  cases ho : openB s <;> rw [ho] at h <;> simp only [Bool.false_eq_true, if_false, if_true] at h
  · cases h; exact ⟨by simp, .inr ⟨by decide, rfl⟩⟩
  · cases h; exact ⟨by simp, .inl rfl⟩
theorem may_reset {s ws : St} {eh : Int} (h : resetS s = (ws, eh)) : (eh = 0 ↔ (oursB s = true ∨ s.state = 3)) ∧ ((eh = 0 ∧ ws.state = 5 ∧ ws.out = [] ∧ ws.ends = false) ∨ (eh ≠ 0 ∧ ws = s)) := by
  unfold resetS at h
  split at h
  · rename_i hc
    cases h
    simp only [Bool.or_eq_true, decide_eq_true_eq] at hc
    exact ⟨⟨fun _ => hc, fun _ => rfl⟩, .inl ⟨rfl, rfl, rfl, rfl⟩⟩
  · rename_i hc
    cases h
    simp only [Bool.or_eq_true, decide_eq_true_eq] at hc
    exact ⟨⟨fun h => absurd h (by decide), fun h => absurd h hc⟩, .inr ⟨by decide, rfl⟩⟩
noncomputable def reg6_1 : Code := ((Tryd.f6.body.bind (regionOf 1)).getD .skip)
set_option maxHeartbeats 4000000 in
set_option maxRecDepth 100000 in
theorem great6 (t : Array Value) (hs : t.size = 211) (w : World) {B : Nat} {s : St} {oa lo bo : Option Addr} {oc ln lcap bn bcap : Nat} {n : Int} {L : List Fd}
    (hq1 : t.getD 1 undef = .int .i64 n)
    (hq2 : t.getD 2 undef = .slice lo ln lcap)
    (hq3 : t.getD 3 undef = .slice bo bn bcap)
    (hq4 : t.getD 4 undef = .pointer (some ⟨B, 0, none⟩))
    (hq8 : t.getD 8 undef = .bool false)
    (r : w.heap[B]? = some (.cells (St.cs s (.slice oa s.out.length oc)).toArray 24 (0, 0))) (hL : ReadsU w (.slice lo ln lcap) L) (hLR : ReachL L) :
    reg6_1.wp Tryd.prog (Only fun a' W' => (a'.tmps.size = 211 ∧ a'.defers = [] ∧ a'.tmps.getD 1 undef = .int .i64 n ∧ a'.tmps.getD 2 undef = .slice lo ln lcap ∧ a'.tmps.getD 3 undef = .slice bo bn bcap ∧ a'.tmps.getD 4 undef = .pointer (some ⟨B, 0, none⟩) ∧ a'.tmps.getD 8 undef = .bool false ∧ a'.tmps.getD 32 undef = .bool (decide (3000 < s.out.length) || (greatL L || decide (3000 < bn)))) ∧ New w W') ⟨t, []⟩ w := by
  conv => arg 2; whnf
  obtain ⟨u, rfl⟩ := lit211 t hs
  have hq1 : u 1 = .int .i64 n := hq1
  have hq2 : u 2 = .slice lo ln lcap := hq2
  have hq3 : u 3 = .slice bo bn bcap := hq3
  have hq4 : u 4 = .pointer (some ⟨B, 0, none⟩) := hq4
  have hq8 : u 8 = .bool false := hq8
  rw [hq1, hq2, hq3, hq4, hq8]
  clear hq1 hq2 hq3 hq4 hq8 hs
  have hN0 := Mods.refl (fun _ => False) w
  have HG := Lib.hid (fun W (hN : New w W) => great_any _ L W (hL.new hN) hLR)
  obtain ⟨g3, h3⟩ : ∃ x, greatL L = x := ⟨_, rfl⟩
  obtain ⟨g1, h1⟩ : ∃ x, decide (3000 < s.out.length) = x := ⟨_, rfl⟩
  obtain ⟨g4, h4⟩ : ∃ x, decide (3000 < bn) = x := ⟨_, rfl⟩
  have h4' : decide ((3000 : Int) < (bn : Int)) = g4 := by rw [← h4]; exact decide_eq_decide.2 (by omega)
  rw [h3] at HG
  obtain ⟨bad, hbad⟩ : ∃ x, (decide (3000 < s.out.length) || (greatL L || decide (3000 < bn))) = x := ⟨_, rfl⟩
  rw [hbad]
  rw [h1, h3, h4] at hbad
  have HB := Lib.hid hbad
  clear hbad hL hLR h3 h4
  cases g1 with
  | true =>
    have HV : Hid (true = bad) := Lib.hid (by rw [← HB.out]; rfl)
    go_wp2_with (first | (refine op_value rfl (run_load_row 24 (.tmp 4) rfl B rfl 24 _ (0, 0) _ r Tryd.underlying24 rfl info24) ?_) | (refine op_value_g rfl (run_load_row 24 (.tmp 4) rfl B rfl 24 _ (0, 0) _ r Tryd.underlying24 rfl info24) ?_))
    refine (great_S s _ _ s.out.length oa oc rfl).mono ?_
    rintro e w1 ⟨rfl, hk⟩
    have hN1 := hN0.trans hk
    rw [h1]
    go_wp2_with fail
    exact ⟨⟨rfl, rfl, rfl, rfl, rfl, rfl, rfl, congrArg Value.bool HV.out⟩, hN1⟩
  | false =>
  cases g3 with
  | true =>
    have HV : Hid (true = bad) := Lib.hid (by rw [← HB.out]; rfl)
    go_wp2_with (first | (refine op_value rfl (run_load_row 24 (.tmp 4) rfl B rfl 24 _ (0, 0) _ r Tryd.underlying24 rfl info24) ?_) | (refine op_value_g rfl (run_load_row 24 (.tmp 4) rfl B rfl 24 _ (0, 0) _ r Tryd.underlying24 rfl info24) ?_))
    refine (great_S s _ _ s.out.length oa oc rfl).mono ?_
    rintro e w1 ⟨rfl, hk⟩
    have hN1 := hN0.trans hk
    rw [h1]
    go_wp2_with fail
    refine (HG.out _ hN1).mono ?_
    rintro e w2 ⟨rfl, hk⟩
    have hN2 := hN1.trans hk
    go_wp2_with fail
    exact ⟨⟨rfl, rfl, rfl, rfl, rfl, rfl, rfl, congrArg Value.bool HV.out⟩, hN2⟩
  | false =>
  have HV : Hid (g4 = bad) := Lib.hid (by rw [← HB.out]; cases g4 <;> rfl)
  go_wp2_with (first | (refine op_value rfl (run_load_row 24 (.tmp 4) rfl B rfl 24 _ (0, 0) _ r Tryd.underlying24 rfl info24) ?_) | (refine op_value_g rfl (run_load_row 24 (.tmp 4) rfl B rfl 24 _ (0, 0) _ r Tryd.underlying24 rfl info24) ?_))
  refine (great_S s _ _ s.out.length oa oc rfl).mono ?_
  rintro e w1 ⟨rfl, hk⟩
  have hN1 := hN0.trans hk
  rw [h1]
  go_wp2_with fail
  refine (HG.out _ hN1).mono ?_
  rintro e w2 ⟨rfl, hk⟩
  have hN2 := hN1.trans hk
  go_wp2_with fail
  exact ⟨⟨rfl, rfl, rfl, rfl, rfl, rfl, rfl, congrArg Value.bool HV.out⟩, hN2⟩
noncomputable def reg6_3 : Code := ((Tryd.f6.body.bind (regionOf 3)).getD .skip)
set_option maxHeartbeats 4000000 in
set_option maxRecDepth 100000 in
theorem ours6 (t : Array Value) (hs : t.size = 211) (w : World) {B : Nat} {s : St} {oa lo bo : Option Addr} {oc ln lcap bn bcap : Nat} {n : Int}
    (hq1 : t.getD 1 undef = .int .i64 n)
    (hq2 : t.getD 2 undef = .slice lo ln lcap)
    (hq3 : t.getD 3 undef = .slice bo bn bcap)
    (hq4 : t.getD 4 undef = .pointer (some ⟨B, 0, none⟩))
    (r : w.heap[B]? = some (.cells (St.cs s (.slice oa s.out.length oc)).toArray 24 (0, 0))) :
    reg6_3.wp Tryd.prog (Only fun a' W' => (a'.tmps.size = 211 ∧ a'.defers = [] ∧ a'.tmps.getD 1 undef = .int .i64 n ∧ a'.tmps.getD 2 undef = .slice lo ln lcap ∧ a'.tmps.getD 3 undef = .slice bo bn bcap ∧ a'.tmps.getD 4 undef = .pointer (some ⟨B, 0, none⟩) ∧ a'.tmps.getD 9 undef = .bool (oursB s)) ∧ New w W') ⟨t, []⟩ w := by
  conv => arg 2; whnf
  obtain ⟨u, rfl⟩ := lit211 t hs
  have hq1 : u 1 = .int .i64 n := hq1
  have hq2 : u 2 = .slice lo ln lcap := hq2
  have hq3 : u 3 = .slice bo bn bcap := hq3
  have hq4 : u 4 = .pointer (some ⟨B, 0, none⟩) := hq4
  rw [hq1, hq2, hq3, hq4]
  clear hq1 hq2 hq3 hq4 hs
  have k1 : w.cell? ⟨B, 1, none⟩ = some (.int .u8 s.state) := cell_of_row _ _ 1 _ _ _ r
  have HB : Hid (oursB s = (decide (s.state = 1) || decide (s.state = 2))) := Lib.hid rfl
  obtain ⟨ob, hob⟩ : ∃ x, oursB s = x := ⟨_, rfl⟩
  rw [hob] at HB ⊢
  obtain ⟨z, hz⟩ : ∃ z, s.state = z := ⟨_, rfl⟩
  rw [hz] at HB k1
  clear hz hob r
  obtain ⟨d1, h1⟩ : ∃ x, decide (z = 1) = x := ⟨_, rfl⟩
  obtain ⟨d2, h2⟩ : ∃ x, decide (z = 2) = x := ⟨_, rfl⟩
  have h1' : (z == 1) = d1 := h1
  have h2' : (z == 2) = d2 := h2
  rw [h1, h2] at HB
  have hN := Mods.refl (fun _ => False) w
  cases d1
  all_goals
    go_wp2_with fail
    exact ⟨⟨rfl, rfl, rfl, rfl, rfl, rfl, congrArg Value.bool (by rw [HB.out]; rfl)⟩, hN⟩
noncomputable def reg6_9 : Code := ((Tryd.f6.body.bind (regionOf 9)).getD .skip)
set_option maxHeartbeats 4000000 in
set_option maxRecDepth 100000 in
theorem opens6 (t : Array Value) (hs : t.size = 211) (w : World) {B X Y Z V : Nat} {s xs ys zs ws : St} {oa bo la ma : Option Addr} {oc bn bcap ln2 lcp mn mc : Nat} {fine : Bool} {ea ef eg eh : Int}
    (hq3 : t.getD 3 undef = .slice bo bn bcap)
    (hq4 : t.getD 4 undef = .pointer (some ⟨B, 0, none⟩))
    (hq9 : t.getD 9 undef = .bool (oursB s))
    (hq10 : t.getD 10 undef = .slice la ln2 lcp)
    (hq11 : t.getD 11 undef = .bool fine)
    (hq12 : t.getD 12 undef = .pointer (some ⟨X, 0, none⟩))
    (hq13 : t.getD 13 undef = .slice ma mn mc)
    (hq14 : t.getD 14 undef = .int .i64 ea)
    (hq15 : t.getD 15 undef = .pointer (some ⟨Y, 0, none⟩))
    (hq16 : t.getD 16 undef = .int .i64 ef)
    (hq17 : t.getD 17 undef = .pointer (some ⟨Z, 0, none⟩))
    (hq18 : t.getD 18 undef = .int .i64 eg)
    (hq19 : t.getD 19 undef = .pointer (some ⟨V, 0, none⟩))
    (hq20 : t.getD 20 undef = .int .i64 eh)
    (r : w.heap[B]? = some (.cells (St.cs s (.slice oa s.out.length oc)).toArray 24 (0, 0))) :
    reg6_9.wp Tryd.prog (Only fun a' W' => (a'.tmps.size = 211 ∧ a'.defers = [] ∧ a'.tmps.getD 3 undef = .slice bo bn bcap ∧ a'.tmps.getD 4 undef = .pointer (some ⟨B, 0, none⟩) ∧ a'.tmps.getD 9 undef = .bool (oursB s) ∧ a'.tmps.getD 10 undef = .slice la ln2 lcp ∧ a'.tmps.getD 11 undef = .bool fine ∧ a'.tmps.getD 12 undef = .pointer (some ⟨X, 0, none⟩) ∧ a'.tmps.getD 13 undef = .slice ma mn mc ∧ a'.tmps.getD 14 undef = .int .i64 ea ∧ a'.tmps.getD 15 undef = .pointer (some ⟨Y, 0, none⟩) ∧ a'.tmps.getD 16 undef = .int .i64 ef ∧ a'.tmps.getD 17 undef = .pointer (some ⟨Z, 0, none⟩) ∧ a'.tmps.getD 18 undef = .int .i64 eg ∧ a'.tmps.getD 19 undef = .pointer (some ⟨V, 0, none⟩) ∧ a'.tmps.getD 20 undef = .int .i64 eh ∧ a'.tmps.getD 21 undef = .bool (openB s)) ∧ New w W') ⟨t, []⟩ w := by
  conv => arg 2; whnf
  obtain ⟨u, rfl⟩ := lit211 t hs
  have hq3 : u 3 = .slice bo bn bcap := hq3
  have hq4 : u 4 = .pointer (some ⟨B, 0, none⟩) := hq4
  have hq9 : u 9 = .bool (oursB s) := hq9
  have hq10 : u 10 = .slice la ln2 lcp := hq10
  have hq11 : u 11 = .bool fine := hq11
  have hq12 : u 12 = .pointer (some ⟨X, 0, none⟩) := hq12
  have hq13 : u 13 = .slice ma mn mc := hq13
  have hq14 : u 14 = .int .i64 ea := hq14
  have hq15 : u 15 = .pointer (some ⟨Y, 0, none⟩) := hq15
  have hq16 : u 16 = .int .i64 ef := hq16
  have hq17 : u 17 = .pointer (some ⟨Z, 0, none⟩) := hq17
  have hq18 : u 18 = .int .i64 eg := hq18
  have hq19 : u 19 = .pointer (some ⟨V, 0, none⟩) := hq19
  have hq20 : u 20 = .int .i64 eh := hq20
  rw [hq3, hq4, hq9, hq10, hq11, hq12, hq13, hq14, hq15, hq16, hq17, hq18, hq19, hq20]
  clear hq3 hq4 hq9 hq10 hq11 hq12 hq13 hq14 hq15 hq16 hq17 hq18 hq19 hq20 hs
  have k5 : w.cell? ⟨B, 5, none⟩ = some (.bool s.ans) := cell_of_row _ _ 5 _ _ _ r
  have k6 : w.cell? ⟨B, 6, none⟩ = some (.bool s.ends) := cell_of_row _ _ 6 _ _ _ r
  have HB : Hid (openB s = (oursB s && (s.ans && !s.ends))) := Lib.hid rfl
  obtain ⟨op, hop⟩ : ∃ x, openB s = x := ⟨_, rfl⟩
  rw [hop] at HB ⊢
  obtain ⟨ob, hob⟩ : ∃ x, oursB s = x := ⟨_, rfl⟩
  obtain ⟨an, han⟩ : ∃ x, s.ans = x := ⟨_, rfl⟩
  obtain ⟨en, hen⟩ : ∃ x, s.ends = x := ⟨_, rfl⟩
  rw [hob, han, hen] at HB
  rw [hob]
  rw [han] at k5
  rw [hen] at k6
  clear hop hob han hen r
  have hN := Mods.refl (fun _ => False) w
  cases ob <;> cases an <;> cases en
  all_goals
    go_wp2_with fail
    exact ⟨⟨rfl, rfl, rfl, rfl, rfl, rfl, rfl, rfl, rfl, rfl, rfl, rfl, rfl, rfl, rfl, rfl, congrArg Value.bool (by rw [HB.out]; rfl)⟩, hN⟩
noncomputable def reg6_10 : Code := ((Tryd.f6.body.bind (regionOf 10)).getD .skip)
set_option maxHeartbeats 4000000 in
set_option maxRecDepth 100000 in
theorem states6 (t : Array Value) (hs : t.size = 211) (w : World) {B X Y Z V : Nat} {s xs ys zs ws : St} {oa bo la ma : Option Addr} {oc bn bcap ln2 lcp mn mc : Nat} {fine : Bool} {ea ef eg eh : Int}
    (hq3 : t.getD 3 undef = .slice bo bn bcap)
    (hq4 : t.getD 4 undef = .pointer (some ⟨B, 0, none⟩))
    (hq9 : t.getD 9 undef = .bool (oursB s))
    (hq10 : t.getD 10 undef = .slice la ln2 lcp)
    (hq11 : t.getD 11 undef = .bool fine)
    (hq12 : t.getD 12 undef = .pointer (some ⟨X, 0, none⟩))
    (hq13 : t.getD 13 undef = .slice ma mn mc)
    (hq14 : t.getD 14 undef = .int .i64 ea)
    (hq15 : t.getD 15 undef = .pointer (some ⟨Y, 0, none⟩))
    (hq16 : t.getD 16 undef = .int .i64 ef)
    (hq17 : t.getD 17 undef = .pointer (some ⟨Z, 0, none⟩))
    (hq18 : t.getD 18 undef = .int .i64 eg)
    (hq19 : t.getD 19 undef = .pointer (some ⟨V, 0, none⟩))
    (hq20 : t.getD 20 undef = .int .i64 eh)
    (hq21 : t.getD 21 undef = .bool (openB s))
    (r : w.heap[B]? = some (.cells (St.cs s (.slice oa s.out.length oc)).toArray 24 (0, 0))) (h1 : ea = 270 ↔ ¬ (oursB s = true ∧ s.ans = false)) (h2 : ef = 270 ↔ openB s = false) (h3 : eg = 0 ↔ openB s = true) (h4 : eh = 0 ↔ (oursB s = true ∨ s.state = 3)) :
    reg6_10.wp Tryd.prog (Only fun a' W' => (a'.tmps.size = 211 ∧ a'.defers = [] ∧ a'.tmps.getD 3 undef = .slice bo bn bcap ∧ a'.tmps.getD 4 undef = .pointer (some ⟨B, 0, none⟩) ∧ a'.tmps.getD 9 undef = .bool (oursB s) ∧ a'.tmps.getD 10 undef = .slice la ln2 lcp ∧ a'.tmps.getD 11 undef = .bool fine ∧ a'.tmps.getD 12 undef = .pointer (some ⟨X, 0, none⟩) ∧ a'.tmps.getD 13 undef = .slice ma mn mc ∧ a'.tmps.getD 14 undef = .int .i64 ea ∧ a'.tmps.getD 15 undef = .pointer (some ⟨Y, 0, none⟩) ∧ a'.tmps.getD 16 undef = .int .i64 ef ∧ a'.tmps.getD 17 undef = .pointer (some ⟨Z, 0, none⟩) ∧ a'.tmps.getD 18 undef = .int .i64 eg ∧ a'.tmps.getD 19 undef = .pointer (some ⟨V, 0, none⟩) ∧ a'.tmps.getD 20 undef = .int .i64 eh ∧ a'.tmps.getD 21 undef = .bool (openB s) ∧ a'.tmps.getD 113 undef = .bool false) ∧ New w W') ⟨t, []⟩ w := by
  conv => arg 2; whnf
  obtain ⟨u, rfl⟩ := lit211 t hs
  have hq3 : u 3 = .slice bo bn bcap := hq3
  have hq4 : u 4 = .pointer (some ⟨B, 0, none⟩) := hq4
  have hq9 : u 9 = .bool (oursB s) := hq9
  have hq10 : u 10 = .slice la ln2 lcp := hq10
  have hq11 : u 11 = .bool fine := hq11
  have hq12 : u 12 = .pointer (some ⟨X, 0, none⟩) := hq12
  have hq13 : u 13 = .slice ma mn mc := hq13
  have hq14 : u 14 = .int .i64 ea := hq14
  have hq15 : u 15 = .pointer (some ⟨Y, 0, none⟩) := hq15
  have hq16 : u 16 = .int .i64 ef := hq16
  have hq17 : u 17 = .pointer (some ⟨Z, 0, none⟩) := hq17
  have hq18 : u 18 = .int .i64 eg := hq18
  have hq19 : u 19 = .pointer (some ⟨V, 0, none⟩) := hq19
  have hq20 : u 20 = .int .i64 eh := hq20
  have hq21 : u 21 = .bool (openB s) := hq21
  rw [hq3, hq4, hq9, hq10, hq11, hq12, hq13, hq14, hq15, hq16, hq17, hq18, hq19, hq20, hq21]
  clear hq3 hq4 hq9 hq10 hq11 hq12 hq13 hq14 hq15 hq16 hq17 hq18 hq19 hq20 hq21 hs
  have k1 : w.cell? ⟨B, 1, none⟩ = some (.int .u8 s.state) := cell_of_row _ _ 1 _ _ _ r
  have k5 : w.cell? ⟨B, 5, none⟩ = some (.bool s.ans) := cell_of_row _ _ 5 _ _ _ r
  have HO : Hid (openB s = (oursB s && (s.ans && !s.ends))) := Lib.hid rfl
  obtain ⟨op, hop⟩ : ∃ x, openB s = x := ⟨_, rfl⟩
  rw [hop] at HO h2 h3
  rw [hop]
  obtain ⟨ob, hob⟩ : ∃ x, oursB s = x := ⟨_, rfl⟩
  obtain ⟨an, han⟩ : ∃ x, s.ans = x := ⟨_, rfl⟩
  obtain ⟨en, hen⟩ : ∃ x, s.ends = x := ⟨_, rfl⟩
  obtain ⟨z, hz⟩ : ∃ x, s.state = x := ⟨_, rfl⟩
  rw [hob, han, hen] at HO
  rw [hob, han] at h1
  rw [hob, hz] at h4
  rw [hob]
  rw [han] at k5
  rw [hz] at k1
  have ho := HO.out
  clear hop hob han hen hz r HO
  have hN := Mods.refl (fun _ => False) w
  obtain ⟨d3, hd3⟩ : ∃ x, (z == 3) = x := ⟨_, rfl⟩
  have e4 : (eh == 0) = (ob || d3) := by
    rw [Bool.eq_iff_iff]
    rw [← hd3]
    simp only [beq_iff_eq, Bool.or_eq_true]
    exact h4
  have e3 : (eg == 0) = op := by rw [Bool.eq_iff_iff]; simpa using h3
  have e2 : (ef == 270) = !op := by rw [Bool.eq_iff_iff]; simpa using h2
  have e1 : (ea == 270) = !(ob && !an) := by rw [Bool.eq_iff_iff]; cases ob <;> cases an <;> simpa using h1
  have nd : (d3 != d3) = false := by cases d3 <;> rfl
  clear h1 h2 h3 h4
  have hz' : decide (z = 3) = d3 := hd3
  cases ob with
  | false =>
    simp only [Bool.false_and, Bool.not_false, Bool.false_or] at ho e1 e4
    subst ho
    simp only [Bool.not_false] at e2
    go_wp2_with fail
    exact ⟨⟨rfl, rfl, rfl, rfl, rfl, rfl, rfl, rfl, rfl, rfl, rfl, rfl, rfl, rfl, rfl, rfl, rfl, rfl⟩, hN⟩
  | true =>
  cases an with
  | false =>
    simp only [Bool.true_and, Bool.false_and, Bool.not_false, Bool.not_true, Bool.true_or] at ho e1 e4
    subst ho
    simp only [Bool.not_false] at e2
    go_wp2_with fail
    exact ⟨⟨rfl, rfl, rfl, rfl, rfl, rfl, rfl, rfl, rfl, rfl, rfl, rfl, rfl, rfl, rfl, rfl, rfl, rfl⟩, hN⟩
  | true =>
    simp only [Bool.true_and, Bool.not_true, Bool.and_false, Bool.not_false, Bool.true_or] at ho e1 e4
    subst ho
    cases en
    all_goals
      simp only [Bool.not_false, Bool.not_true] at e2 e3
      go_wp2_with fail
      exact ⟨⟨rfl, rfl, rfl, rfl, rfl, rfl, rfl, rfl, rfl, rfl, rfl, rfl, rfl, rfl, rfl, rfl, rfl, rfl⟩, hN⟩
noncomputable def reg6_12 : Code := ((Tryd.f6.body.bind (regionOf 12)).getD .skip)
set_option maxHeartbeats 4000000 in
set_option maxRecDepth 100000 in
theorem answer6 (t : Array Value) (hs : t.size = 211) (w : World) {B X Y Z V : Nat} {s xs ys zs ws : St} {oa bo la ma : Option Addr} {oc bn bcap ln2 lcp mn mc : Nat} {fine : Bool} {ea ef eg eh : Int} {xa : Option Addr} {xc : Nat}
    (hq3 : t.getD 3 undef = .slice bo bn bcap)
    (hq4 : t.getD 4 undef = .pointer (some ⟨B, 0, none⟩))
    (hq10 : t.getD 10 undef = .slice la ln2 lcp)
    (hq11 : t.getD 11 undef = .bool fine)
    (hq12 : t.getD 12 undef = .pointer (some ⟨X, 0, none⟩))
    (hq13 : t.getD 13 undef = .slice ma mn mc)
    (hq14 : t.getD 14 undef = .int .i64 ea)
    (hq15 : t.getD 15 undef = .pointer (some ⟨Y, 0, none⟩))
    (hq16 : t.getD 16 undef = .int .i64 ef)
    (hq17 : t.getD 17 undef = .pointer (some ⟨Z, 0, none⟩))
    (hq18 : t.getD 18 undef = .int .i64 eg)
    (hq19 : t.getD 19 undef = .pointer (some ⟨V, 0, none⟩))
    (hq20 : t.getD 20 undef = .int .i64 eh)
    (r : w.heap[B]? = some (.cells (St.cs s (.slice oa s.out.length oc)).toArray 24 (0, 0))) (rX : w.heap[X]? = some (.cells (St.cs xs (.slice xa xs.out.length xc)).toArray 24 (0, 0))) (h : (ea = 0 ∧ fine = true ∧ xs.ans = true ∧ Calls Tryd.prog 18 #[.slice ma mn mc, .slice la ln2 lcp] w fun e w' => e = .returned (.bool true) ∧ New w w') ∨ (ea ≠ 0 ∧ mn = 0 ∧ xs = s)) (hS : xs = s → Calls Tryd.prog 17 #[.agg (St.cs xs (.slice xa xs.out.length xc)).toArray, .agg (St.cs s (.slice oa s.out.length oc)).toArray] w fun e w' => e = .returned (.bool true) ∧ New w w') :
    reg6_12.wp Tryd.prog (Only fun a' W' => (a'.tmps.size = 211 ∧ a'.defers = [] ∧ a'.tmps.getD 3 undef = .slice bo bn bcap ∧ a'.tmps.getD 4 undef = .pointer (some ⟨B, 0, none⟩) ∧ a'.tmps.getD 12 undef = .pointer (some ⟨X, 0, none⟩) ∧ a'.tmps.getD 13 undef = .slice ma mn mc ∧ a'.tmps.getD 14 undef = .int .i64 ea ∧ a'.tmps.getD 15 undef = .pointer (some ⟨Y, 0, none⟩) ∧ a'.tmps.getD 16 undef = .int .i64 ef ∧ a'.tmps.getD 17 undef = .pointer (some ⟨Z, 0, none⟩) ∧ a'.tmps.getD 18 undef = .int .i64 eg ∧ a'.tmps.getD 19 undef = .pointer (some ⟨V, 0, none⟩) ∧ a'.tmps.getD 20 undef = .int .i64 eh ∧ a'.tmps.getD 145 undef = .bool false) ∧ New w W') ⟨t, []⟩ w := by
  conv => arg 2; whnf
  obtain ⟨u, rfl⟩ := lit211 t hs
  have hq3 : u 3 = .slice bo bn bcap := hq3
  have hq4 : u 4 = .pointer (some ⟨B, 0, none⟩) := hq4
  have hq10 : u 10 = .slice la ln2 lcp := hq10
  have hq11 : u 11 = .bool fine := hq11
  have hq12 : u 12 = .pointer (some ⟨X, 0, none⟩) := hq12
  have hq13 : u 13 = .slice ma mn mc := hq13
  have hq14 : u 14 = .int .i64 ea := hq14
  have hq15 : u 15 = .pointer (some ⟨Y, 0, none⟩) := hq15
  have hq16 : u 16 = .int .i64 ef := hq16
  have hq17 : u 17 = .pointer (some ⟨Z, 0, none⟩) := hq17
  have hq18 : u 18 = .int .i64 eg := hq18
  have hq19 : u 19 = .pointer (some ⟨V, 0, none⟩) := hq19
  have hq20 : u 20 = .int .i64 eh := hq20
  rw [hq3, hq4, hq10, hq11, hq12, hq13, hq14, hq15, hq16, hq17, hq18, hq19, hq20]
  clear hq3 hq4 hq10 hq11 hq12 hq13 hq14 hq15 hq16 hq17 hq18 hq19 hq20 hs
  have j5 : w.cell? ⟨X, 5, none⟩ = some (.bool xs.ans) := cell_of_row _ _ 5 _ _ _ rX
  have hN := Mods.refl (fun _ => False) w
  rcases h with ⟨rfl, rfl, ha, hf⟩ | ⟨hne, hm, rfl⟩
  · rw [ha] at j5
    have HF := Lib.hid hf
    clear r rX hf hS
    go_wp2_with fail
    refine HF.out.mono ?_
    rintro e w1 ⟨rfl, hk⟩
    have hN1 := hN.trans hk
    go_wp2_with fail
    exact ⟨⟨rfl, rfl, rfl, rfl, rfl, rfl, rfl, rfl, rfl, rfl, rfl, rfl, rfl, rfl⟩, hN1⟩
  · have e1 : (ea == 0) = false := by simpa using hne
    subst hm
    have HS := Lib.hid (hS rfl)
    clear hS j5
    go_wp2_with (first | (refine op_value rfl (run_load_row 24 (.tmp 12) rfl X rfl 24 _ (0, 0) _ rX Tryd.underlying24 rfl info24) ?_) | (refine op_value_g rfl (run_load_row 24 (.tmp 12) rfl X rfl 24 _ (0, 0) _ rX Tryd.underlying24 rfl info24) ?_) | (refine op_value rfl (run_load_row 24 (.tmp 4) rfl B rfl 24 _ (0, 0) _ r Tryd.underlying24 rfl info24) ?_) | (refine op_value_g rfl (run_load_row 24 (.tmp 4) rfl B rfl 24 _ (0, 0) _ r Tryd.underlying24 rfl info24) ?_))
    refine HS.out.mono ?_
    rintro e w1 ⟨rfl, hk⟩
    have hN1 := hN.trans hk
    go_wp2_with fail
    exact ⟨⟨rfl, rfl, rfl, rfl, rfl, rfl, rfl, rfl, rfl, rfl, rfl, rfl, rfl, rfl⟩, hN1⟩
noncomputable def reg6_16 : Code := ((Tryd.f6.body.bind (regionOf 16)).getD .skip)
set_option maxHeartbeats 4000000 in
set_option maxRecDepth 100000 in
theorem reset6 (t : Array Value) (hs : t.size = 211) (w : World) {V : Nat} {ws : St} {va : Option Addr} {vc : Nat} {eh : Int}
    (hq19 : t.getD 19 undef = .pointer (some ⟨V, 0, none⟩))
    (hq20 : t.getD 20 undef = .int .i64 eh)
    (rV : w.heap[V]? = some (.cells (St.cs ws (.slice va ws.out.length vc)).toArray 24 (0, 0))) (hW : ∀ W, New w W → Calls Tryd.prog 14 #[] W fun e w' => e = .returned (.bool true) ∧ New W w') (hh : (eh = 0 ∧ ws.state = 5 ∧ ws.out = [] ∧ ws.ends = false) ∨ eh ≠ 0) :
    reg6_16.wp Tryd.prog (Only fun a' W' => (a'.tmps.size = 211 ∧ a'.defers = [] ∧ a'.tmps.getD 8 undef = .bool true) ∧ New w W') ⟨t, []⟩ w := by
  conv => arg 2; whnf
  obtain ⟨u, rfl⟩ := lit211 t hs
  have hq19 : u 19 = .pointer (some ⟨V, 0, none⟩) := hq19
  have hq20 : u 20 = .int .i64 eh := hq20
  rw [hq19, hq20]
  clear hq19 hq20 hs
  have j1 : w.cell? ⟨V, 1, none⟩ = some (.int .u8 ws.state) := cell_of_row _ _ 1 _ _ _ rV
  have j6 : w.cell? ⟨V, 6, none⟩ = some (.bool ws.ends) := cell_of_row _ _ 6 _ _ _ rV
  have j7 : w.cell? ⟨V, 7, none⟩ = some (.slice va ws.out.length vc) := cell_of_row _ _ 7 _ _ _ rV
  have hN := Mods.refl (fun _ => False) w
  have HW := Lib.hid hW
  clear hW rV
  rcases hh with ⟨rfl, h1, h2, h3⟩ | hne
  · rw [h1] at j1
    rw [h2] at j7
    rw [h3] at j6
    clear h1 h2 h3
    have j7 : w.cell? ⟨V, 7, none⟩ = some (.slice va 0 vc) := j7
    go_wp2_with fail
    refine (HW.out _ hN).mono ?_
    rintro e w1 ⟨rfl, hk⟩
    go_wp2_with fail
    exact ⟨⟨rfl, rfl, rfl⟩, hN.trans hk⟩
  · have f1 : (eh == 0) = false := by simpa using hne
    have f2 : (eh != 0) = true := by rw [bne, f1]; rfl
    clear j1 j6 j7
    go_wp2_with fail
    refine (HW.out _ hN).mono ?_
    rintro e w1 ⟨rfl, hk⟩
    go_wp2_with fail
    exact ⟨⟨rfl, rfl, rfl⟩, hN.trans hk⟩
end Go.Proofs.YtkjghojdfjhhkaaDoor
