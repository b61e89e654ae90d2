/- HandlerTells: its parts. -/
import Derived.Test.YtkjghojdfjhhkaaDoorM32
import Derived.Test.YtkjghojdfjhhkaaDoorM28
import Derived.Test.YtkjghojdfjhhkaaDoorM23
import Derived.Test.YtkjghojdfjhhkaaDoorM07
set_option linter.unusedSimpArgs false
set_option linter.unusedVariables false
namespace Go.Proofs.YtkjghojdfjhhkaaDoor
open Go.RowKit Go.Shelf Go.Cs
attribute [local go_sem] Oper.semAt_some
set_option linter.unusedVariables false
set_option linter.unusedSimpArgs false
theorem lit216 (t : Array Value) (h : t.size = 216) : ∃ u : Nat → Value, t = (u 0 :: u 1 :: u 2 :: u 3 :: u 4 :: u 5 :: u 6 :: u 7 :: u 8 :: u 9 :: u 10 :: u 11 :: u 12 :: u 13 :: u 14 :: u 15 :: u 16 :: u 17 :: u 18 :: u 19 :: u 20 :: u 21 :: u 22 :: u 23 :: u 24 :: u 25 :: u 26 :: u 27 :: u 28 :: u 29 :: u 30 :: u 31 :: u 32 :: u 33 :: u 34 :: u 35 :: u 36 :: u 37 :: u 38 :: u 39 :: u 40 :: u 41 :: u 42 :: u 43 :: u 44 :: u 45 :: u 46 :: u 47 :: u 48 :: u 49 :: u 50 :: u 51 :: u 52 :: u 53 :: u 54 :: u 55 :: u 56 :: u 57 :: u 58 :: u 59 :: u 60 :: u 61 :: u 62 :: u 63 :: u 64 :: u 65 :: u 66 :: u 67 :: u 68 :: u 69 :: u 70 :: u 71 :: u 72 :: u 73 :: u 74 :: u 75 :: u 76 :: u 77 :: u 78 :: u 79 :: u 80 :: u 81 :: u 82 :: u 83 :: u 84 :: u 85 :: u 86 :: u 87 :: u 88 :: u 89 :: u 90 :: u 91 :: u 92 :: u 93 :: u 94 :: u 95 :: u 96 :: u 97 :: u 98 :: u 99 :: u 100 :: u 101 :: u 102 :: u 103 :: u 104 :: u 105 :: u 106 :: u 107 :: u 108 :: u 109 :: u 110 :: u 111 :: u 112 :: u 113 :: u 114 :: u 115 :: u 116 :: u 117 :: u 118 :: u 119 :: u 120 :: u 121 :: u 122 :: u 123 :: u 124 :: u 125 :: u 126 :: u 127 :: u 128 :: u 129 :: u 130 :: u 131 :: u 132 :: u 133 :: u 134 :: u 135 :: u 136 :: u 137 :: u 138 :: u 139 :: u 140 :: u 141 :: u 142 :: u 143 :: u 144 :: u 145 :: u 146 :: u 147 :: u 148 :: u 149 :: u 150 :: u 151 :: u 152 :: u 153 :: u 154 :: u 155 :: u 156 :: u 157 :: u 158 :: u 159 :: u 160 :: u 161 :: u 162 :: u 163 :: u 164 :: u 165 :: u 166 :: u 167 :: u 168 :: u 169 :: u 170 :: u 171 :: u 172 :: u 173 :: u 174 :: u 175 :: u 176 :: u 177 :: u 178 :: u 179 :: u 180 :: u 181 :: u 182 :: u 183 :: u 184 :: u 185 :: u 186 :: u 187 :: u 188 :: u 189 :: u 190 :: u 191 :: u 192 :: u 193 :: u 194 :: u 195 :: u 196 :: u 197 :: u 198 :: u 199 :: u 200 :: u 201 :: u 202 :: u 203 :: u 204 :: u 205 :: u 206 :: u 207 :: u 208 :: u 209 :: u 210 :: u 211 :: u 212 :: u 213 :: u 214 :: u 215 :: ([] : List Value)).toArray := ⟨fun i => t.getD i undef, range_lit t 216 h⟩
theorem stored_row {W : World} {X : Nat} {cs : Array Value} (r : W.heap[X]? = some (.cells cs 24 (0, 0))) (cs' : Array Value) :
    ∃ V, W.setRow X cs' = V ∧ V.heap[X]? = some (.cells cs' 24 (0, 0)) ∧ (∀ base v xs, OwB base W v xs → OwB base V v xs) ∧ (∀ Y o, W.heap[Y]? = some o → Y ≠ X → V.heap[Y]? = some o) ∧ (∀ w, New w W → w.heap.size ≤ X → New w V) := by
  have hM := mods_setRow r cs'
  exact ⟨_, rfl, setRow_heap W X _ cs' 24 (0, 0) r, fun base v xs h => Mods.ownsRow hM h fun g hg e => owB_ne h r (by decide) (by rw [hg, e]), fun Y o h hne => hM.heap h (fun e => hne e), fun w hN hX => hN.setRow hX cs'⟩
theorem in8_answer {s sa : St} {n ea : Int} {L la : List Fd} (h : answerS s n L = (sa, la, ea)) (hi : In8 s.out) : In8 sa.out := by
  have : sa.out = s.out := by
    unfold answerS at h
    split at h
    · split at h <;> (cases h; rfl)
    · cases h; rfl
  rw [this]; exact hi
theorem in8_write {s : St} {b : List Int} (hi : In8 s.out) (hb : In8 b) : In8 (writeS s b).1.out := by
  unfold writeS
  split
  · split
    · exact hi
    · intro x hx
      rcases List.mem_append.1 hx with h | h
      · exact hi x h
      · exact hb x h
  · exact hi
theorem in8_end {s : St} (hi : In8 s.out) : In8 (endS s).1.out := by
  unfold endS
  split <;> exact hi
theorem in8_reset {s : St} (hi : In8 s.out) : In8 (resetS s).1.out := by
  unfold resetS
  split
  · intro x hx; cases hx
  · exact hi
theorem in8_take {s : St} {c f k : Int} (hi : In8 s.out) : In8 (takeS s c f k).1.out := by
  unfold takeS
  simp only
  split
  · split
    · intro x hx; exact hi x (List.mem_of_mem_drop hx)
    · intro x hx; exact hi x (List.mem_of_mem_drop hx)
  · exact hi
noncomputable def reg3_1 : Code := ((Tryd.f3.body.bind (regionOf 1)).getD .skip)
set_option maxHeartbeats 4000000 in
set_option maxRecDepth 100000 in
theorem great3 (t : Array Value) (hs : t.size = 216) (w : World) {B T : Nat} {s s2 : St} {oa ta lo bo : Option Addr} {oc tc ln lcap bn bcap : Nat} {n c f k : Int} {L : List Fd}
    (hq2 : t.getD 2 undef = .int .i64 n)
    (hq3 : t.getD 3 undef = .slice lo ln lcap)
    (hq4 : t.getD 4 undef = .slice bo bn bcap)
    (hq5 : t.getD 5 undef = .int .i64 c)
    (hq6 : t.getD 6 undef = .int .i64 f)
    (hq7 : t.getD 7 undef = .int .i64 k)
    (hq8 : t.getD 8 undef = .pointer (some ⟨B, 0, none⟩))
    (hq9 : t.getD 9 undef = .pointer (some ⟨T, 0, none⟩))
    (hq16 : t.getD 16 undef = .bool false)
    (r : w.heap[B]? = some (.cells (St.cs s (.slice oa s.out.length oc)).toArray 24 (0, 0))) (r2 : w.heap[T]? = some (.cells (St.cs s2 (.slice ta s2.out.length tc)).toArray 24 (0, 0))) (hL : ReadsU w (.slice lo ln lcap) L) (hLR : ReachL L) :
    reg3_1.wp Tryd.prog (Only fun a' W' => (a'.tmps.size = 216 ∧ a'.defers = [] ∧ a'.tmps.getD 2 undef = .int .i64 n ∧ a'.tmps.getD 3 undef = .slice lo ln lcap ∧ a'.tmps.getD 4 undef = .slice bo bn bcap ∧ a'.tmps.getD 5 undef = .int .i64 c ∧ a'.tmps.getD 6 undef = .int .i64 f ∧ a'.tmps.getD 7 undef = .int .i64 k ∧ a'.tmps.getD 8 undef = .pointer (some ⟨B, 0, none⟩) ∧ a'.tmps.getD 9 undef = .pointer (some ⟨T, 0, none⟩) ∧ a'.tmps.getD 16 undef = .bool false ∧ a'.tmps.getD 47 undef = .bool (decide (3000 < s.out.length) || (decide (3000 < s2.out.length) || (greatL L || decide (3000 < bn))))) ∧ New w W') ⟨t, []⟩ w := by
  conv => arg 2; whnf
  obtain ⟨u, rfl⟩ := lit216 t hs
  have hq2 : u 2 = .int .i64 n := hq2
  have hq3 : u 3 = .slice lo ln lcap := hq3
  have hq4 : u 4 = .slice bo bn bcap := hq4
  have hq5 : u 5 = .int .i64 c := hq5
  have hq6 : u 6 = .int .i64 f := hq6
  have hq7 : u 7 = .int .i64 k := hq7
  have hq8 : u 8 = .pointer (some ⟨B, 0, none⟩) := hq8
  have hq9 : u 9 = .pointer (some ⟨T, 0, none⟩) := hq9
  have hq16 : u 16 = .bool false := hq16
  rw [hq2, hq3, hq4, hq5, hq6, hq7, hq8, hq9, hq16]
  clear hq2 hq3 hq4 hq5 hq6 hq7 hq8 hq9 hq16 hs
  have hN0 := Mods.refl (fun _ => False) w
  have HG := Lib.hid (fun W (hN : New w W) => great_any _ L W (hL.new hN) hLR)
  obtain ⟨g3, h3⟩ : ∃ x, greatL L = x := ⟨_, rfl⟩
  obtain ⟨g1, h1⟩ : ∃ x, decide (3000 < s.out.length) = x := ⟨_, rfl⟩
  obtain ⟨g2, h2⟩ : ∃ x, decide (3000 < s2.out.length) = x := ⟨_, rfl⟩
  obtain ⟨g4, h4⟩ : ∃ x, decide (3000 < bn) = x := ⟨_, rfl⟩
  have h4' : decide ((3000 : Int) < (bn : Int)) = g4 := by rw [← h4]; exact decide_eq_decide.2 (by omega)
  rw [h3] at HG
  obtain ⟨bad, hbad⟩ : ∃ x, (decide (3000 < s.out.length) || (decide (3000 < s2.out.length) || (greatL L || decide (3000 < bn)))) = x := ⟨_, rfl⟩
  rw [hbad]
  rw [h1, h2, h3, h4] at hbad
  have HB := Lib.hid hbad
  clear hbad hL hLR h3 h4
  cases g1 with
  | true =>
    have HV : Hid (true = bad) := Lib.hid (by rw [← HB.out]; rfl)
    go_wp2_with (first | (refine op_value rfl (run_load_row 24 (.tmp 8) rfl B rfl 24 _ (0, 0) _ r Tryd.underlying24 rfl info24) ?_) | (refine op_value_g rfl (run_load_row 24 (.tmp 8) rfl B rfl 24 _ (0, 0) _ r Tryd.underlying24 rfl info24) ?_))
    refine (great_S s _ _ s.out.length oa oc rfl).mono ?_
    rintro e w1 ⟨rfl, hk⟩
    have hN1 := hN0.trans hk
    have r2 := hk.heap r2 id
    rw [h1]
    go_wp2_with fail
    exact ⟨⟨rfl, rfl, rfl, rfl, rfl, rfl, rfl, rfl, rfl, rfl, rfl, congrArg Value.bool HV.out⟩, hN1⟩
  | false =>
  cases g2 with
  | true =>
    have HV : Hid (true = bad) := Lib.hid (by rw [← HB.out]; rfl)
    go_wp2_with (first | (refine op_value rfl (run_load_row 24 (.tmp 8) rfl B rfl 24 _ (0, 0) _ r Tryd.underlying24 rfl info24) ?_) | (refine op_value_g rfl (run_load_row 24 (.tmp 8) rfl B rfl 24 _ (0, 0) _ r Tryd.underlying24 rfl info24) ?_))
    refine (great_S s _ _ s.out.length oa oc rfl).mono ?_
    rintro e w1 ⟨rfl, hk⟩
    have hN1 := hN0.trans hk
    have r2 := hk.heap r2 id
    rw [h1]
    go_wp2_with (first | (refine op_value rfl (run_load_row 24 (.tmp 9) rfl T rfl 24 _ (0, 0) _ r2 Tryd.underlying24 rfl info24) ?_) | (refine op_value_g rfl (run_load_row 24 (.tmp 9) rfl T rfl 24 _ (0, 0) _ r2 Tryd.underlying24 rfl info24) ?_))
    refine (great_S s2 _ _ s2.out.length ta tc rfl).mono ?_
    rintro e w2 ⟨rfl, hk⟩
    have hN2 := hN1.trans hk
    rw [h2]
    go_wp2_with fail
    exact ⟨⟨rfl, rfl, rfl, rfl, rfl, rfl, rfl, rfl, rfl, rfl, rfl, congrArg Value.bool HV.out⟩, hN2⟩
  | false =>
  cases g3 with
  | true =>
    have HV : Hid (true = bad) := Lib.hid (by rw [← HB.out]; rfl)
    go_wp2_with (first | (refine op_value rfl (run_load_row 24 (.tmp 8) rfl B rfl 24 _ (0, 0) _ r Tryd.underlying24 rfl info24) ?_) | (refine op_value_g rfl (run_load_row 24 (.tmp 8) rfl B rfl 24 _ (0, 0) _ r Tryd.underlying24 rfl info24) ?_))
    refine (great_S s _ _ s.out.length oa oc rfl).mono ?_
    rintro e w1 ⟨rfl, hk⟩
    have hN1 := hN0.trans hk
    have r2 := hk.heap r2 id
    rw [h1]
    go_wp2_with (first | (refine op_value rfl (run_load_row 24 (.tmp 9) rfl T rfl 24 _ (0, 0) _ r2 Tryd.underlying24 rfl info24) ?_) | (refine op_value_g rfl (run_load_row 24 (.tmp 9) rfl T rfl 24 _ (0, 0) _ r2 Tryd.underlying24 rfl info24) ?_))
    refine (great_S s2 _ _ s2.out.length ta tc rfl).mono ?_
    rintro e w2 ⟨rfl, hk⟩
    have hN2 := hN1.trans hk
    rw [h2]
    go_wp2_with fail
    refine (HG.out _ hN2).mono ?_
    rintro e w3 ⟨rfl, hk⟩
    have hN3 := hN2.trans hk
    go_wp2_with fail
    exact ⟨⟨rfl, rfl, rfl, rfl, rfl, rfl, rfl, rfl, rfl, rfl, rfl, congrArg Value.bool HV.out⟩, hN3⟩
  | false =>
  have HV : Hid (g4 = bad) := Lib.hid (by rw [← HB.out]; cases g4 <;> rfl)
  go_wp2_with (first | (refine op_value rfl (run_load_row 24 (.tmp 8) rfl B rfl 24 _ (0, 0) _ r Tryd.underlying24 rfl info24) ?_) | (refine op_value_g rfl (run_load_row 24 (.tmp 8) rfl B rfl 24 _ (0, 0) _ r Tryd.underlying24 rfl info24) ?_))
  refine (great_S s _ _ s.out.length oa oc rfl).mono ?_
  rintro e w1 ⟨rfl, hk⟩
  have hN1 := hN0.trans hk
  have r2 := hk.heap r2 id
  rw [h1]
  go_wp2_with (first | (refine op_value rfl (run_load_row 24 (.tmp 9) rfl T rfl 24 _ (0, 0) _ r2 Tryd.underlying24 rfl info24) ?_) | (refine op_value_g rfl (run_load_row 24 (.tmp 9) rfl T rfl 24 _ (0, 0) _ r2 Tryd.underlying24 rfl info24) ?_))
  refine (great_S s2 _ _ s2.out.length ta tc rfl).mono ?_
  rintro e w2 ⟨rfl, hk⟩
  have hN2 := hN1.trans hk
  rw [h2]
  go_wp2_with fail
  refine (HG.out _ hN2).mono ?_
  rintro e w3 ⟨rfl, hk⟩
  have hN3 := hN2.trans hk
  go_wp2_with fail
  exact ⟨⟨rfl, rfl, rfl, rfl, rfl, rfl, rfl, rfl, rfl, rfl, rfl, congrArg Value.bool HV.out⟩, hN3⟩
noncomputable def reg3_19 : Code := ((Tryd.f3.body.bind (regionOf 19)).getD .skip)
set_option maxHeartbeats 8000000 in
set_option maxRecDepth 100000 in
theorem last3 (t : Array Value) (hs : t.size = 216) (w : World) {B T : Nat} {s s2 : St} {oa ta : Option Addr} {oc tc : Nat} {c : Int}
    (hq5 : t.getD 5 undef = .int .i64 c)
    (hq8 : t.getD 8 undef = .pointer (some ⟨B, 0, none⟩))
    (hq9 : t.getD 9 undef = .pointer (some ⟨T, 0, none⟩))
    (r : w.heap[B]? = some (.cells (St.cs s (.slice oa s.out.length oc)).toArray 24 (0, 0))) (r2 : w.heap[T]? = some (.cells (St.cs s2 (.slice ta s2.out.length tc)).toArray 24 (0, 0))) (hr : RdB w (.slice oa s.out.length oc) s.out) (hr2 : RdB w (.slice ta s2.out.length tc) s2.out) (hi : In8 s.out) (hi2 : In8 s2.out) (hs2 : I64 s.send) (hc : I64 c) (hl : s.out.length ≤ 100000000) (hT : Tab w) :
    reg3_19.wp Tryd.prog (Only fun a' W' => (a'.tmps.size = 216 ∧ a'.defers = [] ∧ a'.tmps.getD 16 undef = .bool true) ∧ New w W') ⟨t, []⟩ w := by
  conv => arg 2; whnf
  obtain ⟨u, rfl⟩ := lit216 t hs
  have hq5 : u 5 = .int .i64 c := hq5
  have hq8 : u 8 = .pointer (some ⟨B, 0, none⟩) := hq8
  have hq9 : u 9 = .pointer (some ⟨T, 0, none⟩) := hq9
  rw [hq5, hq8, hq9]
  clear hq5 hq8 hq9 hs
  obtain ⟨ob, hob⟩ : ∃ x, oursB s = x := ⟨_, rfl⟩
  obtain ⟨q, hq⟩ : ∃ x, sendB s c = x := ⟨_, rfl⟩
  obtain ⟨m, hm⟩ : ∃ x, decide (s = s2) = x := ⟨_, rfl⟩
  have c27 : Hid (∀ W, New w W → Calls Tryd.prog 27 #[.agg (St.cs s (.slice oa s.out.length oc)).toArray] W fun e w' => e = .returned (.bool ob) ∧ New W w') := Lib.hid fun W _ => by rw [← hob]; exact ours_any s _ W
  have c28 : Hid (∀ W, New w W → Calls Tryd.prog 28 #[.agg (St.cs s (.slice oa s.out.length oc)).toArray] W fun e w' => e = .returned (.bool ob) ∧ New W w') := Lib.hid fun W _ => by rw [← hob]; exact ours_ref s _ W
  have c29 : Hid (∀ W, New w W → Calls Tryd.prog 29 #[.agg (St.cs s (.slice oa s.out.length oc)).toArray, .int .i64 c] W fun e w' => e = .returned (.bool q) ∧ New W w') := Lib.hid fun W hN => by rw [← hq]; exact send_S _ s c W ⟨_, rfl, hr.new hN⟩ hs2 hc
  have c30 : Hid (∀ W, New w W → Calls Tryd.prog 30 #[.agg (St.cs s (.slice oa s.out.length oc)).toArray, .int .i64 c] W fun e w' => e = .returned (.bool q) ∧ New W w') := Lib.hid fun W hN => by rw [← hq]; exact send_R _ s c W ⟨_, rfl, hr.new hN⟩ hs2 hc
  have c31 : Hid (∀ W, New w W → Calls Tryd.prog 31 #[.agg (St.cs s (.slice oa s.out.length oc)).toArray, .agg (St.cs s2 (.slice ta s2.out.length tc)).toArray] W fun e w' => e = .returned (.bool m) ∧ New W w') := Lib.hid fun W hN => by rw [← hm]; exact same_S _ _ s s2 W ⟨_, rfl, hr.new hN⟩ ⟨_, rfl, hr2.new hN⟩ hi hi2
  have c17 : Hid (∀ W, New w W → Calls Tryd.prog 17 #[.agg (St.cs s (.slice oa s.out.length oc)).toArray, .agg (St.cs s2 (.slice ta s2.out.length tc)).toArray] W fun e w' => e = .returned (.bool m) ∧ New W w') := Lib.hid fun W hN => by rw [← hm]; exact same_R _ _ s s2 W ⟨_, rfl, hr.new hN⟩ ⟨_, rfl, hr2.new hN⟩ hi hi2
  have c32 : Hid (∀ W, New w W → Calls Tryd.prog 32 #[.agg (St.cs s (.slice oa s.out.length oc)).toArray] W fun e w' => ∃ v', e = .returned v' ∧ OwS W.heap.size w' v' s ∧ New W w') := Lib.hid fun W hN => own_S _ s W ⟨_, rfl, hr.new hN⟩ hl
  have c14 : Hid (∀ W, New w W → Calls Tryd.prog 14 #[] W fun e w' => e = .returned (.bool true) ∧ New W w') := Lib.hid fun W hN => wakesH_any W (hT.new hN)
  have HR := Lib.hid hr
  have HI := Lib.hid hi
  clear hob hq hm hr hr2 hi hi2 hT hs2 hc hl
  have e1 : (ob == ob) = true := by cases ob <;> rfl
  have e2 : (q == q) = true := by cases q <;> rfl
  have e3 : (m == m) = true := by cases m <;> rfl
  have hS : New w w.drew := (Mods.refl _ _).drew
  refine wp_region_held (by kernel_rfl) (S := fun W => New w W) ?_
  show wpAnyH _ _ _ _ _ _ _ _ w.drew
  obtain ⟨Wd, hWd⟩ : ∃ V, w.drew = V := ⟨_, rfl⟩
  rw [hWd] at hS ⊢
  clear hWd
  refine anyH_take 0 (some 184) (.agg (St.cs s (.slice oa s.out.length oc)).toArray) rfl rfl (by kernel_rfl) (by kernel_rfl) (by kernel_rfl) (fun _ _ _ h => h.elim) (.inl ⟨by rfl, fun W hW => run_load_row 24 (.tmp 8) rfl B rfl 24 _ (0, 0) _ ((show New w W from hW).heap r id) Tryd.underlying24 rfl info24⟩) hS ?_
  simp only [Act.put, List.setIfInBounds_toArray, List.set_cons_succ, List.set_cons_zero]
  refine anyH_take 2 (some 186) (.agg (St.cs s (.slice oa s.out.length oc)).toArray) rfl rfl (by kernel_rfl) (by kernel_rfl) (by kernel_rfl) (fun _ _ _ h => h.elim) (.inl ⟨by rfl, fun W hW => run_load_row 24 (.tmp 8) rfl B rfl 24 _ (0, 0) _ ((show New w W from hW).heap r id) Tryd.underlying24 rfl info24⟩) hS ?_
  simp only [Act.put, List.setIfInBounds_toArray, List.set_cons_succ, List.set_cons_zero]
  refine wpAnyH_all (rs := [1]) (by kernel_rfl) (by simp) ?_
  simp only [List.mem_cons, List.not_mem_nil, or_false, forall_eq]
  refine opH_call (some 185) rfl (by rfl) rfl 27 #[.agg (St.cs s (.slice oa s.out.length oc)).toArray] (by go_simp) ((c27.out _ hS).mono ?_)
  rintro e w1 ⟨rfl, hk⟩
  have hS := hS.trans hk
  clear hk
  refine ⟨_, rfl, hS, ?_⟩
  simp only [Act.put, List.setIfInBounds_toArray, List.set_cons_succ, List.set_cons_zero]
  refine wpAnyH_all (rs := [3]) (by kernel_rfl) (by simp) ?_
  simp only [List.mem_cons, List.not_mem_nil, or_false, forall_eq]
  refine opH_call (some 187) rfl (by rfl) rfl 28 #[.agg (St.cs s (.slice oa s.out.length oc)).toArray] (by go_simp) ((c28.out _ hS).mono ?_)
  rintro e w3 ⟨rfl, hk⟩
  have hS := hS.trans hk
  clear hk
  refine ⟨_, rfl, hS, ?_⟩
  simp only [Act.put, List.setIfInBounds_toArray, List.set_cons_succ, List.set_cons_zero]
  refine anyH_take 4 (some 188) (.bool true) rfl rfl (by kernel_rfl) (by kernel_rfl) (by kernel_rfl) (fun _ _ _ h => h.elim) (.inl ⟨by rfl, fun W hW => by go_simp⟩) hS ?_
  simp only [Act.put, List.setIfInBounds_toArray, List.set_cons_succ, List.set_cons_zero]
  refine anyH_take 5 (some 189) (.bool true) rfl rfl (by kernel_rfl) (by kernel_rfl) (by kernel_rfl) (fun _ _ _ h => h.elim) (.inl ⟨by rfl, fun W hW => by go_simp⟩) hS ?_
  simp only [Act.put, List.setIfInBounds_toArray, List.set_cons_succ, List.set_cons_zero]
  refine anyH_take 6 (some 190) (.agg (St.cs s (.slice oa s.out.length oc)).toArray) rfl rfl (by kernel_rfl) (by kernel_rfl) (by kernel_rfl) (fun _ _ _ h => h.elim) (.inl ⟨by rfl, fun W hW => run_load_row 24 (.tmp 8) rfl B rfl 24 _ (0, 0) _ ((show New w W from hW).heap r id) Tryd.underlying24 rfl info24⟩) hS ?_
  simp only [Act.put, List.setIfInBounds_toArray, List.set_cons_succ, List.set_cons_zero]
  refine anyH_take 7 (some 191) (.int .i64 c) rfl rfl (by kernel_rfl) (by kernel_rfl) (by kernel_rfl) (fun _ _ _ h => h.elim) (.inl ⟨by rfl, fun W hW => by go_simp⟩) hS ?_
  simp only [Act.put, List.setIfInBounds_toArray, List.set_cons_succ, List.set_cons_zero]
  refine anyH_take 9 (some 193) (.agg (St.cs s (.slice oa s.out.length oc)).toArray) rfl rfl (by kernel_rfl) (by kernel_rfl) (by kernel_rfl) (fun _ _ _ h => h.elim) (.inl ⟨by rfl, fun W hW => run_load_row 24 (.tmp 8) rfl B rfl 24 _ (0, 0) _ ((show New w W from hW).heap r id) Tryd.underlying24 rfl info24⟩) hS ?_
  simp only [Act.put, List.setIfInBounds_toArray, List.set_cons_succ, List.set_cons_zero]
  refine anyH_take 10 (some 194) (.int .i64 c) rfl rfl (by kernel_rfl) (by kernel_rfl) (by kernel_rfl) (fun _ _ _ h => h.elim) (.inl ⟨by rfl, fun W hW => by go_simp⟩) hS ?_
  simp only [Act.put, List.setIfInBounds_toArray, List.set_cons_succ, List.set_cons_zero]
  refine wpAnyH_all (rs := [8]) (by kernel_rfl) (by simp) ?_
  simp only [List.mem_cons, List.not_mem_nil, or_false, forall_eq]
  refine opH_call (some 192) rfl (by rfl) rfl 29 #[.agg (St.cs s (.slice oa s.out.length oc)).toArray, .int .i64 c] (by go_simp) ((c29.out _ hS).mono ?_)
  rintro e w8 ⟨rfl, hk⟩
  have hS := hS.trans hk
  clear hk
  refine ⟨_, rfl, hS, ?_⟩
  simp only [Act.put, List.setIfInBounds_toArray, List.set_cons_succ, List.set_cons_zero]
  refine wpAnyH_all (rs := [11]) (by kernel_rfl) (by simp) ?_
  simp only [List.mem_cons, List.not_mem_nil, or_false, forall_eq]
  refine opH_call (some 195) rfl (by rfl) rfl 30 #[.agg (St.cs s (.slice oa s.out.length oc)).toArray, .int .i64 c] (by go_simp) ((c30.out _ hS).mono ?_)
  rintro e w11 ⟨rfl, hk⟩
  have hS := hS.trans hk
  clear hk
  refine ⟨_, rfl, hS, ?_⟩
  simp only [Act.put, List.setIfInBounds_toArray, List.set_cons_succ, List.set_cons_zero]
  refine anyH_take 12 (some 196) (.bool true) rfl rfl (by kernel_rfl) (by kernel_rfl) (by kernel_rfl) (fun _ _ _ h => h.elim) (.inl ⟨by rfl, fun W hW => by go_simp⟩) hS ?_
  simp only [Act.put, List.setIfInBounds_toArray, List.set_cons_succ, List.set_cons_zero]
  refine anyH_take 13 (some 197) (.bool true) rfl rfl (by kernel_rfl) (by kernel_rfl) (by kernel_rfl) (fun _ _ _ h => h.elim) (.inl ⟨by rfl, fun W hW => by go_simp⟩) hS ?_
  simp only [Act.put, List.setIfInBounds_toArray, List.set_cons_succ, List.set_cons_zero]
  refine anyH_take 14 (some 198) (.bool true) rfl rfl (by kernel_rfl) (by kernel_rfl) (by kernel_rfl) (fun _ _ _ h => h.elim) (.inl ⟨by rfl, fun W hW => by go_simp⟩) hS ?_
  simp only [Act.put, List.setIfInBounds_toArray, List.set_cons_succ, List.set_cons_zero]
  refine anyH_take 15 (some 199) (.agg (St.cs s (.slice oa s.out.length oc)).toArray) rfl rfl (by kernel_rfl) (by kernel_rfl) (by kernel_rfl) (fun _ _ _ h => h.elim) (.inl ⟨by rfl, fun W hW => run_load_row 24 (.tmp 8) rfl B rfl 24 _ (0, 0) _ ((show New w W from hW).heap r id) Tryd.underlying24 rfl info24⟩) hS ?_
  simp only [Act.put, List.setIfInBounds_toArray, List.set_cons_succ, List.set_cons_zero]
  refine anyH_take 16 (some 200) (.agg (St.cs s2 (.slice ta s2.out.length tc)).toArray) rfl rfl (by kernel_rfl) (by kernel_rfl) (by kernel_rfl) (fun _ _ _ h => h.elim) (.inl ⟨by rfl, fun W hW => run_load_row 24 (.tmp 9) rfl T rfl 24 _ (0, 0) _ ((show New w W from hW).heap r2 id) Tryd.underlying24 rfl info24⟩) hS ?_
  simp only [Act.put, List.setIfInBounds_toArray, List.set_cons_succ, List.set_cons_zero]
  refine anyH_take 18 (some 202) (.agg (St.cs s (.slice oa s.out.length oc)).toArray) rfl rfl (by kernel_rfl) (by kernel_rfl) (by kernel_rfl) (fun _ _ _ h => h.elim) (.inl ⟨by rfl, fun W hW => run_load_row 24 (.tmp 8) rfl B rfl 24 _ (0, 0) _ ((show New w W from hW).heap r id) Tryd.underlying24 rfl info24⟩) hS ?_
  simp only [Act.put, List.setIfInBounds_toArray, List.set_cons_succ, List.set_cons_zero]
  refine anyH_take 19 (some 203) (.agg (St.cs s2 (.slice ta s2.out.length tc)).toArray) rfl rfl (by kernel_rfl) (by kernel_rfl) (by kernel_rfl) (fun _ _ _ h => h.elim) (.inl ⟨by rfl, fun W hW => run_load_row 24 (.tmp 9) rfl T rfl 24 _ (0, 0) _ ((show New w W from hW).heap r2 id) Tryd.underlying24 rfl info24⟩) hS ?_
  simp only [Act.put, List.setIfInBounds_toArray, List.set_cons_succ, List.set_cons_zero]
  refine wpAnyH_all (rs := [17]) (by kernel_rfl) (by simp) ?_
  simp only [List.mem_cons, List.not_mem_nil, or_false, forall_eq]
  refine opH_call (some 201) rfl (by rfl) rfl 31 #[.agg (St.cs s (.slice oa s.out.length oc)).toArray, .agg (St.cs s2 (.slice ta s2.out.length tc)).toArray] (by go_simp) ((c31.out _ hS).mono ?_)
  rintro e w17 ⟨rfl, hk⟩
  have hS := hS.trans hk
  clear hk
  refine ⟨_, rfl, hS, ?_⟩
  simp only [Act.put, List.setIfInBounds_toArray, List.set_cons_succ, List.set_cons_zero]
  refine wpAnyH_all (rs := [20]) (by kernel_rfl) (by simp) ?_
  simp only [List.mem_cons, List.not_mem_nil, or_false, forall_eq]
  refine opH_call (some 204) rfl (by rfl) rfl 17 #[.agg (St.cs s (.slice oa s.out.length oc)).toArray, .agg (St.cs s2 (.slice ta s2.out.length tc)).toArray] (by go_simp) ((c17.out _ hS).mono ?_)
  rintro e w20 ⟨rfl, hk⟩
  have hS := hS.trans hk
  clear hk
  refine ⟨_, rfl, hS, ?_⟩
  simp only [Act.put, List.setIfInBounds_toArray, List.set_cons_succ, List.set_cons_zero]
  refine anyH_take 21 (some 205) (.bool true) rfl rfl (by kernel_rfl) (by kernel_rfl) (by kernel_rfl) (fun _ _ _ h => h.elim) (.inl ⟨by rfl, fun W hW => by go_simp⟩) hS ?_
  simp only [Act.put, List.setIfInBounds_toArray, List.set_cons_succ, List.set_cons_zero]
  refine anyH_take 22 (some 206) (.bool true) rfl rfl (by kernel_rfl) (by kernel_rfl) (by kernel_rfl) (fun _ _ _ h => h.elim) (.inl ⟨by rfl, fun W hW => by go_simp⟩) hS ?_
  simp only [Act.put, List.setIfInBounds_toArray, List.set_cons_succ, List.set_cons_zero]
  refine anyH_take 23 (some 207) (.bool true) rfl rfl (by kernel_rfl) (by kernel_rfl) (by kernel_rfl) (fun _ _ _ h => h.elim) (.inl ⟨by rfl, fun W hW => by go_simp⟩) hS ?_
  simp only [Act.put, List.setIfInBounds_toArray, List.set_cons_succ, List.set_cons_zero]
  refine anyH_take 24 (some 208) (.agg (St.cs s (.slice oa s.out.length oc)).toArray) rfl rfl (by kernel_rfl) (by kernel_rfl) (by kernel_rfl) (fun _ _ _ h => h.elim) (.inl ⟨by rfl, fun W hW => run_load_row 24 (.tmp 8) rfl B rfl 24 _ (0, 0) _ ((show New w W from hW).heap r id) Tryd.underlying24 rfl info24⟩) hS ?_
  simp only [Act.put, List.setIfInBounds_toArray, List.set_cons_succ, List.set_cons_zero]
  refine anyH_take 26 (some 210) (.agg (St.cs s (.slice oa s.out.length oc)).toArray) rfl rfl (by kernel_rfl) (by kernel_rfl) (by kernel_rfl) (fun _ _ _ h => h.elim) (.inl ⟨by rfl, fun W hW => run_load_row 24 (.tmp 8) rfl B rfl 24 _ (0, 0) _ ((show New w W from hW).heap r id) Tryd.underlying24 rfl info24⟩) hS ?_
  simp only [Act.put, List.setIfInBounds_toArray, List.set_cons_succ, List.set_cons_zero]
  refine wpAnyH_all (rs := [25]) (by kernel_rfl) (by simp) ?_
  simp only [List.mem_cons, List.not_mem_nil, or_false, forall_eq]
  refine opH_call (some 209) rfl (by rfl) rfl 32 #[.agg (St.cs s (.slice oa s.out.length oc)).toArray] (by go_simp) ((c32.out _ hS).mono ?_)
  rintro e w25 ⟨v', rfl, ⟨ovn, rfl, hON⟩, hk⟩
  have hS := hS.trans hk
  clear hk
  refine ⟨_, rfl, hS, ?_⟩
  simp only [Act.put, List.setIfInBounds_toArray, List.set_cons_succ, List.set_cons_zero]
  refine wpAnyH_all (rs := [27]) (by kernel_rfl) (by simp) ?_
  simp only [List.mem_cons, List.not_mem_nil, or_false, forall_eq]
  refine opH_call (some 211) rfl (by rfl) rfl 17 #[.agg (St.cs s ovn).toArray, .agg (St.cs s (.slice oa s.out.length oc)).toArray] (by go_simp) ((same_R _ _ s s _ ⟨_, rfl, hON.reads⟩ ⟨_, rfl, HR.out.new hS⟩ HI.out HI.out).mono ?_)
  rintro e w27 ⟨he, hk⟩
  rw [show decide (s = s) = true from decide_eq_true rfl] at he
  subst he
  have hS := hS.trans hk
  clear hk
  refine ⟨_, rfl, hS, ?_⟩
  simp only [Act.put, List.setIfInBounds_toArray, List.set_cons_succ, List.set_cons_zero]
  refine anyH_take 28 (some 212) (.bool true) rfl rfl (by kernel_rfl) (by kernel_rfl) (by kernel_rfl) (fun _ _ _ h => h.elim) (.inl ⟨by rfl, fun W hW => by go_simp⟩) hS ?_
  simp only [Act.put, List.setIfInBounds_toArray, List.set_cons_succ, List.set_cons_zero]
  refine anyH_take 29 (some 213) (.bool true) rfl rfl (by kernel_rfl) (by kernel_rfl) (by kernel_rfl) (fun _ _ _ h => h.elim) (.inl ⟨by rfl, fun W hW => by go_simp⟩) hS ?_
  simp only [Act.put, List.setIfInBounds_toArray, List.set_cons_succ, List.set_cons_zero]
  refine wpAnyH_all (rs := [30]) (by kernel_rfl) (by simp) ?_
  simp only [List.mem_cons, List.not_mem_nil, or_false, forall_eq]
  refine opH_call (some 214) rfl (by rfl) rfl 14 #[] (by go_simp) ((c14.out _ hS).mono ?_)
  rintro e w30 ⟨rfl, hk⟩
  have hS := hS.trans hk
  clear hk
  refine ⟨_, rfl, hS, ?_⟩
  simp only [Act.put, List.setIfInBounds_toArray, List.set_cons_succ, List.set_cons_zero]
  refine anyH_take 31 (some 215) (.bool true) rfl rfl (by kernel_rfl) (by kernel_rfl) (by kernel_rfl) (fun _ _ _ h => h.elim) (.inl ⟨by rfl, fun W hW => by go_simp⟩) hS ?_
  simp only [Act.put, List.setIfInBounds_toArray, List.set_cons_succ, List.set_cons_zero]
  refine anyH_take 32 (some 16) (.bool true) rfl rfl (by kernel_rfl) (by kernel_rfl) (by kernel_rfl) (fun _ _ _ h => h.elim) (.inl ⟨by rfl, fun W hW => by go_simp⟩) hS ?_
  simp only [Act.put, List.setIfInBounds_toArray, List.set_cons_succ, List.set_cons_zero]
  refine wpAnyH_done (by kernel_rfl) ?_ _
  exact ⟨⟨rfl, rfl, rfl⟩, hS⟩
end Go.Proofs.YtkjghojdfjhhkaaDoor
