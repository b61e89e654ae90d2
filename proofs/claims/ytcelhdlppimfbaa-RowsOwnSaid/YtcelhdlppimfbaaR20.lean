/- RowsOwn, walked. -/
import Derived.Test.YtcelhdlppimfbaaR19
import Derived.Test.YtcelhdlppimfbaaA1
namespace Go.Proofs.Ytcelhdlppimfbaa
open Go.RowKit Go.Shelf Go.Cs
attribute [local go_sem] Oper.semAt_some
theorem build4 {o : Oper} {a : Act} {w : World} {x0 x1 x2 x3 : Operand} (ho : o.op = .build 42 #[(0, x0), (1, x1), (2, x2), (3, x3)]) {a0 a1 a2 a3 : List Value} (h0 : a0.length = 8) (h1 : a1.length = 8) (h2 : a2.length = 8) (h3 : a3.length = 8)
    (e0 : a.eval x0 = .agg a0.toArray) (e1 : a.eval x1 = .agg a1.toArray) (e2 : a.eval x2 = .agg a2.toArray) (e3 : a.eval x3 = .agg a3.toArray) {A : List Value} (hA : a0 ++ a1 ++ a2 ++ a3 = A) :
    (execOp a.eval o).run Try.prog w = .ok (.value (.agg A.toArray)) w := by
  subst hA
  obtain ⟨_, _, _, _, _, _, _, _, rfl⟩ := eight8 h0
  obtain ⟨_, _, _, _, _, _, _, _, rfl⟩ := eight8 h1
  obtain ⟨_, _, _, _, _, _, _, _, rfl⟩ := eight8 h2
  obtain ⟨_, _, _, _, _, _, _, _, rfl⟩ := eight8 h3
  unfold execOp
  simp only [ho, e0, e1, e2, e3, List.map_toArray, List.map_cons, List.map_nil, Sem.run_bind]
  rw [run_build (P := Try.prog) w 42 _ _ (by kernel_rfl)]
  rfl
/-- The cells of the rows that are told. -/
structure Told4 (base B : Nat) (A : List Value) (W : World) : Prop where
  heap : W.heap[B]? = some (.cells A.toArray 42 (0, 0))
  len : A.length = 32
  row : ∀ i, i < 32 → ∃ ao n cap, A.getD i undef = .slice ao n cap ∧ n ≤ maxLen ∧ ∀ k, k < n → ∃ b o, ao = some ⟨b, o, none⟩ ∧ base ≤ b ∧ b < B ∧ (∃ v, W.cell? ⟨b, o + k, none⟩ = some v) ∧ W.frozen? ⟨b, o + k, none⟩ = false
theorem row_own {base : Nat} {W : World} {v : Value} {n : Nat} {xs : List Value} (h : W.ownsRow base 3 1 v n xs) : ∃ ao n cap, v = .slice ao n cap ∧ n ≤ maxLen ∧ ∀ k, k < n → ∃ b o, ao = some ⟨b, o, none⟩ ∧ base ≤ b ∧ b < W.heap.size ∧ (∃ v, W.cell? ⟨b, o + k, none⟩ = some v) ∧ W.frozen? ⟨b, o + k, none⟩ = false := by
  rcases h.2 with ⟨rfl, h0⟩ | ⟨g, cap, cur, rfl, hb, hg, hnc, hcm, hcs, htake⟩
  · exact ⟨_, 0, 0, rfl, by unfold maxLen; omega, fun k hk => by omega⟩
  · refine ⟨_, n, cap, rfl, by omega, fun k hk => ⟨g, 0, rfl, hb, (h.lt g rfl).2, ?_, ?_⟩⟩
    · rw [Nat.zero_add, h.cellAt k (by omega)]
      have := h.1
      exact ⟨xs[k]'(by omega), List.getElem?_eq_getElem (by omega)⟩
    · rw [Nat.zero_add]; exact h.frozenAt k
theorem Told4.mk' {base : Nat} {W : World} {a0 a1 a2 a3 : List Value} {X0 X1 X2 X3 : Nat → List Int} (h0 : OwnTo base a0 X0 8 W) (h1 : OwnTo base a1 X1 8 W) (h2 : OwnTo base a2 X2 8 W) (h3 : OwnTo base a3 X3 8 W) (l0 : a0.length = 8) (l1 : a1.length = 8) (l2 : a2.length = 8) (l3 : a3.length = 8) :
    Told4 base W.heap.size (a0 ++ a1 ++ a2 ++ a3) (W.alloc (.cells (a0 ++ a1 ++ a2 ++ a3).toArray 42)) := by
  refine ⟨World.alloc_heap_new W _, by simp; omega, fun i hi => ?_⟩
  have hN : New W (W.alloc (.cells (a0 ++ a1 ++ a2 ++ a3).toArray 42)) := (Mods.refl _ _).alloc _
  have key : ∀ {ws X}, OwnTo base ws X 8 W → ∀ u, u < 8 → (a0 ++ a1 ++ a2 ++ a3).getD i undef = ws.getD u undef → ∃ ao n cap, (a0 ++ a1 ++ a2 ++ a3).getD i undef = .slice ao n cap ∧ n ≤ maxLen ∧ ∀ k, k < n → ∃ b o, ao = some ⟨b, o, none⟩ ∧ base ≤ b ∧ b < W.heap.size ∧ (∃ v, (W.alloc (.cells (a0 ++ a1 ++ a2 ++ a3).toArray 42)).cell? ⟨b, o + k, none⟩ = some v) ∧ (W.alloc (.cells (a0 ++ a1 ++ a2 ++ a3).toArray 42)).frozen? ⟨b, o + k, none⟩ = false := by
    intro ws X h u hu e
    obtain ⟨ao, n, cap, e1, e2, e3⟩ := row_own (h.1 u hu)
    refine ⟨ao, n, cap, by rw [e, e1], e2, fun k hk => ?_⟩
    obtain ⟨b, o, f1, f2, f3, ⟨v, f4⟩, f5⟩ := e3 k hk
    exact ⟨b, o, f1, f2, f3, ⟨v, hN.cell f4 id⟩, by rw [hN.frozen f4 id]; exact f5⟩
  by_cases c0 : i < 8
  · exact key h0 i c0 (by simp [List.getD, List.getElem?_append, l0, c0])
  by_cases c1 : i < 16
  · exact key h1 (i - 8) (by omega) (by simp [List.getD, List.getElem?_append, l0, l1, c0, show i - 8 < 8 by omega])
  by_cases c2 : i < 24
  · exact key h2 (i - 16) (by omega) (by simp [List.getD, List.getElem?_append, l0, l1, l2, c0, show ¬ (i - 8 < 8) by omega, show i - 16 < 8 by omega, show i - 8 - 8 = i - 16 by omega])
  · exact key h3 (i - 24) (by omega) (by simp [List.getD, List.getElem?_append, l0, l1, l2, c0, show ¬ (i - 8 < 8) by omega, show ¬ (i - 16 < 8) by omega, show i - 8 - 8 = i - 16 by omega, show i - 16 - 8 = i - 24 by omega])
theorem Told4.set {base B : Nat} {A : List Value} {W : World} (h : Told4 base B A W) {b o : Nat} (hb : b < B) (z : Value) : Told4 base B A (W.setCell ⟨b, o, none⟩ z) := by
  refine ⟨?_, h.len, fun i hi => ?_⟩
  · have hM : Mods (fun k => k = b) W (W.setCell ⟨b, o, none⟩ z) := (Mods.refl (fun k => k = b) _).setCell (p := ⟨b, o, none⟩) (.inr rfl) z
    exact hM.heap h.heap (by omega)
  · obtain ⟨ao, n, cap, e1, e2, e3⟩ := h.row i hi
    refine ⟨ao, n, cap, e1, e2, fun k hk => ?_⟩
    obtain ⟨b', o', f1, f2, f3, ⟨v, f4⟩, f5⟩ := e3 k hk
    refine ⟨b', o', f1, f2, f3, ?_, by rw [World.frozen?_setCell]; exact f5⟩
    by_cases e : (⟨b, o, none⟩ : Addr) = ⟨b', o' + k, none⟩
    · rw [e]; exact ⟨_, World.cell?_setCell_same _ _ _ f4⟩
    · exact ⟨v, by rw [World.cell?_setCell_other _ _ _ _ e]; exact f4⟩
def nil32 : List Value := nil8 ++ nil8 ++ nil8 ++ nil8
theorem great_false {X : Nat → List Int} (h : greatR X = false) (u : Nat) (hu : u < 8) : (X u).length ≤ 1000000 := by
  unfold greatR at h
  rw [List.any_eq_false] at h
  have := h u (List.mem_range.2 hu)
  simp at this
  omega
theorem sameR_self (X : Nat → List Int) : sameR X X = true := by
  unfold sameR
  rw [List.all_eq_true]
  intro u _
  simp
set_option maxRecDepth 100000 in
set_option maxHeartbeats 4000000 in
theorem own_law (vs : List Value) (hl : vs.length = 8) (X : Nat → List Int) (s u : Int) (w : World) (hr : Rd w vs X) (hx : In64 X)
    (s1 : -9223372036854775808 ≤ s) (s2 : s ≤ 9223372036854775807) (u1 : -9223372036854775808 ≤ u) (u2 : u ≤ 9223372036854775807) :
    Calls Try.prog 5 #[.agg vs.toArray, .int .i64 s, .int .i64 u] w fun e w' => e = .returned (.bool true) ∧ New w w' := by
  have HG := Lib.hid (fun w hr => great_any vs hl X w hr)
  have HV := World.alloc_heap_new w (.cells vs.toArray 23)
  have hN := (Mods.refl (fun _ => False) w).alloc (.cells vs.toArray 23)
  have Hi := Lib.hid (show (Try.prog.info? 23).map (·.size) = some vs.toArray.size by rw [List.size_toArray, hl]; exact info23)
  have Hw := Lib.hid wakes_any
  have Hblk := Lib.hid (fun u (hu : u < 8) (hx : X u ≠ []) g hg => hr.block hu hx (g := g) hg)
  cases hg : greatR X with
  | true =>
    rw [hg] at HG
    have hr0 := hr.new hN
    clear hl hx hg hr Hblk
    go_enter Try.func5, Try.ntmps5
    go_wp2_with (refine op_value rfl (run_load_row 23 (.tmp 3) rfl w.heap.size rfl 23 vs.toArray (0, 0) _ HV Try.underlying23 rfl Hi.out) ?_)
    refine (HG.out _ hr0).mono ?_
    rintro e w1 ⟨rfl, hN1⟩
    have hNw := hN.trans hN1
    go_wp2_with fail
    refine (Hw.out _).mono ?_
    rintro e w4 ⟨rfl, hN4⟩
    go_wp2_with fail
    go_ret
    exact ⟨rfl, hNw.trans hN4⟩
  | false =>
    rw [hg] at HG
    have hX := great_false hg
    have HC := Lib.hid (fun w hr => copy_any vs hl X w hr hX)
    have HP := Lib.hid (fun w hr => push_any vs hl X s u w hr hx hX s1 s2 u1 u2)
    have HT := Lib.hid (fun w hr => turn_any vs hl X s u w hr hx hX s1 s2 u1 u2)
    have HO := Lib.hid (fun w hr => out_any vs hl X s w hr hx hX)
    have HB := Lib.hid (fun w hr => best_any vs hl X w hr hx hX)
    have HS := Lib.hid (fun ws (hl' : List.length ws = 8) w hr hr' => same_ref vs ws hl hl' X X w hr hr')
    rw [sameR_self] at HS
    have hr0 := hr.new hN
    clear hl hx hg hr hX
    go_enter Try.func5, Try.ntmps5
    go_wp2_with (refine op_value rfl (run_load_row 23 (.tmp 3) rfl w.heap.size rfl 23 vs.toArray (0, 0) _ HV Try.underlying23 rfl Hi.out) ?_)
    refine (HG.out _ hr0).mono ?_
    rintro e w1 ⟨rfl, hN1⟩
    have hr1 := hr0.new hN1
    have HV1 := hN1.heap HV id
    have hw1 : w.heap.size < w1.heap.size := (Array.getElem?_eq_some_iff.1 HV1).1
    have hNw := hN.trans hN1
    clear hr0 HV hN hN1 HG
    go_wp2_with (refine op_value rfl (run_load_row 23 (.tmp 3) rfl w.heap.size rfl 23 vs.toArray (0, 0) _ HV1 Try.underlying23 rfl Hi.out) ?_)
    refine (HC.out _ hr1).mono ?_
    rintro e w2 ⟨ws, rfl, hwl, hOc, hN2⟩
    have hA2 : New w1 (w2.alloc (.cells ws.toArray 23)) := hN2.alloc _
    have V2 := Var.make hwl hOc
    have hNw := hNw.trans hA2
    have hr2 := hr1.new hA2
    have HV2 := hA2.heap HV1 id
    have hwb : Hid (∀ u, u < 8 → X u ≠ [] → ∀ g, (ws.getD u undef).ownBlock = some g → g < w2.heap.size) := Lib.hid (fun u hu _ g hg => ((hOc.1 u hu).lt g hg).2)
    have hw2 : w.heap.size < w2.heap.size := by have := hN2.size; omega
    clear hr1 HV1 hN2 HC hOc hw1
    go_wp2_with (first | (refine op_skip rfl (run_store_new 23 (.tmp 7) (.tmp 25) rfl 23 nil8 ws rfl rfl V2.info' V2.len V2.one) ?_) | (refine op_value rfl (run_load_row 23 (.tmp 3) rfl w.heap.size rfl 23 vs.toArray (0, 0) _ HV2 Try.underlying23 rfl Hi.out) ?_))
    obtain ⟨W2, hW2⟩ : ∃ W, w2.alloc (.cells ws.toArray 23) = W := ⟨_, rfl⟩
    obtain ⟨B2, hB2⟩ : ∃ B, w2.heap.size = B := ⟨_, rfl⟩
    have hsz2 : W2.heap.size = B2 + 1 := by rw [← hW2, ← hB2]; simp
    have hBw : w.heap.size < B2 := by rw [← hB2]; exact hw2
    rw [hW2] at V2 hNw hr2 HV2 ⊢
    rw [hB2] at V2 hwb ⊢
    have hbase := Nat.le_of_eq hsz2.symm
    have Hsz2 := Lib.hid hsz2
    clear hW2 hB2 hA2 hw2 w2 hsz2
    refine (HP.out _ hr2).mono ?_
    rintro e w3 ⟨a0, rfl, l0, O0, hN3⟩
    have hA3 : New W2 (w3.alloc (.cells a0.toArray 23)) := hN3.alloc _
    have V3 := Var.make l0 O0
    have hNw := hNw.trans hA3
    have hr3 := hr2.new hA3
    have HV3 := hA3.heap HV2 id
    have V2 := V2.new hA3
    have P3 := (O0.new (Mods.alloc (Mods.refl _ _) (.cells a0.toArray 23))).base_le hbase
    have hbase : B2 + 1 ≤ (w3.alloc (.cells a0.toArray 23)).heap.size := by have := hA3.size; omega
    clear hr2 HV2 hN3 O0
    go_wp2_with (first | (refine op_skip rfl (run_store_new 23 (.tmp 8) (.tmp 31) rfl 23 nil8 a0 rfl rfl V3.info' V3.len V3.one) ?_) | (refine op_value rfl (run_load_row 23 (.tmp 3) rfl w.heap.size rfl 23 vs.toArray (0, 0) _ HV3 Try.underlying23 rfl Hi.out) ?_))
    obtain ⟨W3, hW3⟩ : ∃ W, w3.alloc (.cells a0.toArray 23) = W := ⟨_, rfl⟩
    obtain ⟨B3, hB3⟩ : ∃ B, w3.heap.size = B := ⟨_, rfl⟩
    rw [hW3] at V2 V3 P3 hbase hNw hr3 HV3  ⊢
    rw [hB3] at V3 ⊢
    clear hW3 hB3 hA3 w3
    refine (HB.out _ hr3).mono ?_
    rintro e w4 ⟨a1, rfl, l1, O1, hN4⟩
    have hA4 : New W3 (w4.alloc (.cells a1.toArray 23)) := hN4.alloc _
    have V4 := Var.make l1 O1
    have hNw := hNw.trans hA4
    have hr4 := hr3.new hA4
    have HV4 := hA4.heap HV3 id
    have V2 := V2.new hA4
    have V3 := V3.new hA4
    have P3 := P3.new hA4
    have P4 := (O1.new (Mods.alloc (Mods.refl _ _) (.cells a1.toArray 23))).base_le hbase
    have hbase : B2 + 1 ≤ (w4.alloc (.cells a1.toArray 23)).heap.size := by have := hA4.size; omega
    clear hr3 HV3 hN4 O1
    go_wp2_with (first | (refine op_skip rfl (run_store_new 23 (.tmp 10) (.tmp 36) rfl 23 nil8 a1 rfl rfl V4.info' V4.len V4.one) ?_) | (refine op_value rfl (run_load_row 23 (.tmp 3) rfl w.heap.size rfl 23 vs.toArray (0, 0) _ HV4 Try.underlying23 rfl Hi.out) ?_))
    obtain ⟨W4, hW4⟩ : ∃ W, w4.alloc (.cells a1.toArray 23) = W := ⟨_, rfl⟩
    obtain ⟨B4, hB4⟩ : ∃ B, w4.heap.size = B := ⟨_, rfl⟩
    rw [hW4] at V2 V4 P4 hbase hNw hr4 HV4 V3 P3 ⊢
    rw [hB4] at V4 ⊢
    clear hW4 hB4 hA4 w4
    refine (HT.out _ hr4).mono ?_
    rintro e w5 ⟨a2, rfl, l2, O2, hN5⟩
    have hA5 : New W4 (w5.alloc (.cells a2.toArray 23)) := hN5.alloc _
    have V5 := Var.make l2 O2
    have hNw := hNw.trans hA5
    have hr5 := hr4.new hA5
    have HV5 := hA5.heap HV4 id
    have V2 := V2.new hA5
    have V3 := V3.new hA5
    have P3 := P3.new hA5
    have V4 := V4.new hA5
    have P4 := P4.new hA5
    have P5 := (O2.new (Mods.alloc (Mods.refl _ _) (.cells a2.toArray 23))).base_le hbase
    have hbase : B2 + 1 ≤ (w5.alloc (.cells a2.toArray 23)).heap.size := by have := hA5.size; omega
    clear hr4 HV4 hN5 O2
    go_wp2_with (first | (refine op_skip rfl (run_store_new 23 (.tmp 13) (.tmp 44) rfl 23 nil8 a2 rfl rfl V5.info' V5.len V5.one) ?_) | (refine op_value rfl (run_load_row 23 (.tmp 3) rfl w.heap.size rfl 23 vs.toArray (0, 0) _ HV5 Try.underlying23 rfl Hi.out) ?_))
    obtain ⟨W5, hW5⟩ : ∃ W, w5.alloc (.cells a2.toArray 23) = W := ⟨_, rfl⟩
    obtain ⟨B5, hB5⟩ : ∃ B, w5.heap.size = B := ⟨_, rfl⟩
    rw [hW5] at V2 V5 P5 hbase hNw hr5 HV5 V3 P3 V4 P4 ⊢
    rw [hB5] at V5 ⊢
    clear hW5 hB5 hA5 w5
    refine (HO.out _ hr5).mono ?_
    rintro e w6 ⟨a3, rfl, l3, O3, hN6⟩
    have hA6 : New W5 (w6.alloc (.cells a3.toArray 23)) := hN6.alloc _
    have V6 := Var.make l3 O3
    have hNw := hNw.trans hA6
    have hr6 := hr5.new hA6
    have HV6 := hA6.heap HV5 id
    have V2 := V2.new hA6
    have V3 := V3.new hA6
    have P3 := P3.new hA6
    have V4 := V4.new hA6
    have P4 := P4.new hA6
    have V5 := V5.new hA6
    have P5 := P5.new hA6
    have P6 := (O3.new (Mods.alloc (Mods.refl _ _) (.cells a3.toArray 23))).base_le hbase
    have hbase : B2 + 1 ≤ (w6.alloc (.cells a3.toArray 23)).heap.size := by have := hA6.size; omega
    clear hr5 HV5 hN6 O3
    go_upto_region 8 with (refine op_skip rfl (run_store_new 23 (.tmp 15) (.tmp 50) rfl 23 nil8 a3 rfl rfl V6.info' V6.len V6.one) ?_)
    obtain ⟨W6, hW6⟩ : ∃ W, w6.alloc (.cells a3.toArray 23) = W := ⟨_, rfl⟩
    obtain ⟨B6, hB6⟩ : ∃ B, w6.heap.size = B := ⟨_, rfl⟩
    rw [hW6] at V2 V6 P6 hbase hNw hr6 HV6 V3 P3 V4 P4 V5 P5 ⊢
    rw [hB6] at V6 ⊢
    clear hW6 hB6 hA6 w6
    have hone : ∀ v ∈ a0 ++ a1 ++ a2 ++ a3, v.oneCell' = true := fun v hv => by
      simp only [List.mem_append] at hv
      rcases hv with ((hv | hv) | hv) | hv
      · exact V3.one v hv
      · exact V4.one v hv
      · exact V5.one v hv
      · exact V6.one v hv
    have hlen : (Try.prog.info? 42).map (·.size) = some (a0 ++ a1 ++ a2 ++ a3).length := by
      simp only [List.length_append, l0, l1, l2, l3]; kernel_rfl
    have hlen2 : (a0 ++ a1 ++ a2 ++ a3).length = nil32.length := by simp only [List.length_append, l0, l1, l2, l3]; rfl
    have HT := Lib.hid (Told4.mk' P3 P4 P5 P6 l0 l1 l2 l3)
    obtain ⟨A, hA⟩ : ∃ A, a0 ++ a1 ++ a2 ++ a3 = A := ⟨_, rfl⟩
    rw [hA] at hone hlen hlen2 HT
    have HA := Lib.hid hA
    have Hone := Lib.hid hone
    have Hlen := Lib.hid hlen
    have Hlen2 := Lib.hid hlen2
    have L0 := Lib.hid l0
    have L1 := Lib.hid l1
    have L2 := Lib.hid l2
    have L3 := Lib.hid l3
    have V3 := Lib.hid V3
    have V4 := Lib.hid V4
    have V5 := Lib.hid V5
    have V6 := Lib.hid V6
    have V2 := Lib.hid V2
    have hr6 := Lib.hid hr6
    have HV6 := Lib.hid HV6
    have hNw := Lib.hid hNw
    clear hone hlen hlen2 hA P3 P4 P5 P6 l0 l1 l2 l3 HP HB HO
    go_wp2_with (first | (refine op_value rfl (run_load_row 23 (.tmp 8) rfl B3 rfl 23 a0.toArray (0, 0) _ V3.out.heap Try.underlying23 rfl V3.out.info) ?_) | (refine op_value rfl (run_load_row 23 (.tmp 10) rfl B4 rfl 23 a1.toArray (0, 0) _ V4.out.heap Try.underlying23 rfl V4.out.info) ?_) | (refine op_value rfl (run_load_row 23 (.tmp 13) rfl B5 rfl 23 a2.toArray (0, 0) _ V5.out.heap Try.underlying23 rfl V5.out.info) ?_) | (refine op_value rfl (run_load_row 23 (.tmp 15) rfl B6 rfl 23 a3.toArray (0, 0) _ V6.out.heap Try.underlying23 rfl V6.out.info) ?_) | (refine op_value rfl (build4 rfl L0.out L1.out L2.out L3.out rfl rfl rfl rfl HA.out) ?_) | (refine op_skip rfl (run_store_new 42 (.tmp 17) (.tmp 56) rfl 42 nil32 A rfl rfl Hlen.out Hlen2.out Hone.out) ?_))
    obtain ⟨W7, hW7⟩ : ∃ W, W6.alloc (.cells A.toArray 42) = W := ⟨_, rfl⟩
    have hA7 : New W6 W7 := by rw [← hW7]; exact (Mods.refl _ _).alloc _
    obtain ⟨B7, hB7⟩ : ∃ B, W6.heap.size = B := ⟨_, rfl⟩
    have hN7 := Lib.hid (hNw.out.trans hA7)
    have hr7 := Lib.hid (hr6.out.new hA7)
    have HV7 := Lib.hid (hA7.heap HV6.out id)
    have V7 := Lib.hid (V2.out.new hA7)
    rw [hW7, hB7] at HT ⊢
    have hBB : B2 + 1 ≤ B7 := by omega
    clear hW7 hB7 hA7 hNw hr6 HV6 V2 V3 V4 V5 V6 L0 L1 L2 L3 HA Hone Hlen Hlen2
    go_loopw [18] (fun c wr => ∃ i : Nat, i ≤ 4 ∧ c = .int .i64 i ∧ Hid (Told4 (B2 + 1) B7 A wr) ∧ Mods (fun b => B2 + 1 ≤ b ∧ b < B7) W7 wr) (fun c _ => 4 - (intOf c).toNat)
    case atStart => exact ⟨0, by omega, rfl, HT, Mods.refl _ _⟩
    case round =>
      obtain ⟨i, hi, rfl, hT, hM⟩ := hrel
      by_cases hi4 : i < 4
      · have hid : decide ((i : Int) < 4) = true := by simp; omega
        obtain ⟨wo, hwo⟩ : ∃ wo, wr = wo := ⟨_, rfl⟩
        rw [hwo] at hM hT ⊢
        clear hwo wr
        go_wp2_with fail
        go_loopw [19] (fun c wr => ∃ j : Nat, j ≤ 8 ∧ c = .int .i64 j ∧ Hid (Told4 (B2 + 1) B7 A wr) ∧ Mods (fun b => B2 + 1 ≤ b ∧ b < B7) W7 wr) (fun c _ => 8 - (intOf c).toNat)
        case atStart => exact ⟨0, by omega, rfl, hT, hM⟩
        case round =>
          obtain ⟨j, hj, rfl, hT, hM⟩ := hrel
          by_cases hj8 : j < 8
          · have hjd : decide ((j : Int) < 8) = true := by simp; omega
            obtain ⟨ao, n, cap, hA, hn, hrow⟩ := hT.out.row (i * 8 + j) (by omega)
            have Hrow := Lib.hid (hT.out.row (i * 8 + j) (by omega))
            unfold maxLen at hn
            have Hc : Hid (∀ wr, Told4 (B2 + 1) B7 A wr → wr.cell? ⟨B7, i * 8 + j, none⟩ = some (.slice ao n cap)) := Lib.hid (fun wr hT => by
              rw [cell_of_row wr B7 (i * 8 + j) A.toArray 42 (0, 0) hT.heap, ← hA]
              have := hT.len
              simp [List.getD, show i * 8 + j < A.length by omega])
            have HAe := Lib.hid hA
            obtain ⟨wo', hwo⟩ : ∃ wo, wr = wo := ⟨_, rfl⟩
            rw [hwo] at hM hT ⊢
            clear hwo wr hrow hA Hrow
            go_wp2_with fail
            go_loopw [20] (fun c wr => ∃ k : Nat, k ≤ n ∧ c = .int .i64 k ∧ Hid (Told4 (B2 + 1) B7 A wr) ∧ Mods (fun b => B2 + 1 ≤ b ∧ b < B7) W7 wr) (fun c _ => n - (intOf c).toNat)
            case atStart => exact ⟨0, by omega, rfl, hT, hM⟩
            case round =>
              obtain ⟨k, hk, rfl, hT, hM⟩ := hrel
              have hce := Hc.out wr hT.out
              by_cases hkn : k < n
              · obtain ⟨ao', n', cap', hA', _, hrow⟩ := hT.out.row (i * 8 + j) (by omega)
                rw [HAe.out] at hA'
                simp only [Value.slice.injEq] at hA'
                obtain ⟨rfl, rfl, rfl⟩ := hA'
                obtain ⟨b, o, rfl, hb1, hb2, ⟨old, hold⟩, hfz⟩ := hrow k hkn
                have hT2 := Lib.hid (hT.out.set (b := b) (o := o + k) hb2 (.int .i64 (-9)))
                have hM2 := Lib.hid (hM.setCell (p := ⟨b, o + k, none⟩) (.inr ⟨hb1, hb2⟩) (.int .i64 (-9)))
                clear hrow hT hM
                go_wp2_with fail
                go_roundw
                case rel => exact ⟨k + 1, by omega, by go_num, hT2, hM2.out⟩
                case measure => simp [intOf]; omega
              · obtain rfl : k = n := by omega
                go_wp2_with fail
                go_roundw
                case rel => exact ⟨j + 1, by omega, by go_num, hT, hM⟩
                case measure => simp [intOf]; omega
          · obtain rfl : j = 8 := by omega
            go_wp2_with fail
            go_roundw
            case rel => exact ⟨i + 1, by omega, by go_num, hT, hM⟩
            case measure => simp [intOf]; omega
      · obtain rfl : i = 4 := by omega
        have V8 := V7.out.kept hM (by omega) (fun i hi hx g hg hb => by have := hwb.out i hi hx g hg; omega)
        have HV8 := hM.heap HV7.out (by omega)
        have hr8 := hr7.out.kept hM (fun i hi hx g hg hb => by have := Hblk.out i hi hx g hg; omega)
        have hN8 := hN7.out
        go_wp2_with (first | (refine op_value rfl (run_load_row 23 (.tmp 3) rfl w.heap.size rfl 23 vs.toArray (0, 0) _ HV8 Try.underlying23 rfl Hi.out) ?_) | (refine op_value rfl (run_load_row 23 (.tmp 7) rfl B2 rfl 23 ws.toArray (0, 0) _ V8.heap Try.underlying23 rfl V8.info) ?_))
        refine (HS.out ws V8.len _ hr8 V8.rd).mono ?_
        rintro e w9 ⟨rfl, hN9⟩
        have hN10 : Mods (fun b => B2 + 1 ≤ b ∧ b < B7) w w9 := ((Mods.ofNew hN8).trans hM).trans (Mods.ofNew hN9)
        have hN11 := Lib.hid (hN10.new (fun k hk => by omega))
        clear V8 HV8 hr8 hN8 hN9 hN10 hM
        go_wp2_with fail
        refine (Hw.out _).mono ?_
        rintro e w4 ⟨rfl, hN4⟩
        go_wp2_with fail
        go_ret
        exact ⟨rfl, hN11.out.trans hN4⟩
end Go.Proofs.Ytcelhdlppimfbaa
