/- A variable that holds a machine. -/
import Derived.Test.YtkjloeefcaadlaaP27
import Derived.Test.YtkjloeefcaadlaaP28
set_option linter.unusedSimpArgs false
set_option linter.unusedVariables false
namespace Go.Proofs.Ytkjloeefcaadlaa
open Go.RowKit Go.Shelf Go.Cs
attribute [local go_sem] Oper.semAt_some
def Z77 : Obj := .cells #[.int .u64 0, .int .i64 0, .slice none 0 0, .slice none 0 0] 77 (0, 0)
/-- A variable that holds a machine. -/
def VA (W : World) (B : Nat) (m : Ma) : Prop := ∃ ta tc ha hc lv, MB W B m.word m.clock (.slice ta m.ths.length tc) (.slice ha m.hist.length hc) ∧ MaR W m (.slice ta m.ths.length tc) (.slice ha m.hist.length hc) lv
theorem VA.new {W W' : World} {B : Nat} {m : Ma} (h : VA W B m) (hN : New W W') : VA W' B m := by
  obtain ⟨ta, tc, ha, hc, lv, h1, h2⟩ := h
  exact ⟨ta, tc, ha, hc, lv, h1.new hN, h2.new hN⟩
theorem ReadsM.slices {W : World} {v : Value} {m : Ma} (h : ReadsM W v m) : ∃ ta tc ha hc lv, v = .agg #[.int .u64 (m.word : Nat), .int .i64 m.clock, .slice ta m.ths.length tc, .slice ha m.hist.length hc] ∧ MaR W m (.slice ta m.ths.length tc) (.slice ha m.hist.length hc) lv := by
  obtain ⟨tv, hh, lv, rfl, hR⟩ := h
  obtain ⟨⟨ao, cap, rfl⟩, ⟨ho, hcap, rfl⟩⟩ := hR.slices
  exact ⟨_, _, _, _, lv, rfl, hR⟩
/-- A machine laid into a variable that was made for it. -/
theorem made_mach {W : World} {m : Ma} {ta ha : Option Addr} {tc hc : Nat} {lv : Nat → Value} (hR : MaR W m (.slice ta m.ths.length tc) (.slice ha m.hist.length hc) lv) :
    New W ((W.alloc Z77).setRow W.heap.size #[.int .u64 (m.word : Nat), .int .i64 m.clock, .slice ta m.ths.length tc, .slice ha m.hist.length hc]) ∧
    MB ((W.alloc Z77).setRow W.heap.size #[.int .u64 (m.word : Nat), .int .i64 m.clock, .slice ta m.ths.length tc, .slice ha m.hist.length hc]) W.heap.size m.word m.clock (.slice ta m.ths.length tc) (.slice ha m.hist.length hc) ∧
    VA ((W.alloc Z77).setRow W.heap.size #[.int .u64 (m.word : Nat), .int .i64 m.clock, .slice ta m.ths.length tc, .slice ha m.hist.length hc]) W.heap.size m := by
  have hA := World.alloc_heap_new W Z77
  have hN : New W ((W.alloc Z77).setRow W.heap.size #[.int .u64 (m.word : Nat), .int .i64 m.clock, .slice ta m.ths.length tc, .slice ha m.hist.length hc]) := ((Mods.refl _ W).alloc _).setRow (Nat.le_refl _) _
  have hB : MB _ W.heap.size m.word m.clock (.slice ta m.ths.length tc) (.slice ha m.hist.length hc) := setRow_heap _ W.heap.size _ #[.int .u64 (m.word : Nat), .int .i64 m.clock, .slice ta m.ths.length tc, .slice ha m.hist.length hc] 77 (0, 0) hA
  exact ⟨hN, hB, _, _, _, _, lv, hB, hR.new hN⟩
theorem mach_ones (x : Nat) (c : Int) (ta ha : Option Addr) (n tc k hc : Nat) : ∀ u ∈ ([.int .u64 x, .int .i64 c, .slice ta n tc, .slice ha k hc] : List Value), u.oneCell' = true := by
  intro u hu
  simp only [List.mem_cons, List.not_mem_nil, or_false] at hu
  rcases hu with rfl | rfl | rfl | rfl <;> rfl
end Go.Proofs.Ytkjloeefcaadlaa
/- Whether a machine may begin so. -/
namespace Go.Proofs.Ytkjloeefcaadlaa
open Go.RowKit Go.Shelf Go.Cs
attribute [local go_sem] Oper.semAt_some
set_option maxRecDepth 100000 in
set_option maxHeartbeats 4000000 in
theorem begun_S (x : Nat) (v : Value) (ls : List (List Dn)) (w : World) (hx : x < 18446744073709551616) (hv : ReadsLs w v ls) (hsum : ∀ k, k ≤ ls.length → manyTo ls k ≤ 4000000000000000000) :
    Calls Try.prog 46 #[.int .u64 x, v] w fun e w' => ∃ v', e = .returned (.tuple #[v', .bool (newOk rightB x ls)]) ∧ ReadsM w' v' (if newOk rightB x ls then newM x ls else noneM) ∧ New w w' := by
  have HC := Lib.hid (fun W (hW : New w W) => new_ref18 x v ls W hx (hv.new hW) hsum)
  have h3 : newOk rightB x ls = true → ls.length ≤ 3 := by
    unfold newOk
    simp only [Bool.and_eq_true, decide_eq_true_eq]
    exact fun h => h.2.1
  obtain ⟨hl, ao, cap, rfl, _⟩ := hv
  obtain ⟨r, hr⟩ : ∃ r, newOk rightB x ls = r := ⟨_, rfl⟩
  rw [hr] at HC h3 ⊢
  obtain ⟨m, hm⟩ : ∃ m, (if r then newM x ls else noneM) = m := ⟨_, rfl⟩
  rw [hm] at HC ⊢
  obtain ⟨n, hn⟩ : ∃ n, ls.length = n := ⟨_, rfl⟩
  rw [hn] at HC h3 hl ⊢
  have hA0 : (w.alloc Z77).heap[w.heap.size]? = some Z77 := World.alloc_heap_new w _
  have hN0 : New w (w.alloc Z77) := (Mods.refl _ _).alloc _
  have H0 := Lib.hid (And.intro hA0 hN0)
  clear hr hm hn hA0 hN0
  go_enter Try.func46, Try.ntmps46
  go_wp2_with fail
  refine (HC.out _ H0.out.2).mono ?_
  rintro e w1 ⟨v', rfl, hR, hN1⟩
  have hA1 := hN1.heap H0.out.1 id
  have hNw := H0.out.2.trans hN1
  obtain ⟨ta, tc, ha, hc, lv, rfl, hR'⟩ := hR.slices
  clear hR
  have hR := hR'
  clear hR'
  have hone := mach_ones m.word m.clock ta ha m.ths.length tc m.hist.length hc
  have hA2 := World.alloc_heap_new w1 Z77
  have hAlt : w.heap.size < w1.heap.size := (Array.getElem?_eq_some_iff.1 hA1).1
  obtain ⟨hNm, hBm, _⟩ := made_mach hR
  have HM := Lib.hid (And.intro hR (And.intro hNw hNm))
  have hA3 := hNm.heap hA1 id
  clear hN1 hNw hNm HC H0 hR hA1
  unfold Z77 at *
  go_upto_region 2 with (refine op_skip rfl (run_store_row 77 (.tmp 6) (.tmp 12) rfl w1.heap.size rfl 77 [.int .u64 0, .int .i64 0, .slice none 0 0, .slice none 0 0] [.int .u64 (m.word : Nat), .int .i64 m.clock, .slice ta m.ths.length tc, .slice ha m.hist.length hc] rfl hA2 info77 rfl hone) ?_)
  clear hA2
  obtain ⟨W2, hW2⟩ : ∃ W, (w1.alloc (.cells #[.int .u64 0, .int .i64 0, .slice none 0 0, .slice none 0 0] 77)).setRow w1.heap.size #[.int .u64 (m.word : Nat), .int .i64 m.clock, .slice ta m.ths.length tc, .slice ha m.hist.length hc] = W := ⟨_, rfl⟩
  obtain ⟨B, hB⟩ : ∃ B, w1.heap.size = B := ⟨_, rfl⟩
  rw [hW2] at hA3 hBm HM ⊢
  rw [hB] at hBm ⊢
  have hBB : W2.heap[B]? = some (.cells #[.int .u64 (m.word : Nat), .int .i64 m.clock, .slice ta m.ths.length tc, .slice ha m.hist.length hc] 77 (0, 0)) := hBm
  have H3 : r = true → decide ((n : Int) ≤ 3) = true := fun h => decide_eq_true (by have := h3 h; omega)
  have hZ := setRow_heap W2 w.heap.size _ #[.int .u64 (m.word : Nat), .int .i64 m.clock, .slice ta m.ths.length tc, .slice ha m.hist.length hc] 77 (0, 0) hA3
  have HE : Hid (New w (W2.setRow w.heap.size #[.int .u64 (m.word : Nat), .int .i64 m.clock, .slice ta m.ths.length tc, .slice ha m.hist.length hc]) ∧ MaR (W2.setRow w.heap.size #[.int .u64 (m.word : Nat), .int .i64 m.clock, .slice ta m.ths.length tc, .slice ha m.hist.length hc]) m (.slice ta m.ths.length tc) (.slice ha m.hist.length hc) lv) := Lib.hid (by
    have hRn := HM.out.1.new HM.out.2.2
    exact ⟨(HM.out.2.1.trans HM.out.2.2).setRow (Nat.le_refl _) _, hRn.keptI (hRn.notIn (show MB W2 w.heap.size 0 0 (.slice none 0 0) (.slice none 0 0) from hA3).nb) (mods_setRow hA3 _)⟩)
  clear hBm hW2 hB HM h3 hAlt
  cases r with
  | false =>
    clear H3
    go_wp2_with (first | (refine op_value rfl (run_load_row 77 (.tmp 6) rfl B rfl 77 #[.int .u64 (m.word : Nat), .int .i64 m.clock, .slice ta m.ths.length tc, .slice ha m.hist.length hc] (0, 0) _ hBB Try.underlying77 rfl info77) ?_) | (refine op_skip rfl (run_store_row 77 (.tmp 4) (.tmp 14) rfl w.heap.size rfl 77 [.int .u64 0, .int .i64 0, .slice none 0 0, .slice none 0 0] [.int .u64 (m.word : Nat), .int .i64 m.clock, .slice ta m.ths.length tc, .slice ha m.hist.length hc] rfl hA3 info77 rfl hone) ?_))
    exact bodyPost_ret (v := .tuple #[.agg #[.int .u64 (m.word : Nat), .int .i64 m.clock, .slice ta m.ths.length tc, .slice ha m.hist.length hc], .bool false]) (results_row2 rfl _ _ w.heap.size 77 _ (0, 0) _ rfl hZ Try.underlying77 rfl info77 rfl) rfl ⟨_, rfl, ⟨_, _, lv, rfl, HE.out.2⟩, HE.out.1⟩
  | true =>
    have H4 := H3 rfl
    clear H3
    go_wp2_with (first | (refine op_value rfl (run_load_row 77 (.tmp 6) rfl B rfl 77 #[.int .u64 (m.word : Nat), .int .i64 m.clock, .slice ta m.ths.length tc, .slice ha m.hist.length hc] (0, 0) _ hBB Try.underlying77 rfl info77) ?_) | (refine op_skip rfl (run_store_row 77 (.tmp 4) (.tmp 14) rfl w.heap.size rfl 77 [.int .u64 0, .int .i64 0, .slice none 0 0, .slice none 0 0] [.int .u64 (m.word : Nat), .int .i64 m.clock, .slice ta m.ths.length tc, .slice ha m.hist.length hc] rfl hA3 info77 rfl hone) ?_))
    exact bodyPost_ret (v := .tuple #[.agg #[.int .u64 (m.word : Nat), .int .i64 m.clock, .slice ta m.ths.length tc, .slice ha m.hist.length hc], .bool true]) (results_row2 rfl _ _ w.heap.size 77 _ (0, 0) _ rfl hZ Try.underlying77 rfl info77 rfl) rfl ⟨_, rfl, ⟨_, _, lv, rfl, HE.out.2⟩, HE.out.1⟩
end Go.Proofs.Ytkjloeefcaadlaa
