/- HandlerOwn, walked. -/
import Derived.Test.YtkjghojdfjhhkaaDoorM33
import Derived.Test.YtkjghojdfjhhkaaDoorM26
import Derived.Test.YtkjghojdfjhhkaaDoorM29
set_option linter.unusedSimpArgs false
set_option linter.unusedVariables false
namespace Go.Proofs.YtkjghojdfjhhkaaDoor
open Go.RowKit Go.Shelf Go.Cs
attribute [local go_sem] Oper.semAt_some
set_option linter.unusedVariables false
set_option linter.unusedSimpArgs false
theorem lit95 (t : Array Value) (h : t.size = 95) : ∃ u : Nat → Value, t = (u 0 :: u 1 :: u 2 :: u 3 :: u 4 :: u 5 :: u 6 :: u 7 :: u 8 :: u 9 :: u 10 :: u 11 :: u 12 :: u 13 :: u 14 :: u 15 :: u 16 :: u 17 :: u 18 :: u 19 :: u 20 :: u 21 :: u 22 :: u 23 :: u 24 :: u 25 :: u 26 :: u 27 :: u 28 :: u 29 :: u 30 :: u 31 :: u 32 :: u 33 :: u 34 :: u 35 :: u 36 :: u 37 :: u 38 :: u 39 :: u 40 :: u 41 :: u 42 :: u 43 :: u 44 :: u 45 :: u 46 :: u 47 :: u 48 :: u 49 :: u 50 :: u 51 :: u 52 :: u 53 :: u 54 :: u 55 :: u 56 :: u 57 :: u 58 :: u 59 :: u 60 :: u 61 :: u 62 :: u 63 :: u 64 :: u 65 :: u 66 :: u 67 :: u 68 :: u 69 :: u 70 :: u 71 :: u 72 :: u 73 :: u 74 :: u 75 :: u 76 :: u 77 :: u 78 :: u 79 :: u 80 :: u 81 :: u 82 :: u 83 :: u 84 :: u 85 :: u 86 :: u 87 :: u 88 :: u 89 :: u 90 :: u 91 :: u 92 :: u 93 :: u 94 :: ([] : List Value)).toArray := ⟨fun i => t.getD i undef, range_lit t 95 h⟩
/-- Bytes that may be written: cells of a row of bytes beyond the old heap. -/
def Fl (base : Nat) (W : World) (ao : Option Addr) (n : Nat) : Prop :=
  ∀ j, j < n → ∃ b o cs x, ao = some ⟨b, o, none⟩ ∧ base ≤ b ∧ W.heap[b]? = some (.cells cs 5 (0, 0)) ∧ cs[o + j]? = some (.int .u8 x)
theorem Fl.ofOw {base : Nat} {W : World} {ao : Option Addr} {n cap : Nat} {xs : List Int} (h : OwB base W (.slice ao n cap) xs) : Fl base W ao xs.length := by
  have hc := h.reads.cells
  intro j hj
  rcases h.2 with ⟨e, h2⟩ | ⟨g, c, cur, e, hb, hg, _⟩
  · rw [h2] at hj; cases hj
  · cases e
    have := hc.2.2 _ rfl j (by omega)
    rw [Addr.add_mid, cell_of_row _ _ _ _ _ _ hg] at this
    exact ⟨g, 0, cur, xs.getD j 0, rfl, hb, hg, this⟩
theorem Fl.new {base : Nat} {W W' : World} {ao : Option Addr} {n : Nat} (h : Fl base W ao n) (hN : New W W') : Fl base W' ao n := fun j hj => by
  obtain ⟨b, o, cs, x, e, hb, hr, hc⟩ := h j hj
  exact ⟨b, o, cs, x, e, hb, hN.heap hr id, hc⟩
theorem Fl.set {base : Nat} {W : World} {ao : Option Addr} {n : Nat} (h : Fl base W ao n) (g i : Nat) (y : Int) : Fl base (W.setCell ⟨g, i, none⟩ (.int .u8 y)) ao n := fun j hj => by
  obtain ⟨b, o, cs, x, e, hb, hr, hc⟩ := h j hj
  by_cases hbg : b = g
  · subst hbg
    refine ⟨b, o, _, if i = o + j then y else x, e, hb, setCell_heap (i := i) hr (.int .u8 y), ?_⟩
    have hlt := (Array.getElem?_eq_some_iff.1 hc).1
    rw [Array.getElem?_setIfInBounds]
    by_cases hi : i = o + j
    · subst hi; rw [if_pos rfl, if_pos hlt, if_pos rfl]
    · rw [if_neg hi, if_neg hi]; exact hc
  · exact ⟨b, o, cs, x, e, hb, cell_other (T := g) (i := i) hr hbg, hc⟩
/-- What the rounds keep. -/
def OwnJ (w : World) (A n0 n1 n2 c0 c1 c2 : Nat) (a0 a1 a2 : Option Addr) (W : World) : Prop :=
  W.heap[A]? = some (.cells #[.slice a0 n0 c0, .slice a1 n1 c1, .slice a2 n2 c2] 51 (0, 0)) ∧ Fl w.heap.size W a0 n0 ∧ Fl w.heap.size W a1 n1 ∧ Fl w.heap.size W a2 n2 ∧ New w W
theorem OwnJ.new {w W W' : World} {A n0 n1 n2 c0 c1 c2 : Nat} {a0 a1 a2 : Option Addr} (h : OwnJ w A n0 n1 n2 c0 c1 c2 a0 a1 a2 W) (hN : New W W') : OwnJ w A n0 n1 n2 c0 c1 c2 a0 a1 a2 W' :=
  ⟨hN.heap h.1 id, h.2.1.new hN, h.2.2.1.new hN, h.2.2.2.1.new hN, h.2.2.2.2.trans hN⟩
theorem OwnJ.set {w W : World} {A n0 n1 n2 c0 c1 c2 : Nat} {a0 a1 a2 : Option Addr} (h : OwnJ w A n0 n1 n2 c0 c1 c2 a0 a1 a2 W) {b i : Nat} {cs : Array Value} (hb : w.heap.size ≤ b) (hr : W.heap[b]? = some (.cells cs 5 (0, 0))) (y : Int) : OwnJ w A n0 n1 n2 c0 c1 c2 a0 a1 a2 (W.setCell ⟨b, i, none⟩ (.int .u8 y)) := by
  refine ⟨cell_other (T := b) (i := i) (v := .int .u8 y) h.1 ?_, h.2.1.set _ _ _, h.2.2.1.set _ _ _, h.2.2.2.1.set _ _ _, h.2.2.2.2.setCell (p := ⟨b, i, none⟩) (.inl hb) _⟩
  rintro rfl
  have := h.1
  rw [hr] at this
  cases this
theorem other24 {W : World} {B b i : Nat} {cs ds : Array Value} {v : Value} (h : W.heap[B]? = some (.cells ds 24 (0, 0))) (hr : W.heap[b]? = some (.cells cs 5 (0, 0))) : (W.setCell ⟨b, i, none⟩ v).heap[B]? = some (.cells ds 24 (0, 0)) :=
  cell_other (T := b) (i := i) (v := v) h (by rintro rfl; rw [h] at hr; cases hr)
set_option maxHeartbeats 16000000 in
set_option maxRecDepth 100000 in
theorem own_law (v bv : Value) (s : St) (b : List Int) (c f k : Int) (w : World) (h : RdS w v s) (hok : s.Ok) (hb : RdB w bv b) (hib : In8 b) (hc : I64 c) (hf : I64 f) (hk : I64 k) (hT : Tab w) :
    Calls Tryd.prog 7 #[v, bv, .int .i64 c, .int .i64 f, .int .i64 k] w fun e w' => e = .returned (.bool true) ∧ New w w' := by
  obtain ⟨sv, rfl, hr⟩ := h
  obtain ⟨oa, oc, rfl⟩ := hr.slice
  obtain ⟨bo, bcap, rfl⟩ := hb.slice
  have HT := Lib.hid hT
  have HR := Lib.hid hr
  have HS := Lib.hid hok.2.1
  have HBB := Lib.hid hb
  have HC0 := Lib.hid hc
  have HF0 := Lib.hid hf
  have HK0 := Lib.hid hk
  clear hT hr hok hb hib hc hf hk
  obtain ⟨W1, B, hW, hBB, rB, hN1⟩ := one_row w #[.int .i64 s.id, .int .u8 s.state, .int .i64 s.send, .int .i64 s.recv, .int .i64 s.owed, .bool s.ans, .bool s.ends, .slice oa s.out.length oc, .int .u8 s.urg, .bool s.inc, .int .i64 s.slot] 24
  unfold St.cs
  go_enter Tryd.func7, Tryd.ntmps7
  go_upto_region 1 with fail
  clear hW hBB
  obtain ⟨g1, h1⟩ : ∃ x, decide (3000 < s.out.length) = x := ⟨_, rfl⟩
  obtain ⟨g4, h4⟩ : ∃ x, decide (3000 < b.length) = x := ⟨_, rfl⟩
  have h4' : decide ((3000 : Int) < (b.length : Int)) = g4 := by rw [← h4]; exact decide_eq_decide.2 (by omega)
  have H1 := Lib.hid h1
  have H4 := Lib.hid h4
  clear h1 h4
  go_wp2_with (first | (refine op_value rfl (run_load_row 24 (.tmp 5) rfl B rfl 24 _ (0, 0) _ rB Tryd.underlying24 rfl info24) ?_) | (refine op_value_g rfl (run_load_row 24 (.tmp 5) rfl B rfl 24 _ (0, 0) _ rB Tryd.underlying24 rfl info24) ?_))
  refine (great_S s _ _ s.out.length oa oc rfl).mono ?_
  rintro e W2 ⟨rfl, hk⟩
  rw [H1.out]
  have rB := hk.heap rB id
  have hN2 := hN1.trans hk
  clear hk hN1
  cases g1 with
  | true =>
    go_wp2_with fail
    refine (wakesH_any _ (HT.out.new hN2)).mono ?_
    rintro e W3 ⟨rfl, hk⟩
    have hN3 := hN2.trans hk
    go_wp2_with fail
    go_ret
    exact ⟨rfl, hN3⟩
  | false =>
  cases g4 with
  | true =>
    go_wp2_with fail
    refine (wakesH_any _ (HT.out.new hN2)).mono ?_
    rintro e W3 ⟨rfl, hk⟩
    have hN3 := hN2.trans hk
    go_wp2_with fail
    go_ret
    exact ⟨rfl, hN3⟩
  | false =>
  have Hs : Hid (s.out.length ≤ 1000000) := Lib.hid (by have := of_decide_eq_false H1.out; omega)
  have Hb : Hid (b.length ≤ 1000000) := Lib.hid (by have := of_decide_eq_false H4.out; omega)
  clear H1 H4
  go_upto_region 3 with fail
  clear h4'
  refine piece (fun a a' W' => a' = (a.put (some 30) (.pointer (some ⟨B, 7, none⟩)) |>.put (some 31) (.slice oa s.out.length oc) |>.put (some 32) (.string (strOfNums s.out)) |>.put (some 11) (.string (strOfNums s.out)) |>.put (some 33) (.slice bo b.length bcap) |>.put (some 34) (.string (strOfNums b)) |>.put (some 12) (.string (strOfNums b))) ∧ New W2 W') ?_ ?_
  · have q1 : ∀ W, New W2 W → (convert 22 9 (.slice oa s.out.length oc)).run Tryd.prog W = .ok (.string (strOfNums s.out)) W := fun W hN => (HR.out.new (hN2.trans hN)).str
    have q2 : ∀ W, New W2 W → (convert 22 9 (.slice bo b.length bcap)).run Tryd.prog W = .ok (.string (strOfNums b)) W := fun W hN => (HBB.out.new (hN2.trans hN)).str
    obtain ⟨A1, hA1⟩ : ∃ x, strOfNums s.out = x := ⟨_, rfl⟩
    obtain ⟨A2, hA2⟩ : ∃ x, strOfNums b = x := ⟨_, rfl⟩
    rw [hA1] at q1 ⊢
    rw [hA2] at q2 ⊢
    refine wp_region_held (by kernel_rfl) (S := fun W => New W2 W) ?_
    show wpAnyH _ _ _ _ _ _ _ _ W2.drew
    have hS : New W2 W2.drew := (Mods.refl _ _).drew
    obtain ⟨Wd, hWd⟩ : ∃ V, W2.drew = V := ⟨_, rfl⟩
    rw [hWd] at hS ⊢
    clear hWd
    refine anyH_take 0 (some 30) (.pointer (some ⟨B, 7, none⟩)) rfl rfl (by kernel_rfl) (by kernel_rfl) (by kernel_rfl) (fun _ _ _ h => h.elim) (.inl ⟨by rfl, fun W hW => by go_simp⟩) hS ?_
    simp only [Act.put, List.setIfInBounds_toArray, List.set_cons_succ, List.set_cons_zero]
    refine anyH_take 1 (some 31) (.slice oa s.out.length oc) rfl rfl (by kernel_rfl) (by kernel_rfl) (by kernel_rfl) (fun _ _ _ h => h.elim) (.inl ⟨by rfl, fun W hW => by have c := cell_of_row _ _ 7 _ _ _ ((show New W2 W from hW).heap rB id); have c : W.cell? ⟨B, 7, none⟩ = some (.slice oa s.out.length oc) := c; go_simp⟩) hS ?_
    simp only [Act.put, List.setIfInBounds_toArray, List.set_cons_succ, List.set_cons_zero]
    refine anyH_take 2 (some 32) (.string A1) rfl rfl (by kernel_rfl) (by kernel_rfl) (by kernel_rfl) (fun _ _ _ h => h.elim) (.inl ⟨by rfl, fun W hW => by have c := q1 W hW; go_simp⟩) hS ?_
    simp only [Act.put, List.setIfInBounds_toArray, List.set_cons_succ, List.set_cons_zero]
    refine anyH_take 5 (some 11) (.string A1) rfl rfl (by kernel_rfl) (by kernel_rfl) (by kernel_rfl) (fun _ _ _ h => h.elim) (.inl ⟨by rfl, fun W hW => by go_simp⟩) hS ?_
    simp only [Act.put, List.setIfInBounds_toArray, List.set_cons_succ, List.set_cons_zero]
    refine anyH_take 3 (some 33) (.slice bo b.length bcap) rfl rfl (by kernel_rfl) (by kernel_rfl) (by kernel_rfl) (fun _ _ _ h => h.elim) (.inl ⟨by rfl, fun W hW => by go_simp⟩) hS ?_
    simp only [Act.put, List.setIfInBounds_toArray, List.set_cons_succ, List.set_cons_zero]
    refine anyH_take 4 (some 34) (.string A2) rfl rfl (by kernel_rfl) (by kernel_rfl) (by kernel_rfl) (fun _ _ _ h => h.elim) (.inl ⟨by rfl, fun W hW => by have c := q2 W hW; go_simp⟩) hS ?_
    simp only [Act.put, List.setIfInBounds_toArray, List.set_cons_succ, List.set_cons_zero]
    refine anyH_take 6 (some 12) (.string A2) rfl rfl (by kernel_rfl) (by kernel_rfl) (by kernel_rfl) (fun _ _ _ h => h.elim) (.inl ⟨by rfl, fun W hW => by go_simp⟩) hS ?_
    simp only [Act.put, List.setIfInBounds_toArray, List.set_cons_succ, List.set_cons_zero]
    refine wpAnyH_done (by kernel_rfl) ?_ _
    exact ⟨rfl, hS⟩
  · rintro a' W3 ⟨rfl, hk⟩
    simp only [Act.put, List.setIfInBounds_toArray, List.set_cons_succ, List.set_cons_zero]
    have rB := hk.heap rB id
    have hN3 := hN2.trans hk
    clear hk hN2
    obtain ⟨A1, hA1⟩ : ∃ x, strOfNums s.out = x := ⟨_, rfl⟩
    obtain ⟨A2, hA2⟩ : ∃ x, strOfNums b = x := ⟨_, rfl⟩
    rw [hA1, hA2]
    have HA1 := Lib.hid hA1
    have HA2 := Lib.hid hA2
    clear hA1 hA2
    obtain ⟨⟨sw, ew⟩, hA⟩ : ∃ r, writeS s b = r := ⟨_, rfl⟩
    have HAW := Lib.hid hA
    clear hA
    obtain ⟨⟨so, dd, ben, bok⟩, hA⟩ : ∃ r, takeS s c f k = r := ⟨_, rfl⟩
    have HAT := Lib.hid hA
    clear hA
    have HC := write_S _ (.slice bo b.length bcap) s b W3 ⟨_, rfl, HR.out.new hN3⟩ (HBB.out.new hN3) Hs.out Hb.out
    rw [HAW.out] at HC
    simp only [] at HC
    have HC := Lib.hid HC
    go_wp2_with (first | (refine op_value rfl (run_load_row 24 (.tmp 5) rfl B rfl 24 _ (0, 0) _ rB Tryd.underlying24 rfl info24) ?_) | (refine op_value_g rfl (run_load_row 24 (.tmp 5) rfl B rfl 24 _ (0, 0) _ rB Tryd.underlying24 rfl info24) ?_))
    refine HC.out.mono ?_
    rintro e W4 ⟨v', rfl, ⟨ox, rfl, hO⟩, hk⟩
    clear HC
    have leS : w.heap.size ≤ W3.heap.size := hN3.size
    replace hO := hO.mono leS
    clear leS
    have rB := hk.heap rB id
    have hN4 := hN3.trans hk
    clear hk hN3
    obtain ⟨o1, c1, rfl⟩ := hO.slice
    obtain ⟨W5, X, hW, hX, rX, hk⟩ := one_row W4 #[.int .i64 sw.id, .int .u8 sw.state, .int .i64 sw.send, .int .i64 sw.recv, .int .i64 sw.owed, .bool sw.ans, .bool sw.ends, .slice o1 (sw.out).length c1, .int .u8 sw.urg, .bool sw.inc, .int .i64 sw.slot] 24
    have ltX : B < X := by have := (Array.getElem?_eq_some_iff.1 rB).1; omega
    have leX : w.heap.size ≤ X := by have := hN4.size; omega
    have rB := hk.heap rB id
    have hO := hO.new hk
    have hN5 := hN4.trans hk
    clear hk hN4
    have hOX := hO
    clear hO
    unfold St.cs
    go_upto_region 5 with fail
    clear hW hX
    have HC := take_S _ s c f k W5 ⟨_, rfl, HR.out.new hN5⟩ Hs.out HS.out HC0.out HF0.out HK0.out
    rw [HAT.out] at HC
    unfold TakeP at HC; simp only [] at HC
    have HC := Lib.hid HC
    go_wp2_with (first | (refine op_value rfl (run_load_row 24 (.tmp 5) rfl B rfl 24 _ (0, 0) _ rB Tryd.underlying24 rfl info24) ?_) | (refine op_value_g rfl (run_load_row 24 (.tmp 5) rfl B rfl 24 _ (0, 0) _ rB Tryd.underlying24 rfl info24) ?_))
    refine HC.out.mono ?_
    rintro e W6 ⟨v', d', rfl, ⟨ox, rfl, hO⟩, hD, hk⟩
    clear HC
    have leS : w.heap.size ≤ W5.heap.size := hN5.size
    replace hO := hO.mono leS
    replace hD := hD.mono leS
    clear leS
    have rB := hk.heap rB id
    have rX := hk.heap rX id
    have hOX := hOX.new hk
    have hN6 := hN5.trans hk
    clear hk hN5
    obtain ⟨d1, dc1, rfl⟩ := hD.slice
    obtain ⟨o2, c2, rfl⟩ := hO.slice
    obtain ⟨W7, Y, hW, hX, rY, hk⟩ := one_row W6 #[.int .i64 so.id, .int .u8 so.state, .int .i64 so.send, .int .i64 so.recv, .int .i64 so.owed, .bool so.ans, .bool so.ends, .slice o2 (so.out).length c2, .int .u8 so.urg, .bool so.inc, .int .i64 so.slot] 24
    have ltY : X < Y := by have := (Array.getElem?_eq_some_iff.1 rX).1; omega
    have leY : w.heap.size ≤ Y := by have := hN6.size; omega
    have rB := hk.heap rB id
    have rX := hk.heap rX id
    have hOX := hOX.new hk
    have hD := hD.new hk
    have hO := hO.new hk
    have hN7 := hN6.trans hk
    clear hk hN6
    have hOY := hO
    clear hO
    unfold St.cs
    go_upto_region 6 with fail
    clear hW hX
    obtain ⟨W8, A, hW, hAA, rA, hk⟩ := one_row W7 #[.slice o1 sw.out.length c1, .slice o2 so.out.length c2, .slice d1 dd.length dc1] 51
    have x7 : W7.cell? ⟨X, 7, none⟩ = some (.slice o1 sw.out.length c1) := cell_of_row _ _ 7 _ _ _ rX
    have y7 : W7.cell? ⟨Y, 7, none⟩ = some (.slice o2 so.out.length c2) := cell_of_row _ _ 7 _ _ _ rY
    have rB := hk.heap rB id
    have rX := hk.heap rX id
    have rY := hk.heap rY id
    have hOX := hOX.new hk
    have hD := hD.new hk
    have hOY := hOY.new hk
    have hN8 := hN7.trans hk
    clear hk hN7
    go_upto_region 7 with fail
    clear hW hAA x7 y7
    have hJ : OwnJ w A sw.out.length so.out.length dd.length c1 c2 dc1 o1 o2 d1 W8 := ⟨rA, Fl.ofOw hOX, Fl.ofOw hOY, Fl.ofOw hD, hN8⟩
    obtain ⟨n0, hn0⟩ : ∃ x, sw.out.length = x := ⟨_, rfl⟩
    obtain ⟨n1, hn1⟩ : ∃ x, so.out.length = x := ⟨_, rfl⟩
    obtain ⟨n2, hn2⟩ : ∃ x, dd.length = x := ⟨_, rfl⟩
    have b0 : n0 ≤ 9223372036854775807 := by have := hOX.reads.1.1; omega
    have b1 : n1 ≤ 9223372036854775807 := by have := hOY.reads.1.1; omega
    have b2 : n2 ≤ 9223372036854775807 := by have := hD.reads.1.1; omega
    rw [hn0, hn1, hn2] at hJ ⊢
    clear rA rX rY hOX hOY hD ltX ltY leX leY hn0 hn1 hn2 HAW HAT
    have HJ := Lib.hid hJ
    clear hJ
    have HRB := Lib.hid rB
    have HNB := Lib.hid hN8
    have HWB : Hid (∀ W, New w W → W.heap[B]? = some (.cells #[.int .i64 s.id, .int .u8 s.state, .int .i64 s.send, .int .i64 s.recv, .int .i64 s.owed, .bool s.ans, .bool s.ends, .slice oa s.out.length oc, .int .u8 s.urg, .bool s.inc, .int .i64 s.slot] 24 (0, 0)) → True) := Lib.hid fun _ _ _ => trivial
    clear HWB
    go_wp2_with fail
    go_loopw [20] (fun cv wr => ∃ i : Nat, i ≤ 3 ∧ cv = .int .i64 i ∧ Hid (OwnJ w A n0 n1 n2 c1 c2 dc1 o1 o2 d1 wr) ∧ Hid (wr.heap[B]? = some (.cells #[.int .i64 s.id, .int .u8 s.state, .int .i64 s.send, .int .i64 s.recv, .int .i64 s.owed, .bool s.ans, .bool s.ends, .slice oa s.out.length oc, .int .u8 s.urg, .bool s.inc, .int .i64 s.slot] 24 (0, 0)))) (fun cv _ => 3 - (intOf cv).toNat)
    case atStart => exact ⟨0, by omega, rfl, HJ, HRB⟩
    case round =>
      clear HJ HRB HNB rB hN8
      obtain ⟨i, hi, rfl, HJ, HRB⟩ := hrel
      by_cases hi3 : i < 3
      case pos =>
        have hcs : i = 0 ∨ i = 1 ∨ i = 2 := by omega
        clear hi hi3
        rcases hcs with rfl | rfl | rfl
        · obtain ⟨wo, hwo⟩ : ∃ V, wr = V := ⟨_, rfl⟩
          rw [hwo] at HJ HRB ⊢
          clear hwo
          go_wp2_with fail
          go_loopw [21] (fun dv wr => ∃ j : Nat, j ≤ n0 ∧ dv = .int .i64 j ∧ Hid (OwnJ w A n0 n1 n2 c1 c2 dc1 o1 o2 d1 wr) ∧ Hid (wr.heap[B]? = some (.cells #[.int .i64 s.id, .int .u8 s.state, .int .i64 s.send, .int .i64 s.recv, .int .i64 s.owed, .bool s.ans, .bool s.ends, .slice oa s.out.length oc, .int .u8 s.urg, .bool s.inc, .int .i64 s.slot] 24 (0, 0)))) (fun dv _ => n0 - (intOf dv).toNat)
          case atStart => exact ⟨0, Nat.zero_le _, rfl, HJ, HRB⟩
          case round =>
            clear HJ HRB
            obtain ⟨j, hj, rfl, HJ, HRB⟩ := hrel
            have rA := HJ.out.1
            have kA : wr.cell? ⟨A, 0, none⟩ = some (.slice o1 n0 c1) := cell_of_row _ _ 0 _ _ _ rA
            by_cases hjn : j < n0
            case pos =>
              obtain ⟨bk, ok, cs, x, rfl, hbk, hrk, hck⟩ := HJ.out.2.1 j hjn
              have hx : wr.cell? ⟨bk, ok + j, none⟩ = some (.int .u8 x) := (cell_of_row _ _ _ _ _ _ hrk).trans hck
              have hfz := frozen_row (i := ok + j) hrk
              have HSET := Lib.hid (fun y => (HJ.out.set (i := ok + j) hbk hrk y).new ((Mods.refl (fun _ => False) _).drew))
              have HRO := Lib.hid (fun (v : Value) => ((Mods.refl (fun _ => False) (wr.setCell ⟨bk, ok + j, none⟩ v)).drew).heap (other24 (b := bk) (i := ok + j) (v := v) HRB.out hrk) id)
              clear hrk hck
              have hd : decide ((j : Int) < (n0 : Int)) = true := decide_eq_true (by omega)
              have hN' := (Mods.refl (fun _ => False) wr).drew
              have kA' := hN'.cell kA id
              have hx' := hN'.cell hx id
              have hfz' := (hN'.frozen hx id).trans hfz
              clear HJ HRB rA
              go_upto_region 13 with fail
              go_region
              all_goals
                go_wp2_with fail
                go_roundw
                case rel => exact ⟨j + 1, by omega, by go_num, Lib.hid (HSET.out _), Lib.hid (HRO.out _)⟩
                case measure => simp [intOf]; omega
            case neg =>
              have hd : decide ((j : Int) < (n0 : Int)) = false := decide_eq_false (by omega)
              go_wp2_with fail
              go_roundw
              case rel => exact ⟨1, by omega, by go_num, HJ, HRB⟩
              case measure => simp [intOf]
        · obtain ⟨wo, hwo⟩ : ∃ V, wr = V := ⟨_, rfl⟩
          rw [hwo] at HJ HRB ⊢
          clear hwo
          go_wp2_with fail
          go_loopw [21] (fun dv wr => ∃ j : Nat, j ≤ n1 ∧ dv = .int .i64 j ∧ Hid (OwnJ w A n0 n1 n2 c1 c2 dc1 o1 o2 d1 wr) ∧ Hid (wr.heap[B]? = some (.cells #[.int .i64 s.id, .int .u8 s.state, .int .i64 s.send, .int .i64 s.recv, .int .i64 s.owed, .bool s.ans, .bool s.ends, .slice oa s.out.length oc, .int .u8 s.urg, .bool s.inc, .int .i64 s.slot] 24 (0, 0)))) (fun dv _ => n1 - (intOf dv).toNat)
          case atStart => exact ⟨0, Nat.zero_le _, rfl, HJ, HRB⟩
          case round =>
            clear HJ HRB
            obtain ⟨j, hj, rfl, HJ, HRB⟩ := hrel
            have rA := HJ.out.1
            have kA : wr.cell? ⟨A, 1, none⟩ = some (.slice o2 n1 c2) := cell_of_row _ _ 1 _ _ _ rA
            by_cases hjn : j < n1
            case pos =>
              obtain ⟨bk, ok, cs, x, rfl, hbk, hrk, hck⟩ := HJ.out.2.2.1 j hjn
              have hx : wr.cell? ⟨bk, ok + j, none⟩ = some (.int .u8 x) := (cell_of_row _ _ _ _ _ _ hrk).trans hck
              have hfz := frozen_row (i := ok + j) hrk
              have HSET := Lib.hid (fun y => (HJ.out.set (i := ok + j) hbk hrk y).new ((Mods.refl (fun _ => False) _).drew))
              have HRO := Lib.hid (fun (v : Value) => ((Mods.refl (fun _ => False) (wr.setCell ⟨bk, ok + j, none⟩ v)).drew).heap (other24 (b := bk) (i := ok + j) (v := v) HRB.out hrk) id)
              clear hrk hck
              have hd : decide ((j : Int) < (n1 : Int)) = true := decide_eq_true (by omega)
              have hN' := (Mods.refl (fun _ => False) wr).drew
              have kA' := hN'.cell kA id
              have hx' := hN'.cell hx id
              have hfz' := (hN'.frozen hx id).trans hfz
              clear HJ HRB rA
              go_upto_region 13 with fail
              go_region
              all_goals
                go_wp2_with fail
                go_roundw
                case rel => exact ⟨j + 1, by omega, by go_num, Lib.hid (HSET.out _), Lib.hid (HRO.out _)⟩
                case measure => simp [intOf]; omega
            case neg =>
              have hd : decide ((j : Int) < (n1 : Int)) = false := decide_eq_false (by omega)
              go_wp2_with fail
              go_roundw
              case rel => exact ⟨2, by omega, by go_num, HJ, HRB⟩
              case measure => simp [intOf]
        · obtain ⟨wo, hwo⟩ : ∃ V, wr = V := ⟨_, rfl⟩
          rw [hwo] at HJ HRB ⊢
          clear hwo
          go_wp2_with fail
          go_loopw [21] (fun dv wr => ∃ j : Nat, j ≤ n2 ∧ dv = .int .i64 j ∧ Hid (OwnJ w A n0 n1 n2 c1 c2 dc1 o1 o2 d1 wr) ∧ Hid (wr.heap[B]? = some (.cells #[.int .i64 s.id, .int .u8 s.state, .int .i64 s.send, .int .i64 s.recv, .int .i64 s.owed, .bool s.ans, .bool s.ends, .slice oa s.out.length oc, .int .u8 s.urg, .bool s.inc, .int .i64 s.slot] 24 (0, 0)))) (fun dv _ => n2 - (intOf dv).toNat)
          case atStart => exact ⟨0, Nat.zero_le _, rfl, HJ, HRB⟩
          case round =>
            clear HJ HRB
            obtain ⟨j, hj, rfl, HJ, HRB⟩ := hrel
            have rA := HJ.out.1
            have kA : wr.cell? ⟨A, 2, none⟩ = some (.slice d1 n2 dc1) := cell_of_row _ _ 2 _ _ _ rA
            by_cases hjn : j < n2
            case pos =>
              obtain ⟨bk, ok, cs, x, rfl, hbk, hrk, hck⟩ := HJ.out.2.2.2.1 j hjn
              have hx : wr.cell? ⟨bk, ok + j, none⟩ = some (.int .u8 x) := (cell_of_row _ _ _ _ _ _ hrk).trans hck
              have hfz := frozen_row (i := ok + j) hrk
              have HSET := Lib.hid (fun y => (HJ.out.set (i := ok + j) hbk hrk y).new ((Mods.refl (fun _ => False) _).drew))
              have HRO := Lib.hid (fun (v : Value) => ((Mods.refl (fun _ => False) (wr.setCell ⟨bk, ok + j, none⟩ v)).drew).heap (other24 (b := bk) (i := ok + j) (v := v) HRB.out hrk) id)
              clear hrk hck
              have hd : decide ((j : Int) < (n2 : Int)) = true := decide_eq_true (by omega)
              have hN' := (Mods.refl (fun _ => False) wr).drew
              have kA' := hN'.cell kA id
              have hx' := hN'.cell hx id
              have hfz' := (hN'.frozen hx id).trans hfz
              clear HJ HRB rA
              go_upto_region 13 with fail
              go_region
              all_goals
                go_wp2_with fail
                go_roundw
                case rel => exact ⟨j + 1, by omega, by go_num, Lib.hid (HSET.out _), Lib.hid (HRO.out _)⟩
                case measure => simp [intOf]; omega
            case neg =>
              have hd : decide ((j : Int) < (n2 : Int)) = false := decide_eq_false (by omega)
              go_wp2_with fail
              go_roundw
              case rel => exact ⟨3, by omega, by go_num, HJ, HRB⟩
              case measure => simp [intOf]
      case neg =>
        obtain rfl : i = 3 := by omega
        have rB := HRB.out
        have hNw := HJ.out.2.2.2.2
        have k7 : wr.cell? ⟨B, 7, none⟩ = some (.slice oa s.out.length oc) := cell_of_row _ _ 7 _ _ _ rB
        have q1 := (HR.out.new hNw).str
        have q2 := (HBB.out.new hNw).str
        rw [HA1.out] at q1
        rw [HA2.out] at q2
        clear HJ HRB rB hi hi3
        go_wp2_with fail
        refine (wakesH_any _ (HT.out.new hNw)).mono ?_
        rintro e Wz ⟨rfl, hk⟩
        have hNz := hNw.trans hk
        go_wp2_with fail
        go_ret
        exact ⟨rfl, hNz⟩
end Go.Proofs.YtkjghojdfjhhkaaDoor
