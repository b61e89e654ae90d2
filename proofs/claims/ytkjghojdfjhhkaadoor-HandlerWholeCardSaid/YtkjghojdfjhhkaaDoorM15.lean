/- RequestTells, walked. -/
import Derived.Test.YtkjghojdfjhhkaaDoorM14
set_option linter.unusedSimpArgs false
set_option linter.unusedVariables false
namespace Go.Proofs.YtkjghojdfjhhkaaDoor
open Go.RowKit Go.Shelf Go.Cs
attribute [local go_sem] Oper.semAt_some
set_option maxHeartbeats 4000000 in
set_option maxRecDepth 100000 in
theorem tells_law (s : ByteArray) (f : Fd) (lv : Value) (L : List Fd) (n : Int) (av bv : Value) (a b : Rq) (w : World) (hs : s.size ≤ 9223372036854775807) (hf : ReachF f) (hl : ReadsU w lv L) (hL : ReachL L)
    (h0 : -9223372036854775808 ≤ n) (h1 : n ≤ 9223372036854775807) (ha : ReadsRU w av a) (hA : ReachL a.fields) (hb : ReadsRU w bv b) (hB : ReachL b.fields) (hc : CapOk lv) (hT : Tab w) :
    Calls Tryd.prog 8 #[.string s, f.v, lv, .int .i64 n, av, bv] w fun e w' => e = .returned (.bool true) ∧ New w w' := by
  obtain ⟨fa, rfl, hfa⟩ := ha
  obtain ⟨fb, rfl, hfb⟩ := hb
  obtain ⟨lo, lcap, rfl⟩ : ∃ lo lcap, lv = .slice lo L.length lcap := by obtain ⟨_, lo, lcap, e, _⟩ := hl; exact ⟨lo, lcap, e⟩
  obtain ⟨ao, ac, rfl⟩ : ∃ ao ac, fa = .slice ao a.fields.length ac := by obtain ⟨_, lo, lcap, e, _⟩ := hfa; exact ⟨lo, lcap, e⟩
  obtain ⟨bo, bc, rfl⟩ : ∃ bo bc, fb = .slice bo b.fields.length bc := by obtain ⟨_, lo, lcap, e, _⟩ := hfb; exact ⟨lo, lcap, e⟩
  obtain ⟨ln, hln⟩ : ∃ x, L.length = x := ⟨_, rfl⟩
  obtain ⟨an, han⟩ : ∃ x, a.fields.length = x := ⟨_, rfl⟩
  obtain ⟨bn, hbn⟩ : ∃ x, b.fields.length = x := ⟨_, rfl⟩
  rw [hln] at hl hc ⊢
  rw [han] at hfa ⊢
  rw [hbn] at hfb ⊢
  unfold Fd.v Rq.cs
  have Hl := Lib.hid hl
  have HL := Lib.hid hL
  have Hfa := Lib.hid hfa
  have Hfb := Lib.hid hfb
  have HA := Lib.hid hA
  have HB := Lib.hid hB
  have Hf := Lib.hid hf
  have Hc := Lib.hid hc
  have HT := Lib.hid hT
  have Hln := Lib.hid hln
  have Han := Lib.hid han
  have Hbn := Lib.hid hbn
  clear hl hL hfa hfb hA hB hf hc hT hln han hbn
  go_enter Tryd.func8, Tryd.ntmps8
  go_upto_region 1 with fail
  have sA : w.heap.size + 1 = (w.alloc (.cells #[.string f.name, .string f.val] 54)).heap.size := by simp
  have sB : w.heap.size + 1 + 1 = ((w.alloc (.cells #[.string f.name, .string f.val] 54)).alloc (.cells #[.string a.meth, .string a.scheme, .string a.path, .string a.host, .slice ao an ac] 56)).heap.size := by simp
  have rF := ((Mods.refl (fun _ => False) (w.alloc (.cells #[.string f.name, .string f.val] 54))).alloc (.cells #[.string a.meth, .string a.scheme, .string a.path, .string a.host, .slice ao an ac] 56) |>.alloc (.cells #[.string b.meth, .string b.scheme, .string b.path, .string b.host, .slice bo bn bc] 56)).heap (World.alloc_heap_new w (.cells #[.string f.name, .string f.val] 54)) id
  have rA := ((Mods.refl (fun _ => False) ((w.alloc (.cells #[.string f.name, .string f.val] 54)).alloc (.cells #[.string a.meth, .string a.scheme, .string a.path, .string a.host, .slice ao an ac] 56))).alloc (.cells #[.string b.meth, .string b.scheme, .string b.path, .string b.host, .slice bo bn bc] 56)).heap (World.alloc_heap_new (w.alloc (.cells #[.string f.name, .string f.val] 54)) (.cells #[.string a.meth, .string a.scheme, .string a.path, .string a.host, .slice ao an ac] 56)) id
  have rB := World.alloc_heap_new ((w.alloc (.cells #[.string f.name, .string f.val] 54)).alloc (.cells #[.string a.meth, .string a.scheme, .string a.path, .string a.host, .slice ao an ac] 56)) (.cells #[.string b.meth, .string b.scheme, .string b.path, .string b.host, .slice bo bn bc] 56)
  rw [← sA] at rA
  rw [← sB] at rB
  have hN0 : New w (((w.alloc (.cells #[.string f.name, .string f.val] 54)).alloc (.cells #[.string a.meth, .string a.scheme, .string a.path, .string a.host, .slice ao an ac] 56)).alloc (.cells #[.string b.meth, .string b.scheme, .string b.path, .string b.host, .slice bo bn bc] 56)) := ((Mods.refl _ _).alloc _ |>.alloc _).alloc _
  obtain ⟨W0, hW0⟩ : ∃ W, ((w.alloc (.cells #[.string f.name, .string f.val] 54)).alloc (.cells #[.string a.meth, .string a.scheme, .string a.path, .string a.host, .slice ao an ac] 56)).alloc (.cells #[.string b.meth, .string b.scheme, .string b.path, .string b.host, .slice bo bn bc] 56) = W := ⟨_, rfl⟩
  rw [hW0] at rF rA rB hN0 ⊢
  clear hW0 sA sB
  obtain ⟨F, hF⟩ : ∃ x, w.heap.size = x := ⟨_, rfl⟩
  rw [hF] at rF rA rB ⊢
  obtain ⟨A, hA⟩ : ∃ x, F + 1 = x := ⟨_, rfl⟩
  rw [hA] at rA rB ⊢
  obtain ⟨B, hB⟩ : ∃ x, A + 1 = x := ⟨_, rfl⟩
  rw [hB] at rB ⊢
  clear hF hA hB
  obtain ⟨bad, hbad⟩ : ∃ x, (decide (200 < s.size) || (greatL [f] || (greatL L || (greatL a.fields || greatL b.fields)))) = x := ⟨_, rfl⟩
  refine piece (fun _ a' W' => (a'.tmps.size = 148 ∧ a'.defers = [] ∧ a'.tmps.getD 0 undef = .string s ∧ a'.tmps.getD 2 undef = .slice lo ln lcap ∧ a'.tmps.getD 3 undef = .int .i64 n ∧ a'.tmps.getD 7 undef = .pointer (some ⟨F, 0, none⟩) ∧ a'.tmps.getD 10 undef = .pointer (some ⟨A, 0, none⟩) ∧ a'.tmps.getD 11 undef = .pointer (some ⟨B, 0, none⟩) ∧ a'.tmps.getD 12 undef = .bool false ∧ a'.tmps.getD 46 undef = .bool (decide (200 < s.size) || (greatL [f] || (greatL L || (greatL a.fields || greatL b.fields))))) ∧ New W0 W') (great8 _ rfl W0 (s := s) (f := f) (F := F) (A := A) (B := B) (n := n) rfl rfl rfl rfl rfl rfl rfl hs (cell_of_row _ _ _ _ _ _ rF) (cell_of_row _ _ _ _ _ _ rF) (cell_of_row _ _ _ _ _ _ rA) (cell_of_row _ _ _ _ _ _ rB) Hf.out (Hl.out.new hN0) HL.out (Hfa.out.new hN0) HA.out (Hfb.out.new hN0) HB.out) ?_
  rintro a' W1 ⟨⟨hs', hd, hq0, hq2, hq3, hq7, hq10, hq11, hq12, hq46⟩, hN1⟩
  obtain ⟨t, d⟩ := a'
  simp only at hs' hd
  subst hd
  obtain ⟨u, rfl⟩ := lit148 t hs'
  have hq0 : u 0 = .string s := hq0
  have hq2 : u 2 = .slice lo ln lcap := hq2
  have hq3 : u 3 = .int .i64 n := hq3
  have hq7 : u 7 = .pointer (some ⟨F, 0, none⟩) := hq7
  have hq10 : u 10 = .pointer (some ⟨A, 0, none⟩) := hq10
  have hq11 : u 11 = .pointer (some ⟨B, 0, none⟩) := hq11
  have hq12 : u 12 = .bool false := hq12
  rw [hbad] at hq46
  have hq46 : u 46 = .bool bad := hq46
  rw [hq0, hq2, hq3, hq7, hq10, hq11, hq12, hq46]
  clear hq0 hq2 hq3 hq7 hq10 hq11 hq12 hq46 hs'
  have hNw := hN0.trans hN1
  have Hbad := Lib.hid hbad
  clear hbad
  cases bad with
  | true =>
    go_wp2_with fail
    refine (wakes_any _ (HT.out.new hNw)).mono ?_
    rintro e w2 ⟨rfl, hN2⟩
    go_wp2_with fail
    go_ret
    exact ⟨rfl, hNw.trans hN2⟩
  | false =>
    have rF1 := Lib.hid (hN1.heap rF id)
    have rA1 := Lib.hid (hN1.heap rA id)
    have rB1 := Lib.hid (hN1.heap rB id)
    clear rF rA rB hN0 hN1
    go_wp2_with fail
    have hbd := Hbad.out
    simp only [Bool.or_eq_false_iff] at hbd
    have hsz : s.size ≤ 200 := by have := of_decide_eq_false hbd.1; omega
    have Hsf := Lib.hid ((small_of hbd.2.1).2.2 f (List.mem_singleton.2 rfl))
    have Hgl := Lib.hid (small_of hbd.2.2.1)
    have Hga := Lib.hid (small_of hbd.2.2.2.1)
    have Hgb := Lib.hid (small_of hbd.2.2.2.2)
    have Hl1 := Lib.hid (((Hl.out.small (Nat.le_trans Hgl.out.1 (by decide))).new hNw))
    have Hfa1 := Lib.hid (((Hfa.out.small (Nat.le_trans Hga.out.1 (by decide))).new hNw))
    have Hfb1 := Lib.hid (((Hfb.out.small (Nat.le_trans Hgb.out.1 (by decide))).new hNw))
    clear hbd Hbad Hl Hfa Hfb HL HA HB Hf
    refine (of_any _ L _ Hl1.out Hgl.out.2.2 (fun ao n cap e => (Hc.out ao n cap e).1)).mono ?_
    rintro e wo1 ⟨fv, rfl, hOw, hk⟩
    have hNa := hNw.trans hk
    have rF2 := Lib.hid (hk.heap rF1.out id)
    have rA2 := Lib.hid (hk.heap rA1.out id)
    have rB2 := Lib.hid (hk.heap rB1.out id)
    have Hl2 := Lib.hid (Hl1.out.new hk)
    have Hfa2 := Lib.hid (Hfa1.out.new hk)
    have Hfb2 := Lib.hid (Hfb1.out.new hk)
    clear rF1 rA1 rB1 Hl1 Hfa1 Hfb1 hNw hk
    obtain ⟨r, hr⟩ : ∃ x, (ofR L).getD .no = x := ⟨_, rfl⟩
    obtain ⟨ok, hok⟩ : ∃ x, (ofR L).isSome = x := ⟨_, rfl⟩
    have Hr := Lib.hid hr
    have Hok := Lib.hid hok
    clear hr hok
    rw [Hr.out] at hOw
    rw [Hr.out, Hok.out]
    unfold Rq.cs
    obtain ⟨x1a, x1c, rfl⟩ := hOw.1.slice
    have Hx2 := Lib.hid hOw.1
    clear hOw
    go_wp2_with fail
    have hrow := World.alloc_heap_new wo1 (.cells #[.string r.meth, .string r.scheme, .string r.path, .string r.host, .slice x1a r.fields.length x1c] 56)
    have hk : New wo1 (wo1.alloc (.cells #[.string r.meth, .string r.scheme, .string r.path, .string r.host, .slice x1a r.fields.length x1c] 56)) := (Mods.refl _ _).alloc _
    obtain ⟨wp1, he⟩ : ∃ W, wo1.alloc (.cells #[.string r.meth, .string r.scheme, .string r.path, .string r.host, .slice x1a r.fields.length x1c] 56) = W := ⟨_, rfl⟩
    rw [he] at hrow hk ⊢
    obtain ⟨X, hX⟩ : ∃ x, wo1.heap.size = x := ⟨_, rfl⟩
    rw [hX] at hrow ⊢
    clear hX he
    have hNb := hNa.trans hk
    have rF3 := Lib.hid (hk.heap rF2.out id)
    have rA3 := Lib.hid (hk.heap rA2.out id)
    have rB3 := Lib.hid (hk.heap rB2.out id)
    have Hl3 := Lib.hid (Hl2.out.new hk)
    have Hfa3 := Lib.hid (Hfa2.out.new hk)
    have Hfb3 := Lib.hid (Hfb2.out.new hk)
    have Hx3 := Lib.hid (Hx2.out.new hk)
    clear rF2 rA2 rB2 Hl2 Hfa2 Hfb2 Hx2 hNa hk
    have rX3 := Lib.hid hrow
    clear hrow
    refine (of_ref _ L _ Hl3.out Hgl.out.2.2 Hc.out).mono ?_
    rintro e wo2 ⟨fv, rfl, hOw, hk⟩
    have hNc := hNb.trans hk
    have rF4 := Lib.hid (hk.heap rF3.out id)
    have rA4 := Lib.hid (hk.heap rA3.out id)
    have rB4 := Lib.hid (hk.heap rB3.out id)
    have rX4 := Lib.hid (hk.heap rX3.out id)
    have Hl4 := Lib.hid (Hl3.out.new hk)
    have Hfa4 := Lib.hid (Hfa3.out.new hk)
    have Hfb4 := Lib.hid (Hfb3.out.new hk)
    have Hx4 := Lib.hid (Hx3.out.new hk)
    clear rF3 rA3 rB3 rX3 Hl3 Hfa3 Hfb3 Hx3 hNb hk
    rw [Hr.out] at hOw
    rw [Hr.out, Hok.out]
    unfold Rq.cs
    obtain ⟨x2a, x2c, rfl⟩ := hOw.1.slice
    have Hy4 := Lib.hid hOw.1
    clear hOw
    go_wp2_with fail
    have hrow := World.alloc_heap_new wo2 (.cells #[.string r.meth, .string r.scheme, .string r.path, .string r.host, .slice x2a r.fields.length x2c] 56)
    have hk : New wo2 (wo2.alloc (.cells #[.string r.meth, .string r.scheme, .string r.path, .string r.host, .slice x2a r.fields.length x2c] 56)) := (Mods.refl _ _).alloc _
    obtain ⟨wp2, he⟩ : ∃ W, wo2.alloc (.cells #[.string r.meth, .string r.scheme, .string r.path, .string r.host, .slice x2a r.fields.length x2c] 56) = W := ⟨_, rfl⟩
    rw [he] at hrow hk ⊢
    obtain ⟨Y, hX⟩ : ∃ x, wo2.heap.size = x := ⟨_, rfl⟩
    rw [hX] at hrow ⊢
    clear hX he
    have hNd := hNc.trans hk
    have rF5 := Lib.hid (hk.heap rF4.out id)
    have rA5 := Lib.hid (hk.heap rA4.out id)
    have rB5 := Lib.hid (hk.heap rB4.out id)
    have rX5 := Lib.hid (hk.heap rX4.out id)
    have Hl5 := Lib.hid (Hl4.out.new hk)
    have Hfa5 := Lib.hid (Hfa4.out.new hk)
    have Hfb5 := Lib.hid (Hfb4.out.new hk)
    have Hx5 := Lib.hid (Hx4.out.new hk)
    have Hy5 := Lib.hid (Hy4.out.new hk)
    clear rF4 rA4 rB4 rX4 Hl4 Hfa4 Hfb4 Hx4 Hy4 hNc hk
    have rY5 := Lib.hid hrow
    clear hrow
    refine (answer_any n h0 h1 _ L _ Hl5.out Hgl.out.2.2 Hc.out (HT.out.new hNd) (Nat.le_trans Hgl.out.1 (by decide))).mono ?_
    rintro e wa1 ⟨v1, rfl, hOw, -, hk⟩
    have hNe := hNd.trans hk
    have rF6 := Lib.hid (hk.heap rF5.out id)
    have rA6 := Lib.hid (hk.heap rA5.out id)
    have rB6 := Lib.hid (hk.heap rB5.out id)
    have rX6 := Lib.hid (hk.heap rX5.out id)
    have rY6 := Lib.hid (hk.heap rY5.out id)
    have Hl6 := Lib.hid (Hl5.out.new hk)
    have Hfa6 := Lib.hid (Hfa5.out.new hk)
    have Hfb6 := Lib.hid (Hfb5.out.new hk)
    have Hx6 := Lib.hid (Hx5.out.new hk)
    have Hy6 := Lib.hid (Hy5.out.new hk)
    clear rF5 rA5 rB5 rX5 rY5 Hl5 Hfa5 Hfb5 Hx5 Hy5 hNd hk
    obtain ⟨M, hM⟩ : ∃ x, (answerL n L).getD [] = x := ⟨_, rfl⟩
    obtain ⟨ok2, hok2⟩ : ∃ x, (answerL n L).isSome = x := ⟨_, rfl⟩
    rw [hM] at hOw
    rw [hok2]
    have HM := Lib.hid hM
    have Hok2 := Lib.hid hok2
    obtain ⟨ca, cc, rfl⟩ := hOw.1.slice
    have Hv6 := Lib.hid hOw.1
    clear hOw hM hok2
    go_wp2_with fail
    refine (answer_ref n h0 h1 _ L _ Hl6.out Hgl.out.2.2 Hc.out (Nat.le_trans Hgl.out.1 (by decide))).mono ?_
    rintro e wa2 ⟨v2, rfl, hOw, -, hk⟩
    have hNf := hNe.trans hk
    have rF7 := Lib.hid (hk.heap rF6.out id)
    have rA7 := Lib.hid (hk.heap rA6.out id)
    have rB7 := Lib.hid (hk.heap rB6.out id)
    have rX7 := Lib.hid (hk.heap rX6.out id)
    have rY7 := Lib.hid (hk.heap rY6.out id)
    have Hl7 := Lib.hid (Hl6.out.new hk)
    have Hfa7 := Lib.hid (Hfa6.out.new hk)
    have Hfb7 := Lib.hid (Hfb6.out.new hk)
    have Hx7 := Lib.hid (Hx6.out.new hk)
    have Hy7 := Lib.hid (Hy6.out.new hk)
    have Hv7 := Lib.hid (Hv6.out.new hk)
    clear rF6 rA6 rB6 rX6 rY6 Hl6 Hfa6 Hfb6 Hx6 Hy6 Hv6 hNe hk
    rw [HM.out] at hOw
    rw [Hok2.out]
    obtain ⟨da, dc, rfl⟩ := hOw.1.slice
    have Hw7 := Lib.hid hOw.1
    clear hOw
    go_wp2_with fail
    refine (urgency_any _ L _ Hl7.out Hgl.out.1 Hgl.out.2.1).mono ?_
    rintro e wu1 ⟨rfl, hk⟩
    have hNg := hNf.trans hk
    have rF8 := Lib.hid (hk.heap rF7.out id)
    have rA8 := Lib.hid (hk.heap rA7.out id)
    have rB8 := Lib.hid (hk.heap rB7.out id)
    have rX8 := Lib.hid (hk.heap rX7.out id)
    have rY8 := Lib.hid (hk.heap rY7.out id)
    have Hl8 := Lib.hid (Hl7.out.new hk)
    have Hfa8 := Lib.hid (Hfa7.out.new hk)
    have Hfb8 := Lib.hid (Hfb7.out.new hk)
    have Hx8 := Lib.hid (Hx7.out.new hk)
    have Hy8 := Lib.hid (Hy7.out.new hk)
    have Hv8 := Lib.hid (Hv7.out.new hk)
    have Hw8 := Lib.hid (Hw7.out.new hk)
    clear rF7 rA7 rB7 rX7 rY7 Hl7 Hfa7 Hfb7 Hx7 Hy7 Hv7 Hw7 hNf hk
    obtain ⟨us, hus⟩ : ∃ x : ByteArray, ⟨(urgL L).toArray⟩ = x := ⟨_, rfl⟩
    obtain ⟨ok3, hok3⟩ : ∃ x, (!(valsOf L).isEmpty) = x := ⟨_, rfl⟩
    rw [hus, hok3]
    have Hus := Lib.hid hus
    have Hok3 := Lib.hid hok3
    clear hus hok3
    go_wp2_with fail
    refine (urgency_ref _ L _ Hl8.out Hgl.out.1 Hgl.out.2.1).mono ?_
    rintro e wu2 ⟨rfl, hk⟩
    have hNh := hNg.trans hk
    have rF9 := Lib.hid (hk.heap rF8.out id)
    have rA9 := Lib.hid (hk.heap rA8.out id)
    have rB9 := Lib.hid (hk.heap rB8.out id)
    have rX9 := Lib.hid (hk.heap rX8.out id)
    have rY9 := Lib.hid (hk.heap rY8.out id)
    have Hl9 := Lib.hid (Hl8.out.new hk)
    have Hfa9 := Lib.hid (Hfa8.out.new hk)
    have Hfb9 := Lib.hid (Hfb8.out.new hk)
    have Hx9 := Lib.hid (Hx8.out.new hk)
    have Hy9 := Lib.hid (Hy8.out.new hk)
    have Hv9 := Lib.hid (Hv8.out.new hk)
    have Hw9 := Lib.hid (Hw8.out.new hk)
    clear rF8 rA8 rB8 rX8 rY8 Hl8 Hfa8 Hfb8 Hx8 Hy8 Hv8 Hw8 hNg hk
    rw [Hus.out, Hok3.out]
    go_upto_region 9 with fail
    refine piece (fun _ a' W' => (a'.tmps.size = 148 ∧ a'.defers = [] ∧ a'.tmps.getD 0 undef = .string s ∧ a'.tmps.getD 2 undef = .slice lo ln lcap ∧ a'.tmps.getD 3 undef = .int .i64 n ∧ a'.tmps.getD 7 undef = .pointer (some ⟨F, 0, none⟩) ∧ a'.tmps.getD 10 undef = .pointer (some ⟨A, 0, none⟩) ∧ a'.tmps.getD 11 undef = .pointer (some ⟨B, 0, none⟩) ∧ a'.tmps.getD 12 undef = .bool false ∧ a'.tmps.getD 109 undef = .bool false) ∧ New wu2 W') (equal8 _ rfl wu2 rfl rfl rfl rfl rfl rfl rfl rfl rfl rfl rfl rfl rfl rfl rfl rfl rfl rfl rfl rX9.out rY9.out Hx9.out Hy9.out Hv9.out Hw9.out) ?_
    rintro a' wz ⟨⟨hs', hd, hq0, hq2, hq3, hq7, hq10, hq11, hq12, hq109⟩, hk⟩
    obtain ⟨t, d⟩ := a'
    simp only at hs' hd
    subst hd
    obtain ⟨u, rfl⟩ := lit148 t hs'
    have hq0 : u 0 = .string s := hq0
    have hq2 : u 2 = .slice lo ln lcap := hq2
    have hq3 : u 3 = .int .i64 n := hq3
    have hq7 : u 7 = .pointer (some ⟨F, 0, none⟩) := hq7
    have hq10 : u 10 = .pointer (some ⟨A, 0, none⟩) := hq10
    have hq11 : u 11 = .pointer (some ⟨B, 0, none⟩) := hq11
    have hq12 : u 12 = .bool false := hq12
    have hq109 : u 109 = .bool false := hq109
    rw [hq0, hq2, hq3, hq7, hq10, hq11, hq12, hq109]
    clear hq0 hq2 hq3 hq7 hq10 hq11 hq12 hq109 hs'
    clear Hx9 Hy9 Hv9 Hw9 rX9 rY9
    have hNi := hNh.trans hk
    have rF10 := hk.heap rF9.out id
    have rA10 := hk.heap rA9.out id
    have rB10 := hk.heap rB9.out id
    have Hl10 := Hl9.out.new hk
    have Hfa10 := Hfa9.out.new hk
    have Hfb10 := Hfb9.out.new hk
    have HT10 := HT.out.new hNi
    have HTo := Lib.hid fun (t : Array Value) hs h0 h2 h3 h7 h10 h11 => told8 t hs wz (s := s) (f := f) (lo := lo) (ln := ln) (lcap := lcap) (F := F) (A := A) (B := B) (n := n) (L := L) (a := a) (b := b) (av := .slice ao an ac) (bv := .slice bo bn bc) h0 h2 h3 h7 h10 h11 hsz rF10 rA10 rB10 Hsf.out Hl10 Hgl.out.2.2 Hfa10 Hfb10 HT10
    clear rF9 rA9 rB9 Hl9 Hfa9 Hfb9 rF10 rA10 rB10 Hl10 Hfa10 Hfb10 HT10 hNh hk
    go_upto_region 11 with fail
    refine piece (fun _ a' W' => (a'.tmps.size = 148 ∧ a'.defers = [] ∧ a'.tmps.getD 12 undef = .bool true) ∧ New wz W') (HTo.out _ rfl rfl rfl rfl rfl rfl rfl) ?_
    rintro a' wy ⟨⟨hs', hd, hq12⟩, hk⟩
    obtain ⟨t, d⟩ := a'
    simp only at hs' hd
    subst hd
    obtain ⟨u, rfl⟩ := lit148 t hs'
    have hq12 : u 12 = .bool true := hq12
    rw [hq12]
    clear hq12 hs'
    go_wp2_with fail
    go_ret
    exact ⟨rfl, hNi.trans hk⟩
end Go.Proofs.YtkjghojdfjhhkaaDoor
