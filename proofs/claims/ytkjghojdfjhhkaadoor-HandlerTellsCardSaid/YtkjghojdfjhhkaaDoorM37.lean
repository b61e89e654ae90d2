/- HandlerTells, walked. -/
import Derived.Test.YtkjghojdfjhhkaaDoorM33
import Derived.Test.YtkjghojdfjhhkaaDoorM26
import Derived.Test.YtkjghojdfjhhkaaDoorM24
import Derived.Test.YtkjghojdfjhhkaaDoorM25
set_option linter.unusedSimpArgs false
set_option linter.unusedVariables false
namespace Go.Proofs.YtkjghojdfjhhkaaDoor
open Go.RowKit Go.Shelf Go.Cs
attribute [local go_sem] Oper.semAt_some
set_option linter.unusedVariables false
set_option linter.unusedSimpArgs false
set_option maxHeartbeats 16000000 in
set_option maxRecDepth 100000 in
theorem tellsH_law (v v2 lv bv : Value) (s t : St) (n : Int) (L : List Fd) (b : List Int) (c f k : Int) (w : World) (h : RdS w v s) (hok : s.Ok) (h2 : RdS w v2 t) (hok2 : t.Ok) (hn : I64 n) (hl : ReadsU w lv L) (hcap : CapOk lv) (hL : ReachL L) (hb : RdB w bv b) (hib : In8 b) (hc : I64 c) (hf : I64 f) (hk : I64 k) (hT : Tab w) :
    Calls Tryd.prog 3 #[v, v2, .int .i64 n, lv, bv, .int .i64 c, .int .i64 f, .int .i64 k] w fun e w' => e = .returned (.bool true) ∧ New w w' := by
  obtain ⟨sv, rfl, hr⟩ := h
  obtain ⟨oa, oc, rfl⟩ := hr.slice
  obtain ⟨tv, rfl, hr2⟩ := h2
  obtain ⟨ta, tc, rfl⟩ := hr2.slice
  obtain ⟨bo, bcap, rfl⟩ := hb.slice
  obtain ⟨lo, lcap, rfl⟩ : ∃ lo lcap, lv = .slice lo L.length lcap := by obtain ⟨_, lo, lcap, e, _⟩ := hl; exact ⟨lo, lcap, e⟩
  have HT := Lib.hid hT
  have HR := Lib.hid hr
  have HR2 := Lib.hid hr2
  have HI := Lib.hid hok.1
  have HS := Lib.hid hok.2.1
  have HI2 := Lib.hid hok2.1
  have HN := Lib.hid hn
  have HLU := Lib.hid hl
  have HLR := Lib.hid hL
  have HLC := Lib.hid hcap
  have HBB := Lib.hid hb
  have HIB := Lib.hid hib
  have HC0 := Lib.hid hc
  have HF0 := Lib.hid hf
  have HK0 := Lib.hid hk
  clear hT hr hr2 hok hok2 hn hl hL hcap hb hib hc hf hk
  obtain ⟨W1, B, T, hW, hB, hTT, rB, rT, hN1, hsz⟩ := pair_rows w #[.int .i64 s.id, .int .u8 s.state, .int .i64 s.send, .int .i64 s.recv, .int .i64 s.owed, .bool s.ans, .bool s.ends, .slice oa s.out.length oc, .int .u8 s.urg, .bool s.inc, .int .i64 s.slot] #[.int .i64 t.id, .int .u8 t.state, .int .i64 t.send, .int .i64 t.recv, .int .i64 t.owed, .bool t.ans, .bool t.ends, .slice ta t.out.length tc, .int .u8 t.urg, .bool t.inc, .int .i64 t.slot] 24 24
  have ltB : B < T := by omega
  unfold St.cs
  go_enter Tryd.func3, Tryd.ntmps3
  go_upto_region 1 with fail
  clear hW hB hTT hsz
  refine piece (fun _ a' W' => (a'.tmps.size = 216 ∧ a'.defers = [] ∧ a'.tmps.getD 2 undef = .int .i64 n ∧ a'.tmps.getD 3 undef = .slice lo L.length lcap ∧ a'.tmps.getD 4 undef = .slice bo b.length bcap ∧ a'.tmps.getD 5 undef = .int .i64 c ∧ a'.tmps.getD 6 undef = .int .i64 f ∧ a'.tmps.getD 7 undef = .int .i64 k ∧ a'.tmps.getD 8 undef = .pointer (some ⟨B, 0, none⟩) ∧ a'.tmps.getD 9 undef = .pointer (some ⟨T, 0, none⟩) ∧ a'.tmps.getD 16 undef = .bool false ∧ a'.tmps.getD 47 undef = .bool (decide (3000 < s.out.length) || (decide (3000 < t.out.length) || (greatL L || decide (3000 < b.length))))) ∧ New W1 W') (great3 _ rfl W1 (s := s) (s2 := t) (oa := oa) (oc := oc) (ta := ta) (tc := tc) (lo := lo) (bo := bo) (L := L) rfl rfl rfl rfl rfl rfl rfl rfl rfl rB rT (HLU.out.new hN1) HLR.out) ?_
  rintro ⟨z, dfs⟩ W2 ⟨⟨hs, hd, hq2, hq3, hq4, hq5, hq6, hq7, hq8, hq9, hq16, hq47⟩, hk⟩
  simp only at hs hd hq2 hq3 hq4 hq5 hq6 hq7 hq8 hq9 hq16 hq47
  subst hd
  obtain ⟨u, rfl⟩ := lit216 z hs
  have hp2 : u 2 = .int .i64 n := hq2
  have hp3 : u 3 = .slice lo L.length lcap := hq3
  have hp4 : u 4 = .slice bo b.length bcap := hq4
  have hp5 : u 5 = .int .i64 c := hq5
  have hp6 : u 6 = .int .i64 f := hq6
  have hp7 : u 7 = .int .i64 k := hq7
  have hp8 : u 8 = .pointer (some ⟨B, 0, none⟩) := hq8
  have hp9 : u 9 = .pointer (some ⟨T, 0, none⟩) := hq9
  have hp16 : u 16 = .bool false := hq16
  have hp47 : u 47 = .bool (decide (3000 < s.out.length) || (decide (3000 < t.out.length) || (greatL L || decide (3000 < b.length)))) := hq47
  rw [hp2, hp3, hp4, hp5, hp6, hp7, hp8, hp9, hp16, hp47]
  clear hp2 hq2 hp3 hq3 hp4 hq4 hp5 hq5 hp6 hq6 hp7 hq7 hp8 hq8 hp9 hq9 hp16 hq16 hp47 hq47 hs
  have rB := hk.heap rB id
  have rT := hk.heap rT id
  have hN2 := hN1.trans hk
  clear hk hN1
  obtain ⟨bad, hbad⟩ : ∃ x, (decide (3000 < s.out.length) || (decide (3000 < t.out.length) || (greatL L || decide (3000 < b.length)))) = x := ⟨_, rfl⟩
  rw [hbad]
  cases bad with
  | true =>
    clear hbad
    go_wp2_with fail
    refine (wakesH_any _ (HT.out.new hN2)).mono ?_
    rintro e W3 ⟨rfl, hk⟩
    have hN3 := hN2.trans hk
    go_wp2_with fail
    go_ret
    exact ⟨rfl, hN3⟩
  | false =>
  simp only [Bool.or_eq_false_iff, decide_eq_false_iff_not] at hbad
  obtain ⟨b1, b2, b3, b4⟩ := hbad
  obtain ⟨hL1, -, hsm⟩ := small_of b3
  have Hs : Hid (s.out.length ≤ 1000000) := Lib.hid (by omega)
  have Hb : Hid (b.length ≤ 1000000) := Lib.hid (by omega)
  have HL1 : Hid (L.length ≤ 1000000) := Lib.hid (by omega)
  have HSM := Lib.hid hsm
  have HLS := Lib.hid (HLU.out.small (by omega))
  clear b1 b2 b3 b4 hL1 hsm HLR
  obtain ⟨⟨sa, la, ea⟩, hA⟩ : ∃ r, answerS s n L = r := ⟨_, rfl⟩
  have HIA := Lib.hid (in8_answer hA HI.out)
  have HA := Lib.hid hA
  clear hA
  have HC := answer_S _ (.slice lo L.length lcap) s n L W2 ⟨_, rfl, HR.out.new hN2⟩ Hs.out HN.out.1 HN.out.2 (HLS.out.new hN2) HSM.out HLC.out (HT.out.new hN2) HL1.out
  rw [HA.out] at HC
  unfold AnsS at HC
  simp only [] at HC
  have HC := Lib.hid HC
  go_wp2_with (first | (refine op_value rfl (run_load_row 24 (.tmp 8) rfl B rfl 24 _ (0, 0) _ rB Tryd.underlying24 rfl info24) ?_) | (refine op_value_g rfl (run_load_row 24 (.tmp 8) rfl B rfl 24 _ (0, 0) _ rB Tryd.underlying24 rfl info24) ?_))
  refine HC.out.mono ?_
  rintro e W3 ⟨v', l', rfl, ⟨ox, rfl, hO⟩, hl1, -, hk⟩
  clear HC
  replace hl1 := hl1.1
  have rB := hk.heap rB id
  have rT := hk.heap rT id
  have hN3 := hN2.trans hk
  clear hk hN2
  replace hO := hO.mono (Nat.zero_le _)
  obtain ⟨m1, mc1, rfl⟩ := hl1.slice
  obtain ⟨o1, c1, rfl⟩ := hO.slice
  obtain ⟨W4, X, hW, hX, rX, hk⟩ := one_row W3 #[.int .i64 sa.id, .int .u8 sa.state, .int .i64 sa.send, .int .i64 sa.recv, .int .i64 sa.owed, .bool sa.ans, .bool sa.ends, .slice o1 (sa.out).length c1, .int .u8 sa.urg, .bool sa.inc, .int .i64 sa.slot] 24
  have ltX : T < X := by have := (Array.getElem?_eq_some_iff.1 rT).1; omega
  have leX : w.heap.size ≤ X := by have := hN3.size; omega
  have rB := hk.heap rB id
  have rT := hk.heap rT id
  have hl1 := hl1.new hk
  have hO := hO.new hk
  have hN4 := hN3.trans hk
  clear hk hN3
  have hOX := hO
  clear hO
  unfold St.cs
  go_upto_region 4 with fail
  clear hW hX
  have HC := answer_R _ (.slice lo L.length lcap) s n L W4 ⟨_, rfl, HR.out.new hN4⟩ Hs.out HN.out.1 HN.out.2 (HLS.out.new hN4) HSM.out HLC.out HL1.out
  rw [HA.out] at HC
  unfold AnsS at HC
  simp only [] at HC
  have HC := Lib.hid HC
  go_wp2_with (first | (refine op_value rfl (run_load_row 24 (.tmp 8) rfl B rfl 24 _ (0, 0) _ rB Tryd.underlying24 rfl info24) ?_) | (refine op_value_g rfl (run_load_row 24 (.tmp 8) rfl B rfl 24 _ (0, 0) _ rB Tryd.underlying24 rfl info24) ?_))
  refine HC.out.mono ?_
  rintro e W5 ⟨v', l', rfl, ⟨ox, rfl, hO⟩, hl2, -, hk⟩
  clear HC
  replace hl2 := hl2.1
  have rB := hk.heap rB id
  have rT := hk.heap rT id
  have rX := hk.heap rX id
  have hl1 := hl1.new hk
  have hOX := hOX.new hk
  have hN5 := hN4.trans hk
  clear hk hN4
  replace hO := hO.mono (Nat.zero_le _)
  obtain ⟨m2, mc2, rfl⟩ := hl2.slice
  obtain ⟨o2, c2, rfl⟩ := hO.slice
  obtain ⟨W6, Y, hW, hX, rY, hk⟩ := one_row W5 #[.int .i64 sa.id, .int .u8 sa.state, .int .i64 sa.send, .int .i64 sa.recv, .int .i64 sa.owed, .bool sa.ans, .bool sa.ends, .slice o2 (sa.out).length c2, .int .u8 sa.urg, .bool sa.inc, .int .i64 sa.slot] 24
  have ltY : X < Y := by have := (Array.getElem?_eq_some_iff.1 rX).1; omega
  have leY : w.heap.size ≤ Y := by have := hN5.size; omega
  have rB := hk.heap rB id
  have rT := hk.heap rT id
  have rX := hk.heap rX id
  have hl1 := hl1.new hk
  have hOX := hOX.new hk
  have hl2 := hl2.new hk
  have hO := hO.new hk
  have hN6 := hN5.trans hk
  clear hk hN5
  have hOY := hO
  clear hO
  unfold St.cs
  go_upto_region 5 with fail
  clear hW hX
  have HC := same_R _ _ sa sa W6 ⟨_, rfl, hOX.reads⟩ ⟨_, rfl, hOY.reads⟩ HIA.out HIA.out
  rw [show decide (sa = sa) = true from decide_eq_true rfl] at HC
  have HC := Lib.hid HC
  go_wp2_with (first | (refine op_value rfl (run_load_row 24 (.tmp 17) rfl X rfl 24 _ (0, 0) _ rX Tryd.underlying24 rfl info24) ?_) | (refine op_value_g rfl (run_load_row 24 (.tmp 17) rfl X rfl 24 _ (0, 0) _ rX Tryd.underlying24 rfl info24) ?_) | (refine op_value rfl (run_load_row 24 (.tmp 20) rfl Y rfl 24 _ (0, 0) _ rY Tryd.underlying24 rfl info24) ?_) | (refine op_value_g rfl (run_load_row 24 (.tmp 20) rfl Y rfl 24 _ (0, 0) _ rY Tryd.underlying24 rfl info24) ?_))
  refine HC.out.mono ?_
  rintro e W7 ⟨rfl, hk⟩
  clear HC
  have rB := hk.heap rB id
  have rT := hk.heap rT id
  have rX := hk.heap rX id
  have rY := hk.heap rY id
  have hl1 := hl1.new hk
  have hOX := hOX.new hk
  have hl2 := hl2.new hk
  have hOY := hOY.new hk
  have hN7 := hN6.trans hk
  clear hk hN6
  have HC := fields_any _ _ la la W7 hl1 hl2
  rw [show decide (la = la) = true from decide_eq_true rfl] at HC
  have HC := Lib.hid HC
  go_wp2_with fail
  refine HC.out.mono ?_
  rintro e W8 ⟨rfl, hk⟩
  clear HC
  have rB := hk.heap rB id
  have rT := hk.heap rT id
  have rX := hk.heap rX id
  have rY := hk.heap rY id
  have hl1 := hl1.new hk
  have hOX := hOX.new hk
  have hl2 := hl2.new hk
  have hOY := hOY.new hk
  have hN8 := hN7.trans hk
  clear hk hN7
  clear hl1 hl2
  obtain ⟨⟨sw, ew⟩, hA⟩ : ∃ r, writeS s b = r := ⟨_, rfl⟩
  have HIW : Hid (In8 sw.out) := Lib.hid (by have := in8_write HI.out HIB.out; rw [hA] at this; exact this)
  have HAW := Lib.hid hA
  clear hA
  have HC := write_S _ (.slice bo b.length bcap) s b W8 ⟨_, rfl, HR.out.new hN8⟩ (HBB.out.new hN8) Hs.out Hb.out
  rw [HAW.out] at HC
  simp only [] at HC
  have HC := Lib.hid HC
  go_wp2_with (first | (refine op_value rfl (run_load_row 24 (.tmp 8) rfl B rfl 24 _ (0, 0) _ rB Tryd.underlying24 rfl info24) ?_) | (refine op_value_g rfl (run_load_row 24 (.tmp 8) rfl B rfl 24 _ (0, 0) _ rB Tryd.underlying24 rfl info24) ?_))
  refine HC.out.mono ?_
  rintro e W9 ⟨v', rfl, ⟨ox, rfl, hO⟩, hk⟩
  clear HC
  have rB := hk.heap rB id
  have rT := hk.heap rT id
  have rX := hk.heap rX id
  have rY := hk.heap rY id
  have hOX := hOX.new hk
  have hOY := hOY.new hk
  have hN9 := hN8.trans hk
  clear hk hN8
  replace hO := hO.mono (Nat.zero_le _)
  obtain ⟨o3, c3, rfl⟩ := hO.slice
  have hone := cs_one sw (ov := (.slice o3 (sw.out).length c3)) rfl
  go_upto_region 8 with (refine op_skip rfl (run_store_row 24 (.tmp 17) (.tmp 84) rfl X rfl 24 (St.cs sa (.slice o1 (sa.out).length c1)) (St.cs sw (.slice o3 (sw.out).length c3)) rfl rX info24 rfl hone) ?_)
  clear hone
  obtain ⟨W10, hV, rX', kO, kR, kN⟩ := stored_row rX (St.cs sw (.slice o3 (sw.out).length c3)).toArray
  rw [hV]
  clear hV
  have rB := kR _ _ rB (by omega)
  have rT := kR _ _ rT (by omega)
  have rY := kR _ _ rY (by omega)
  have hOY := kO _ _ _ hOY
  have hOX := kO _ _ _ hO
  have rX := rX'
  have hN10 := kN _ hN9 leX
  clear hO rX' kO kR kN hN9
  have HC := write_R _ (.slice bo b.length bcap) s b W10 ⟨_, rfl, HR.out.new hN10⟩ (HBB.out.new hN10) Hs.out Hb.out
  rw [HAW.out] at HC
  simp only [] at HC
  have HC := Lib.hid HC
  go_wp2_with (first | (refine op_value rfl (run_load_row 24 (.tmp 8) rfl B rfl 24 _ (0, 0) _ rB Tryd.underlying24 rfl info24) ?_) | (refine op_value_g rfl (run_load_row 24 (.tmp 8) rfl B rfl 24 _ (0, 0) _ rB Tryd.underlying24 rfl info24) ?_))
  refine HC.out.mono ?_
  rintro e W11 ⟨v', rfl, ⟨ox, rfl, hO⟩, hk⟩
  clear HC
  have rB := hk.heap rB id
  have rT := hk.heap rT id
  have rX := hk.heap rX id
  have rY := hk.heap rY id
  have hOX := hOX.new hk
  have hOY := hOY.new hk
  have hN11 := hN10.trans hk
  clear hk hN10
  replace hO := hO.mono (Nat.zero_le _)
  obtain ⟨o4, c4, rfl⟩ := hO.slice
  have hone := cs_one sw (ov := (.slice o4 (sw.out).length c4)) rfl
  go_upto_region 9 with (refine op_skip rfl (run_store_row 24 (.tmp 20) (.tmp 90) rfl Y rfl 24 (St.cs sa (.slice o2 (sa.out).length c2)) (St.cs sw (.slice o4 (sw.out).length c4)) rfl rY info24 rfl hone) ?_)
  clear hone
  obtain ⟨W12, hV, rX', kO, kR, kN⟩ := stored_row rY (St.cs sw (.slice o4 (sw.out).length c4)).toArray
  rw [hV]
  clear hV
  have rB := kR _ _ rB (by omega)
  have rT := kR _ _ rT (by omega)
  have rX := kR _ _ rX (by omega)
  have hOX := kO _ _ _ hOX
  have hOY := kO _ _ _ hO
  have rY := rX'
  have hN12 := kN _ hN11 leY
  clear hO rX' kO kR kN hN11
  obtain ⟨⟨se, ee⟩, hA⟩ : ∃ r, endS s = r := ⟨_, rfl⟩
  have HIE : Hid (In8 se.out) := Lib.hid (by have := in8_end HI.out; rw [hA] at this; exact this)
  have HAE := Lib.hid hA
  clear hA
  have HC := end_S _ s W12 ⟨_, rfl, HR.out.new hN12⟩ Hs.out
  rw [HAE.out] at HC
  simp only [] at HC
  have HC := Lib.hid HC
  go_wp2_with (first | (refine op_value rfl (run_load_row 24 (.tmp 8) rfl B rfl 24 _ (0, 0) _ rB Tryd.underlying24 rfl info24) ?_) | (refine op_value_g rfl (run_load_row 24 (.tmp 8) rfl B rfl 24 _ (0, 0) _ rB Tryd.underlying24 rfl info24) ?_))
  refine HC.out.mono ?_
  rintro e W13 ⟨v', rfl, ⟨ox, rfl, hO⟩, hk⟩
  clear HC
  have rB := hk.heap rB id
  have rT := hk.heap rT id
  have rX := hk.heap rX id
  have rY := hk.heap rY id
  have hOX := hOX.new hk
  have hOY := hOY.new hk
  have hN13 := hN12.trans hk
  clear hk hN12
  replace hO := hO.mono (Nat.zero_le _)
  obtain ⟨o5, c5, rfl⟩ := hO.slice
  obtain ⟨W14, O, hW, hX, rO, hk⟩ := one_row W13 #[.int .i64 se.id, .int .u8 se.state, .int .i64 se.send, .int .i64 se.recv, .int .i64 se.owed, .bool se.ans, .bool se.ends, .slice o5 (se.out).length c5, .int .u8 se.urg, .bool se.inc, .int .i64 se.slot] 24
  have ltO : Y < O := by have := (Array.getElem?_eq_some_iff.1 rY).1; omega
  have leO : w.heap.size ≤ O := by have := hN13.size; omega
  have rB := hk.heap rB id
  have rT := hk.heap rT id
  have rX := hk.heap rX id
  have rY := hk.heap rY id
  have hOX := hOX.new hk
  have hOY := hOY.new hk
  have hO := hO.new hk
  have hN14 := hN13.trans hk
  clear hk hN13
  have hOO := hO
  clear hO
  unfold St.cs
  go_upto_region 10 with fail
  clear hW hX
  have HC := end_R _ s W14 ⟨_, rfl, HR.out.new hN14⟩ Hs.out
  rw [HAE.out] at HC
  simp only [] at HC
  have HC := Lib.hid HC
  go_wp2_with (first | (refine op_value rfl (run_load_row 24 (.tmp 8) rfl B rfl 24 _ (0, 0) _ rB Tryd.underlying24 rfl info24) ?_) | (refine op_value_g rfl (run_load_row 24 (.tmp 8) rfl B rfl 24 _ (0, 0) _ rB Tryd.underlying24 rfl info24) ?_))
  refine HC.out.mono ?_
  rintro e W15 ⟨v', rfl, ⟨ox, rfl, hO⟩, hk⟩
  clear HC
  have rB := hk.heap rB id
  have rT := hk.heap rT id
  have rX := hk.heap rX id
  have rY := hk.heap rY id
  have rO := hk.heap rO id
  have hOX := hOX.new hk
  have hOY := hOY.new hk
  have hOO := hOO.new hk
  have hN15 := hN14.trans hk
  clear hk hN14
  replace hO := hO.mono (Nat.zero_le _)
  obtain ⟨o6, c6, rfl⟩ := hO.slice
  obtain ⟨W16, P, hW, hX, rP, hk⟩ := one_row W15 #[.int .i64 se.id, .int .u8 se.state, .int .i64 se.send, .int .i64 se.recv, .int .i64 se.owed, .bool se.ans, .bool se.ends, .slice o6 (se.out).length c6, .int .u8 se.urg, .bool se.inc, .int .i64 se.slot] 24
  have ltP : O < P := by have := (Array.getElem?_eq_some_iff.1 rO).1; omega
  have leP : w.heap.size ≤ P := by have := hN15.size; omega
  have rB := hk.heap rB id
  have rT := hk.heap rT id
  have rX := hk.heap rX id
  have rY := hk.heap rY id
  have rO := hk.heap rO id
  have hOX := hOX.new hk
  have hOY := hOY.new hk
  have hOO := hOO.new hk
  have hO := hO.new hk
  have hN16 := hN15.trans hk
  clear hk hN15
  have hOP := hO
  clear hO
  unfold St.cs
  go_upto_region 11 with fail
  clear hW hX
  have HC := same_R _ _ sw sw W16 ⟨_, rfl, hOX.reads⟩ ⟨_, rfl, hOY.reads⟩ HIW.out HIW.out
  rw [show decide (sw = sw) = true from decide_eq_true rfl] at HC
  have HC := Lib.hid HC
  go_wp2_with (first | (refine op_value rfl (run_load_row 24 (.tmp 17) rfl X rfl 24 _ (0, 0) _ rX Tryd.underlying24 rfl info24) ?_) | (refine op_value_g rfl (run_load_row 24 (.tmp 17) rfl X rfl 24 _ (0, 0) _ rX Tryd.underlying24 rfl info24) ?_) | (refine op_value rfl (run_load_row 24 (.tmp 20) rfl Y rfl 24 _ (0, 0) _ rY Tryd.underlying24 rfl info24) ?_) | (refine op_value_g rfl (run_load_row 24 (.tmp 20) rfl Y rfl 24 _ (0, 0) _ rY Tryd.underlying24 rfl info24) ?_))
  refine HC.out.mono ?_
  rintro e W17 ⟨rfl, hk⟩
  clear HC
  have rB := hk.heap rB id
  have rT := hk.heap rT id
  have rX := hk.heap rX id
  have rY := hk.heap rY id
  have rO := hk.heap rO id
  have rP := hk.heap rP id
  have hOX := hOX.new hk
  have hOY := hOY.new hk
  have hOO := hOO.new hk
  have hOP := hOP.new hk
  have hN17 := hN16.trans hk
  clear hk hN16
  have HC := same_R _ _ se se W17 ⟨_, rfl, hOO.reads⟩ ⟨_, rfl, hOP.reads⟩ HIE.out HIE.out
  rw [show decide (se = se) = true from decide_eq_true rfl] at HC
  have HC := Lib.hid HC
  go_wp2_with (first | (refine op_value rfl (run_load_row 24 (.tmp 23) rfl O rfl 24 _ (0, 0) _ rO Tryd.underlying24 rfl info24) ?_) | (refine op_value_g rfl (run_load_row 24 (.tmp 23) rfl O rfl 24 _ (0, 0) _ rO Tryd.underlying24 rfl info24) ?_) | (refine op_value rfl (run_load_row 24 (.tmp 25) rfl P rfl 24 _ (0, 0) _ rP Tryd.underlying24 rfl info24) ?_) | (refine op_value_g rfl (run_load_row 24 (.tmp 25) rfl P rfl 24 _ (0, 0) _ rP Tryd.underlying24 rfl info24) ?_))
  refine HC.out.mono ?_
  rintro e W18 ⟨rfl, hk⟩
  clear HC
  have rB := hk.heap rB id
  have rT := hk.heap rT id
  have rX := hk.heap rX id
  have rY := hk.heap rY id
  have rO := hk.heap rO id
  have rP := hk.heap rP id
  have hOX := hOX.new hk
  have hOY := hOY.new hk
  have hOO := hOO.new hk
  have hOP := hOP.new hk
  have hN18 := hN17.trans hk
  clear hk hN17
  obtain ⟨⟨sr, er⟩, hA⟩ : ∃ r, resetS s = r := ⟨_, rfl⟩
  have HIR : Hid (In8 sr.out) := Lib.hid (by have := in8_reset HI.out; rw [hA] at this; exact this)
  have HAR := Lib.hid hA
  clear hA
  have HC := reset_S _ s W18 ⟨_, rfl, HR.out.new hN18⟩ Hs.out
  rw [HAR.out] at HC
  simp only [] at HC
  have HC := Lib.hid HC
  go_wp2_with (first | (refine op_value rfl (run_load_row 24 (.tmp 8) rfl B rfl 24 _ (0, 0) _ rB Tryd.underlying24 rfl info24) ?_) | (refine op_value_g rfl (run_load_row 24 (.tmp 8) rfl B rfl 24 _ (0, 0) _ rB Tryd.underlying24 rfl info24) ?_))
  refine HC.out.mono ?_
  rintro e W19 ⟨v', rfl, ⟨ox, rfl, hO⟩, hk⟩
  clear HC
  have rB := hk.heap rB id
  have rT := hk.heap rT id
  have rX := hk.heap rX id
  have rY := hk.heap rY id
  have rO := hk.heap rO id
  have rP := hk.heap rP id
  have hOX := hOX.new hk
  have hOY := hOY.new hk
  have hOO := hOO.new hk
  have hOP := hOP.new hk
  have hN19 := hN18.trans hk
  clear hk hN18
  replace hO := hO.mono (Nat.zero_le _)
  obtain ⟨o7, c7, rfl⟩ := hO.slice
  have hone := cs_one sr (ov := (.slice o7 (sr.out).length c7)) rfl
  go_upto_region 14 with (refine op_skip rfl (run_store_row 24 (.tmp 17) (.tmp 125) rfl X rfl 24 (St.cs sw (.slice o3 (sw.out).length c3)) (St.cs sr (.slice o7 (sr.out).length c7)) rfl rX info24 rfl hone) ?_)
  clear hone
  obtain ⟨W20, hV, rX', kO, kR, kN⟩ := stored_row rX (St.cs sr (.slice o7 (sr.out).length c7)).toArray
  rw [hV]
  clear hV
  have rB := kR _ _ rB (by omega)
  have rT := kR _ _ rT (by omega)
  have rY := kR _ _ rY (by omega)
  have rO := kR _ _ rO (by omega)
  have rP := kR _ _ rP (by omega)
  have hOY := kO _ _ _ hOY
  have hOO := kO _ _ _ hOO
  have hOP := kO _ _ _ hOP
  have hOX := kO _ _ _ hO
  have rX := rX'
  have hN20 := kN _ hN19 leX
  clear hO rX' kO kR kN hN19
  have HC := reset_R _ s W20 ⟨_, rfl, HR.out.new hN20⟩ Hs.out
  rw [HAR.out] at HC
  simp only [] at HC
  have HC := Lib.hid HC
  go_wp2_with (first | (refine op_value rfl (run_load_row 24 (.tmp 8) rfl B rfl 24 _ (0, 0) _ rB Tryd.underlying24 rfl info24) ?_) | (refine op_value_g rfl (run_load_row 24 (.tmp 8) rfl B rfl 24 _ (0, 0) _ rB Tryd.underlying24 rfl info24) ?_))
  refine HC.out.mono ?_
  rintro e W21 ⟨v', rfl, ⟨ox, rfl, hO⟩, hk⟩
  clear HC
  have rB := hk.heap rB id
  have rT := hk.heap rT id
  have rX := hk.heap rX id
  have rY := hk.heap rY id
  have rO := hk.heap rO id
  have rP := hk.heap rP id
  have hOX := hOX.new hk
  have hOY := hOY.new hk
  have hOO := hOO.new hk
  have hOP := hOP.new hk
  have hN21 := hN20.trans hk
  clear hk hN20
  replace hO := hO.mono (Nat.zero_le _)
  obtain ⟨o8, c8, rfl⟩ := hO.slice
  have hone := cs_one sr (ov := (.slice o8 (sr.out).length c8)) rfl
  go_upto_region 15 with (refine op_skip rfl (run_store_row 24 (.tmp 20) (.tmp 130) rfl Y rfl 24 (St.cs sw (.slice o4 (sw.out).length c4)) (St.cs sr (.slice o8 (sr.out).length c8)) rfl rY info24 rfl hone) ?_)
  clear hone
  obtain ⟨W22, hV, rX', kO, kR, kN⟩ := stored_row rY (St.cs sr (.slice o8 (sr.out).length c8)).toArray
  rw [hV]
  clear hV
  have rB := kR _ _ rB (by omega)
  have rT := kR _ _ rT (by omega)
  have rX := kR _ _ rX (by omega)
  have rO := kR _ _ rO (by omega)
  have rP := kR _ _ rP (by omega)
  have hOX := kO _ _ _ hOX
  have hOO := kO _ _ _ hOO
  have hOP := kO _ _ _ hOP
  have hOY := kO _ _ _ hO
  have rY := rX'
  have hN22 := kN _ hN21 leY
  clear hO rX' kO kR kN hN21
  obtain ⟨⟨so, dd, ben, bok⟩, hA⟩ : ∃ r, takeS s c f k = r := ⟨_, rfl⟩
  have HIO : Hid (In8 so.out) := Lib.hid (by have := in8_take (c := c) (f := f) (k := k) HI.out; rw [hA] at this; exact this)
  have HAT := Lib.hid hA
  clear hA
  have HC := take_S _ s c f k W22 ⟨_, rfl, HR.out.new hN22⟩ Hs.out HS.out HC0.out HF0.out HK0.out
  rw [HAT.out] at HC
  unfold TakeP at HC; simp only [] at HC
  have HC := Lib.hid HC
  go_wp2_with (first | (refine op_value rfl (run_load_row 24 (.tmp 8) rfl B rfl 24 _ (0, 0) _ rB Tryd.underlying24 rfl info24) ?_) | (refine op_value_g rfl (run_load_row 24 (.tmp 8) rfl B rfl 24 _ (0, 0) _ rB Tryd.underlying24 rfl info24) ?_))
  refine HC.out.mono ?_
  rintro e W23 ⟨v', d', rfl, ⟨ox, rfl, hO⟩, hD1, hk⟩
  clear HC
  have rB := hk.heap rB id
  have rT := hk.heap rT id
  have rX := hk.heap rX id
  have rY := hk.heap rY id
  have rO := hk.heap rO id
  have rP := hk.heap rP id
  have hOX := hOX.new hk
  have hOY := hOY.new hk
  have hOO := hOO.new hk
  have hOP := hOP.new hk
  have hN23 := hN22.trans hk
  clear hk hN22
  replace hO := hO.mono (Nat.zero_le _)
  obtain ⟨d1, dc1, rfl⟩ := hD1.slice
  obtain ⟨o9, c9, rfl⟩ := hO.slice
  have hone := cs_one so (ov := (.slice o9 (so.out).length c9)) rfl
  go_upto_region 16 with (refine op_skip rfl (run_store_row 24 (.tmp 23) (.tmp 138) rfl O rfl 24 (St.cs se (.slice o5 (se.out).length c5)) (St.cs so (.slice o9 (so.out).length c9)) rfl rO info24 rfl hone) ?_)
  clear hone
  obtain ⟨W24, hV, rX', kO, kR, kN⟩ := stored_row rO (St.cs so (.slice o9 (so.out).length c9)).toArray
  rw [hV]
  clear hV
  have rB := kR _ _ rB (by omega)
  have rT := kR _ _ rT (by omega)
  have rX := kR _ _ rX (by omega)
  have rY := kR _ _ rY (by omega)
  have rP := kR _ _ rP (by omega)
  have hOX := kO _ _ _ hOX
  have hOY := kO _ _ _ hOY
  have hOP := kO _ _ _ hOP
  have hD1 := kO _ _ _ hD1
  have hOO := kO _ _ _ hO
  have rO := rX'
  have hN24 := kN _ hN23 leO
  clear hO rX' kO kR kN hN23
  have HC := take_R _ s c f k W24 ⟨_, rfl, HR.out.new hN24⟩ Hs.out HS.out HC0.out HF0.out HK0.out
  rw [HAT.out] at HC
  unfold TakeP at HC; simp only [] at HC
  have HC := Lib.hid HC
  go_wp2_with (first | (refine op_value rfl (run_load_row 24 (.tmp 8) rfl B rfl 24 _ (0, 0) _ rB Tryd.underlying24 rfl info24) ?_) | (refine op_value_g rfl (run_load_row 24 (.tmp 8) rfl B rfl 24 _ (0, 0) _ rB Tryd.underlying24 rfl info24) ?_))
  refine HC.out.mono ?_
  rintro e W25 ⟨v', d', rfl, ⟨ox, rfl, hO⟩, hD2, hk⟩
  clear HC
  have rB := hk.heap rB id
  have rT := hk.heap rT id
  have rX := hk.heap rX id
  have rY := hk.heap rY id
  have rO := hk.heap rO id
  have rP := hk.heap rP id
  have hOX := hOX.new hk
  have hOY := hOY.new hk
  have hOO := hOO.new hk
  have hOP := hOP.new hk
  have hD1 := hD1.new hk
  have hN25 := hN24.trans hk
  clear hk hN24
  replace hO := hO.mono (Nat.zero_le _)
  obtain ⟨d2, dc2, rfl⟩ := hD2.slice
  obtain ⟨o10, c10, rfl⟩ := hO.slice
  have hone := cs_one so (ov := (.slice o10 (so.out).length c10)) rfl
  go_upto_region 17 with (refine op_skip rfl (run_store_row 24 (.tmp 25) (.tmp 148) rfl P rfl 24 (St.cs se (.slice o6 (se.out).length c6)) (St.cs so (.slice o10 (so.out).length c10)) rfl rP info24 rfl hone) ?_)
  clear hone
  obtain ⟨W26, hV, rX', kO, kR, kN⟩ := stored_row rP (St.cs so (.slice o10 (so.out).length c10)).toArray
  rw [hV]
  clear hV
  have rB := kR _ _ rB (by omega)
  have rT := kR _ _ rT (by omega)
  have rX := kR _ _ rX (by omega)
  have rY := kR _ _ rY (by omega)
  have rO := kR _ _ rO (by omega)
  have hOX := kO _ _ _ hOX
  have hOY := kO _ _ _ hOY
  have hOO := kO _ _ _ hOO
  have hD1 := kO _ _ _ hD1
  have hD2 := kO _ _ _ hD2
  have hOP := kO _ _ _ hO
  have rP := rX'
  have hN26 := kN _ hN25 leP
  clear hO rX' kO kR kN hN25
  have HC := same_R _ _ sr sr W26 ⟨_, rfl, hOX.reads⟩ ⟨_, rfl, hOY.reads⟩ HIR.out HIR.out
  rw [show decide (sr = sr) = true from decide_eq_true rfl] at HC
  have HC := Lib.hid HC
  go_wp2_with (first | (refine op_value rfl (run_load_row 24 (.tmp 17) rfl X rfl 24 _ (0, 0) _ rX Tryd.underlying24 rfl info24) ?_) | (refine op_value_g rfl (run_load_row 24 (.tmp 17) rfl X rfl 24 _ (0, 0) _ rX Tryd.underlying24 rfl info24) ?_) | (refine op_value rfl (run_load_row 24 (.tmp 20) rfl Y rfl 24 _ (0, 0) _ rY Tryd.underlying24 rfl info24) ?_) | (refine op_value_g rfl (run_load_row 24 (.tmp 20) rfl Y rfl 24 _ (0, 0) _ rY Tryd.underlying24 rfl info24) ?_))
  refine HC.out.mono ?_
  rintro e W27 ⟨rfl, hk⟩
  clear HC
  have rB := hk.heap rB id
  have rT := hk.heap rT id
  have rX := hk.heap rX id
  have rY := hk.heap rY id
  have rO := hk.heap rO id
  have rP := hk.heap rP id
  have hOX := hOX.new hk
  have hOY := hOY.new hk
  have hOO := hOO.new hk
  have hOP := hOP.new hk
  have hD1 := hD1.new hk
  have hD2 := hD2.new hk
  have hN27 := hN26.trans hk
  clear hk hN26
  have HC := same_R _ _ so so W27 ⟨_, rfl, hOO.reads⟩ ⟨_, rfl, hOP.reads⟩ HIO.out HIO.out
  rw [show decide (so = so) = true from decide_eq_true rfl] at HC
  have HC := Lib.hid HC
  go_wp2_with (first | (refine op_value rfl (run_load_row 24 (.tmp 23) rfl O rfl 24 _ (0, 0) _ rO Tryd.underlying24 rfl info24) ?_) | (refine op_value_g rfl (run_load_row 24 (.tmp 23) rfl O rfl 24 _ (0, 0) _ rO Tryd.underlying24 rfl info24) ?_) | (refine op_value rfl (run_load_row 24 (.tmp 25) rfl P rfl 24 _ (0, 0) _ rP Tryd.underlying24 rfl info24) ?_) | (refine op_value_g rfl (run_load_row 24 (.tmp 25) rfl P rfl 24 _ (0, 0) _ rP Tryd.underlying24 rfl info24) ?_))
  refine HC.out.mono ?_
  rintro e W28 ⟨rfl, hk⟩
  clear HC
  have rB := hk.heap rB id
  have rT := hk.heap rT id
  have rX := hk.heap rX id
  have rY := hk.heap rY id
  have rO := hk.heap rO id
  have rP := hk.heap rP id
  have hOX := hOX.new hk
  have hOY := hOY.new hk
  have hOO := hOO.new hk
  have hOP := hOP.new hk
  have hD1 := hD1.new hk
  have hD2 := hD2.new hk
  have hN28 := hN27.trans hk
  clear hk hN27
  have q1 := hD1.reads.str
  have q2 := hD2.reads.str
  have n1 : (ben != ben) = false := by cases ben <;> rfl
  have n2 : (bok != bok) = false := by cases bok <;> rfl
  go_upto_region 19 with fail
  clear q1 q2 n1 n2
  refine piece (fun _ a' W' => (a'.tmps.size = 216 ∧ a'.defers = [] ∧ a'.tmps.getD 16 undef = .bool true) ∧ New W28 W') (last3 _ rfl W28 (s := s) (s2 := t) (oa := oa) (oc := oc) (ta := ta) (tc := tc) rfl rfl rfl rB rT (HR.out.new hN28) (HR2.out.new hN28) HI.out HI2.out HS.out HC0.out (Nat.le_trans Hs.out (by decide)) (HT.out.new hN28)) ?_
  rintro ⟨z, dfs⟩ Wz ⟨⟨hs, hd, hq16⟩, hk⟩
  simp only at hs hd hq16
  subst hd
  obtain ⟨u, rfl⟩ := lit216 z hs
  have hp16 : u 16 = .bool true := hq16
  rw [hp16]
  clear hp16 hq16 hs
  have hNz := hN28.trans hk
  go_wp2_with fail
  go_ret
  exact ⟨rfl, hNz⟩
end Go.Proofs.YtkjghojdfjhhkaaDoor
