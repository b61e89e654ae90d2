/- HandlerMay, walked. -/
import Derived.Test.YtkjghojdfjhhkaaDoorM34
import Derived.Test.YtkjghojdfjhhkaaDoorM35
import Derived.Test.YtkjghojdfjhhkaaDoorM24
import Derived.Test.YtkjghojdfjhhkaaDoorM25
set_option linter.unusedSimpArgs false
set_option linter.unusedVariables false
namespace Go.Proofs.YtkjghojdfjhhkaaDoor
open Go.RowKit Go.Shelf Go.Cs
attribute [local go_sem] Oper.semAt_some
set_option linter.unusedVariables false
set_option linter.unusedSimpArgs false
set_option maxHeartbeats 16000000 in
set_option maxRecDepth 100000 in
theorem may_law (v lv bv : Value) (s : St) (n : Int) (L : List Fd) (b : List Int) (w : World) (h : RdS w v s) (hok : s.Ok) (hn : I64 n) (hl : ReadsU w lv L) (hcap : CapOk lv) (hL : ReachL L) (hb : RdB w bv b) (hib : In8 b) (hT : Tab w) :
    Calls Tryd.prog 6 #[v, .int .i64 n, lv, bv] w fun e w' => e = .returned (.bool true) ∧ New w w' := by
  obtain ⟨sv, rfl, hr⟩ := h
  obtain ⟨oa, oc, rfl⟩ := hr.slice
  obtain ⟨bo, bcap, rfl⟩ := hb.slice
  obtain ⟨lo, lcap, rfl⟩ : ∃ lo lcap, lv = .slice lo L.length lcap := by obtain ⟨_, lo, lcap, e, _⟩ := hl; exact ⟨lo, lcap, e⟩
  have HT := Lib.hid hT
  have HR := Lib.hid hr
  have HI := Lib.hid hok.1
  have HN := Lib.hid hn
  have HLU := Lib.hid hl
  have HLR := Lib.hid hL
  have HLC := Lib.hid hcap
  have HBB := Lib.hid hb
  have HIB := Lib.hid hib
  clear hT hr hok hn hl hL hcap hb hib
  obtain ⟨W1, B, hW, hBB, rB, hN1⟩ := one_row w #[.int .i64 s.id, .int .u8 s.state, .int .i64 s.send, .int .i64 s.recv, .int .i64 s.owed, .bool s.ans, .bool s.ends, .slice oa s.out.length oc, .int .u8 s.urg, .bool s.inc, .int .i64 s.slot] 24
  unfold St.cs
  go_enter Tryd.func6, Tryd.ntmps6
  go_upto_region 1 with fail
  clear hW hBB
  refine piece (fun _ a' W' => (a'.tmps.size = 211 ∧ a'.defers = [] ∧ a'.tmps.getD 1 undef = .int .i64 n ∧ a'.tmps.getD 2 undef = .slice lo L.length lcap ∧ a'.tmps.getD 3 undef = .slice bo b.length bcap ∧ a'.tmps.getD 4 undef = .pointer (some ⟨B, 0, none⟩) ∧ a'.tmps.getD 8 undef = .bool false ∧ a'.tmps.getD 32 undef = .bool (decide (3000 < s.out.length) || (greatL L || decide (3000 < b.length)))) ∧ New W1 W') (great6 _ rfl W1 (s := s) (oa := oa) (oc := oc) (lo := lo) (bo := bo) (L := L) rfl rfl rfl rfl rfl rB (HLU.out.new hN1) HLR.out) ?_
  rintro ⟨z, dfs⟩ W2 ⟨⟨hs, hd, hq1, hq2, hq3, hq4, hq8, hq32⟩, hk⟩
  simp only at hs hd hq1 hq2 hq3 hq4 hq8 hq32
  subst hd
  obtain ⟨u, rfl⟩ := lit211 z hs
  have hp1 : u 1 = .int .i64 n := hq1
  have hp2 : u 2 = .slice lo L.length lcap := hq2
  have hp3 : u 3 = .slice bo b.length bcap := hq3
  have hp4 : u 4 = .pointer (some ⟨B, 0, none⟩) := hq4
  have hp8 : u 8 = .bool false := hq8
  have hp32 : u 32 = .bool (decide (3000 < s.out.length) || (greatL L || decide (3000 < b.length))) := hq32
  rw [hp1, hp2, hp3, hp4, hp8, hp32]
  clear hp1 hq1 hp2 hq2 hp3 hq3 hp4 hq4 hp8 hq8 hp32 hq32 hs
  have rB := hk.heap rB id
  have hN2 := hN1.trans hk
  clear hk hN1
  obtain ⟨bad, hbad⟩ : ∃ x, (decide (3000 < s.out.length) || (greatL L || decide (3000 < b.length))) = x := ⟨_, rfl⟩
  rw [hbad]
  cases bad with
  | true =>
    clear hbad
    go_wp2_with fail
    refine (wakesH_any _ (HT.out.new hN2)).mono ?_
    rintro e W3 ⟨rfl, hk⟩
    have hN3 := hN2.trans hk
    go_wp2_with fail
    go_ret
    exact ⟨rfl, hN3⟩
  | false =>
  simp only [Bool.or_eq_false_iff, decide_eq_false_iff_not] at hbad
  obtain ⟨b1, b3, b4⟩ := hbad
  obtain ⟨hL1, -, hsm⟩ := small_of b3
  have Hs : Hid (s.out.length ≤ 1000000) := Lib.hid (by omega)
  have Hb : Hid (b.length ≤ 1000000) := Lib.hid (by omega)
  have HL1 : Hid (L.length ≤ 1000000) := Lib.hid (by omega)
  have HSM := Lib.hid hsm
  have HLS := Lib.hid (HLU.out.small (by omega))
  clear b1 b3 b4 hL1 hsm HLR
  go_upto_region 3 with fail
  refine piece (fun _ a' W' => (a'.tmps.size = 211 ∧ a'.defers = [] ∧ a'.tmps.getD 1 undef = .int .i64 n ∧ a'.tmps.getD 2 undef = .slice lo L.length lcap ∧ a'.tmps.getD 3 undef = .slice bo b.length bcap ∧ a'.tmps.getD 4 undef = .pointer (some ⟨B, 0, none⟩) ∧ a'.tmps.getD 9 undef = .bool (oursB s)) ∧ New W2 W') (ours6 _ rfl W2 (s := s) (oa := oa) (oc := oc) (lo := lo) (bo := bo) rfl rfl rfl rfl rB) ?_
  rintro ⟨z, dfs⟩ W3 ⟨⟨hs, hd, hq1, hq2, hq3, hq4, hq9⟩, hk⟩
  simp only at hs hd hq1 hq2 hq3 hq4 hq9
  subst hd
  obtain ⟨u, rfl⟩ := lit211 z hs
  have hp1 : u 1 = .int .i64 n := hq1
  have hp2 : u 2 = .slice lo L.length lcap := hq2
  have hp3 : u 3 = .slice bo b.length bcap := hq3
  have hp4 : u 4 = .pointer (some ⟨B, 0, none⟩) := hq4
  have hp9 : u 9 = .bool (oursB s) := hq9
  rw [hp1, hp2, hp3, hp4, hp9]
  clear hp1 hq1 hp2 hq2 hp3 hq3 hp4 hq4 hp9 hq9 hs
  have rB := hk.heap rB id
  have hN3 := hN2.trans hk
  clear hk hN2
  have HC := answer_ref n HN.out.1 HN.out.2 (.slice lo L.length lcap) L W3 (HLS.out.new hN3) HSM.out HLC.out HL1.out
  unfold AnsRet at HC
  obtain ⟨al, hal⟩ : ∃ x, answerL n L = x := ⟨_, rfl⟩
  rw [hal] at HC
  have HAL := Lib.hid hal
  clear hal
  have HC := Lib.hid HC
  go_wp2_with fail
  refine HC.out.mono ?_
  rintro e W4 ⟨l', rfl, hl1, -, hk⟩
  clear HC
  replace hl1 := hl1.1
  obtain ⟨la, lcp, rfl⟩ := hl1.slice
  have rB := hk.heap rB id
  have hN4 := hN3.trans hk
  clear hk hN3
  obtain ⟨⟨xs, m, ea⟩, hA⟩ : ∃ r, answerS s n L = r := ⟨_, rfl⟩
  have HIX := Lib.hid (in8_answer hA HI.out)
  have HMA := Lib.hid (may_answer hA)
  have HA := Lib.hid hA
  clear hA
  have HC := answer_S _ (.slice lo L.length lcap) s n L W4 ⟨_, rfl, HR.out.new hN4⟩ Hs.out HN.out.1 HN.out.2 (HLS.out.new hN4) HSM.out HLC.out (HT.out.new hN4) HL1.out
  rw [HA.out] at HC
  unfold AnsS at HC
  simp only [] at HC
  have HC := Lib.hid HC
  go_wp2_with (first | (refine op_value rfl (run_load_row 24 (.tmp 4) rfl B rfl 24 _ (0, 0) _ rB Tryd.underlying24 rfl info24) ?_) | (refine op_value_g rfl (run_load_row 24 (.tmp 4) rfl B rfl 24 _ (0, 0) _ rB Tryd.underlying24 rfl info24) ?_))
  refine HC.out.mono ?_
  rintro e W5 ⟨v', l2', rfl, ⟨ox, rfl, hO⟩, hl2, -, hk⟩
  clear HC
  replace hl2 := hl2.1
  obtain ⟨ma, mc, rfl⟩ := hl2.slice
  have rB := hk.heap rB id
  have hl1 := hl1.new hk
  have hN5 := hN4.trans hk
  clear hk hN4
  replace hO := hO.mono (Nat.zero_le _)
  obtain ⟨o1, c1, rfl⟩ := hO.slice
  obtain ⟨W6, X, hW, hX, rX, hk⟩ := one_row W5 #[.int .i64 xs.id, .int .u8 xs.state, .int .i64 xs.send, .int .i64 xs.recv, .int .i64 xs.owed, .bool xs.ans, .bool xs.ends, .slice o1 (xs.out).length c1, .int .u8 xs.urg, .bool xs.inc, .int .i64 xs.slot] 24
  have ltX : B < X := by have := (Array.getElem?_eq_some_iff.1 rB).1; omega
  have leX : w.heap.size ≤ X := by have := hN5.size; omega
  have rB := hk.heap rB id
  have hl1 := hl1.new hk
  have hl2 := hl2.new hk
  have hO := hO.new hk
  have hN6 := hN5.trans hk
  clear hk hN5
  have hOX := hO
  clear hO
  unfold St.cs
  go_upto_region 6 with fail
  clear hW hX
  obtain ⟨⟨ys, ef⟩, hA⟩ : ∃ r, writeS s b = r := ⟨_, rfl⟩
  have HIY : Hid (In8 ys.out) := Lib.hid (by have := in8_write HI.out HIB.out; rw [hA] at this; exact this)
  have HMW := Lib.hid (may_write hA)
  have HAW := Lib.hid hA
  clear hA
  have HC := write_S _ (.slice bo b.length bcap) s b W6 ⟨_, rfl, HR.out.new hN6⟩ (HBB.out.new hN6) Hs.out Hb.out
  rw [HAW.out] at HC
  simp only [] at HC
  have HC := Lib.hid HC
  go_wp2_with (first | (refine op_value rfl (run_load_row 24 (.tmp 4) rfl B rfl 24 _ (0, 0) _ rB Tryd.underlying24 rfl info24) ?_) | (refine op_value_g rfl (run_load_row 24 (.tmp 4) rfl B rfl 24 _ (0, 0) _ rB Tryd.underlying24 rfl info24) ?_))
  refine HC.out.mono ?_
  rintro e W7 ⟨v', rfl, ⟨ox, rfl, hO⟩, hk⟩
  clear HC
  have rB := hk.heap rB id
  have rX := hk.heap rX id
  have hl1 := hl1.new hk
  have hl2 := hl2.new hk
  have hOX := hOX.new hk
  have hN7 := hN6.trans hk
  clear hk hN6
  replace hO := hO.mono (Nat.zero_le _)
  obtain ⟨o2, c2, rfl⟩ := hO.slice
  obtain ⟨W8, Y, hW, hX, rY, hk⟩ := one_row W7 #[.int .i64 ys.id, .int .u8 ys.state, .int .i64 ys.send, .int .i64 ys.recv, .int .i64 ys.owed, .bool ys.ans, .bool ys.ends, .slice o2 (ys.out).length c2, .int .u8 ys.urg, .bool ys.inc, .int .i64 ys.slot] 24
  have ltY : X < Y := by have := (Array.getElem?_eq_some_iff.1 rX).1; omega
  have leY : w.heap.size ≤ Y := by have := hN7.size; omega
  have rB := hk.heap rB id
  have rX := hk.heap rX id
  have hl1 := hl1.new hk
  have hl2 := hl2.new hk
  have hOX := hOX.new hk
  have hO := hO.new hk
  have hN8 := hN7.trans hk
  clear hk hN7
  have hOY := hO
  clear hO
  unfold St.cs
  go_upto_region 7 with fail
  clear hW hX
  obtain ⟨⟨zs, eg⟩, hA⟩ : ∃ r, endS s = r := ⟨_, rfl⟩
  have HIZ : Hid (In8 zs.out) := Lib.hid (by have := in8_end HI.out; rw [hA] at this; exact this)
  have HME := Lib.hid (may_end hA)
  have HAE := Lib.hid hA
  clear hA
  have HC := end_S _ s W8 ⟨_, rfl, HR.out.new hN8⟩ Hs.out
  rw [HAE.out] at HC
  simp only [] at HC
  have HC := Lib.hid HC
  go_wp2_with (first | (refine op_value rfl (run_load_row 24 (.tmp 4) rfl B rfl 24 _ (0, 0) _ rB Tryd.underlying24 rfl info24) ?_) | (refine op_value_g rfl (run_load_row 24 (.tmp 4) rfl B rfl 24 _ (0, 0) _ rB Tryd.underlying24 rfl info24) ?_))
  refine HC.out.mono ?_
  rintro e W9 ⟨v', rfl, ⟨ox, rfl, hO⟩, hk⟩
  clear HC
  have rB := hk.heap rB id
  have rX := hk.heap rX id
  have rY := hk.heap rY id
  have hl1 := hl1.new hk
  have hl2 := hl2.new hk
  have hOX := hOX.new hk
  have hOY := hOY.new hk
  have hN9 := hN8.trans hk
  clear hk hN8
  replace hO := hO.mono (Nat.zero_le _)
  obtain ⟨o3, c3, rfl⟩ := hO.slice
  obtain ⟨W10, Z, hW, hX, rZ, hk⟩ := one_row W9 #[.int .i64 zs.id, .int .u8 zs.state, .int .i64 zs.send, .int .i64 zs.recv, .int .i64 zs.owed, .bool zs.ans, .bool zs.ends, .slice o3 (zs.out).length c3, .int .u8 zs.urg, .bool zs.inc, .int .i64 zs.slot] 24
  have ltZ : Y < Z := by have := (Array.getElem?_eq_some_iff.1 rY).1; omega
  have leZ : w.heap.size ≤ Z := by have := hN9.size; omega
  have rB := hk.heap rB id
  have rX := hk.heap rX id
  have rY := hk.heap rY id
  have hl1 := hl1.new hk
  have hl2 := hl2.new hk
  have hOX := hOX.new hk
  have hOY := hOY.new hk
  have hO := hO.new hk
  have hN10 := hN9.trans hk
  clear hk hN9
  have hOZ := hO
  clear hO
  unfold St.cs
  go_upto_region 8 with fail
  clear hW hX
  obtain ⟨⟨ws, eh⟩, hA⟩ : ∃ r, resetS s = r := ⟨_, rfl⟩
  have HIV : Hid (In8 ws.out) := Lib.hid (by have := in8_reset HI.out; rw [hA] at this; exact this)
  have HMR := Lib.hid (may_reset hA)
  have HAR := Lib.hid hA
  clear hA
  have HC := reset_S _ s W10 ⟨_, rfl, HR.out.new hN10⟩ Hs.out
  rw [HAR.out] at HC
  simp only [] at HC
  have HC := Lib.hid HC
  go_wp2_with (first | (refine op_value rfl (run_load_row 24 (.tmp 4) rfl B rfl 24 _ (0, 0) _ rB Tryd.underlying24 rfl info24) ?_) | (refine op_value_g rfl (run_load_row 24 (.tmp 4) rfl B rfl 24 _ (0, 0) _ rB Tryd.underlying24 rfl info24) ?_))
  refine HC.out.mono ?_
  rintro e W11 ⟨v', rfl, ⟨ox, rfl, hO⟩, hk⟩
  clear HC
  have rB := hk.heap rB id
  have rX := hk.heap rX id
  have rY := hk.heap rY id
  have rZ := hk.heap rZ id
  have hl1 := hl1.new hk
  have hl2 := hl2.new hk
  have hOX := hOX.new hk
  have hOY := hOY.new hk
  have hOZ := hOZ.new hk
  have hN11 := hN10.trans hk
  clear hk hN10
  replace hO := hO.mono (Nat.zero_le _)
  obtain ⟨o4, c4, rfl⟩ := hO.slice
  obtain ⟨W12, V, hW, hX, rV, hk⟩ := one_row W11 #[.int .i64 ws.id, .int .u8 ws.state, .int .i64 ws.send, .int .i64 ws.recv, .int .i64 ws.owed, .bool ws.ans, .bool ws.ends, .slice o4 (ws.out).length c4, .int .u8 ws.urg, .bool ws.inc, .int .i64 ws.slot] 24
  have ltV : Z < V := by have := (Array.getElem?_eq_some_iff.1 rZ).1; omega
  have leV : w.heap.size ≤ V := by have := hN11.size; omega
  have rB := hk.heap rB id
  have rX := hk.heap rX id
  have rY := hk.heap rY id
  have rZ := hk.heap rZ id
  have hl1 := hl1.new hk
  have hl2 := hl2.new hk
  have hOX := hOX.new hk
  have hOY := hOY.new hk
  have hOZ := hOZ.new hk
  have hO := hO.new hk
  have hN12 := hN11.trans hk
  clear hk hN11
  have hOV := hO
  clear hO
  unfold St.cs
  go_upto_region 9 with fail
  clear hW hX
  refine piece (fun _ a' W' => (a'.tmps.size = 211 ∧ a'.defers = [] ∧ a'.tmps.getD 3 undef = .slice bo b.length bcap ∧ a'.tmps.getD 4 undef = .pointer (some ⟨B, 0, none⟩) ∧ a'.tmps.getD 9 undef = .bool (oursB s) ∧ a'.tmps.getD 10 undef = .slice la (al.getD []).length lcp ∧ a'.tmps.getD 11 undef = .bool al.isSome ∧ a'.tmps.getD 12 undef = .pointer (some ⟨X, 0, none⟩) ∧ a'.tmps.getD 13 undef = .slice ma m.length mc ∧ a'.tmps.getD 14 undef = .int .i64 ea ∧ a'.tmps.getD 15 undef = .pointer (some ⟨Y, 0, none⟩) ∧ a'.tmps.getD 16 undef = .int .i64 ef ∧ a'.tmps.getD 17 undef = .pointer (some ⟨Z, 0, none⟩) ∧ a'.tmps.getD 18 undef = .int .i64 eg ∧ a'.tmps.getD 19 undef = .pointer (some ⟨V, 0, none⟩) ∧ a'.tmps.getD 20 undef = .int .i64 eh ∧ a'.tmps.getD 21 undef = .bool (openB s)) ∧ New W12 W') (opens6 _ rfl W12 (s := s) (oa := oa) (oc := oc) (xs := xs) (ys := ys) (zs := zs) (ws := ws) rfl rfl rfl rfl rfl rfl rfl rfl rfl rfl rfl rfl rfl rfl rB) ?_
  rintro ⟨z, dfs⟩ W13 ⟨⟨hs, hd, hq3, hq4, hq9, hq10, hq11, hq12, hq13, hq14, hq15, hq16, hq17, hq18, hq19, hq20, hq21⟩, hk⟩
  simp only at hs hd hq3 hq4 hq9 hq10 hq11 hq12 hq13 hq14 hq15 hq16 hq17 hq18 hq19 hq20 hq21
  subst hd
  obtain ⟨u, rfl⟩ := lit211 z hs
  have hp3 : u 3 = .slice bo b.length bcap := hq3
  have hp4 : u 4 = .pointer (some ⟨B, 0, none⟩) := hq4
  have hp9 : u 9 = .bool (oursB s) := hq9
  have hp10 : u 10 = .slice la (al.getD []).length lcp := hq10
  have hp11 : u 11 = .bool al.isSome := hq11
  have hp12 : u 12 = .pointer (some ⟨X, 0, none⟩) := hq12
  have hp13 : u 13 = .slice ma m.length mc := hq13
  have hp14 : u 14 = .int .i64 ea := hq14
  have hp15 : u 15 = .pointer (some ⟨Y, 0, none⟩) := hq15
  have hp16 : u 16 = .int .i64 ef := hq16
  have hp17 : u 17 = .pointer (some ⟨Z, 0, none⟩) := hq17
  have hp18 : u 18 = .int .i64 eg := hq18
  have hp19 : u 19 = .pointer (some ⟨V, 0, none⟩) := hq19
  have hp20 : u 20 = .int .i64 eh := hq20
  have hp21 : u 21 = .bool (openB s) := hq21
  rw [hp3, hp4, hp9, hp10, hp11, hp12, hp13, hp14, hp15, hp16, hp17, hp18, hp19, hp20, hp21]
  clear hp3 hq3 hp4 hq4 hp9 hq9 hp10 hq10 hp11 hq11 hp12 hq12 hp13 hq13 hp14 hq14 hp15 hq15 hp16 hq16 hp17 hq17 hp18 hq18 hp19 hq19 hp20 hq20 hp21 hq21 hs
  have rB := hk.heap rB id
  have rX := hk.heap rX id
  have rY := hk.heap rY id
  have rZ := hk.heap rZ id
  have rV := hk.heap rV id
  have hl1 := hl1.new hk
  have hl2 := hl2.new hk
  have hOX := hOX.new hk
  have hOY := hOY.new hk
  have hOZ := hOZ.new hk
  have hOV := hOV.new hk
  have hN13 := hN12.trans hk
  clear hk hN12
  go_upto_region 10 with fail
  refine piece (fun _ a' W' => (a'.tmps.size = 211 ∧ a'.defers = [] ∧ a'.tmps.getD 3 undef = .slice bo b.length bcap ∧ a'.tmps.getD 4 undef = .pointer (some ⟨B, 0, none⟩) ∧ a'.tmps.getD 9 undef = .bool (oursB s) ∧ a'.tmps.getD 10 undef = .slice la (al.getD []).length lcp ∧ a'.tmps.getD 11 undef = .bool al.isSome ∧ a'.tmps.getD 12 undef = .pointer (some ⟨X, 0, none⟩) ∧ a'.tmps.getD 13 undef = .slice ma m.length mc ∧ a'.tmps.getD 14 undef = .int .i64 ea ∧ a'.tmps.getD 15 undef = .pointer (some ⟨Y, 0, none⟩) ∧ a'.tmps.getD 16 undef = .int .i64 ef ∧ a'.tmps.getD 17 undef = .pointer (some ⟨Z, 0, none⟩) ∧ a'.tmps.getD 18 undef = .int .i64 eg ∧ a'.tmps.getD 19 undef = .pointer (some ⟨V, 0, none⟩) ∧ a'.tmps.getD 20 undef = .int .i64 eh ∧ a'.tmps.getD 21 undef = .bool (openB s) ∧ a'.tmps.getD 113 undef = .bool false) ∧ New W13 W') (states6 _ rfl W13 (s := s) (oa := oa) (oc := oc) (xs := xs) (ys := ys) (zs := zs) (ws := ws) rfl rfl rfl rfl rfl rfl rfl rfl rfl rfl rfl rfl rfl rfl rfl rB HMA.out.1 HMW.out.1 HME.out.1 HMR.out.1) ?_
  rintro ⟨z, dfs⟩ W14 ⟨⟨hs, hd, hq3, hq4, hq9, hq10, hq11, hq12, hq13, hq14, hq15, hq16, hq17, hq18, hq19, hq20, hq21, hq113⟩, hk⟩
  simp only at hs hd hq3 hq4 hq9 hq10 hq11 hq12 hq13 hq14 hq15 hq16 hq17 hq18 hq19 hq20 hq21 hq113
  subst hd
  obtain ⟨u, rfl⟩ := lit211 z hs
  have hp3 : u 3 = .slice bo b.length bcap := hq3
  have hp4 : u 4 = .pointer (some ⟨B, 0, none⟩) := hq4
  have hp9 : u 9 = .bool (oursB s) := hq9
  have hp10 : u 10 = .slice la (al.getD []).length lcp := hq10
  have hp11 : u 11 = .bool al.isSome := hq11
  have hp12 : u 12 = .pointer (some ⟨X, 0, none⟩) := hq12
  have hp13 : u 13 = .slice ma m.length mc := hq13
  have hp14 : u 14 = .int .i64 ea := hq14
  have hp15 : u 15 = .pointer (some ⟨Y, 0, none⟩) := hq15
  have hp16 : u 16 = .int .i64 ef := hq16
  have hp17 : u 17 = .pointer (some ⟨Z, 0, none⟩) := hq17
  have hp18 : u 18 = .int .i64 eg := hq18
  have hp19 : u 19 = .pointer (some ⟨V, 0, none⟩) := hq19
  have hp20 : u 20 = .int .i64 eh := hq20
  have hp21 : u 21 = .bool (openB s) := hq21
  have hp113 : u 113 = .bool false := hq113
  rw [hp3, hp4, hp9, hp10, hp11, hp12, hp13, hp14, hp15, hp16, hp17, hp18, hp19, hp20, hp21, hp113]
  clear hp3 hq3 hp4 hq4 hp9 hq9 hp10 hq10 hp11 hq11 hp12 hq12 hp13 hq13 hp14 hq14 hp15 hq15 hp16 hq16 hp17 hq17 hp18 hq18 hp19 hq19 hp20 hq20 hp21 hq21 hp113 hq113 hs
  have rB := hk.heap rB id
  have rX := hk.heap rX id
  have rY := hk.heap rY id
  have rZ := hk.heap rZ id
  have rV := hk.heap rV id
  have hl1 := hl1.new hk
  have hl2 := hl2.new hk
  have hOX := hOX.new hk
  have hOY := hOY.new hk
  have hOZ := hOZ.new hk
  have hOV := hOV.new hk
  have hN14 := hN13.trans hk
  clear hk hN13
  go_upto_region 12 with fail
  have hAN : (ea = 0 ∧ al.isSome = true ∧ xs.ans = true ∧ Calls Tryd.prog 18 #[.slice ma m.length mc, .slice la (al.getD []).length lcp] W14 fun e w' => e = .returned (.bool true) ∧ New W14 w') ∨ (ea ≠ 0 ∧ m.length = 0 ∧ xs = s) := by
    rcases HMA.out.2 with ⟨h1, h2, h3⟩ | ⟨h1, h2, h3⟩
    · have h2 := HAL.out.symm.trans h2
      subst h2
      have := fields_any _ _ m m W14 hl2 hl1
      rw [show decide (m = m) = true from decide_eq_true rfl] at this
      exact .inl ⟨h1, rfl, h3, this⟩
    · exact .inr ⟨h1, by rw [h2]; rfl, h3⟩
  have hSX : xs = s → Calls Tryd.prog 17 #[.agg (St.cs xs (.slice o1 xs.out.length c1)).toArray, .agg (St.cs s (.slice oa s.out.length oc)).toArray] W14 fun e w' => e = .returned (.bool true) ∧ New W14 w' := fun h => by
    have := same_R _ _ xs s W14 ⟨_, rfl, hOX.reads⟩ ⟨_, rfl, HR.out.new hN14⟩ HIX.out HI.out
    rw [show decide (xs = s) = true from decide_eq_true h] at this
    exact this
  refine piece (fun _ a' W' => (a'.tmps.size = 211 ∧ a'.defers = [] ∧ a'.tmps.getD 3 undef = .slice bo b.length bcap ∧ a'.tmps.getD 4 undef = .pointer (some ⟨B, 0, none⟩) ∧ a'.tmps.getD 12 undef = .pointer (some ⟨X, 0, none⟩) ∧ a'.tmps.getD 13 undef = .slice ma m.length mc ∧ a'.tmps.getD 14 undef = .int .i64 ea ∧ a'.tmps.getD 15 undef = .pointer (some ⟨Y, 0, none⟩) ∧ a'.tmps.getD 16 undef = .int .i64 ef ∧ a'.tmps.getD 17 undef = .pointer (some ⟨Z, 0, none⟩) ∧ a'.tmps.getD 18 undef = .int .i64 eg ∧ a'.tmps.getD 19 undef = .pointer (some ⟨V, 0, none⟩) ∧ a'.tmps.getD 20 undef = .int .i64 eh ∧ a'.tmps.getD 145 undef = .bool false) ∧ New W14 W') (answer6 _ rfl W14 (s := s) (oa := oa) (oc := oc) (xs := xs) (ys := ys) (zs := zs) (ws := ws) (xa := o1) (xc := c1) rfl rfl rfl rfl rfl rfl rfl rfl rfl rfl rfl rfl rfl rB rX hAN hSX) ?_
  rintro ⟨z, dfs⟩ W15 ⟨⟨hs, hd, hq3, hq4, hq12, hq13, hq14, hq15, hq16, hq17, hq18, hq19, hq20, hq145⟩, hk⟩
  simp only at hs hd hq3 hq4 hq12 hq13 hq14 hq15 hq16 hq17 hq18 hq19 hq20 hq145
  subst hd
  obtain ⟨u, rfl⟩ := lit211 z hs
  have hp3 : u 3 = .slice bo b.length bcap := hq3
  have hp4 : u 4 = .pointer (some ⟨B, 0, none⟩) := hq4
  have hp12 : u 12 = .pointer (some ⟨X, 0, none⟩) := hq12
  have hp13 : u 13 = .slice ma m.length mc := hq13
  have hp14 : u 14 = .int .i64 ea := hq14
  have hp15 : u 15 = .pointer (some ⟨Y, 0, none⟩) := hq15
  have hp16 : u 16 = .int .i64 ef := hq16
  have hp17 : u 17 = .pointer (some ⟨Z, 0, none⟩) := hq17
  have hp18 : u 18 = .int .i64 eg := hq18
  have hp19 : u 19 = .pointer (some ⟨V, 0, none⟩) := hq19
  have hp20 : u 20 = .int .i64 eh := hq20
  have hp145 : u 145 = .bool false := hq145
  rw [hp3, hp4, hp12, hp13, hp14, hp15, hp16, hp17, hp18, hp19, hp20, hp145]
  clear hp3 hq3 hp4 hq4 hp12 hq12 hp13 hq13 hp14 hq14 hp15 hq15 hp16 hq16 hp17 hq17 hp18 hq18 hp19 hq19 hp20 hq20 hp145 hq145 hs
  have rB := hk.heap rB id
  have rX := hk.heap rX id
  have rY := hk.heap rY id
  have rZ := hk.heap rZ id
  have rV := hk.heap rV id
  have hl1 := hl1.new hk
  have hl2 := hl2.new hk
  have hOX := hOX.new hk
  have hOY := hOY.new hk
  have hOZ := hOZ.new hk
  have hOV := hOV.new hk
  have hN15 := hN14.trans hk
  clear hk hN14
  go_upto_region 14 with fail
  refine piece (fun _ a' W' => (a'.tmps.size = 211 ∧ a'.defers = [] ∧ a'.tmps.getD 19 undef = .pointer (some ⟨V, 0, none⟩) ∧ a'.tmps.getD 20 undef = .int .i64 eh ∧ a'.tmps.getD 189 undef = .bool false) ∧ New W15 W') (same6 _ rfl W15 (s := s) (oa := oa) (oc := oc) (ys := ys) (zs := zs) (ws := ws) (b := b) rfl rfl rfl rfl rfl rfl rfl rfl rB rY rZ rV (HR.out.new hN15) (HBB.out.new hN15) hOY.reads Hs.out Hb.out HMW.out.2 HME.out.2 (HMR.out.2.imp (fun h => h.1) id) (fun h W hN => by have := same_R _ _ ys s W ⟨_, rfl, (hOY.new hN).reads⟩ ⟨_, rfl, HR.out.new (hN15.trans hN)⟩ HIY.out HI.out; rw [show decide (ys = s) = true from decide_eq_true h] at this; exact this) (fun h W hN => by have := same_R _ _ zs s W ⟨_, rfl, (hOZ.new hN).reads⟩ ⟨_, rfl, HR.out.new (hN15.trans hN)⟩ HIZ.out HI.out; rw [show decide (zs = s) = true from decide_eq_true h] at this; exact this) (fun h W hN => by have := same_R _ _ ws s W ⟨_, rfl, (hOV.new hN).reads⟩ ⟨_, rfl, HR.out.new (hN15.trans hN)⟩ HIV.out HI.out; rw [show decide (ws = s) = true from decide_eq_true h] at this; exact this)) ?_
  rintro ⟨z, dfs⟩ W16 ⟨⟨hs, hd, hq19, hq20, hq189⟩, hk⟩
  simp only at hs hd hq19 hq20 hq189
  subst hd
  obtain ⟨u, rfl⟩ := lit211 z hs
  have hp19 : u 19 = .pointer (some ⟨V, 0, none⟩) := hq19
  have hp20 : u 20 = .int .i64 eh := hq20
  have hp189 : u 189 = .bool false := hq189
  rw [hp19, hp20, hp189]
  clear hp19 hq19 hp20 hq20 hp189 hq189 hs
  have rB := hk.heap rB id
  have rX := hk.heap rX id
  have rY := hk.heap rY id
  have rZ := hk.heap rZ id
  have rV := hk.heap rV id
  have hOX := hOX.new hk
  have hOY := hOY.new hk
  have hOZ := hOZ.new hk
  have hOV := hOV.new hk
  have hN16 := hN15.trans hk
  clear hk hN15
  go_upto_region 16 with fail
  refine piece (fun _ a' W' => (a'.tmps.size = 211 ∧ a'.defers = [] ∧ a'.tmps.getD 8 undef = .bool true) ∧ New W16 W') (reset6 _ rfl W16 (ws := ws) rfl rfl rV (fun W hN => wakesH_any W (HT.out.new (hN16.trans hN))) (HMR.out.2.imp id (fun h => h.1))) ?_
  rintro ⟨z, dfs⟩ W17 ⟨⟨hs, hd, hq8⟩, hk⟩
  simp only at hs hd hq8
  subst hd
  obtain ⟨u, rfl⟩ := lit211 z hs
  have hp8 : u 8 = .bool true := hq8
  rw [hp8]
  clear hp8 hq8 hs
  have rB := hk.heap rB id
  have rX := hk.heap rX id
  have rY := hk.heap rY id
  have rZ := hk.heap rZ id
  have rV := hk.heap rV id
  have hOX := hOX.new hk
  have hOY := hOY.new hk
  have hOZ := hOZ.new hk
  have hOV := hOV.new hk
  have hN17 := hN16.trans hk
  clear hk hN16
  go_wp2_with fail
  go_ret
  exact ⟨rfl, hN17⟩
end Go.Proofs.YtkjghojdfjhhkaaDoor
