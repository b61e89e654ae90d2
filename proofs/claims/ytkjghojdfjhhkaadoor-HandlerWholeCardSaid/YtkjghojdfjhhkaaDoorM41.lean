/- HandlerWhole: a turn. -/
import Derived.Test.YtkjghojdfjhhkaaDoorM40
set_option linter.unusedSimpArgs false
set_option linter.unusedVariables false
namespace Go.Proofs.YtkjghojdfjhhkaaDoor
open Go.RowKit Go.Shelf Go.Cs
attribute [local go_sem] Oper.semAt_some
set_option linter.unusedVariables false
set_option linter.unusedSimpArgs false
set_option maxHeartbeats 8000000 in
set_option maxRecDepth 100000 in
theorem take4 (t : Array Value) (hs : t.size = 233) (w : World) {w0 : World} {S E n : Nat} {s : St} {x y : List Int} {iv yv bv : Value} {lo : Option Addr} {ln lc : Nat} {told ended : Bool} {k act : Int} {d : Dd} {z0 z2 z3 z20 z21 z22 z23 z24 z25 z26 z220 z221 z222 z223 z224 z225 z226 z227 z228 z229 z230 z231 z232 : Value}
    (hq0 : t.getD 0 undef = z0)
    (hq2 : t.getD 2 undef = z2)
    (hq3 : t.getD 3 undef = z3)
    (hq20 : t.getD 20 undef = z20)
    (hq21 : t.getD 21 undef = z21)
    (hq22 : t.getD 22 undef = z22)
    (hq23 : t.getD 23 undef = z23)
    (hq24 : t.getD 24 undef = z24)
    (hq25 : t.getD 25 undef = z25)
    (hq26 : t.getD 26 undef = z26)
    (hq220 : t.getD 220 undef = z220)
    (hq221 : t.getD 221 undef = z221)
    (hq222 : t.getD 222 undef = z222)
    (hq223 : t.getD 223 undef = z223)
    (hq224 : t.getD 224 undef = z224)
    (hq225 : t.getD 225 undef = z225)
    (hq226 : t.getD 226 undef = z226)
    (hq227 : t.getD 227 undef = z227)
    (hq228 : t.getD 228 undef = z228)
    (hq229 : t.getD 229 undef = z229)
    (hq230 : t.getD 230 undef = z230)
    (hq231 : t.getD 231 undef = z231)
    (hq232 : t.getD 232 undef = z232)
    (hq1 : t.getD 1 undef = .slice lo ln lc)
    (hq5 : t.getD 5 undef = .pointer (some ⟨S, 0, none⟩))
    (hq6 : t.getD 6 undef = iv)
    (hq7 : t.getD 7 undef = yv)
    (hq8 : t.getD 8 undef = .bool told)
    (hq9 : t.getD 9 undef = .bool ended)
    (hq10 : t.getD 10 undef = .int .i64 k)
    (hq11 : t.getD 11 undef = .pointer (some ⟨E, 0, none⟩))
    (hq43 : t.getD 43 undef = .int .i64 act)
    (hJ : WhJ w0 w S iv yv s x y) (hI : WInv n s x y told ended) (hn : n < 30) (rE : w.heap[E]? = some (.cells (d.cs bv).toArray 44 (0, 0))) (hb : RdB w0 bv d.bytes) (hbl : d.bytes.length ≤ 100) (hd : d.Ok) (hx8 : In8 x) (hs8 : I64 s.send) (ha0 : act ≠ 0) (ha1 : act ≠ 1) (ha2 : act ≠ 2) :
    sw4.wp Tryd.prog (Only (After4 w0 S n lo ln lc k z0 z2 z3 z20 z21 z22 z23 z24 z25 z26 z220 z221 z222 z223 z224 z225 z226 z227 z228 z229 z230 z231 z232)) ⟨t, []⟩ w := by
  conv => arg 2; whnf
  obtain ⟨u, rfl⟩ := lit233 t hs
  have hq0 : u 0 = z0 := hq0
  have hq2 : u 2 = z2 := hq2
  have hq3 : u 3 = z3 := hq3
  have hq20 : u 20 = z20 := hq20
  have hq21 : u 21 = z21 := hq21
  have hq22 : u 22 = z22 := hq22
  have hq23 : u 23 = z23 := hq23
  have hq24 : u 24 = z24 := hq24
  have hq25 : u 25 = z25 := hq25
  have hq26 : u 26 = z26 := hq26
  have hq220 : u 220 = z220 := hq220
  have hq221 : u 221 = z221 := hq221
  have hq222 : u 222 = z222 := hq222
  have hq223 : u 223 = z223 := hq223
  have hq224 : u 224 = z224 := hq224
  have hq225 : u 225 = z225 := hq225
  have hq226 : u 226 = z226 := hq226
  have hq227 : u 227 = z227 := hq227
  have hq228 : u 228 = z228 := hq228
  have hq229 : u 229 = z229 := hq229
  have hq230 : u 230 = z230 := hq230
  have hq231 : u 231 = z231 := hq231
  have hq232 : u 232 = z232 := hq232
  have hq1 : u 1 = .slice lo ln lc := hq1
  have hq5 : u 5 = .pointer (some ⟨S, 0, none⟩) := hq5
  have hq6 : u 6 = iv := hq6
  have hq7 : u 7 = yv := hq7
  have hq8 : u 8 = .bool told := hq8
  have hq9 : u 9 = .bool ended := hq9
  have hq10 : u 10 = .int .i64 k := hq10
  have hq11 : u 11 = .pointer (some ⟨E, 0, none⟩) := hq11
  have hq43 : u 43 = .int .i64 act := hq43
  rw [hq0, hq2, hq3, hq20, hq21, hq22, hq23, hq24, hq25, hq26, hq220, hq221, hq222, hq223, hq224, hq225, hq226, hq227, hq228, hq229, hq230, hq231, hq232, hq1, hq5, hq6, hq7, hq8, hq9, hq10, hq11, hq43]
  clear hq0 hq2 hq3 hq20 hq21 hq22 hq23 hq24 hq25 hq26 hq220 hq221 hq222 hq223 hq224 hq225 hq226 hq227 hq228 hq229 hq230 hq231 hq232 hq1 hq5 hq6 hq7 hq8 hq9 hq10 hq11 hq43 hs
  obtain ⟨ov, rS, hO, hi, hy, a1, a2, a3, hSl, hN⟩ := hJ
  obtain ⟨oa, oc, rfl⟩ := hO.slice
  obtain ⟨xa, xc, rfl⟩ := hi.slice
  obtain ⟨ya, yc, rfl⟩ := hy.slice
  obtain ⟨ba, bc, rfl⟩ := hb.slice
  have hxl : x.length ≤ 3000 := by have := hI.len; omega
  have hyo : y.length + s.out.length = x.length := by rw [hI.all]; simp
  have k3 : w.cell? ⟨E, 3, none⟩ = some (.int .i64 d.conn) := cell_of_row _ _ 3 _ _ _ rE
  have k4 : w.cell? ⟨E, 4, none⟩ = some (.int .i64 d.cut) := cell_of_row _ _ 4 _ _ _ rE
  have hall := hI.all
  have hin : In8 s.out := fun z hz => hx8 z (by rw [hall]; exact List.mem_append_right _ hz)
  have Hin := Lib.hid hin
  obtain ⟨so, dd, be, bo, hT, f1, f2, f3, f4, f5, f6, f7, hI2⟩ := hI.take d.conn 16384 d.cut
  have HC := take_S _ s d.conn 16384 d.cut w ⟨_, rfl, hO.reads⟩ (by omega) hs8 hd.2.2.2.1 ⟨by decide, by decide⟩ hd.2.2.2.2
  rw [hT] at HC
  unfold TakeP at HC
  simp only [] at HC
  have HC := Lib.hid HC
  have hdl : dd.length ≤ 3000 := by have h8 := hI2.len; have h9 := hI2.all; rw [h9] at h8; simp at h8; omega
  have hylen : y.length ≤ 3000 := by omega
  have hsr : I64 so.send := by
    have h0 := canZ_0 s.send
    have h1 : canZ s.send ≤ max s.send 0 := by unfold canZ; split <;> omega
    have h8 := hs8.1; have h9 := hs8.2
    rw [f6]; constructor <;> omega
  have HF := Lib.hid hI2
  have F1 := Lib.hid f1
  have F2 := Lib.hid f2
  have F3 := Lib.hid f3
  have F4 := Lib.hid f4
  have F5 := Lib.hid f5
  have F6 := Lib.hid f6
  have F7 := Lib.hid f7
  have HSR := Lib.hid hsr
  have HS8 := Lib.hid hs8
  have HIW := Lib.hid hI
  have HD := Lib.hid hd
  have HDL := Lib.hid hdl
  have HYL := Lib.hid hylen
  clear hall hin hT f1 f2 f3 f4 f5 f6 f7 hI2 hsr hs8 hI hd hdl hylen hn hbl hxl hyo hb
  have n0 : ((act : Int) == 0) = false := by simpa using ha0
  have n1 : ((act : Int) == 1) = false := by simpa using ha1
  have n2 : ((act : Int) == 2) = false := by simpa using ha2
  clear ha0 ha1 ha2
  go_wp2_with (first | (refine op_value rfl (run_load_row 24 (.tmp 5) rfl S rfl 24 _ (0, 0) _ rS Tryd.underlying24 rfl info24) ?_) | (refine op_value_g rfl (run_load_row 24 (.tmp 5) rfl S rfl 24 _ (0, 0) _ rS Tryd.underlying24 rfl info24) ?_))
  refine HC.out.mono ?_
  rintro e W1 ⟨v', d', rfl, ⟨ox, rfl, hO1⟩, hD1, hk1⟩
  obtain ⟨pa, pc, rfl⟩ := hO1.slice
  obtain ⟨da, dc, rfl⟩ := hD1.slice
  have c1 := Apart.fresh hi hO1
  have c2 := Apart.fresh hy hO1
  replace hO1 := hO1.mono hN.size
  have rS1 := hk1.heap rS id
  have rE1 := hk1.heap rE id
  replace hi := hi.new hk1
  replace hy := hy.new hk1
  replace hN := hN.trans hk1
  replace hO := hO.new hk1
  clear hk1 HC rS rE k3 k4
  obtain ⟨W2, X, hW, hX, rX, hk⟩ := one_row W1 #[.int .i64 so.id, .int .u8 so.state, .int .i64 so.send, .int .i64 so.recv, .int .i64 so.owed, .bool so.ans, .bool so.ends, (.slice pa so.out.length pc), .int .u8 so.urg, .bool so.inc, .int .i64 so.slot] 24
  have rS2 := hk.heap rS1 id
  have rE2 := hk.heap rE1 id
  replace hi := hi.new hk
  replace hy := hy.new hk
  replace hO1 := hO1.new hk
  replace hD1 := hD1.new hk
  replace hN := hN.trans hk
  replace hO := hO.new hk
  clear hk rS1 rE1
  unfold St.cs
  go_upto_region 16 with fail
  clear hW hX
  obtain ⟨dn, hdn⟩ : ∃ z, dd.length = z := ⟨_, rfl⟩
  have HDN := Lib.hid hdn
  rw [hdn]
  clear hdn
  refine piece (fun _ a' W' => (a'.tmps.size = 233 ∧ a'.defers = [] ∧ a'.tmps.getD 0 undef = z0 ∧ a'.tmps.getD 2 undef = z2 ∧ a'.tmps.getD 3 undef = z3 ∧ a'.tmps.getD 20 undef = z20 ∧ a'.tmps.getD 21 undef = z21 ∧ a'.tmps.getD 22 undef = z22 ∧ a'.tmps.getD 23 undef = z23 ∧ a'.tmps.getD 24 undef = z24 ∧ a'.tmps.getD 25 undef = z25 ∧ a'.tmps.getD 26 undef = z26 ∧ a'.tmps.getD 220 undef = z220 ∧ a'.tmps.getD 221 undef = z221 ∧ a'.tmps.getD 222 undef = z222 ∧ a'.tmps.getD 223 undef = z223 ∧ a'.tmps.getD 224 undef = z224 ∧ a'.tmps.getD 225 undef = z225 ∧ a'.tmps.getD 226 undef = z226 ∧ a'.tmps.getD 227 undef = z227 ∧ a'.tmps.getD 228 undef = z228 ∧ a'.tmps.getD 229 undef = z229 ∧ a'.tmps.getD 230 undef = z230 ∧ a'.tmps.getD 231 undef = z231 ∧ a'.tmps.getD 232 undef = z232 ∧ a'.tmps.getD 1 undef = .slice lo ln lc ∧ a'.tmps.getD 5 undef = .pointer (some ⟨S, 0, none⟩) ∧ a'.tmps.getD 6 undef = .slice xa x.length xc ∧ a'.tmps.getD 7 undef = .slice ya y.length yc ∧ a'.tmps.getD 8 undef = .bool told ∧ a'.tmps.getD 9 undef = .bool ended ∧ a'.tmps.getD 10 undef = .int .i64 k ∧ a'.tmps.getD 11 undef = .pointer (some ⟨E, 0, none⟩) ∧ a'.tmps.getD 16 undef = .pointer (some ⟨X, 0, none⟩) ∧ a'.tmps.getD 17 undef = .slice da dn dc ∧ a'.tmps.getD 18 undef = .bool be ∧ a'.tmps.getD 19 undef = .bool bo ∧ a'.tmps.getD 76 undef = .bool false) ∧ New W2 W') ?_ ?_
  · have hN0 := Mods.refl (fun _ => False) W2
    cases bo with
    | true =>
      obtain rfl : ended = false := F1.out rfl
      clear hO rE2 hO1 hD1 hi hy c1 c2 a1 a2 a3 hSl hN rS2 rX
      go_wp2_with fail
      exact ⟨⟨rfl, rfl, rfl, rfl, rfl, rfl, rfl, rfl, rfl, rfl, rfl, rfl, rfl, rfl, rfl, rfl, rfl, rfl, rfl, rfl, rfl, rfl, rfl, rfl, rfl, rfl, rfl, rfl, rfl, rfl, rfl, rfl, rfl, rfl, rfl, rfl, rfl, rfl⟩, hN0⟩
    | false =>
      obtain ⟨g1, rfl, rfl⟩ := F2.out rfl
      have hd0 : dn = 0 := by rw [← HDN.out, g1]; rfl
      subst hd0
      have HSM := same_R _ _ so so W2 ⟨_, rfl, hO1.reads⟩ ⟨_, rfl, hO.reads⟩ Hin.out Hin.out
      rw [show decide (so = so) = true from decide_eq_true rfl] at HSM
      have HSM := Lib.hid HSM
      clear hO rE2 hO1 hD1 hi hy c1 c2 a1 a2 a3 hSl hN g1
      go_wp2_with (first | (refine op_value rfl (run_load_row 24 (.tmp 16) rfl X rfl 24 _ (0, 0) _ rX Tryd.underlying24 rfl info24) ?_) | (refine op_value_g rfl (run_load_row 24 (.tmp 16) rfl X rfl 24 _ (0, 0) _ rX Tryd.underlying24 rfl info24) ?_) | (refine op_value rfl (run_load_row 24 (.tmp 5) rfl S rfl 24 _ (0, 0) _ rS2 Tryd.underlying24 rfl info24) ?_) | (refine op_value_g rfl (run_load_row 24 (.tmp 5) rfl S rfl 24 _ (0, 0) _ rS2 Tryd.underlying24 rfl info24) ?_))
      refine HSM.out.mono ?_
      rintro e W3 ⟨rfl, hk⟩
      go_wp2_with fail
      exact ⟨⟨rfl, rfl, rfl, rfl, rfl, rfl, rfl, rfl, rfl, rfl, rfl, rfl, rfl, rfl, rfl, rfl, rfl, rfl, rfl, rfl, rfl, rfl, rfl, rfl, rfl, rfl, rfl, rfl, rfl, rfl, rfl, rfl, rfl, rfl, rfl, rfl, rfl, rfl⟩, hk⟩
  · rintro ⟨z, dfs⟩ W3 ⟨⟨hs, hd, hq0, hq2, hq3, hq20, hq21, hq22, hq23, hq24, hq25, hq26, hq220, hq221, hq222, hq223, hq224, hq225, hq226, hq227, hq228, hq229, hq230, hq231, hq232, hq1, hq5, hq6, hq7, hq8, hq9, hq10, hq11, hq16, hq17, hq18, hq19, hq76⟩, hk⟩
    simp only at hs hd hq0 hq2 hq3 hq20 hq21 hq22 hq23 hq24 hq25 hq26 hq220 hq221 hq222 hq223 hq224 hq225 hq226 hq227 hq228 hq229 hq230 hq231 hq232 hq1 hq5 hq6 hq7 hq8 hq9 hq10 hq11 hq16 hq17 hq18 hq19 hq76
    subst hd
    obtain ⟨u, rfl⟩ := lit233 z hs
    have hp0 : u 0 = z0 := hq0
    have hp2 : u 2 = z2 := hq2
    have hp3 : u 3 = z3 := hq3
    have hp20 : u 20 = z20 := hq20
    have hp21 : u 21 = z21 := hq21
    have hp22 : u 22 = z22 := hq22
    have hp23 : u 23 = z23 := hq23
    have hp24 : u 24 = z24 := hq24
    have hp25 : u 25 = z25 := hq25
    have hp26 : u 26 = z26 := hq26
    have hp220 : u 220 = z220 := hq220
    have hp221 : u 221 = z221 := hq221
    have hp222 : u 222 = z222 := hq222
    have hp223 : u 223 = z223 := hq223
    have hp224 : u 224 = z224 := hq224
    have hp225 : u 225 = z225 := hq225
    have hp226 : u 226 = z226 := hq226
    have hp227 : u 227 = z227 := hq227
    have hp228 : u 228 = z228 := hq228
    have hp229 : u 229 = z229 := hq229
    have hp230 : u 230 = z230 := hq230
    have hp231 : u 231 = z231 := hq231
    have hp232 : u 232 = z232 := hq232
    have hp1 : u 1 = .slice lo ln lc := hq1
    have hp5 : u 5 = .pointer (some ⟨S, 0, none⟩) := hq5
    have hp6 : u 6 = .slice xa x.length xc := hq6
    have hp7 : u 7 = .slice ya y.length yc := hq7
    have hp8 : u 8 = .bool told := hq8
    have hp9 : u 9 = .bool ended := hq9
    have hp10 : u 10 = .int .i64 k := hq10
    have hp11 : u 11 = .pointer (some ⟨E, 0, none⟩) := hq11
    have hp16 : u 16 = .pointer (some ⟨X, 0, none⟩) := hq16
    have hp17 : u 17 = .slice da dn dc := hq17
    have hp18 : u 18 = .bool be := hq18
    have hp19 : u 19 = .bool bo := hq19
    have hp76 : u 76 = .bool false := hq76
    rw [hp0, hp2, hp3, hp20, hp21, hp22, hp23, hp24, hp25, hp26, hp220, hp221, hp222, hp223, hp224, hp225, hp226, hp227, hp228, hp229, hp230, hp231, hp232, hp1, hp5, hp6, hp7, hp8, hp9, hp10, hp11, hp16, hp17, hp18, hp19, hp76]
    clear hp0 hq0 hp2 hq2 hp3 hq3 hp20 hq20 hp21 hq21 hp22 hq22 hp23 hq23 hp24 hq24 hp25 hq25 hp26 hq26 hp220 hq220 hp221 hq221 hp222 hq222 hp223 hq223 hp224 hq224 hp225 hq225 hp226 hq226 hp227 hq227 hp228 hq228 hp229 hq229 hp230 hq230 hp231 hq231 hp232 hq232 hp1 hq1 hp5 hq5 hp6 hq6 hp7 hq7 hp8 hq8 hp9 hq9 hp10 hq10 hp11 hq11 hp16 hq16 hp17 hq17 hp18 hq18 hp19 hq19 hp76 hq76 hs
    have rS3 := hk.heap rS2 id
    have rX3 := hk.heap rX id
    have rE3 := hk.heap rE2 id
    replace hi := hi.new hk
    replace hy := hy.new hk
    replace hO1 := hO1.new hk
    replace hD1 := hD1.new hk
    replace hN := hN.trans hk
    clear hk rS2 rX rE2 hO
    go_upto_region 18 with fail
    refine piece (fun _ a' W' => (a'.tmps.size = 233 ∧ a'.defers = [] ∧ a'.tmps.getD 0 undef = z0 ∧ a'.tmps.getD 2 undef = z2 ∧ a'.tmps.getD 3 undef = z3 ∧ a'.tmps.getD 20 undef = z20 ∧ a'.tmps.getD 21 undef = z21 ∧ a'.tmps.getD 22 undef = z22 ∧ a'.tmps.getD 23 undef = z23 ∧ a'.tmps.getD 24 undef = z24 ∧ a'.tmps.getD 25 undef = z25 ∧ a'.tmps.getD 26 undef = z26 ∧ a'.tmps.getD 220 undef = z220 ∧ a'.tmps.getD 221 undef = z221 ∧ a'.tmps.getD 222 undef = z222 ∧ a'.tmps.getD 223 undef = z223 ∧ a'.tmps.getD 224 undef = z224 ∧ a'.tmps.getD 225 undef = z225 ∧ a'.tmps.getD 226 undef = z226 ∧ a'.tmps.getD 227 undef = z227 ∧ a'.tmps.getD 228 undef = z228 ∧ a'.tmps.getD 229 undef = z229 ∧ a'.tmps.getD 230 undef = z230 ∧ a'.tmps.getD 231 undef = z231 ∧ a'.tmps.getD 232 undef = z232 ∧ a'.tmps.getD 1 undef = .slice lo ln lc ∧ a'.tmps.getD 5 undef = .pointer (some ⟨S, 0, none⟩) ∧ a'.tmps.getD 6 undef = .slice xa x.length xc ∧ a'.tmps.getD 7 undef = .slice ya y.length yc ∧ a'.tmps.getD 8 undef = .bool told ∧ a'.tmps.getD 9 undef = .bool ended ∧ a'.tmps.getD 10 undef = .int .i64 k ∧ a'.tmps.getD 11 undef = .pointer (some ⟨E, 0, none⟩) ∧ a'.tmps.getD 16 undef = .pointer (some ⟨X, 0, none⟩) ∧ a'.tmps.getD 17 undef = .slice da dn dc ∧ a'.tmps.getD 18 undef = .bool be ∧ a'.tmps.getD 19 undef = .bool bo ∧ a'.tmps.getD 120 undef = .bool false) ∧ New W3 W') ?_ ?_
    · have hN0 := Mods.refl (fun _ => False) W3
      have m2 : W3.cell? ⟨S, 2, none⟩ = some (.int .i64 s.send) := cell_of_row _ _ 2 _ _ _ rS3
      have m3 : W3.cell? ⟨E, 3, none⟩ = some (.int .i64 d.conn) := cell_of_row _ _ 3 _ _ _ rE3
      have m4 : W3.cell? ⟨E, 4, none⟩ = some (.int .i64 d.cut) := cell_of_row _ _ 4 _ _ _ rE3
      have mx : W3.cell? ⟨X, 2, none⟩ = some (.int .i64 so.send) := cell_of_row _ _ 2 _ _ _ rX3
      have H1 := Lib.hid (fun W => can_ref s.send W HS8.out)
      have H2 := Lib.hid (fun W => can_ref d.conn W HD.out.2.2.2.1)
      have p1 : decide (canZ s.send < (dn : Int)) = false := decide_eq_false (by rw [← HDN.out]; have := F3.out; omega)
      have p2 : decide (canZ d.conn < (dn : Int)) = false := decide_eq_false (by rw [← HDN.out]; have := F4.out; omega)
      have p3 : decide (max d.cut 0 < (dn : Int)) = false := decide_eq_false (by rw [← HDN.out]; have := F5.out; omega)
      have p4 : so.send = s.send - (dn : Int) := by rw [← HDN.out]; exact F6.out
      have p5 : -9223372036854775808 ≤ s.send - (dn : Int) := by rw [← p4]; exact HSR.out.1
      have p6 : s.send - (dn : Int) ≤ 9223372036854775807 := by rw [← p4]; exact HSR.out.2
      rw [p4] at mx
      have P7 : Hid (bo = true → dn = 0 → be = true) := Lib.hid fun h h2 => F7.out h (List.length_eq_zero_iff.1 (by rw [HDN.out]; exact h2))
      obtain ⟨z1, hz1⟩ : ∃ z, canZ s.send = z := ⟨_, rfl⟩
      obtain ⟨z2, hz2⟩ : ∃ z, canZ d.conn = z := ⟨_, rfl⟩
      rw [hz1] at p1 H1
      rw [hz2] at p2 H2
      clear rS3 rX3 rE3 hi hy hO1 hD1 hN c1 c2 a1 a2 a3 hSl hz1 hz2 p4
      cases bo with
      | false =>
        go_wp2_with fail
        refine (H1.out _).mono ?_
        rintro e w1 ⟨rfl, rfl⟩
        go_wp2_with fail
        refine (H2.out _).mono ?_
        rintro e w1 ⟨rfl, rfl⟩
        go_wp2_with fail
        exact ⟨⟨rfl, rfl, rfl, rfl, rfl, rfl, rfl, rfl, rfl, rfl, rfl, rfl, rfl, rfl, rfl, rfl, rfl, rfl, rfl, rfl, rfl, rfl, rfl, rfl, rfl, rfl, rfl, rfl, rfl, rfl, rfl, rfl, rfl, rfl, rfl, rfl, rfl, rfl⟩, hN0⟩
      | true =>
      by_cases hd0 : dn = 0
      · obtain rfl : be = true := P7.out rfl hd0
        subst hd0
        have p1 : decide (z1 < 0) = false := p1
        have p2 : decide (z2 < 0) = false := p2
        have p3 : decide (max d.cut 0 < 0) = false := p3
        go_wp2_with fail
        refine (H1.out _).mono ?_
        rintro e w1 ⟨rfl, rfl⟩
        go_wp2_with fail
        refine (H2.out _).mono ?_
        rintro e w1 ⟨rfl, rfl⟩
        go_wp2_with fail
        exact ⟨⟨rfl, rfl, rfl, rfl, rfl, rfl, rfl, rfl, rfl, rfl, rfl, rfl, rfl, rfl, rfl, rfl, rfl, rfl, rfl, rfl, rfl, rfl, rfl, rfl, rfl, rfl, rfl, rfl, rfl, rfl, rfl, rfl, rfl, rfl, rfl, rfl, rfl, rfl⟩, hN0⟩
      · have g1 : ((dn : Int) == 0) = false := decide_eq_false (by omega)
        go_wp2_with fail
        refine (H1.out _).mono ?_
        rintro e w1 ⟨rfl, rfl⟩
        go_wp2_with fail
        refine (H2.out _).mono ?_
        rintro e w1 ⟨rfl, rfl⟩
        go_wp2_with fail
        exact ⟨⟨rfl, rfl, rfl, rfl, rfl, rfl, rfl, rfl, rfl, rfl, rfl, rfl, rfl, rfl, rfl, rfl, rfl, rfl, rfl, rfl, rfl, rfl, rfl, rfl, rfl, rfl, rfl, rfl, rfl, rfl, rfl, rfl, rfl, rfl, rfl, rfl, rfl, rfl⟩, hN0⟩
    · rintro ⟨z, dfs⟩ W4 ⟨⟨hs, hd, hq0, hq2, hq3, hq20, hq21, hq22, hq23, hq24, hq25, hq26, hq220, hq221, hq222, hq223, hq224, hq225, hq226, hq227, hq228, hq229, hq230, hq231, hq232, hq1, hq5, hq6, hq7, hq8, hq9, hq10, hq11, hq16, hq17, hq18, hq19, hq120⟩, hk⟩
      simp only at hs hd hq0 hq2 hq3 hq20 hq21 hq22 hq23 hq24 hq25 hq26 hq220 hq221 hq222 hq223 hq224 hq225 hq226 hq227 hq228 hq229 hq230 hq231 hq232 hq1 hq5 hq6 hq7 hq8 hq9 hq10 hq11 hq16 hq17 hq18 hq19 hq120
      subst hd
      obtain ⟨u, rfl⟩ := lit233 z hs
      have hp0 : u 0 = z0 := hq0
      have hp2 : u 2 = z2 := hq2
      have hp3 : u 3 = z3 := hq3
      have hp20 : u 20 = z20 := hq20
      have hp21 : u 21 = z21 := hq21
      have hp22 : u 22 = z22 := hq22
      have hp23 : u 23 = z23 := hq23
      have hp24 : u 24 = z24 := hq24
      have hp25 : u 25 = z25 := hq25
      have hp26 : u 26 = z26 := hq26
      have hp220 : u 220 = z220 := hq220
      have hp221 : u 221 = z221 := hq221
      have hp222 : u 222 = z222 := hq222
      have hp223 : u 223 = z223 := hq223
      have hp224 : u 224 = z224 := hq224
      have hp225 : u 225 = z225 := hq225
      have hp226 : u 226 = z226 := hq226
      have hp227 : u 227 = z227 := hq227
      have hp228 : u 228 = z228 := hq228
      have hp229 : u 229 = z229 := hq229
      have hp230 : u 230 = z230 := hq230
      have hp231 : u 231 = z231 := hq231
      have hp232 : u 232 = z232 := hq232
      have hp1 : u 1 = .slice lo ln lc := hq1
      have hp5 : u 5 = .pointer (some ⟨S, 0, none⟩) := hq5
      have hp6 : u 6 = .slice xa x.length xc := hq6
      have hp7 : u 7 = .slice ya y.length yc := hq7
      have hp8 : u 8 = .bool told := hq8
      have hp9 : u 9 = .bool ended := hq9
      have hp10 : u 10 = .int .i64 k := hq10
      have hp11 : u 11 = .pointer (some ⟨E, 0, none⟩) := hq11
      have hp16 : u 16 = .pointer (some ⟨X, 0, none⟩) := hq16
      have hp17 : u 17 = .slice da dn dc := hq17
      have hp18 : u 18 = .bool be := hq18
      have hp19 : u 19 = .bool bo := hq19
      have hp120 : u 120 = .bool false := hq120
      rw [hp0, hp2, hp3, hp20, hp21, hp22, hp23, hp24, hp25, hp26, hp220, hp221, hp222, hp223, hp224, hp225, hp226, hp227, hp228, hp229, hp230, hp231, hp232, hp1, hp5, hp6, hp7, hp8, hp9, hp10, hp11, hp16, hp17, hp18, hp19, hp120]
      clear hp0 hq0 hp2 hq2 hp3 hq3 hp20 hq20 hp21 hq21 hp22 hq22 hp23 hq23 hp24 hq24 hp25 hq25 hp26 hq26 hp220 hq220 hp221 hq221 hp222 hq222 hp223 hq223 hp224 hq224 hp225 hq225 hp226 hq226 hp227 hq227 hp228 hq228 hp229 hq229 hp230 hq230 hp231 hq231 hp232 hq232 hp1 hq1 hp5 hq5 hp6 hq6 hp7 hq7 hp8 hq8 hp9 hq9 hp10 hq10 hp11 hq11 hp16 hq16 hp17 hq17 hp18 hq18 hp19 hq19 hp120 hq120 hs
      have rS4 := hk.heap rS3 id
      have rX4 := hk.heap rX3 id
      replace hi := hi.new hk
      replace hy := hy.new hk
      replace hO1 := hO1.new hk
      replace hD1 := hD1.new hk
      replace hN := hN.trans hk
      clear hk rS3 rX3 rE3
      have hDr := hD1.reads
      rw [HDN.out] at hDr
      have hll : y.length + dd.length ≤ 100000000 := by have := HDL.out; have := HYL.out; omega
      have hsz := hN.size
      go_upto_region 20 with fail
      go_upto_region 21 with (at_builtin; refine wpList_append_B2 (.tmp 121) (.tmp 122) rfl rfl rfl rfl hy hDr hll hsz ?_; intro yv' W5 hy5 hg5 hb5)
      have rS5 : W5.heap[S]? = _ := (hg5.block S (Array.getElem?_eq_some_iff.1 rS4).1 (fun e => owB_ne hy rS4 (by decide) e.symm)).trans rS4
      have rX5 : W5.heap[X]? = _ := (hg5.block X (Array.getElem?_eq_some_iff.1 rX4).1 (fun e => owB_ne hy rX4 (by decide) e.symm)).trans rX4
      have hi5 := hi.grown a3.symm hg5
      have hO5 := hO1.grown c2 hg5
      have c2' := Apart.grown c2 hO1 hb5
      have a3' := (Apart.grown a3.symm hi hb5).symm
      have hN5 : New w0 W5 := hN.grown hg5 (fun g hg => .inl ((hy.lt g hg).1))
      clear hg5 hb5 rS4 rX4 hy hO1 hi c2 a3 hN hsz hll hD1 hDr
      have hone := cs_one so (ov := (.slice pa so.out.length pc)) rfl
      obtain ⟨V, hV, rX', kO, kR, kN⟩ := stored_row rS5 (St.cs so (.slice pa so.out.length pc)).toArray
      have HM := Lib.hid (And.intro rX' (And.intro (kO _ _ _ hO5) (And.intro (kO _ _ _ hi5) (And.intro (kO _ _ _ hy5) (And.intro c1 (And.intro c2' (And.intro a3' (And.intro hSl (kN _ hN5 hSl)))))))))
      clear rX' kO kR kN c1 c2' a3' hSl hN5 hi5 hy5 hO5 a1 a2
      cases ended
      all_goals
        go_wp2_with (first | (refine op_value rfl (run_load_row 24 (.tmp 16) rfl X rfl 24 _ (0, 0) _ rX5 Tryd.underlying24 rfl info24) ?_) | (refine op_value_g rfl (run_load_row 24 (.tmp 16) rfl X rfl 24 _ (0, 0) _ rX5 Tryd.underlying24 rfl info24) ?_) | (refine op_skip rfl (run_store_row 24 (.tmp 5) (.tmp 128) rfl S rfl 24 (St.cs s (.slice oa s.out.length oc)) (St.cs so (.slice pa so.out.length pc)) rfl rS5 info24 rfl hone) ?_))
        try rw [hV]
        exact ⟨_, _, so, x, y ++ dd, told, _, ⟨rfl, rfl, rfl, rfl, rfl, rfl, rfl, rfl, rfl, rfl, rfl, rfl, rfl, rfl, rfl, rfl, rfl, rfl, rfl, rfl, rfl, rfl, rfl, rfl, rfl, rfl, rfl, rfl, rfl, rfl, rfl, rfl⟩, ⟨_, HM.out⟩, HF.out, hx8, HSR.out⟩
end Go.Proofs.YtkjghojdfjhhkaaDoor
