/- HandlerWhole, walked. -/
import Derived.Test.YtkjghojdfjhhkaaDoorM41
import Derived.Test.YtkjghojdfjhhkaaDoorM32
import Derived.Test.YtkjghojdfjhhkaaDoorM16
set_option linter.unusedSimpArgs false
set_option linter.unusedVariables false
namespace Go.Proofs.YtkjghojdfjhhkaaDoor
open Go.RowKit Go.Shelf Go.Cs
attribute [local go_sem] Oper.semAt_some
set_option linter.unusedVariables false
set_option linter.unusedSimpArgs false
def sOpen : St := ⟨1, 1, 0, 0, 0, true, false, [], 0, false, -1⟩
def sFar : St := ⟨1, 2, 0, 0, 0, true, false, [], 0, false, -1⟩
set_option maxHeartbeats 16000000 in
set_option maxRecDepth 100000 in
theorem whole_law (v : Value) (far : Bool) (D : List Dd) (w : World) (hD : ReadsD w v D) (hT : Tab w) :
    Calls Tryd.prog 4 #[.bool far, v] w fun e w' => e = .returned (.bool true) ∧ New w w' := by
  obtain ⟨lo, lc, rfl, hlc, hcm, hel⟩ := hD
  have HT := Lib.hid hT
  have HEL := Lib.hid hel
  clear hT hel
  obtain ⟨g, hg⟩ : ∃ z, decide (30 < D.length) = z := ⟨_, rfl⟩
  have hg' : decide ((30 : Int) < (D.length : Int)) = g := by rw [← hg]; exact decide_eq_decide.2 (by omega)
  have HG := Lib.hid hg
  clear hg
  go_enter Tryd.func4, Tryd.ntmps4
  cases g with
  | true =>
    go_wp2_with fail
    refine (wakesH_any _ HT.out).mono ?_
    rintro e W3 ⟨rfl, hk⟩
    go_wp2_with fail
    go_ret
    exact ⟨rfl, hk⟩
  | false =>
  have HL : Hid (D.length ≤ 30) := Lib.hid (by have := of_decide_eq_false HG.out; omega)
  clear HG
  go_upto_region 4 with fail
  clear hg'
  obtain ⟨W1, S, hW, hX, rS, hN1⟩ := one_row w #[.int .i64 1, .int .u8 1, .int .i64 0, .int .i64 0, .int .i64 0, .bool true, .bool false, .slice none 0 0, .int .u8 0, .bool false, .int .i64 (-1)] 24
  rw [hW, hX]
  have hSl : w.heap.size ≤ S := by omega
  clear hW hX
  cases far
  case false =>
    have hJ0 : WhJ w W1 S (.slice none 0 0) (.slice none 0 0) sOpen [] [] := ⟨_, rS, OwB.none _ _, OwB.none _ _, OwB.none _ _, (fun g h => by cases h), (fun g h => by cases h), (fun g h => by cases h), hSl, hN1⟩
    have hI0 : WInv 0 sOpen [] [] false false := ⟨rfl, rfl, by simp, fun _ => ⟨.inl rfl, rfl⟩, fun h => by cases h⟩
    have HJ := Lib.hid hJ0
    have HI := Lib.hid hI0
    clear hJ0 hI0 rS hN1 hSl
    go_wp2_with fail
    go_loopw [6, 7, 8, 9, 10] (fun iv yv tv ev cv wr => ∃ (n : Nat) (s : St) (x y : List Int) (told ended : Bool), n ≤ D.length ∧ tv = .bool told ∧ ev = .bool ended ∧ cv = .int .i64 n ∧ Hid (WhJ w wr S iv yv s x y) ∧ Hid (WInv n s x y told ended) ∧ Hid (In8 x) ∧ Hid (I64 s.send)) (fun _ _ _ _ cv _ => D.length - (intOf cv).toNat)
    case atStart => exact ⟨0, sOpen, [], [], false, false, Nat.zero_le _, rfl, rfl, rfl, HJ, HI, Lib.hid (fun z hz => by cases hz), Lib.hid ⟨by decide, by decide⟩⟩
    case round =>
      clear HJ HI
      obtain ⟨n, s, x, y, told, ended, hn, rfl, rfl, rfl, HJ, HI, HX, HS⟩ := hrel
      by_cases hnl : n < D.length
      case pos =>
        have hdn : decide ((n : Int) < (D.length : Int)) = true := decide_eq_true (by omega)
        obtain ⟨bk, ok, bv, rfl, hr, hb, hdk⟩ := HEL.out n hnl
        obtain ⟨d, hdd⟩ : ∃ d, D.getD n .no = d := ⟨_, rfl⟩
        rw [hdd] at hr hb hdk
        clear hdd
        obtain ⟨ba, bc, rfl⟩ := hb.slice
        have hNr : New w wr := by obtain ⟨_, _, _, _, _, _, _, _, _, h⟩ := HJ.out; exact h
        have e0 : wr.cell? ⟨bk, ok + n * 5, none⟩ = some (.int .i64 d.act) := hNr.cell (by have := hr 0 _ rfl; exact this) id
        have e1 : wr.cell? ⟨bk, ok + n * 5 + 1, none⟩ = some (.slice ba d.bytes.length bc) := hNr.cell (hr 1 _ rfl) id
        have e2 : wr.cell? ⟨bk, ok + n * 5 + 2, none⟩ = some (.int .i64 d.send) := hNr.cell (hr 2 _ rfl) id
        have e3 : wr.cell? ⟨bk, ok + n * 5 + 3, none⟩ = some (.int .i64 d.conn) := hNr.cell (hr 3 _ rfl) id
        have e4 : wr.cell? ⟨bk, ok + n * 5 + 4, none⟩ = some (.int .i64 d.cut) := hNr.cell (hr 4 _ rfl) id
        have HB := Lib.hid hb
        have HD := Lib.hid hdk
        clear hr hb hdk
        obtain ⟨V1, E, hW, hE, rE, hk⟩ := one_row wr #[.int .i64 d.act, .slice ba d.bytes.length bc, .int .i64 d.send, .int .i64 d.conn, .int .i64 d.cut] 44
        have HJ1 := Lib.hid (HJ.out.new hk)
        have hN1 := hNr.trans hk
        clear hk HJ hNr
        obtain ⟨g, hg⟩ : ∃ z, decide (100 < d.bytes.length) = z := ⟨_, rfl⟩
        have hg' : decide ((100 : Int) < (d.bytes.length : Int)) = g := by rw [← hg]; exact decide_eq_decide.2 (by omega)
        have HG := Lib.hid hg
        clear hg
        have k0 : V1.cell? ⟨E, 0, none⟩ = some (.int .i64 d.act) := cell_of_row _ _ 0 _ _ _ rE
        have k1 : V1.cell? ⟨E, 1, none⟩ = some (.slice ba d.bytes.length bc) := cell_of_row _ _ 1 _ _ _ rE
        go_upto_region 12 with fail
        clear hW hE e0 e1 e2 e3 e4
        cases g with
        | true =>
          go_wp2_with fail
          refine (wakesH_any _ (HT.out.new hN1)).mono ?_
          rintro e W3 ⟨rfl, hk⟩
          have hN3 := hN1.trans hk
          go_wp2_with fail
          go_ret
          exact ⟨rfl, hN3⟩
        | false =>
        have hbl : d.bytes.length ≤ 100 := by have := of_decide_eq_false HG.out; omega
        clear HG
        go_upto_block 2 with fail
        clear k0 k1 hg' hdn
        have HJD := HD.out
        have hl30 : n < 30 := by have := HL.out; omega
        refine piece (fun _ a' W' => After4 w S n (some ⟨bk, ok, none⟩) D.length lc (n : Int) (.bool false) (undef) (undef) (.slice (some ⟨bk, ok, none⟩) D.length lc) (.int .i64 (D.length : Int)) (.bool false) (undef) (.agg #[.int .i64 1, .int .u8 1, .int .i64 0, .int .i64 0, .int .i64 0, .bool true, .bool false, .slice none 0 0, .int .u8 0, .bool false, .int .i64 (-1)]) (.bool false) (undef) (undef) (undef) (undef) (undef) (undef) (undef) (undef) (undef) (undef) (undef) (undef) (undef) (undef) a' W') ?_ ?_
        · by_cases h0 : d.act = 0
          · exact write4 _ rfl V1 (d := d) rfl rfl rfl rfl rfl rfl rfl rfl rfl rfl rfl rfl rfl rfl rfl rfl rfl rfl rfl rfl rfl rfl rfl rfl rfl rfl rfl rfl rfl rfl rfl (congrArg (Value.int .i64) h0) HJ1.out HI.out hl30 rE HB.out hbl HJD HX.out HS.out
          by_cases h1 : d.act = 1
          · exact end4 _ rfl V1 (d := d) rfl rfl rfl rfl rfl rfl rfl rfl rfl rfl rfl rfl rfl rfl rfl rfl rfl rfl rfl rfl rfl rfl rfl rfl rfl rfl rfl rfl rfl rfl rfl (congrArg (Value.int .i64) h1) HJ1.out HI.out hl30 rE HB.out hbl HJD HX.out HS.out
          by_cases h2 : d.act = 2
          · exact window4 _ rfl V1 (d := d) rfl rfl rfl rfl rfl rfl rfl rfl rfl rfl rfl rfl rfl rfl rfl rfl rfl rfl rfl rfl rfl rfl rfl rfl rfl rfl rfl rfl rfl rfl rfl (congrArg (Value.int .i64) h2) HJ1.out HI.out hl30 rE HB.out hbl HJD HX.out HS.out
          · exact take4 _ rfl V1 (d := d) rfl rfl rfl rfl rfl rfl rfl rfl rfl rfl rfl rfl rfl rfl rfl rfl rfl rfl rfl rfl rfl rfl rfl rfl rfl rfl rfl rfl rfl rfl rfl rfl HJ1.out HI.out hl30 rE HB.out hbl HJD HX.out HS.out h0 h1 h2
        · rintro ⟨z, dfs⟩ W2 ⟨iv', yv', s', x', y', told', ended', ⟨hs, hd, hq1, hq5, hq6, hq7, hq8, hq9, hq10, hq0, hq2, hq3, hq20, hq21, hq22, hq23, hq24, hq25, hq26, hq220, hq221, hq222, hq223, hq224, hq225, hq226, hq227, hq228, hq229, hq230, hq231, hq232⟩, hJ', hI', hX', hS'⟩
          clear HJ1 HI HX HS HB HD HJD hbl rE hN1
          obtain ⟨ov, rS, hO, hi, hy, a1, a2, a3, hSl, hN2⟩ := hJ'
          obtain ⟨oa, oc, rfl⟩ := hO.slice
          obtain ⟨xa, xc, rfl⟩ := hi.slice
          obtain ⟨ya, yc, rfl⟩ := hy.slice
          simp only at hs hd hq1 hq5 hq6 hq7 hq8 hq9 hq10 hq0 hq2 hq3 hq20 hq21 hq22 hq23 hq24 hq25 hq26 hq220 hq221 hq222 hq223 hq224 hq225 hq226 hq227 hq228 hq229 hq230 hq231 hq232
          subst hd
          obtain ⟨u, rfl⟩ := lit233 z hs
          have hp1 : u 1 = .slice (some ⟨bk, ok, none⟩) D.length lc := hq1
          have hp5 : u 5 = .pointer (some ⟨S, 0, none⟩) := hq5
          have hp6 : u 6 = .slice xa x'.length xc := hq6
          have hp7 : u 7 = .slice ya y'.length yc := hq7
          have hp8 : u 8 = .bool told' := hq8
          have hp9 : u 9 = .bool ended' := hq9
          have hp10 : u 10 = .int .i64 (n : Int) := hq10
          have hp0 : u 0 = .bool false := hq0
          have hp2 : u 2 = undef := hq2
          have hp3 : u 3 = undef := hq3
          have hp20 : u 20 = .slice (some ⟨bk, ok, none⟩) D.length lc := hq20
          have hp21 : u 21 = .int .i64 (D.length : Int) := hq21
          have hp22 : u 22 = .bool false := hq22
          have hp23 : u 23 = undef := hq23
          have hp24 : u 24 = .agg #[.int .i64 1, .int .u8 1, .int .i64 0, .int .i64 0, .int .i64 0, .bool true, .bool false, .slice none 0 0, .int .u8 0, .bool false, .int .i64 (-1)] := hq24
          have hp25 : u 25 = .bool false := hq25
          have hp26 : u 26 = undef := hq26
          have hp220 : u 220 = undef := hq220
          have hp221 : u 221 = undef := hq221
          have hp222 : u 222 = undef := hq222
          have hp223 : u 223 = undef := hq223
          have hp224 : u 224 = undef := hq224
          have hp225 : u 225 = undef := hq225
          have hp226 : u 226 = undef := hq226
          have hp227 : u 227 = undef := hq227
          have hp228 : u 228 = undef := hq228
          have hp229 : u 229 = undef := hq229
          have hp230 : u 230 = undef := hq230
          have hp231 : u 231 = undef := hq231
          have hp232 : u 232 = undef := hq232
          rw [hp1, hp5, hp6, hp7, hp8, hp9, hp10, hp0, hp2, hp3, hp20, hp21, hp22, hp23, hp24, hp25, hp26, hp220, hp221, hp222, hp223, hp224, hp225, hp226, hp227, hp228, hp229, hp230, hp231, hp232]
          clear hp1 hq1 hp5 hq5 hp6 hq6 hp7 hq7 hp8 hq8 hp9 hq9 hp10 hq10 hp0 hq0 hp2 hq2 hp3 hq3 hp20 hq20 hp21 hq21 hp22 hq22 hp23 hq23 hp24 hq24 hp25 hq25 hp26 hq26 hp220 hq220 hp221 hq221 hp222 hq222 hp223 hq223 hp224 hq224 hp225 hq225 hp226 hq226 hp227 hq227 hp228 hq228 hp229 hq229 hp230 hq230 hp231 hq231 hp232 hq232 hs
          have hcx := hi.reads
          have hcy := hy.reads
          have hco := hO.reads
          have HJ2 : Hid (WhJ w W2 S (.slice xa x'.length xc) (.slice ya y'.length yc) s' x' y') := Lib.hid ⟨_, rS, hO, hi, hy, a1, a2, a3, hSl, hN2⟩
          have HI2 := Lib.hid hI'
          have HX2 := Lib.hid hX'
          have HS2 := Lib.hid hS'
          have hall := hI'.all
          have hoff : ended' = true → told' = true ∧ s'.out = [] := fun h => ⟨(hI'.off h).2.1, (hI'.off h).2.2⟩
          have HALL := Lib.hid hall
          have HOFF := Lib.hid hoff
          clear hO hi hy a1 a2 a3 hSl hN2 hI' hX' hS' hall hoff
          go_upto_region 38 with fail
          refine piece (fun _ a' W' => (a'.tmps.size = 233 ∧ a'.defers = [] ∧ a'.tmps.getD 0 undef = .bool false ∧ a'.tmps.getD 2 undef = undef ∧ a'.tmps.getD 3 undef = undef ∧ a'.tmps.getD 20 undef = .slice (some ⟨bk, ok, none⟩) D.length lc ∧ a'.tmps.getD 21 undef = .int .i64 (D.length : Int) ∧ a'.tmps.getD 22 undef = .bool false ∧ a'.tmps.getD 23 undef = undef ∧ a'.tmps.getD 24 undef = .agg #[.int .i64 1, .int .u8 1, .int .i64 0, .int .i64 0, .int .i64 0, .bool true, .bool false, .slice none 0 0, .int .u8 0, .bool false, .int .i64 (-1)] ∧ a'.tmps.getD 25 undef = .bool false ∧ a'.tmps.getD 26 undef = undef ∧ a'.tmps.getD 220 undef = undef ∧ a'.tmps.getD 221 undef = undef ∧ a'.tmps.getD 222 undef = undef ∧ a'.tmps.getD 223 undef = undef ∧ a'.tmps.getD 224 undef = undef ∧ a'.tmps.getD 225 undef = undef ∧ a'.tmps.getD 226 undef = undef ∧ a'.tmps.getD 227 undef = undef ∧ a'.tmps.getD 228 undef = undef ∧ a'.tmps.getD 229 undef = undef ∧ a'.tmps.getD 230 undef = undef ∧ a'.tmps.getD 231 undef = undef ∧ a'.tmps.getD 232 undef = undef ∧ a'.tmps.getD 1 undef = .slice (some ⟨bk, ok, none⟩) D.length lc ∧ a'.tmps.getD 5 undef = .pointer (some ⟨S, 0, none⟩) ∧ a'.tmps.getD 6 undef = .slice xa x'.length xc ∧ a'.tmps.getD 7 undef = .slice ya y'.length yc ∧ a'.tmps.getD 8 undef = .bool told' ∧ a'.tmps.getD 9 undef = .bool ended' ∧ a'.tmps.getD 10 undef = .int .i64 (n : Int) ∧ a'.tmps.getD 219 undef = .bool false) ∧ New W2 W') (check4 _ rfl W2 (s := s') rfl rfl rfl rfl rfl rfl rfl rfl rfl rfl rfl rfl rfl rfl rfl rfl rfl rfl rfl rfl rfl rfl rfl rfl rfl rfl rfl rfl rfl rfl rS hcx hcy hco HALL.out HOFF.out) ?_
          rintro ⟨z, dfs⟩ W3 ⟨⟨hs, hd, hq0, hq2, hq3, hq20, hq21, hq22, hq23, hq24, hq25, hq26, hq220, hq221, hq222, hq223, hq224, hq225, hq226, hq227, hq228, hq229, hq230, hq231, hq232, hq1, hq5, hq6, hq7, hq8, hq9, hq10, hq219⟩, hk⟩
          simp only at hs hd hq0 hq2 hq3 hq20 hq21 hq22 hq23 hq24 hq25 hq26 hq220 hq221 hq222 hq223 hq224 hq225 hq226 hq227 hq228 hq229 hq230 hq231 hq232 hq1 hq5 hq6 hq7 hq8 hq9 hq10 hq219
          subst hd
          obtain ⟨u, rfl⟩ := lit233 z hs
          have hp0 : u 0 = .bool false := hq0
          have hp2 : u 2 = undef := hq2
          have hp3 : u 3 = undef := hq3
          have hp20 : u 20 = .slice (some ⟨bk, ok, none⟩) D.length lc := hq20
          have hp21 : u 21 = .int .i64 (D.length : Int) := hq21
          have hp22 : u 22 = .bool false := hq22
          have hp23 : u 23 = undef := hq23
          have hp24 : u 24 = .agg #[.int .i64 1, .int .u8 1, .int .i64 0, .int .i64 0, .int .i64 0, .bool true, .bool false, .slice none 0 0, .int .u8 0, .bool false, .int .i64 (-1)] := hq24
          have hp25 : u 25 = .bool false := hq25
          have hp26 : u 26 = undef := hq26
          have hp220 : u 220 = undef := hq220
          have hp221 : u 221 = undef := hq221
          have hp222 : u 222 = undef := hq222
          have hp223 : u 223 = undef := hq223
          have hp224 : u 224 = undef := hq224
          have hp225 : u 225 = undef := hq225
          have hp226 : u 226 = undef := hq226
          have hp227 : u 227 = undef := hq227
          have hp228 : u 228 = undef := hq228
          have hp229 : u 229 = undef := hq229
          have hp230 : u 230 = undef := hq230
          have hp231 : u 231 = undef := hq231
          have hp232 : u 232 = undef := hq232
          have hp1 : u 1 = .slice (some ⟨bk, ok, none⟩) D.length lc := hq1
          have hp5 : u 5 = .pointer (some ⟨S, 0, none⟩) := hq5
          have hp6 : u 6 = .slice xa x'.length xc := hq6
          have hp7 : u 7 = .slice ya y'.length yc := hq7
          have hp8 : u 8 = .bool told' := hq8
          have hp9 : u 9 = .bool ended' := hq9
          have hp10 : u 10 = .int .i64 (n : Int) := hq10
          have hp219 : u 219 = .bool false := hq219
          rw [hp0, hp2, hp3, hp20, hp21, hp22, hp23, hp24, hp25, hp26, hp220, hp221, hp222, hp223, hp224, hp225, hp226, hp227, hp228, hp229, hp230, hp231, hp232, hp1, hp5, hp6, hp7, hp8, hp9, hp10, hp219]
          clear hp0 hq0 hp2 hq2 hp3 hq3 hp20 hq20 hp21 hq21 hp22 hq22 hp23 hq23 hp24 hq24 hp25 hq25 hp26 hq26 hp220 hq220 hp221 hq221 hp222 hq222 hp223 hq223 hp224 hq224 hp225 hq225 hp226 hq226 hp227 hq227 hp228 hq228 hp229 hq229 hp230 hq230 hp231 hq231 hp232 hq232 hp1 hq1 hp5 hq5 hp6 hq6 hp7 hq7 hp8 hq8 hp9 hq9 hp10 hq10 hp219 hq219 hs
          have HJ3 := Lib.hid (HJ2.out.new hk)
          clear hk HJ2 rS hcx hcy hco HALL HOFF
          go_wp2_with fail
          go_roundw
          case rel => exact ⟨n + 1, s', x', y', told', ended', by omega, rfl, rfl, by go_num, HJ3, HI2, HX2, HS2⟩
          case measure => simp [intOf]; omega
      case neg =>
        have hdn : decide ((n : Int) < (D.length : Int)) = false := decide_eq_false (by omega)
        obtain ⟨ov, rS, -, -, -, -, -, -, -, hN2⟩ := HJ.out
        have k1 : wr.cell? ⟨S, 1, none⟩ = some (.int .u8 s.state) := cell_of_row _ _ 1 _ _ _ rS
        have hst := HI.out.state
        obtain ⟨zz, hzz⟩ : ∃ z, s.state = z := ⟨_, rfl⟩
        rw [hzz] at k1 hst
        obtain ⟨d3, h3⟩ : ∃ q, (zz == 3) = q := ⟨_, rfl⟩
        obtain ⟨d4, h4⟩ : ∃ q, (zz == 4) = q := ⟨_, rfl⟩
        have h3' : decide (zz = 3) = d3 := h3
        have h4' : decide (zz = 4) = d4 := h4
        rw [h3', h4'] at hst
        clear hzz rS HJ HI HX HS
        subst hst
        cases d3 <;> cases d4
        all_goals
          go_wp2_with fail
          refine (wakesH_any _ (HT.out.new hN2)).mono ?_
          rintro e W3 ⟨rfl, hk⟩
          have hN3 := hN2.trans hk
          go_wp2_with fail
          go_ret
          exact ⟨rfl, hN3⟩
  case true =>
    have q1 : W1.cell? ⟨S, 1, none⟩ = some (.int .u8 1) := cell_of_row _ _ 1 _ _ _ rS
    have fz := frozen_row (i := 1) rS
    go_upto_region 6 with fail
    have rS2 : (W1.setCell ⟨S, 1, none⟩ (.int .u8 2)).heap[S]? = some (.cells (St.cs sFar (.slice none 0 0)).toArray 24 (0, 0)) := cell_stored (i := 1) (s := sOpen) (ov := .slice none 0 0) rS rfl
    have hN2 : New w (W1.setCell ⟨S, 1, none⟩ (.int .u8 2)) := hN1.setCell (p := ⟨S, 1, none⟩) (.inl hSl) _
    obtain ⟨W2, hW2⟩ : ∃ V, W1.setCell ⟨S, 1, none⟩ (.int .u8 2) = V := ⟨_, rfl⟩
    rw [hW2] at rS2 hN2 ⊢
    clear hW2 q1 fz rS hN1
    have rS := rS2
    have hN1 := hN2
    clear rS2 hN2
    have hJ0 : WhJ w W2 S (.slice none 0 0) (.slice none 0 0) sFar [] [] := ⟨_, rS, OwB.none _ _, OwB.none _ _, OwB.none _ _, (fun g h => by cases h), (fun g h => by cases h), (fun g h => by cases h), hSl, hN1⟩
    have hI0 : WInv 0 sFar [] [] false false := ⟨rfl, rfl, by simp, fun _ => ⟨.inr rfl, rfl⟩, fun h => by cases h⟩
    have HJ := Lib.hid hJ0
    have HI := Lib.hid hI0
    clear hJ0 hI0 rS hN1 hSl
    go_wp2_with fail
    go_loopw [6, 7, 8, 9, 10] (fun iv yv tv ev cv wr => ∃ (n : Nat) (s : St) (x y : List Int) (told ended : Bool), n ≤ D.length ∧ tv = .bool told ∧ ev = .bool ended ∧ cv = .int .i64 n ∧ Hid (WhJ w wr S iv yv s x y) ∧ Hid (WInv n s x y told ended) ∧ Hid (In8 x) ∧ Hid (I64 s.send)) (fun _ _ _ _ cv _ => D.length - (intOf cv).toNat)
    case atStart => exact ⟨0, sFar, [], [], false, false, Nat.zero_le _, rfl, rfl, rfl, HJ, HI, Lib.hid (fun z hz => by cases hz), Lib.hid ⟨by decide, by decide⟩⟩
    case round =>
      clear HJ HI
      obtain ⟨n, s, x, y, told, ended, hn, rfl, rfl, rfl, HJ, HI, HX, HS⟩ := hrel
      by_cases hnl : n < D.length
      case pos =>
        have hdn : decide ((n : Int) < (D.length : Int)) = true := decide_eq_true (by omega)
        obtain ⟨bk, ok, bv, rfl, hr, hb, hdk⟩ := HEL.out n hnl
        obtain ⟨d, hdd⟩ : ∃ d, D.getD n .no = d := ⟨_, rfl⟩
        rw [hdd] at hr hb hdk
        clear hdd
        obtain ⟨ba, bc, rfl⟩ := hb.slice
        have hNr : New w wr := by obtain ⟨_, _, _, _, _, _, _, _, _, h⟩ := HJ.out; exact h
        have e0 : wr.cell? ⟨bk, ok + n * 5, none⟩ = some (.int .i64 d.act) := hNr.cell (by have := hr 0 _ rfl; exact this) id
        have e1 : wr.cell? ⟨bk, ok + n * 5 + 1, none⟩ = some (.slice ba d.bytes.length bc) := hNr.cell (hr 1 _ rfl) id
        have e2 : wr.cell? ⟨bk, ok + n * 5 + 2, none⟩ = some (.int .i64 d.send) := hNr.cell (hr 2 _ rfl) id
        have e3 : wr.cell? ⟨bk, ok + n * 5 + 3, none⟩ = some (.int .i64 d.conn) := hNr.cell (hr 3 _ rfl) id
        have e4 : wr.cell? ⟨bk, ok + n * 5 + 4, none⟩ = some (.int .i64 d.cut) := hNr.cell (hr 4 _ rfl) id
        have HB := Lib.hid hb
        have HD := Lib.hid hdk
        clear hr hb hdk
        obtain ⟨V1, E, hW, hE, rE, hk⟩ := one_row wr #[.int .i64 d.act, .slice ba d.bytes.length bc, .int .i64 d.send, .int .i64 d.conn, .int .i64 d.cut] 44
        have HJ1 := Lib.hid (HJ.out.new hk)
        have hN1 := hNr.trans hk
        clear hk HJ hNr
        obtain ⟨g, hg⟩ : ∃ z, decide (100 < d.bytes.length) = z := ⟨_, rfl⟩
        have hg' : decide ((100 : Int) < (d.bytes.length : Int)) = g := by rw [← hg]; exact decide_eq_decide.2 (by omega)
        have HG := Lib.hid hg
        clear hg
        have k0 : V1.cell? ⟨E, 0, none⟩ = some (.int .i64 d.act) := cell_of_row _ _ 0 _ _ _ rE
        have k1 : V1.cell? ⟨E, 1, none⟩ = some (.slice ba d.bytes.length bc) := cell_of_row _ _ 1 _ _ _ rE
        go_upto_region 12 with fail
        clear hW hE e0 e1 e2 e3 e4
        cases g with
        | true =>
          go_wp2_with fail
          refine (wakesH_any _ (HT.out.new hN1)).mono ?_
          rintro e W3 ⟨rfl, hk⟩
          have hN3 := hN1.trans hk
          go_wp2_with fail
          go_ret
          exact ⟨rfl, hN3⟩
        | false =>
        have hbl : d.bytes.length ≤ 100 := by have := of_decide_eq_false HG.out; omega
        clear HG
        go_upto_block 2 with fail
        clear k0 k1 hg' hdn
        have HJD := HD.out
        have hl30 : n < 30 := by have := HL.out; omega
        refine piece (fun _ a' W' => After4 w S n (some ⟨bk, ok, none⟩) D.length lc (n : Int) (.bool true) (undef) (undef) (.slice (some ⟨bk, ok, none⟩) D.length lc) (.int .i64 (D.length : Int)) (.bool false) (undef) (.agg #[.int .i64 1, .int .u8 1, .int .i64 0, .int .i64 0, .int .i64 0, .bool true, .bool false, .slice none 0 0, .int .u8 0, .bool false, .int .i64 (-1)]) (.bool true) (.pointer (some ⟨S, 1, none⟩)) (undef) (undef) (undef) (undef) (undef) (undef) (undef) (undef) (undef) (undef) (undef) (undef) (undef) a' W') ?_ ?_
        · by_cases h0 : d.act = 0
          · exact write4 _ rfl V1 (d := d) rfl rfl rfl rfl rfl rfl rfl rfl rfl rfl rfl rfl rfl rfl rfl rfl rfl rfl rfl rfl rfl rfl rfl rfl rfl rfl rfl rfl rfl rfl rfl (congrArg (Value.int .i64) h0) HJ1.out HI.out hl30 rE HB.out hbl HJD HX.out HS.out
          by_cases h1 : d.act = 1
          · exact end4 _ rfl V1 (d := d) rfl rfl rfl rfl rfl rfl rfl rfl rfl rfl rfl rfl rfl rfl rfl rfl rfl rfl rfl rfl rfl rfl rfl rfl rfl rfl rfl rfl rfl rfl rfl (congrArg (Value.int .i64) h1) HJ1.out HI.out hl30 rE HB.out hbl HJD HX.out HS.out
          by_cases h2 : d.act = 2
          · exact window4 _ rfl V1 (d := d) rfl rfl rfl rfl rfl rfl rfl rfl rfl rfl rfl rfl rfl rfl rfl rfl rfl rfl rfl rfl rfl rfl rfl rfl rfl rfl rfl rfl rfl rfl rfl (congrArg (Value.int .i64) h2) HJ1.out HI.out hl30 rE HB.out hbl HJD HX.out HS.out
          · exact take4 _ rfl V1 (d := d) rfl rfl rfl rfl rfl rfl rfl rfl rfl rfl rfl rfl rfl rfl rfl rfl rfl rfl rfl rfl rfl rfl rfl rfl rfl rfl rfl rfl rfl rfl rfl rfl HJ1.out HI.out hl30 rE HB.out hbl HJD HX.out HS.out h0 h1 h2
        · rintro ⟨z, dfs⟩ W2 ⟨iv', yv', s', x', y', told', ended', ⟨hs, hd, hq1, hq5, hq6, hq7, hq8, hq9, hq10, hq0, hq2, hq3, hq20, hq21, hq22, hq23, hq24, hq25, hq26, hq220, hq221, hq222, hq223, hq224, hq225, hq226, hq227, hq228, hq229, hq230, hq231, hq232⟩, hJ', hI', hX', hS'⟩
          clear HJ1 HI HX HS HB HD HJD hbl rE hN1
          obtain ⟨ov, rS, hO, hi, hy, a1, a2, a3, hSl, hN2⟩ := hJ'
          obtain ⟨oa, oc, rfl⟩ := hO.slice
          obtain ⟨xa, xc, rfl⟩ := hi.slice
          obtain ⟨ya, yc, rfl⟩ := hy.slice
          simp only at hs hd hq1 hq5 hq6 hq7 hq8 hq9 hq10 hq0 hq2 hq3 hq20 hq21 hq22 hq23 hq24 hq25 hq26 hq220 hq221 hq222 hq223 hq224 hq225 hq226 hq227 hq228 hq229 hq230 hq231 hq232
          subst hd
          obtain ⟨u, rfl⟩ := lit233 z hs
          have hp1 : u 1 = .slice (some ⟨bk, ok, none⟩) D.length lc := hq1
          have hp5 : u 5 = .pointer (some ⟨S, 0, none⟩) := hq5
          have hp6 : u 6 = .slice xa x'.length xc := hq6
          have hp7 : u 7 = .slice ya y'.length yc := hq7
          have hp8 : u 8 = .bool told' := hq8
          have hp9 : u 9 = .bool ended' := hq9
          have hp10 : u 10 = .int .i64 (n : Int) := hq10
          have hp0 : u 0 = .bool true := hq0
          have hp2 : u 2 = undef := hq2
          have hp3 : u 3 = undef := hq3
          have hp20 : u 20 = .slice (some ⟨bk, ok, none⟩) D.length lc := hq20
          have hp21 : u 21 = .int .i64 (D.length : Int) := hq21
          have hp22 : u 22 = .bool false := hq22
          have hp23 : u 23 = undef := hq23
          have hp24 : u 24 = .agg #[.int .i64 1, .int .u8 1, .int .i64 0, .int .i64 0, .int .i64 0, .bool true, .bool false, .slice none 0 0, .int .u8 0, .bool false, .int .i64 (-1)] := hq24
          have hp25 : u 25 = .bool true := hq25
          have hp26 : u 26 = .pointer (some ⟨S, 1, none⟩) := hq26
          have hp220 : u 220 = undef := hq220
          have hp221 : u 221 = undef := hq221
          have hp222 : u 222 = undef := hq222
          have hp223 : u 223 = undef := hq223
          have hp224 : u 224 = undef := hq224
          have hp225 : u 225 = undef := hq225
          have hp226 : u 226 = undef := hq226
          have hp227 : u 227 = undef := hq227
          have hp228 : u 228 = undef := hq228
          have hp229 : u 229 = undef := hq229
          have hp230 : u 230 = undef := hq230
          have hp231 : u 231 = undef := hq231
          have hp232 : u 232 = undef := hq232
          rw [hp1, hp5, hp6, hp7, hp8, hp9, hp10, hp0, hp2, hp3, hp20, hp21, hp22, hp23, hp24, hp25, hp26, hp220, hp221, hp222, hp223, hp224, hp225, hp226, hp227, hp228, hp229, hp230, hp231, hp232]
          clear hp1 hq1 hp5 hq5 hp6 hq6 hp7 hq7 hp8 hq8 hp9 hq9 hp10 hq10 hp0 hq0 hp2 hq2 hp3 hq3 hp20 hq20 hp21 hq21 hp22 hq22 hp23 hq23 hp24 hq24 hp25 hq25 hp26 hq26 hp220 hq220 hp221 hq221 hp222 hq222 hp223 hq223 hp224 hq224 hp225 hq225 hp226 hq226 hp227 hq227 hp228 hq228 hp229 hq229 hp230 hq230 hp231 hq231 hp232 hq232 hs
          have hcx := hi.reads
          have hcy := hy.reads
          have hco := hO.reads
          have HJ2 : Hid (WhJ w W2 S (.slice xa x'.length xc) (.slice ya y'.length yc) s' x' y') := Lib.hid ⟨_, rS, hO, hi, hy, a1, a2, a3, hSl, hN2⟩
          have HI2 := Lib.hid hI'
          have HX2 := Lib.hid hX'
          have HS2 := Lib.hid hS'
          have hall := hI'.all
          have hoff : ended' = true → told' = true ∧ s'.out = [] := fun h => ⟨(hI'.off h).2.1, (hI'.off h).2.2⟩
          have HALL := Lib.hid hall
          have HOFF := Lib.hid hoff
          clear hO hi hy a1 a2 a3 hSl hN2 hI' hX' hS' hall hoff
          go_upto_region 38 with fail
          refine piece (fun _ a' W' => (a'.tmps.size = 233 ∧ a'.defers = [] ∧ a'.tmps.getD 0 undef = .bool true ∧ a'.tmps.getD 2 undef = undef ∧ a'.tmps.getD 3 undef = undef ∧ a'.tmps.getD 20 undef = .slice (some ⟨bk, ok, none⟩) D.length lc ∧ a'.tmps.getD 21 undef = .int .i64 (D.length : Int) ∧ a'.tmps.getD 22 undef = .bool false ∧ a'.tmps.getD 23 undef = undef ∧ a'.tmps.getD 24 undef = .agg #[.int .i64 1, .int .u8 1, .int .i64 0, .int .i64 0, .int .i64 0, .bool true, .bool false, .slice none 0 0, .int .u8 0, .bool false, .int .i64 (-1)] ∧ a'.tmps.getD 25 undef = .bool true ∧ a'.tmps.getD 26 undef = .pointer (some ⟨S, 1, none⟩) ∧ a'.tmps.getD 220 undef = undef ∧ a'.tmps.getD 221 undef = undef ∧ a'.tmps.getD 222 undef = undef ∧ a'.tmps.getD 223 undef = undef ∧ a'.tmps.getD 224 undef = undef ∧ a'.tmps.getD 225 undef = undef ∧ a'.tmps.getD 226 undef = undef ∧ a'.tmps.getD 227 undef = undef ∧ a'.tmps.getD 228 undef = undef ∧ a'.tmps.getD 229 undef = undef ∧ a'.tmps.getD 230 undef = undef ∧ a'.tmps.getD 231 undef = undef ∧ a'.tmps.getD 232 undef = undef ∧ a'.tmps.getD 1 undef = .slice (some ⟨bk, ok, none⟩) D.length lc ∧ a'.tmps.getD 5 undef = .pointer (some ⟨S, 0, none⟩) ∧ a'.tmps.getD 6 undef = .slice xa x'.length xc ∧ a'.tmps.getD 7 undef = .slice ya y'.length yc ∧ a'.tmps.getD 8 undef = .bool told' ∧ a'.tmps.getD 9 undef = .bool ended' ∧ a'.tmps.getD 10 undef = .int .i64 (n : Int) ∧ a'.tmps.getD 219 undef = .bool false) ∧ New W2 W') (check4 _ rfl W2 (s := s') rfl rfl rfl rfl rfl rfl rfl rfl rfl rfl rfl rfl rfl rfl rfl rfl rfl rfl rfl rfl rfl rfl rfl rfl rfl rfl rfl rfl rfl rfl rS hcx hcy hco HALL.out HOFF.out) ?_
          rintro ⟨z, dfs⟩ W3 ⟨⟨hs, hd, hq0, hq2, hq3, hq20, hq21, hq22, hq23, hq24, hq25, hq26, hq220, hq221, hq222, hq223, hq224, hq225, hq226, hq227, hq228, hq229, hq230, hq231, hq232, hq1, hq5, hq6, hq7, hq8, hq9, hq10, hq219⟩, hk⟩
          simp only at hs hd hq0 hq2 hq3 hq20 hq21 hq22 hq23 hq24 hq25 hq26 hq220 hq221 hq222 hq223 hq224 hq225 hq226 hq227 hq228 hq229 hq230 hq231 hq232 hq1 hq5 hq6 hq7 hq8 hq9 hq10 hq219
          subst hd
          obtain ⟨u, rfl⟩ := lit233 z hs
          have hp0 : u 0 = .bool true := hq0
          have hp2 : u 2 = undef := hq2
          have hp3 : u 3 = undef := hq3
          have hp20 : u 20 = .slice (some ⟨bk, ok, none⟩) D.length lc := hq20
          have hp21 : u 21 = .int .i64 (D.length : Int) := hq21
          have hp22 : u 22 = .bool false := hq22
          have hp23 : u 23 = undef := hq23
          have hp24 : u 24 = .agg #[.int .i64 1, .int .u8 1, .int .i64 0, .int .i64 0, .int .i64 0, .bool true, .bool false, .slice none 0 0, .int .u8 0, .bool false, .int .i64 (-1)] := hq24
          have hp25 : u 25 = .bool true := hq25
          have hp26 : u 26 = .pointer (some ⟨S, 1, none⟩) := hq26
          have hp220 : u 220 = undef := hq220
          have hp221 : u 221 = undef := hq221
          have hp222 : u 222 = undef := hq222
          have hp223 : u 223 = undef := hq223
          have hp224 : u 224 = undef := hq224
          have hp225 : u 225 = undef := hq225
          have hp226 : u 226 = undef := hq226
          have hp227 : u 227 = undef := hq227
          have hp228 : u 228 = undef := hq228
          have hp229 : u 229 = undef := hq229
          have hp230 : u 230 = undef := hq230
          have hp231 : u 231 = undef := hq231
          have hp232 : u 232 = undef := hq232
          have hp1 : u 1 = .slice (some ⟨bk, ok, none⟩) D.length lc := hq1
          have hp5 : u 5 = .pointer (some ⟨S, 0, none⟩) := hq5
          have hp6 : u 6 = .slice xa x'.length xc := hq6
          have hp7 : u 7 = .slice ya y'.length yc := hq7
          have hp8 : u 8 = .bool told' := hq8
          have hp9 : u 9 = .bool ended' := hq9
          have hp10 : u 10 = .int .i64 (n : Int) := hq10
          have hp219 : u 219 = .bool false := hq219
          rw [hp0, hp2, hp3, hp20, hp21, hp22, hp23, hp24, hp25, hp26, hp220, hp221, hp222, hp223, hp224, hp225, hp226, hp227, hp228, hp229, hp230, hp231, hp232, hp1, hp5, hp6, hp7, hp8, hp9, hp10, hp219]
          clear hp0 hq0 hp2 hq2 hp3 hq3 hp20 hq20 hp21 hq21 hp22 hq22 hp23 hq23 hp24 hq24 hp25 hq25 hp26 hq26 hp220 hq220 hp221 hq221 hp222 hq222 hp223 hq223 hp224 hq224 hp225 hq225 hp226 hq226 hp227 hq227 hp228 hq228 hp229 hq229 hp230 hq230 hp231 hq231 hp232 hq232 hp1 hq1 hp5 hq5 hp6 hq6 hp7 hq7 hp8 hq8 hp9 hq9 hp10 hq10 hp219 hq219 hs
          have HJ3 := Lib.hid (HJ2.out.new hk)
          clear hk HJ2 rS hcx hcy hco HALL HOFF
          go_wp2_with fail
          go_roundw
          case rel => exact ⟨n + 1, s', x', y', told', ended', by omega, rfl, rfl, by go_num, HJ3, HI2, HX2, HS2⟩
          case measure => simp [intOf]; omega
      case neg =>
        have hdn : decide ((n : Int) < (D.length : Int)) = false := decide_eq_false (by omega)
        obtain ⟨ov, rS, -, -, -, -, -, -, -, hN2⟩ := HJ.out
        have k1 : wr.cell? ⟨S, 1, none⟩ = some (.int .u8 s.state) := cell_of_row _ _ 1 _ _ _ rS
        have hst := HI.out.state
        obtain ⟨zz, hzz⟩ : ∃ z, s.state = z := ⟨_, rfl⟩
        rw [hzz] at k1 hst
        obtain ⟨d3, h3⟩ : ∃ q, (zz == 3) = q := ⟨_, rfl⟩
        obtain ⟨d4, h4⟩ : ∃ q, (zz == 4) = q := ⟨_, rfl⟩
        have h3' : decide (zz = 3) = d3 := h3
        have h4' : decide (zz = 4) = d4 := h4
        rw [h3', h4'] at hst
        clear hzz rS HJ HI HX HS
        subst hst
        cases d3 <;> cases d4
        all_goals
          go_wp2_with fail
          refine (wakesH_any _ (HT.out.new hN2)).mono ?_
          rintro e W3 ⟨rfl, hk⟩
          have hN3 := hN2.trans hk
          go_wp2_with fail
          go_ret
          exact ⟨rfl, hN3⟩
end Go.Proofs.YtkjghojdfjhhkaaDoor
