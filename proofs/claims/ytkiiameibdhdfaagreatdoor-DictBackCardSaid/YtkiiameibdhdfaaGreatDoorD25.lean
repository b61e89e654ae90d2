/- Dictionaries that are too great (the document). -/
import Derived.Test.YtkiiameibdhdfaaGreatDoorD24
import Derived.Test.YtkiiameibdhdfaaGreatDoorD07
import Derived.Test.YtkiiameibdhdfaaGreatDoorD12
set_option linter.unusedSimpArgs false
set_option linter.unusedVariables false
namespace Go.Proofs.YtkiiameibdhdfaaGreatDoor
open Go.RowKit Go.Shelf Go.Cs
attribute [local go_sem] Oper.semAt_some
set_option linter.unusedVariables false
set_option linter.unusedSimpArgs false
set_option maxHeartbeats 8000000 in
set_option maxRecDepth 100000 in
theorem great13 {τ : Bool} (v : Value) (d : List Bare.Mem) (w : World) (h : RdD τ w v d) (hS : Str47 d) :
    Calls Tryz.prog 24 #[v] w fun e w' => ∃ g, e = .returned (.bool g) ∧ New w w' ∧ (g = false → dN d d.length ≤ 40 ∧ dB d d.length ≤ 2000) := by
  obtain ⟨ao, cap, rfl⟩ := h.slice
  have HD := Lib.hid h
  have HS := Lib.hid hS
  have hlen : d.length ≤ 281474976710656 := by obtain ⟨_, _, h1, _⟩ := h; exact h1.1
  clear h hS
  obtain ⟨nd, hn⟩ : ∃ n, d.length = n := ⟨_, rfl⟩
  have Hn := Lib.hid hn
  rw [hn] at hlen HD ⊢
  clear hn
  have hN0 : New w w := Mods.refl _ _
  have hz : Hid (nd ≤ 40 → nd = dN d 0 ∧ 0 = dB d 0) := Lib.hid fun _ => ⟨by unfold dN sumTo; rw [Hn.out]; rfl, rfl⟩
  go_enter Tryz.func24, Tryz.ntmps24
  go_wp2_with fail
  go_loopw [3, 4, 5] (fun t3 t4 t5 wr => ∃ i n b : Nat, i ≤ nd ∧ t3 = .int .i64 n ∧ t4 = .int .i64 b ∧ t5 = .int .i64 i ∧ n ≤ 2251799813685248 ∧ b ≤ 144115188075855872 ∧ Hid (n ≤ 40 → n = dN d i ∧ b = dB d i) ∧ New w wr) (fun _ _ t _ => nd - (intOf t).toNat)
  case atStart => exact ⟨0, nd, 0, Nat.zero_le _, rfl, rfl, rfl, by omega, by omega, hz, hN0⟩
  case round =>
    clear hN0 hz
    obtain ⟨i, n, b, hi, rfl, rfl, rfl, hn51, hb55, hE, hN⟩ := hrel
    by_cases hlt : i < nd
    · have hkd : decide ((i : Int) < (nd : Int)) = true := decide_eq_true (by omega)
      by_cases hn40 : n ≤ 40
      · have hkd2 : decide ((n : Int) ≤ 40) = true := decide_eq_true (by omega)
        have hld : i < d.length := by rw [Hn.out]; exact hlt
        obtain ⟨hE1, hE2⟩ := hE.out hn40
        have hBb := dB_le HS.out (show i ≤ d.length by omega)
        have hNn : n = d.length + sumTo (fun j => mN (d.getD j noM)) i := hE1
        have hb40 : b ≤ 2 * S47 * 40 := by
          rw [hE2]
          refine Nat.le_trans hBb (Nat.mul_le_mul_left _ (by omega))
        obtain ⟨hsk, hsp, hsx⟩ := HS.out i hld
        have hd := HD.out.new hN
        obtain ⟨iv, pv, h1, -, h3⟩ := hd
        obtain ⟨b1, o1, rfl, hrow⟩ := h1.at.2.2 i hlt
        obtain ⟨hi', hp⟩ := h3 i hld
        obtain ⟨ia, ic, hie⟩ := hi'.slice
        obtain ⟨pa, pc, hpe⟩ := hp.slice
        rw [hie] at hrow hi'
        rw [hpe] at hrow hp
        have HT1 : Hid (dN d (i + 1) = dN d i + mN (d.getD i noM)) := Lib.hid (Nat.add_assoc _ _ _).symm
        have HT2 : Hid (dB d (i + 1) = dB d i + mB (d.getD i noM)) := Lib.hid rfl
        obtain ⟨m, hm⟩ : ∃ m, d.getD i noM = m := ⟨_, rfl⟩
        rw [hm] at hrow hi' hp hsk hsp hsx HT1 HT2
        have HI := Lib.hid hi'
        have HP := Lib.hid hp
        have hsk2 : (tx m.key).size ≤ 140737488355328 := by rw [tx_size]; exact hsk
        have hkl : (tx m.key).size = m.key.length := tx_size _
        obtain ⟨K, hK⟩ : ∃ K, tx m.key = K := ⟨_, rfl⟩
        unfold mcs at hrow
        rw [hK] at hrow hsk2 hkl
        obtain ⟨c0, c1, c2, c3⟩ := cells4 hrow
        obtain ⟨li, hli⟩ : ∃ l, m.items.length = l := ⟨_, rfl⟩
        obtain ⟨lp, hlp⟩ : ∃ l, m.params.length = l := ⟨_, rfl⟩
        have hli48 : li ≤ 281474976710656 := by obtain ⟨_, q, _⟩ := hi'; have := q.1; omega
        have hlp48 : lp ≤ 281474976710656 := by have := hp.1.1; omega
        have Hli := Lib.hid hli
        have Hlp := Lib.hid hlp
        have HSP := Lib.hid hsp
        have HSX := Lib.hid hsx
        rw [hli] at c2 HI
        rw [hlp] at c3 HP
        have HE1 := Lib.hid hE1
        have HE2 := Lib.hid hE2
        have HKl := Lib.hid hkl
        clear hrow h1 h3 hi' hp hie hpe hm hK hli hlp c1 hE1 hE2 hBb hNn hsk hsp hsx hE hkl
        go_upto_region 5 with fail
        refine piece (fun _ => _) (great5 _ rfl wr rfl rfl rfl hlt hn40 hli48 hlp48 c2 c3) ?_
        rintro a' W1 ⟨z, rfl, hN1⟩
        simp only [List.setIfInBounds_toArray, List.set_cons_succ, List.set_cons_zero]
        replace c0 := hN1.cell c0 id
        replace c2 := hN1.cell c2 id
        replace c3 := hN1.cell c3 id
        have hNa := hN.trans hN1
        have HI1 := Lib.hid (HI.out.new hN1)
        have HP1 := Lib.hid (HP.out.new hN1)
        have hwb : IntKind.i64.wrap ((b : Int) + (K.size : Int)) = (b : Int) + (K.size : Int) := by
          have : S47 = 140737488355328 := rfl
          rw [IntKind.wrap_i64]; omega
        obtain ⟨wo, hwo⟩ : ∃ x, x = wr := ⟨_, rfl⟩
        subst hwo
        obtain ⟨n1, hn1⟩ : ∃ x, n + li + lp = x := ⟨_, rfl⟩
        have Hn1 := Lib.hid hn1
        have hn1b : n1 ≤ 1125899906842624 := by omega
        rw [hn1]
        clear hn1 hN1 HI HP
        go_wp2_with fail
        have C2 := Lib.hid c2
        have C3 := Lib.hid c3
        go_loopw [4, 6] (fun t4 t6 wr => ∃ k b2 : Nat, k ≤ lp ∧ t4 = .int .i64 b2 ∧ t6 = .int .i64 k ∧ b2 ≤ 144115188075855872 ∧ Hid (n1 ≤ 40 → b2 = b + K.size + psB m.params k) ∧ New W1 wr) (fun _ t _ => lp - (intOf t).toNat)
        case atStart => exact ⟨0, b + K.size, Nat.zero_le _, by rw [Int.natCast_add], rfl, by have : S47 = 140737488355328 := rfl; omega, Lib.hid (fun _ => rfl), Mods.refl _ _⟩
        case round =>
          obtain ⟨k, b2, hk, rfl, rfl, hb2, hX2, hN2⟩ := hrel
          replace c2 := hN2.cell C2.out id
          replace c3 := hN2.cell C3.out id
          by_cases hkl : k < lp
          · have hkd2 : decide ((k : Int) < (lp : Int)) = true := decide_eq_true (by omega)
            by_cases hn1' : n1 ≤ 40
            · have hnd : decide ((n1 : Int) ≤ 40) = true := decide_eq_true (by omega)
              obtain ⟨b3, o3, e, hrow⟩ := (HP1.out.new hN2).1.at.2.2 k hkl
              subst e
              obtain ⟨d0, -, -, d3, -⟩ := cells5 hrow
              have hs := HSP.out k (by rw [Hlp.out]; exact hkl)
              have hpsb := psB_le HSP.out (show k ≤ m.params.length by rw [Hlp.out]; omega)
              have hs47 : S47 = 140737488355328 := rfl
              have hX2' := hX2.out hn1'
              have hps1 : psB m.params (k + 1) = psB m.params k + pB (m.params.getD k noP) := rfl
              have hpb : pB (m.params.getD k noP) = (m.params.getD k noP).key.length + (m.params.getD k noP).bare.text.length := rfl
              have z1 : (tx (m.params.getD k noP).key).size = (m.params.getD k noP).key.length := tx_size _
              have z2 : (tx (m.params.getD k noP).bare.text).size = (m.params.getD k noP).bare.text.length := tx_size _
              obtain ⟨s1, hs1⟩ : ∃ s, tx (m.params.getD k noP).key = s := ⟨_, rfl⟩
              obtain ⟨s2, hs2⟩ : ∃ s, tx (m.params.getD k noP).bare.text = s := ⟨_, rfl⟩
              rw [hs1] at d0 z1
              rw [hs2] at d3 z2
              have hmul : 2 * S47 * k ≤ 2 * S47 * 40 := Nat.mul_le_mul_left _ (by have := Hn1.out; omega)
              have hbd : b2 ≤ 30000000000000000 := by omega
              have hz1 : s1.size ≤ 140737488355328 := by omega
              have hz2 : s2.size ≤ 140737488355328 := by omega
              have HREL : Hid (n1 ≤ 40 → b2 + s1.size + s2.size = b + K.size + psB m.params (k + 1)) := Lib.hid (fun _ => by omega)
              clear hX2' hps1 hpb z1 z2 hs1 hs2 hmul hpsb hs hrow
              go_upto_region 10 with fail
              refine piece (fun _ => _) (great10 _ rfl wr rfl rfl rfl rfl hlt hkl hb2 hz1 hz2 c3 d0 d3) ?_
              rintro a' W7 ⟨z, rfl, hN7⟩
              simp only [List.setIfInBounds_toArray, List.set_cons_succ, List.set_cons_zero]
              have hN6' := hN2.trans hN7
              clear d0 d3 hN7 hN2 c2 c3
              go_wp2_with fail
              go_roundw
              case rel => exact ⟨k + 1, b2 + s1.size + s2.size, by omega, rfl, by go_num, by omega, HREL, hN6'⟩
              case measure => simp [intOf]; omega
            · have hnd : decide ((n1 : Int) ≤ 40) = false := decide_eq_false (by omega)
              have HX2 : Hid (n1 ≤ 40 → b2 = b + K.size + psB m.params lp) := Lib.hid (fun h => absurd h (by omega))
              clear hX2
              go_wp2_with fail
              go_loopw [3, 4, 7] (fun t3 t4 t7 wr => ∃ k n' b' : Nat, k ≤ li ∧ t3 = .int .i64 n' ∧ t4 = .int .i64 b' ∧ t7 = .int .i64 k ∧ n' ≤ 2251799813685248 ∧ b' ≤ 144115188075855872 ∧ Hid (n' ≤ 40 → n1 ≤ 40 ∧ n' = n1 + xsN m.items k ∧ b' = b2 + xsB m.items k) ∧ New W1 wr) (fun _ _ t _ => li - (intOf t).toNat)
              case atStart => exact ⟨0, n1, b2, Nat.zero_le _, rfl, rfl, rfl, by omega, hb2, Lib.hid (fun h => ⟨h, rfl, rfl⟩), hN2⟩
              case round =>
                clear hN2
                obtain ⟨k, n', b', hk, rfl, rfl, rfl, hn4, hb4, hE4, hN4⟩ := hrel
                replace c2 := hN4.cell C2.out id
                by_cases hkl : k < li
                · have hkd2 : decide ((k : Int) < (li : Int)) = true := decide_eq_true (by omega)
                  by_cases hn4' : n' ≤ 40
                  · have hnd : decide ((n' : Int) ≤ 40) = true := decide_eq_true (by omega)
                    obtain ⟨f1, f2, f3⟩ := hE4.out hn4'
                    obtain ⟨ip, q1, -, q3⟩ := HI1.out.new hN4
                    obtain ⟨b3, o3, e, hrow⟩ := q1.at.2.2 k hkl
                    subst e
                    have hkx : k < m.items.length := by rw [Hli.out]; exact hkl
                    have hp3 := q3 k hkx
                    obtain ⟨xa, xc, hxe⟩ := hp3.slice
                    rw [hxe] at hrow hp3
                    obtain ⟨hxt, hxs⟩ := HSX.out k hkx
                    have hxsb := xsB_le HSX.out (show k ≤ m.items.length by omega)
                    have hpsb := psB_le HSP.out (Nat.le_refl _)
                    rw [Hlp.out] at hpsb
                    obtain ⟨x, hx⟩ : ∃ x, m.items.getD k Bare.noI = x := ⟨_, rfl⟩
                    have Hx := Lib.hid hx
                    rw [hx] at hrow hp3 hxt hxs
                    obtain ⟨lx, hlx⟩ : ∃ l, x.params.length = l := ⟨_, rfl⟩
                    have Hlx := Lib.hid hlx
                    have hlx48 : lx ≤ 281474976710656 := by have := hp3.1.1; omega
                    rw [hlx] at hrow
                    have HXP0 := Lib.hid hp3
                    rw [hlx] at HXP0
                    have HXS := Lib.hid hxs
                    have hts : (tx x.bare.text).size = x.bare.text.length := tx_size _
                    unfold ics at hrow
                    obtain ⟨ts, hts'⟩ : ∃ t, tx x.bare.text = t := ⟨_, rfl⟩
                    rw [hts'] at hrow hts
                    have HTs := Lib.hid hts
                    have hs47 : S47 = 140737488355328 := rfl
                    have hEX := HX2.out f1
                    have hm1 : 2 * S47 * lp ≤ 2 * S47 * 40 := Nat.mul_le_mul_left _ (by have := Hn1.out; omega)
                    have hm2 : 2 * S47 * (k + xsN m.items k) ≤ 2 * S47 * 80 := Nat.mul_le_mul_left _ (by have := Hn1.out; omega)
                    have hbd : b' ≤ 60000000000000000 := by omega
                    have hzt : ts.size ≤ 140737488355328 := by omega
                    have HRow := Lib.hid hrow
                    have hwn : IntKind.i64.wrap ((n' : Int) + (lx : Int)) = (n' : Int) + (lx : Int) := by rw [IntKind.wrap_i64]; omega
                    have hwb2 : IntKind.i64.wrap ((b' : Int) + (ts.size : Int)) = (b' : Int) + (ts.size : Int) := by rw [IntKind.wrap_i64]; omega
                    have hA := Lib.hid (fun (o : Obj) => ((Mods.refl (fun _ => False) wr).alloc o))
                    have r8 := World.alloc_heap_new wr (.cells #[.int .u8 x.bare.kind, .int .i64 x.bare.int, .string ts, .bool x.bare.yes, .slice xa lx xc] 71)
                    obtain ⟨n2, hn2⟩ : ∃ y, n' + lx = y := ⟨_, rfl⟩
                    have Hn2 := Lib.hid hn2
                    obtain ⟨b2', hb2'⟩ : ∃ y, b' + ts.size = y := ⟨_, rfl⟩
                    have Hb2 := Lib.hid hb2'
                    have hn2b : n2 ≤ 2251799813685248 := by omega
                    have hb2b : b2' ≤ 61000000000000000 := by omega
                    have hnc : (n' : Int) + (lx : Int) = (n2 : Int) := by omega
                    clear q1 q3 hrow hp3 hxe hxt hxs hxsb hpsb hx hlx hts hts' hEX hm1 hm2 hn2 hb2' f1 f2 f3 hkx
                    go_upto_region 15 with (refine op_value rfl (run_load_mid 71 (.tmp 103) rfl b3 (o3 + k * 5) rfl [.int .u8 x.bare.kind, .int .i64 x.bare.int, .string ts, .bool x.bare.yes, .slice xa lx xc] _ HRow.out Tryz.underlying71 rfl sizeX) ?_)
                    have hN5 := hN4.trans (hA.out (.cells #[.int .u8 x.bare.kind, .int .i64 x.bare.int, .string ts, .bool x.bare.yes, .slice xa lx xc] 71))
                    have HXP := Lib.hid (HXP0.out.new (hA.out (.cells #[.int .u8 x.bare.kind, .int .i64 x.bare.int, .string ts, .bool x.bare.yes, .slice xa lx xc] 71)))
                    obtain ⟨W5, hW5⟩ : ∃ V, wr.alloc (.cells #[.int .u8 x.bare.kind, .int .i64 x.bare.int, .string ts, .bool x.bare.yes, .slice xa lx xc] 71) = V := ⟨_, rfl⟩
                    obtain ⟨B8, hB8⟩ : ∃ y, wr.heap.size = y := ⟨_, rfl⟩
                    rw [hW5] at r8 hN5 HXP ⊢
                    rw [hB8] at r8 ⊢
                    clear hW5 hB8 HRow hA HXP0
                    have q4 := cell_of_row _ _ 4 _ _ _ r8
                    have q2 := cell_of_row _ _ 2 _ _ _ r8
                    simp only [List.getElem?_toArray, List.getElem?_cons_succ, List.getElem?_cons_zero] at q4 q2
                    go_wp2_with fail
                    clear q4 q2
                    go_loopw [4, 9] (fun t4 t9 wr => ∃ j b3 : Nat, j ≤ lx ∧ t4 = .int .i64 b3 ∧ t9 = .int .i64 j ∧ b3 ≤ 144115188075855872 ∧ Hid (n2 ≤ 40 → b3 = b2' + psB x.params j) ∧ wr.heap[B8]? = some (.cells #[.int .u8 x.bare.kind, .int .i64 x.bare.int, .string ts, .bool x.bare.yes, .slice xa lx xc] 71 (0, 0)) ∧ New W5 wr) (fun _ t _ => lx - (intOf t).toNat)
                    case atStart => exact ⟨0, b2', Nat.zero_le _, by rw [← Hb2.out, Int.natCast_add], rfl, by omega, Lib.hid (fun _ => rfl), r8, Mods.refl _ _⟩
                    case round =>
                      clear r8
                      obtain ⟨j, b3, hj, rfl, rfl, hb3, hE6, r8, hN6⟩ := hrel
                      have q4 := cell_of_row _ _ 4 _ _ _ r8
                      simp only [List.getElem?_toArray, List.getElem?_cons_succ, List.getElem?_cons_zero] at q4
                      by_cases hjl : j < lx
                      · have hjd : decide ((j : Int) < (lx : Int)) = true := decide_eq_true (by omega)
                        by_cases hn2' : n2 ≤ 40
                        · have hnd : decide ((n2 : Int) ≤ 40) = true := decide_eq_true (by omega)
                          obtain ⟨b4, o4, e, hrow⟩ := (HXP.out.new hN6).1.at.2.2 j hjl
                          subst e
                          obtain ⟨d0, -, -, d3, -⟩ := cells5 hrow
                          have hs := HXS.out j (by rw [Hlx.out]; exact hjl)
                          have hpsb := psB_le HXS.out (show j ≤ x.params.length by rw [Hlx.out]; omega)
                          have hs47 : S47 = 140737488355328 := rfl
                          have hE6' := hE6.out hn2'
                          have hps1 : psB x.params (j + 1) = psB x.params j + pB (x.params.getD j noP) := rfl
                          have hpb : pB (x.params.getD j noP) = (x.params.getD j noP).key.length + (x.params.getD j noP).bare.text.length := rfl
                          have z1 : (tx (x.params.getD j noP).key).size = (x.params.getD j noP).key.length := tx_size _
                          have z2 : (tx (x.params.getD j noP).bare.text).size = (x.params.getD j noP).bare.text.length := tx_size _
                          obtain ⟨s1, hs1⟩ : ∃ s, tx (x.params.getD j noP).key = s := ⟨_, rfl⟩
                          obtain ⟨s2, hs2⟩ : ∃ s, tx (x.params.getD j noP).bare.text = s := ⟨_, rfl⟩
                          rw [hs1] at d0 z1
                          rw [hs2] at d3 z2
                          have hmul : 2 * S47 * j ≤ 2 * S47 * 40 := Nat.mul_le_mul_left _ (by have := Hn2.out; omega)
                          have hbd : b3 ≤ 100000000000000000 := by omega
                          have hz1 : s1.size ≤ 140737488355328 := by omega
                          have hz2 : s2.size ≤ 140737488355328 := by omega
                          have HREL : Hid (n2 ≤ 40 → b3 + s1.size + s2.size = b2' + psB x.params (j + 1)) := Lib.hid (fun _ => by omega)
                          have H8 := Lib.hid r8
                          have hb3' : b3 ≤ 144115188075855872 := by omega
                          clear hE6' hps1 hpb z1 z2 hs1 hs2 hmul hpsb hs hrow r8
                          go_upto_region 20 with fail
                          refine piece (fun _ => _) (great20 _ rfl wr rfl rfl rfl hjl hb3' hz1 hz2 q4 d0 d3) ?_
                          rintro a' W7 ⟨z, rfl, hN7⟩
                          simp only [List.setIfInBounds_toArray, List.set_cons_succ, List.set_cons_zero]
                          have r8 := hN7.heap H8.out id
                          have hN6' := hN6.trans hN7
                          clear q4 d0 d3 hN7 H8 hN6
                          go_wp2_with fail
                          go_roundw
                          case rel => exact ⟨j + 1, b3 + s1.size + s2.size, by omega, rfl, by go_num, by omega, HREL, r8, hN6'⟩
                          case measure => simp [intOf]; omega
                        · have hnd : decide ((n2 : Int) ≤ 40) = false := decide_eq_false (by omega)
                          clear r8
                          go_wp2_with fail
                          go_roundw
                          case rel => exact ⟨k + 1, n2, b3, by omega, rfl, rfl, by go_num, by omega, hb3, Lib.hid (fun h40 => absurd h40 (by omega)), hN5.trans hN6⟩
                          case measure => simp [intOf]; omega
                      · have hjd : decide ((j : Int) < (lx : Int)) = false := decide_eq_false (by omega)
                        obtain rfl : lx = j := by omega
                        clear r8
                        go_wp2_with fail
                        go_roundw
                        case rel => exact ⟨k + 1, n2, b3, by omega, rfl, rfl, by go_num, by omega, hb3, Lib.hid (fun h40 => by
                          obtain ⟨e1, e2, e3⟩ := hE4.out (by omega)
                          have e4 := hE6.out h40
                          have e5 : xsN m.items (k + 1) = xsN m.items k + x.params.length := by rw [← Hx.out]; rfl
                          have e6 : xsB m.items (k + 1) = xsB m.items k + xB x := by rw [← Hx.out]; rfl
                          have e7 : xB x = x.bare.text.length + psB x.params x.params.length := rfl
                          have e8 := Hlx.out
                          have e9 := HTs.out
                          have e10 := Hn2.out
                          have e11 := Hb2.out
                          rw [e8] at e7
                          refine ⟨e1, ?_, ?_⟩
                          · omega
                          · omega), hN5.trans hN6⟩
                        case measure => simp [intOf]; omega
                  · have hnd : decide ((n' : Int) ≤ 40) = false := decide_eq_false (by omega)
                    go_wp2_with fail
                    go_roundw
                    case rel => exact ⟨i + 1, n', b', by omega, rfl, rfl, by go_num, hn4, hb4, Lib.hid (fun h40 => absurd h40 (by omega)), hNa.trans hN4⟩
                    case measure => simp [intOf]; omega
                · have hkd2 : decide ((k : Int) < (li : Int)) = false := decide_eq_false (by omega)
                  obtain rfl : li = k := by omega
                  go_wp2_with fail
                  go_roundw
                  case rel => exact ⟨i + 1, n', b', by omega, rfl, rfl, by go_num, hn4, hb4, Lib.hid (fun h40 => by
                      obtain ⟨e1, e2, e3⟩ := hE4.out h40
                      have e4 := HX2.out e1
                      have e5 := HT1.out
                      have e6 := HT2.out
                      have e7 : mN m = m.items.length + m.params.length + xsN m.items m.items.length := rfl
                      have e8 : mB m = m.key.length + psB m.params m.params.length + xsB m.items m.items.length := rfl
                      have e9 := Hli.out
                      have e10 := Hlp.out
                      rw [e9, e10] at e7 e8
                      have e11 := HE1.out
                      have e12 := HE2.out
                      have e13 := Hn1.out
                      have e14 := HKl.out
                      refine ⟨?_, ?_⟩
                      · omega
                      · omega), hNa.trans hN4⟩
                  case measure => simp [intOf]; omega
          · have hkd2 : decide ((k : Int) < (lp : Int)) = false := decide_eq_false (by omega)
            obtain rfl : lp = k := by omega
            have HX2 := hX2
            go_wp2_with fail
            go_loopw [3, 4, 7] (fun t3 t4 t7 wr => ∃ k n' b' : Nat, k ≤ li ∧ t3 = .int .i64 n' ∧ t4 = .int .i64 b' ∧ t7 = .int .i64 k ∧ n' ≤ 2251799813685248 ∧ b' ≤ 144115188075855872 ∧ Hid (n' ≤ 40 → n1 ≤ 40 ∧ n' = n1 + xsN m.items k ∧ b' = b2 + xsB m.items k) ∧ New W1 wr) (fun _ _ t _ => li - (intOf t).toNat)
            case atStart => exact ⟨0, n1, b2, Nat.zero_le _, rfl, rfl, rfl, by omega, hb2, Lib.hid (fun h => ⟨h, rfl, rfl⟩), hN2⟩
            case round =>
              clear hN2
              obtain ⟨k, n', b', hk, rfl, rfl, rfl, hn4, hb4, hE4, hN4⟩ := hrel
              replace c2 := hN4.cell C2.out id
              by_cases hkl : k < li
              · have hkd2 : decide ((k : Int) < (li : Int)) = true := decide_eq_true (by omega)
                by_cases hn4' : n' ≤ 40
                · have hnd : decide ((n' : Int) ≤ 40) = true := decide_eq_true (by omega)
                  obtain ⟨f1, f2, f3⟩ := hE4.out hn4'
                  obtain ⟨ip, q1, -, q3⟩ := HI1.out.new hN4
                  obtain ⟨b3, o3, e, hrow⟩ := q1.at.2.2 k hkl
                  subst e
                  have hkx : k < m.items.length := by rw [Hli.out]; exact hkl
                  have hp3 := q3 k hkx
                  obtain ⟨xa, xc, hxe⟩ := hp3.slice
                  rw [hxe] at hrow hp3
                  obtain ⟨hxt, hxs⟩ := HSX.out k hkx
                  have hxsb := xsB_le HSX.out (show k ≤ m.items.length by omega)
                  have hpsb := psB_le HSP.out (Nat.le_refl _)
                  rw [Hlp.out] at hpsb
                  obtain ⟨x, hx⟩ : ∃ x, m.items.getD k Bare.noI = x := ⟨_, rfl⟩
                  have Hx := Lib.hid hx
                  rw [hx] at hrow hp3 hxt hxs
                  obtain ⟨lx, hlx⟩ : ∃ l, x.params.length = l := ⟨_, rfl⟩
                  have Hlx := Lib.hid hlx
                  have hlx48 : lx ≤ 281474976710656 := by have := hp3.1.1; omega
                  rw [hlx] at hrow
                  have HXP0 := Lib.hid hp3
                  rw [hlx] at HXP0
                  have HXS := Lib.hid hxs
                  have hts : (tx x.bare.text).size = x.bare.text.length := tx_size _
                  unfold ics at hrow
                  obtain ⟨ts, hts'⟩ : ∃ t, tx x.bare.text = t := ⟨_, rfl⟩
                  rw [hts'] at hrow hts
                  have HTs := Lib.hid hts
                  have hs47 : S47 = 140737488355328 := rfl
                  have hEX := HX2.out f1
                  have hm1 : 2 * S47 * lp ≤ 2 * S47 * 40 := Nat.mul_le_mul_left _ (by have := Hn1.out; omega)
                  have hm2 : 2 * S47 * (k + xsN m.items k) ≤ 2 * S47 * 80 := Nat.mul_le_mul_left _ (by have := Hn1.out; omega)
                  have hbd : b' ≤ 60000000000000000 := by omega
                  have hzt : ts.size ≤ 140737488355328 := by omega
                  have HRow := Lib.hid hrow
                  have hwn : IntKind.i64.wrap ((n' : Int) + (lx : Int)) = (n' : Int) + (lx : Int) := by rw [IntKind.wrap_i64]; omega
                  have hwb2 : IntKind.i64.wrap ((b' : Int) + (ts.size : Int)) = (b' : Int) + (ts.size : Int) := by rw [IntKind.wrap_i64]; omega
                  have hA := Lib.hid (fun (o : Obj) => ((Mods.refl (fun _ => False) wr).alloc o))
                  have r8 := World.alloc_heap_new wr (.cells #[.int .u8 x.bare.kind, .int .i64 x.bare.int, .string ts, .bool x.bare.yes, .slice xa lx xc] 71)
                  obtain ⟨n2, hn2⟩ : ∃ y, n' + lx = y := ⟨_, rfl⟩
                  have Hn2 := Lib.hid hn2
                  obtain ⟨b2', hb2'⟩ : ∃ y, b' + ts.size = y := ⟨_, rfl⟩
                  have Hb2 := Lib.hid hb2'
                  have hn2b : n2 ≤ 2251799813685248 := by omega
                  have hb2b : b2' ≤ 61000000000000000 := by omega
                  have hnc : (n' : Int) + (lx : Int) = (n2 : Int) := by omega
                  clear q1 q3 hrow hp3 hxe hxt hxs hxsb hpsb hx hlx hts hts' hEX hm1 hm2 hn2 hb2' f1 f2 f3 hkx
                  go_upto_region 15 with (refine op_value rfl (run_load_mid 71 (.tmp 103) rfl b3 (o3 + k * 5) rfl [.int .u8 x.bare.kind, .int .i64 x.bare.int, .string ts, .bool x.bare.yes, .slice xa lx xc] _ HRow.out Tryz.underlying71 rfl sizeX) ?_)
                  have hN5 := hN4.trans (hA.out (.cells #[.int .u8 x.bare.kind, .int .i64 x.bare.int, .string ts, .bool x.bare.yes, .slice xa lx xc] 71))
                  have HXP := Lib.hid (HXP0.out.new (hA.out (.cells #[.int .u8 x.bare.kind, .int .i64 x.bare.int, .string ts, .bool x.bare.yes, .slice xa lx xc] 71)))
                  obtain ⟨W5, hW5⟩ : ∃ V, wr.alloc (.cells #[.int .u8 x.bare.kind, .int .i64 x.bare.int, .string ts, .bool x.bare.yes, .slice xa lx xc] 71) = V := ⟨_, rfl⟩
                  obtain ⟨B8, hB8⟩ : ∃ y, wr.heap.size = y := ⟨_, rfl⟩
                  rw [hW5] at r8 hN5 HXP ⊢
                  rw [hB8] at r8 ⊢
                  clear hW5 hB8 HRow hA HXP0
                  have q4 := cell_of_row _ _ 4 _ _ _ r8
                  have q2 := cell_of_row _ _ 2 _ _ _ r8
                  simp only [List.getElem?_toArray, List.getElem?_cons_succ, List.getElem?_cons_zero] at q4 q2
                  go_wp2_with fail
                  clear q4 q2
                  go_loopw [4, 9] (fun t4 t9 wr => ∃ j b3 : Nat, j ≤ lx ∧ t4 = .int .i64 b3 ∧ t9 = .int .i64 j ∧ b3 ≤ 144115188075855872 ∧ Hid (n2 ≤ 40 → b3 = b2' + psB x.params j) ∧ wr.heap[B8]? = some (.cells #[.int .u8 x.bare.kind, .int .i64 x.bare.int, .string ts, .bool x.bare.yes, .slice xa lx xc] 71 (0, 0)) ∧ New W5 wr) (fun _ t _ => lx - (intOf t).toNat)
                  case atStart => exact ⟨0, b2', Nat.zero_le _, by rw [← Hb2.out, Int.natCast_add], rfl, by omega, Lib.hid (fun _ => rfl), r8, Mods.refl _ _⟩
                  case round =>
                    clear r8
                    obtain ⟨j, b3, hj, rfl, rfl, hb3, hE6, r8, hN6⟩ := hrel
                    have q4 := cell_of_row _ _ 4 _ _ _ r8
                    simp only [List.getElem?_toArray, List.getElem?_cons_succ, List.getElem?_cons_zero] at q4
                    by_cases hjl : j < lx
                    · have hjd : decide ((j : Int) < (lx : Int)) = true := decide_eq_true (by omega)
                      by_cases hn2' : n2 ≤ 40
                      · have hnd : decide ((n2 : Int) ≤ 40) = true := decide_eq_true (by omega)
                        obtain ⟨b4, o4, e, hrow⟩ := (HXP.out.new hN6).1.at.2.2 j hjl
                        subst e
                        obtain ⟨d0, -, -, d3, -⟩ := cells5 hrow
                        have hs := HXS.out j (by rw [Hlx.out]; exact hjl)
                        have hpsb := psB_le HXS.out (show j ≤ x.params.length by rw [Hlx.out]; omega)
                        have hs47 : S47 = 140737488355328 := rfl
                        have hE6' := hE6.out hn2'
                        have hps1 : psB x.params (j + 1) = psB x.params j + pB (x.params.getD j noP) := rfl
                        have hpb : pB (x.params.getD j noP) = (x.params.getD j noP).key.length + (x.params.getD j noP).bare.text.length := rfl
                        have z1 : (tx (x.params.getD j noP).key).size = (x.params.getD j noP).key.length := tx_size _
                        have z2 : (tx (x.params.getD j noP).bare.text).size = (x.params.getD j noP).bare.text.length := tx_size _
                        obtain ⟨s1, hs1⟩ : ∃ s, tx (x.params.getD j noP).key = s := ⟨_, rfl⟩
                        obtain ⟨s2, hs2⟩ : ∃ s, tx (x.params.getD j noP).bare.text = s := ⟨_, rfl⟩
                        rw [hs1] at d0 z1
                        rw [hs2] at d3 z2
                        have hmul : 2 * S47 * j ≤ 2 * S47 * 40 := Nat.mul_le_mul_left _ (by have := Hn2.out; omega)
                        have hbd : b3 ≤ 100000000000000000 := by omega
                        have hz1 : s1.size ≤ 140737488355328 := by omega
                        have hz2 : s2.size ≤ 140737488355328 := by omega
                        have HREL : Hid (n2 ≤ 40 → b3 + s1.size + s2.size = b2' + psB x.params (j + 1)) := Lib.hid (fun _ => by omega)
                        have H8 := Lib.hid r8
                        have hb3' : b3 ≤ 144115188075855872 := by omega
                        clear hE6' hps1 hpb z1 z2 hs1 hs2 hmul hpsb hs hrow r8
                        go_upto_region 20 with fail
                        refine piece (fun _ => _) (great20 _ rfl wr rfl rfl rfl hjl hb3' hz1 hz2 q4 d0 d3) ?_
                        rintro a' W7 ⟨z, rfl, hN7⟩
                        simp only [List.setIfInBounds_toArray, List.set_cons_succ, List.set_cons_zero]
                        have r8 := hN7.heap H8.out id
                        have hN6' := hN6.trans hN7
                        clear q4 d0 d3 hN7 H8 hN6
                        go_wp2_with fail
                        go_roundw
                        case rel => exact ⟨j + 1, b3 + s1.size + s2.size, by omega, rfl, by go_num, by omega, HREL, r8, hN6'⟩
                        case measure => simp [intOf]; omega
                      · have hnd : decide ((n2 : Int) ≤ 40) = false := decide_eq_false (by omega)
                        clear r8
                        go_wp2_with fail
                        go_roundw
                        case rel => exact ⟨k + 1, n2, b3, by omega, rfl, rfl, by go_num, by omega, hb3, Lib.hid (fun h40 => absurd h40 (by omega)), hN5.trans hN6⟩
                        case measure => simp [intOf]; omega
                    · have hjd : decide ((j : Int) < (lx : Int)) = false := decide_eq_false (by omega)
                      obtain rfl : lx = j := by omega
                      clear r8
                      go_wp2_with fail
                      go_roundw
                      case rel => exact ⟨k + 1, n2, b3, by omega, rfl, rfl, by go_num, by omega, hb3, Lib.hid (fun h40 => by
                        obtain ⟨e1, e2, e3⟩ := hE4.out (by omega)
                        have e4 := hE6.out h40
                        have e5 : xsN m.items (k + 1) = xsN m.items k + x.params.length := by rw [← Hx.out]; rfl
                        have e6 : xsB m.items (k + 1) = xsB m.items k + xB x := by rw [← Hx.out]; rfl
                        have e7 : xB x = x.bare.text.length + psB x.params x.params.length := rfl
                        have e8 := Hlx.out
                        have e9 := HTs.out
                        have e10 := Hn2.out
                        have e11 := Hb2.out
                        rw [e8] at e7
                        refine ⟨e1, ?_, ?_⟩
                        · omega
                        · omega), hN5.trans hN6⟩
                      case measure => simp [intOf]; omega
                · have hnd : decide ((n' : Int) ≤ 40) = false := decide_eq_false (by omega)
                  go_wp2_with fail
                  go_roundw
                  case rel => exact ⟨i + 1, n', b', by omega, rfl, rfl, by go_num, hn4, hb4, Lib.hid (fun h40 => absurd h40 (by omega)), hNa.trans hN4⟩
                  case measure => simp [intOf]; omega
              · have hkd2 : decide ((k : Int) < (li : Int)) = false := decide_eq_false (by omega)
                obtain rfl : li = k := by omega
                go_wp2_with fail
                go_roundw
                case rel => exact ⟨i + 1, n', b', by omega, rfl, rfl, by go_num, hn4, hb4, Lib.hid (fun h40 => by
                    obtain ⟨e1, e2, e3⟩ := hE4.out h40
                    have e4 := HX2.out e1
                    have e5 := HT1.out
                    have e6 := HT2.out
                    have e7 : mN m = m.items.length + m.params.length + xsN m.items m.items.length := rfl
                    have e8 : mB m = m.key.length + psB m.params m.params.length + xsB m.items m.items.length := rfl
                    have e9 := Hli.out
                    have e10 := Hlp.out
                    rw [e9, e10] at e7 e8
                    have e11 := HE1.out
                    have e12 := HE2.out
                    have e13 := Hn1.out
                    have e14 := HKl.out
                    refine ⟨?_, ?_⟩
                    · omega
                    · omega), hNa.trans hN4⟩
                case measure => simp [intOf]; omega
      · have hkd2 : decide ((n : Int) ≤ 40) = false := decide_eq_false (by omega)
        have hgt : decide ((40 : Int) < (n : Int)) = true := decide_eq_true (by omega)
        go_wp2_with fail
        go_ret
        exact ⟨true, rfl, hN, fun h => by cases h⟩
    · have hkd : decide ((i : Int) < (nd : Int)) = false := decide_eq_false (by omega)
      obtain rfl : i = nd := by omega
      by_cases hn40 : 40 < n
      · have hgt : decide ((40 : Int) < (n : Int)) = true := decide_eq_true (by omega)
        go_wp2_with fail
        go_ret
        exact ⟨true, rfl, hN, fun h => by cases h⟩
      · have hgt : decide ((40 : Int) < (n : Int)) = false := decide_eq_false (by omega)
        by_cases hb : 2000 < b
        · have hgb : decide ((2000 : Int) < (b : Int)) = true := decide_eq_true (by omega)
          go_wp2_with fail
          go_ret
          exact ⟨true, rfl, hN, fun h => by cases h⟩
        · have hgb : decide ((2000 : Int) < (b : Int)) = false := decide_eq_false (by omega)
          go_wp2_with fail
          go_ret
          refine ⟨false, rfl, hN, fun _ => ?_⟩
          obtain ⟨e1, e2⟩ := hE.out (by omega)
          omega
end Go.Proofs.YtkiiameibdhdfaaGreatDoor
