/- The document's threads that may be. -/
import Derived.Test.YtkjloeefcaadlaaP24
import Derived.Deep.QuietTactic
import Derived.BigQuiet
set_option linter.unusedSimpArgs false
set_option linter.unusedVariables false
namespace Go.Proofs.Ytkjloeefcaadlaa
open Go.RowKit Go.Shelf Go.Cs
attribute [local go_sem] Oper.semAt_some
theorem run_eql_deed {o : Oper} {a : Act} {w : World} (x y : Operand) (ho : o.op = .binOp .eql 93 x y 93) (p q : Dn) (hx : a.eval x = .agg p.cs.toArray) (hy : a.eval y = .agg q.cs.toArray) :
    (execOp a.eval o).run Try.prog w = .ok (.value (.bool (dEq p q))) w := by
  have he := eq_deed 9998 p q w
  unfold execOp
  simp only [ho, hx, hy, Sem.run_bind, run_eqGuard_agg w .eql 93 x y _ _ guard93, Result.andThen_ok, run_eql_struct w 93 _ _]
  rw [show (10000 : Nat) = 9998 + 2 from rfl, he]
  simp
/-- A thread's variable, the machine's. -/
def ThAt (w : World) (m : Ma) (tv hh : Value) (t : Th) (lvk : Value) (D : Nat) (W : World) : Prop := MB W w.heap.size m.word m.clock tv hh ∧ W.heap[D]? = some (.cells (t.cs lvk).toArray 100 (0, 0)) ∧ New w W
theorem ThAt.new {w : World} {m : Ma} {tv hh : Value} {t : Th} {lvk : Value} {D : Nat} {W W' : World} (h : ThAt w m tv hh t lvk D W) (hN : New W W') : ThAt w m tv hh t lvk D W' := ⟨h.1.new hN, hN.heap h.2.1 id, h.2.2.trans hN⟩
set_option maxRecDepth 100000 in
set_option maxHeartbeats 8000000 in
theorem thread_ref (v : Value) (m : Ma) (i : Nat) (w : World) (hv : ReadsM w v m) (hi : i < m.ths.length) : Calls Try.prog 101 #[v, .int .i64 i] w fun e w' => e = .returned (.bool (thR m.hist i (m.ths.getD i .no))) ∧ New w w' := by
  obtain ⟨tv, hh, lv, rfl, hR⟩ := hv
  have HR := Lib.hid hR
  obtain ⟨g, o, cap, rfl, hra⟩ := hR.thread hi
  obtain ⟨_, ⟨ho, hcap, rfl⟩⟩ := hR.slices
  have hE := hR.left i hi
  obtain ⟨t, ht⟩ : ∃ t, m.ths.getD i .no = t := ⟨_, rfl⟩
  obtain ⟨lvk, hlvk⟩ : ∃ x, lv i = x := ⟨_, rfl⟩
  rw [ht, hlvk] at hra hE
  rw [ht]
  have HE := Lib.hid hE
  have hone := th_one (t := t) hE
  have hlh := hR.hist.1
  obtain ⟨hll, la, lc, rfl, _⟩ := hE
  obtain ⟨r, hr⟩ : ∃ r, thR m.hist i t = r := ⟨_, rfl⟩
  have Hr := Lib.hid hr
  rw [hr]
  have hB : MB (w.alloc (.cells #[.int .u64 (m.word : Nat), .int .i64 m.clock, .slice (some ⟨g, o, none⟩) m.ths.length cap, .slice ho m.hist.length hcap] 77)) w.heap.size m.word m.clock (.slice (some ⟨g, o, none⟩) m.ths.length cap) (.slice ho m.hist.length hcap) := World.alloc_heap_new w _
  have hN : New w (w.alloc (.cells #[.int .u64 (m.word : Nat), .int .i64 m.clock, .slice (some ⟨g, o, none⟩) m.ths.length cap, .slice ho m.hist.length hcap] 77)) := (Mods.refl _ _).alloc _
  obtain ⟨W0, hW0⟩ : ∃ W, w.alloc (.cells #[.int .u64 (m.word : Nat), .int .i64 m.clock, .slice (some ⟨g, o, none⟩) m.ths.length cap, .slice ho m.hist.length hcap] 77) = W := ⟨_, rfl⟩
  rw [hW0] at hB hN
  replace hra : W0.rangeAt g (o + i * 4) (t.cs (.slice la t.left.length lc)) := fun j v hv => hN.cell (hra j v hv) id
  have c2 := hB.c2
  have i0 : (0 : Int) ≤ (i : Int) := by omega
  have i1 : (i : Int) < (m.ths.length : Int) := by omega
  have hNa : New W0 (W0.alloc (.cells (t.cs (.slice la t.left.length lc)).toArray 100)) := (Mods.refl _ _).alloc _
  have hA : Hid (ThAt w m (.slice (some ⟨g, o, none⟩) m.ths.length cap) (.slice ho m.hist.length hcap) t (.slice la t.left.length lc) W0.heap.size (W0.alloc (.cells (t.cs (.slice la t.left.length lc)).toArray 100))) := Lib.hid ⟨hB.new hNa, World.alloc_heap_new W0 _, hN.trans hNa⟩
  clear hr ht hlvk hR hB hNa
  unfold maV
  go_enter Try.func101, Try.ntmps101
  go_upto_region 1 with fail
  try rw [hW0]
  clear hW0
  go_upto_region 2 with (first | (refine op_value rfl (run_load_mid 100 (.tmp 11) rfl g (o + i * 4) rfl (t.cs (.slice la t.left.length lc)) _ hra Try.underlying100 rfl info100) ?_) | (refine op_skip rfl (run_store_new 100 (.tmp 5) (.tmp 12) rfl 100 [.slice none 0 0, .bool false, .int .u64 0, .int .i64 0] (t.cs (.slice la t.left.length lc)) rfl rfl info100 rfl hone) ?_))
  obtain ⟨D, hDD⟩ : ∃ D, W0.heap.size = D := ⟨_, rfl⟩
  obtain ⟨W1, hW1⟩ : ∃ W, W0.alloc (.cells (t.cs (.slice la t.left.length lc)).toArray 100) = W := ⟨_, rfl⟩
  rw [hW1, hDD] at hA
  rw [hW1, hDD]
  clear hW1 hDD hra hone c2 hN
  have hc0 := th_c0 hA.out.2.1
  go_wp2_with fail
  go_loopw [6] (fun c wr => ∃ k : Nat, k ≤ t.left.length ∧ c = .int .i64 (k : Nat) ∧ Hid (∀ q, q < k → isDeed (t.left.getD q .no).d = true) ∧ Hid (ThAt w m (.slice (some ⟨g, o, none⟩) m.ths.length cap) (.slice ho m.hist.length hcap) t (.slice la t.left.length lc) D wr)) (fun c _ => t.left.length - (intOf c).toNat)
  case atStart => exact ⟨0, Nat.zero_le _, rfl, Lib.hid (fun i hi => by omega), hA⟩
  case round =>
    obtain ⟨k, hk, rfl, hbef, hB⟩ := hrel
    clear hc0 hA
    have hc0 := th_c0 hB.out.2.1
    by_cases hkn : k < t.left.length
    · have hkd : decide ((k : Int) < (t.left.length : Int)) = true := decide_eq_true (by omega)
      have k0 : (0 : Int) ≤ (k : Int) := by omega
      have k1 : (k : Int) < (t.left.length : Int) := by omega
      obtain ⟨_, a0, c0, he, hc⟩ := HE.out.new hB.out.2.2
      cases he
      obtain ⟨b, bo, rfl, hrd⟩ := hc k hkn
      obtain ⟨p, hp⟩ : ∃ p, t.left.getD k .no = p := ⟨_, rfl⟩
      rw [hp] at hrd
      have Hp := Lib.hid hp
      have HD := Lib.hid (deed_ref p.d p.s p.u wr)
      obtain ⟨c, hcc⟩ : ∃ c, isDeed p.d = c := ⟨_, rfl⟩
      rw [hcc] at HD
      have Hc := Lib.hid hcc
      clear hp hcc hc
      go_upto_region 5 with fail
      go_wp2_with (refine op_value rfl (run_load_mid 93 (.tmp 23) rfl b (bo + k * 3) rfl p.cs _ hrd Try.underlying93 rfl info93) ?_)
      refine HD.out.mono ?_
      rintro e w2 ⟨rfl, hN2⟩
      have HB2 := Lib.hid (hB.out.new hN2)
      clear hN2 hrd hc0 HD
      cases c with
      | false =>
        have hrf : Hid (r = false) := Lib.hid (by
          rw [← Hr.out]
          refine thR_all ?_
          unfold allD
          rw [List.all_eq_false]
          exact ⟨_, getD_mem (d := .no) hkn, by rw [Hp.out, show isD p.d = false from Hc.out]; simp⟩)
        go_wp2_with fail
        go_ret
        exact ⟨by rw [hrf.out]; rfl, HB2.out.2.2⟩
      | true =>
        have hnx : Hid (∀ q, q < k + 1 → isDeed (t.left.getD q .no).d = true) := Lib.hid (fun q hq => by
          by_cases hqk : q < k
          · exact hbef.out q hqk
          · obtain rfl : q = k := by omega
            rw [Hp.out]; exact Hc.out)
        go_wp2_with fail
        go_roundw
        case rel => exact ⟨k + 1, by omega, by go_num, hnx, HB2⟩
        case measure => simp [intOf]; omega
    · obtain rfl : k = t.left.length := by omega
      have hkd : decide ((t.left.length : Int) < (t.left.length : Int)) = false := decide_eq_false (by omega)
      have hall : Hid (allD t.left = true) := Lib.hid (by
        unfold allD
        rw [List.all_eq_true]
        intro p hp
        obtain ⟨q, hq, rfl⟩ := List.getElem_of_mem hp
        have := hbef.out q hq
        simpa [List.getD, hq, isD_eq] using this)
      go_upto_region 7 with fail
      have hc1 := th_c1 hB.out.2.1
      have hc3 := th_c3 hB.out.2.1
      obtain ⟨mo, hmo⟩ : ∃ x, t.moment = x := ⟨_, rfl⟩
      obtain ⟨ld, hld⟩ : ∃ x, t.loaded = x := ⟨_, rfl⟩
      rw [hmo] at hc3
      rw [hld] at hc1
      have Hmo := Lib.hid hmo
      have Hld := Lib.hid hld
      clear hmo hld
      by_cases h1 : mo = -1
      · have e1 : (mo == -1) = true := by simpa using h1
        have hrf : Hid (r = !ld) := Lib.hid (by
          rw [← Hr.out]
          cases hl : ld with
          | true => exact thR_ld (Hmo.out.trans h1) (Hld.out.trans hl)
          | false => exact thR_none hall.out (Hmo.out.trans h1) (Hld.out.trans hl))
        clear h1
        go_wp2_with fail
        go_ret
        exact ⟨by rw [hrf.out]; rfl, hB.out.2.2⟩
      · have e1 : (mo == -1) = false := by simpa using h1
        have hcB := hB.out.1.c3
        have Hbad : Hid (¬ (0 ≤ mo ∧ mo < m.hist.length ∧ 0 < t.left.length) → Hid (r = false)) := Lib.hid (fun h => Lib.hid (by
          rw [← Hr.out]
          exact thR_rng (by rw [Hmo.out]; exact h1) (by rw [Hmo.out]; exact h)))
        clear h1
        by_cases r1 : mo < 0
        · have hb := Hbad.out (by omega)
          have f1 : decide (mo < 0) = true := decide_eq_true r1
          go_wp2_with fail
          go_ret
          exact ⟨by rw [hb.out]; rfl, hB.out.2.2⟩
        have f1 : decide (mo < 0) = false := decide_eq_false r1
        by_cases r2 : (m.hist.length : Int) ≤ mo
        · have hb := Hbad.out (by omega)
          have f2 : decide ((m.hist.length : Int) ≤ mo) = true := decide_eq_true r2
          go_wp2_with fail
          go_ret
          exact ⟨by rw [hb.out]; rfl, hB.out.2.2⟩
        have f2 : decide ((m.hist.length : Int) ≤ mo) = false := decide_eq_false r2
        by_cases r3 : t.left.length = 0
        · have hb := Hbad.out (by omega)
          have f3 : t.left = [] := List.eq_nil_of_length_eq_zero r3
          have f4 : ((t.left.length : Int) == 0) = true := by simp [f3]
          go_wp2_with fail
          go_ret
          exact ⟨by rw [hb.out]; rfl, hB.out.2.2⟩
        have f4 : ((t.left.length : Int) == 0) = false := by rw [beq_eq_false_iff_ne]; omega
        obtain ⟨j, rfl⟩ := Int.eq_ofNat_of_zero_le (Int.not_lt.1 r1)
        have hjl : j < m.hist.length := by omega
        have hlp : 0 < t.left.length := by omega
        obtain ⟨hg, hoo, hcap', hvh, hrh⟩ := (HR.out.new hB.out.2.2).moment hjl
        cases hvh
        obtain ⟨h, hh⟩ : ∃ x, m.hist.getD j .no = x := ⟨_, rfl⟩
        rw [hh] at hrh
        have Hh := Lib.hid hh
        have hmone := mo_one h
        have hjj1 : (0 : Int) ≤ (j : Int) := by omega
        have hjj2 : (j : Int) < (m.hist.length : Int) := by omega
        clear hh r1 r2 r3 Hbad
        go_upto_region 11 with fail
        go_upto_region 12 with (first | (refine op_value rfl (run_load_mid 95 (.tmp 54) rfl hg (hoo + j * 8) rfl h.cs _ hrh Try.underlying95 rfl info95) ?_) | (refine op_skip rfl (run_store_new 95 (.tmp 7) (.tmp 55) rfl 95 [.int .i64 0, .int .u8 0, .int .i64 0, .int .i64 0, .int .i64 0, .int .i64 0, .int .i64 0, .bool false] h.cs rfl rfl info95 rfl hmone) ?_))
        have hNa2 : New wr (wr.alloc (.cells h.cs.toArray 95)) := (Mods.refl _ _).alloc _
        have hE := World.alloc_heap_new wr (.cells h.cs.toArray 95)
        have HB2 := Lib.hid (hB.out.new hNa2)
        obtain ⟨W, hW⟩ : ∃ W, wr.alloc (.cells h.cs.toArray 95) = W := ⟨_, rfl⟩
        obtain ⟨E, hEE⟩ : ∃ E, wr.heap.size = E := ⟨_, rfl⟩
        rw [hW] at hE HB2 ⊢
        rw [hEE] at hE ⊢
        obtain ⟨_, ao', cap'', he, hr⟩ := HE.out
        cases he
        obtain ⟨lb, lo, rfl, hrd⟩ := hr 0 hlp
        rw [Nat.zero_mul, Nat.add_zero] at hrd
        replace hrd : W.rangeAt lb lo (t.left.getD 0 .no).cs := fun j v hv => HB2.out.2.2.cell (hrd j v hv) id
        have hre : W.rangeAt E 1 h.deed.cs := fun j v hv => by
          rw [cell_of_row _ _ _ _ _ _ hE]
          match j, hv with
          | 0, hv => exact hv
          | 1, hv => exact hv
          | 2, hv => exact hv
        have he0 : W.cell? ⟨E, 0, none⟩ = some (.int .i64 h.thread) := by rw [cell_of_row _ _ _ _ _ _ hE]; rfl
        have he5 : W.cell? ⟨E, 5, none⟩ = some (.int .i64 h.en) := by rw [cell_of_row _ _ _ _ _ _ hE]; rfl
        have hd0 := th_c0 HB2.out.2.1
        have hl0 : (0 : Int) < (t.left.length : Int) := by omega
        obtain ⟨p, hp⟩ : ∃ p, t.left.getD 0 .no = p := ⟨_, rfl⟩
        rw [hp] at hrd
        have Hres : Hid (thR m.hist i t = (decide (h.thread = i) && (dEq h.deed p && decide (h.en = -1)))) := Lib.hid (by rw [thR_mom Hmo.out hall.out hjl hlp, Hh.out]; unfold momR; rw [hp])
        clear hp hE hW hEE hr hc0 hc1 hc3 hcB hrh hmone hNa2
        obtain ⟨q, hq⟩ : ∃ q, dEq h.deed p = q := ⟨_, rfl⟩
        rw [hq] at Hres
        have Hq := Lib.hid hq
        clear hq
        have HeqV : ∀ n, ∀ a : Act, a.eval (.tmp 62) = .agg h.deed.cs.toArray → a.eval (.tmp 66) = .agg p.cs.toArray → ∀ o : Oper, o.op = .binOp .eql 93 (.tmp 62) (.tmp 66) 93 → (execOp a.eval o).run Try.prog (W.drewN n) = .ok (.value (.bool q)) (W.drewN n) := by
          intro n a h1 h2 o ho
          rw [← Hq.out]
          exact run_eql_deed (.tmp 62) (.tmp 66) ho h.deed p h1 h2
        refine wp_region_quiet_lit (by kernel_rfl) (by kernel_rfl) ?_
        by_cases t1 : h.thread = (i : Int)
        · have t2 : (h.thread == (i : Int)) = true := by rw [beq_iff_eq]; exact t1
          have T1 := Lib.hid t1
          clear t1
          cases q with
          | false =>
            have hrf : Hid (r = false) := Lib.hid (by rw [← Hr.out, Hres.out]; simp)
            simp only [Act.put]
            repeat (first | ((refine BigFrame.wpQuiet_want (by rfl) (fun K hK => quiet_val (.agg h.deed.cs.toArray) (by rintro _ ⟨n, rfl⟩; exact run_load_mid 93 (.tmp 61) rfl E 1 rfl h.deed.cs _ (range_drewN hre n) Try.underlying93 rfl info93) (hK _ ?_))); simp only [Act.put, List.setIfInBounds_toArray, List.set_cons_succ, List.set_cons_zero]) | ((refine BigFrame.wpQuiet_want (by rfl) (fun K hK => quiet_val (.agg p.cs.toArray) (by rintro _ ⟨n, rfl⟩; exact run_load_mid 93 (.tmp 65) rfl lb lo rfl p.cs _ (range_drewN hrd n) Try.underlying93 rfl info93) (hK _ ?_))); simp only [Act.put, List.setIfInBounds_toArray, List.set_cons_succ, List.set_cons_zero]) | ((refine BigFrame.wpQuiet_want (by rfl) (fun K hK => quiet_val (.bool false) (by rintro _ ⟨n, rfl⟩; exact HeqV n _ rfl rfl _ rfl) (hK _ ?_))); simp only [Act.put, List.setIfInBounds_toArray, List.set_cons_succ, List.set_cons_zero]) | go_big_quiet_step (fail))
            refine wpQuiet_nil ?_
            rintro _ ⟨nd, rfl⟩
            have HNd := Lib.hid (HB2.out.2.2.drewN nd)
            go_wp2_with fail
            go_ret
            exact ⟨by rw [hrf.out]; rfl, HNd.out⟩
          | true =>
            by_cases t3 : h.en = -1
            · have t4 : (h.en == -1) = true := by rw [beq_iff_eq]; exact t3
              have T3 := Lib.hid t3
              clear t3
              have hrf : Hid (r = true) := Lib.hid (by rw [← Hr.out, Hres.out]; rw [decide_eq_true T1.out, decide_eq_true T3.out]; rfl)
              simp only [Act.put]
              repeat (first | ((refine BigFrame.wpQuiet_want (by rfl) (fun K hK => quiet_val (.agg h.deed.cs.toArray) (by rintro _ ⟨n, rfl⟩; exact run_load_mid 93 (.tmp 61) rfl E 1 rfl h.deed.cs _ (range_drewN hre n) Try.underlying93 rfl info93) (hK _ ?_))); simp only [Act.put, List.setIfInBounds_toArray, List.set_cons_succ, List.set_cons_zero]) | ((refine BigFrame.wpQuiet_want (by rfl) (fun K hK => quiet_val (.agg p.cs.toArray) (by rintro _ ⟨n, rfl⟩; exact run_load_mid 93 (.tmp 65) rfl lb lo rfl p.cs _ (range_drewN hrd n) Try.underlying93 rfl info93) (hK _ ?_))); simp only [Act.put, List.setIfInBounds_toArray, List.set_cons_succ, List.set_cons_zero]) | ((refine BigFrame.wpQuiet_want (by rfl) (fun K hK => quiet_val (.bool true) (by rintro _ ⟨n, rfl⟩; exact HeqV n _ rfl rfl _ rfl) (hK _ ?_))); simp only [Act.put, List.setIfInBounds_toArray, List.set_cons_succ, List.set_cons_zero]) | go_big_quiet_step (fail))
              refine wpQuiet_nil ?_
              rintro _ ⟨nd, rfl⟩
              have HNd := Lib.hid (HB2.out.2.2.drewN nd)
              go_wp2_with fail
              go_ret
              exact ⟨by rw [hrf.out]; rfl, HNd.out⟩
            · have t4 : (h.en == -1) = false := by rw [beq_eq_false_iff_ne]; exact t3
              have T3 := Lib.hid t3
              clear t3
              have hrf : Hid (r = false) := Lib.hid (by rw [← Hr.out, Hres.out]; rw [decide_eq_false T3.out]; simp)
              simp only [Act.put]
              repeat (first | ((refine BigFrame.wpQuiet_want (by rfl) (fun K hK => quiet_val (.agg h.deed.cs.toArray) (by rintro _ ⟨n, rfl⟩; exact run_load_mid 93 (.tmp 61) rfl E 1 rfl h.deed.cs _ (range_drewN hre n) Try.underlying93 rfl info93) (hK _ ?_))); simp only [Act.put, List.setIfInBounds_toArray, List.set_cons_succ, List.set_cons_zero]) | ((refine BigFrame.wpQuiet_want (by rfl) (fun K hK => quiet_val (.agg p.cs.toArray) (by rintro _ ⟨n, rfl⟩; exact run_load_mid 93 (.tmp 65) rfl lb lo rfl p.cs _ (range_drewN hrd n) Try.underlying93 rfl info93) (hK _ ?_))); simp only [Act.put, List.setIfInBounds_toArray, List.set_cons_succ, List.set_cons_zero]) | ((refine BigFrame.wpQuiet_want (by rfl) (fun K hK => quiet_val (.bool true) (by rintro _ ⟨n, rfl⟩; exact HeqV n _ rfl rfl _ rfl) (hK _ ?_))); simp only [Act.put, List.setIfInBounds_toArray, List.set_cons_succ, List.set_cons_zero]) | go_big_quiet_step (fail))
              refine wpQuiet_nil ?_
              rintro _ ⟨nd, rfl⟩
              have HNd := Lib.hid (HB2.out.2.2.drewN nd)
              go_wp2_with fail
              go_ret
              exact ⟨by rw [hrf.out]; rfl, HNd.out⟩
        · have t2 : (h.thread == (i : Int)) = false := by rw [beq_eq_false_iff_ne]; exact t1
          have T1 := Lib.hid t1
          clear t1
          have hrf : Hid (r = false) := Lib.hid (by rw [← Hr.out, Hres.out]; rw [decide_eq_false T1.out]; rfl)
          simp only [Act.put]
          repeat go_big_quiet_step (fail)
          refine wpQuiet_nil ?_
          rintro _ ⟨nd, rfl⟩
          have HNd := Lib.hid (HB2.out.2.2.drewN nd)
          go_wp2_with fail
          go_ret
          exact ⟨by rw [hrf.out]; rfl, HNd.out⟩
end Go.Proofs.Ytkjloeefcaadlaa
