/- Which machines may be. -/
import Derived.Test.YtkjloeefcaadlaaP14
import Derived.Deep.QuietTactic
import Derived.BigQuiet
set_option linter.unusedSimpArgs false
set_option linter.unusedVariables false
namespace Go.Proofs.Ytkjloeefcaadlaa
open Go.RowKit Go.Shelf Go.Cs
attribute [local go_sem] Oper.semAt_some
theorem info95 : (Try.prog.info? 95).map (·.size) = some 8 := by kernel_rfl

/-- What is loaded of a thread's row. -/
theorem MaR.thread {W : World} {m : Ma} {tv hh : Value} {lv : Nat → Value} (h : MaR W m tv hh lv) {k : Nat} (hk : k < m.ths.length) : ∃ b o cap, tv = .slice (some ⟨b, o, none⟩) m.ths.length cap ∧ W.rangeAt b (o + k * 4) ((m.ths.getD k .no).cs (lv k)) := by
  obtain ⟨_, ao, cap, rfl, hc⟩ := h.ths
  obtain ⟨b, o, rfl, hr⟩ := hc k hk
  exact ⟨b, o, cap, rfl, hr⟩
theorem MaR.moment {W : World} {m : Ma} {tv hh : Value} {lv : Nat → Value} (h : MaR W m tv hh lv) {k : Nat} (hk : k < m.hist.length) : ∃ b o cap, hh = .slice (some ⟨b, o, none⟩) m.hist.length cap ∧ W.rangeAt b (o + k * 8) (m.hist.getD k .no).cs := by
  obtain ⟨_, ao, cap, rfl, hc⟩ := h.hist
  obtain ⟨b, o, rfl, hr⟩ := hc k hk
  exact ⟨b, o, cap, rfl, hr⟩
theorem th_one {t : Th} {v : Value} {W : World} {L : List Dn} (h : ReadsE W v L) : ∀ u ∈ t.cs v, u.oneCell' = true := by
  obtain ⟨_, ao, cap, rfl, _⟩ := h
  intro u hu
  simp [Th.cs] at hu
  rcases hu with rfl | rfl | rfl | rfl <;> rfl
theorem mo_one (h : Mo) : ∀ u ∈ h.cs, u.oneCell' = true := by
  intro u hu
  simp [Mo.cs] at hu
  rcases hu with rfl | rfl | rfl | rfl | rfl | rfl | rfl | rfl <;> rfl
theorem right_no {m : Ma} (h : (0 ≤ m.clock ∧ m.clock ≤ 4611686018427387904 ∧ m.ths.length ≤ 3 ∧ rightB m.word = true) → ∃ k, k < m.ths.length ∧ thR m.hist k (m.ths.getD k .no) = false) : rightM rightB m = false := by
  cases hb : rightM rightB m with
  | false => rfl
  | true =>
    obtain ⟨h1, h2, h3, h4, h5⟩ := rightM_iff.1 hb
    obtain ⟨k, hk, hf⟩ := h ⟨h1, h2, h3, h4⟩
    rw [thR_iff.2 (h5 k hk)] at hf
    cases hf
set_option maxRecDepth 100000 in
set_option maxHeartbeats 4000000 in
theorem right_head (v : Value) (m : Ma) (w : World) (hv : ReadsM w v m) (hw : m.word < 18446744073709551616) (hno : ¬ (0 ≤ m.clock ∧ m.clock ≤ 4611686018427387904 ∧ m.ths.length ≤ 3 ∧ rightB m.word = true)) :
    Calls Try.prog 94 #[v] w fun e w' => e = .returned (.bool false) ∧ New w w' := by
  obtain ⟨tv, hh, lv, rfl, hR⟩ := hv
  have HW := Lib.hid (right_any m.word hw)
  obtain ⟨ao, cap, ht, _⟩ := hR.ths.2
  have hl := hR.ths.1
  subst ht
  obtain ⟨b, hb⟩ : ∃ b, rightB m.word = b := ⟨_, rfl⟩
  rw [hb] at HW hno
  clear hb hw hR
  obtain ⟨n, hn⟩ : ∃ n, m.ths.length = n := ⟨_, rfl⟩
  rw [hn] at hl hno ⊢
  clear hn
  have hN0 : New w (w.alloc (.cells (maV m (.slice ao n cap) hh).toArray 77)) := (Mods.refl _ _).alloc _
  unfold maV at *
  by_cases h1 : m.clock < 0
  · have d1 : decide (m.clock < 0) = true := decide_eq_true h1
    go_enter Try.func94, Try.ntmps94
    go_wp2_with fail
    go_ret
    exact ⟨rfl, hN0⟩
  have d1 : decide (m.clock < 0) = false := decide_eq_false h1
  by_cases h2 : 4611686018427387904 < m.clock
  · have d2 : decide (4611686018427387904 < m.clock) = true := decide_eq_true h2
    go_enter Try.func94, Try.ntmps94
    go_wp2_with fail
    go_ret
    exact ⟨rfl, hN0⟩
  have d2 : decide (4611686018427387904 < m.clock) = false := decide_eq_false h2
  by_cases h3 : 3 < n
  · have d3 : decide ((3 : Int) < (n : Int)) = true := decide_eq_true (by omega)
    go_enter Try.func94, Try.ntmps94
    go_wp2_with fail
    go_ret
    exact ⟨rfl, hN0⟩
  have d3 : decide ((3 : Int) < (n : Int)) = false := decide_eq_false (by omega)
  cases b with
  | true => exact absurd ⟨by omega, by omega, by omega, rfl⟩ hno
  | false =>
    clear hno
    go_enter Try.func94, Try.ntmps94
    go_wp2_with fail
    refine (HW.out _).mono ?_
    rintro e w1 ⟨rfl, hN1⟩
    go_wp2_with fail
    go_ret
    exact ⟨rfl, hN0.trans hN1⟩
/-- A thread that may not be. -/
theorem thR_all {hist : List Mo} {k : Nat} {t : Th} (h : allD t.left = false) : thR hist k t = false := by unfold thR; rw [h]; rfl
theorem thR_ld {hist : List Mo} {k : Nat} {t : Th} (h : t.moment = -1) (h2 : t.loaded = true) : thR hist k t = false := by unfold thR; rw [if_pos h, h2]; simp
theorem thR_rng {hist : List Mo} {k : Nat} {t : Th} (h : t.moment ≠ -1) (h2 : ¬ (0 ≤ t.moment ∧ t.moment < hist.length ∧ 0 < t.left.length)) : thR hist k t = false := by
  unfold thR
  rw [if_neg h]
  have : (decide (0 ≤ t.moment) && (decide (t.moment < hist.length) && decide (0 < t.left.length))) = false := by
    rw [Bool.eq_false_iff]
    simpa using h2
  rw [this]
  simp
theorem thR_mom {hist : List Mo} {k : Nat} {t : Th} {j : Nat} (h : t.moment = j) (ha : allD t.left = true) (hj : j < hist.length) (hl : 0 < t.left.length) : thR hist k t = momR k t (hist.getD j .no) := by
  unfold thR
  rw [if_neg (by omega), ha, h, Int.toNat_natCast, decide_eq_true (by omega : (0 : Int) ≤ (j : Int)), decide_eq_true (by omega : (j : Int) < (hist.length : Int)), decide_eq_true hl]
  simp
theorem thR_none {hist : List Mo} {k : Nat} {t : Th} (ha : allD t.left = true) (h : t.moment = -1) (h2 : t.loaded = false) : thR hist k t = true := by
  unfold thR
  rw [if_pos h, ha, h2]
  rfl
theorem quiet_val {P : Program} {C : World → Prop} {o : Oper} {a : Act} {K : Act → Prop} (v : Value) (h : ∀ w, C w → (execOp a.eval o).run P w = .ok (.value v) w) (hk : K (a.put o.dst v)) : o.quiet P a C K :=
  ⟨v, fun w hw => by unfold Oper.quietAt; rw [h w hw]; exact ⟨rfl, rfl⟩, hk⟩
theorem range_drewN {W : World} {b o : Nat} {cs : List Value} (h : W.rangeAt b o cs) (n : Nat) : (W.drewN n).rangeAt b o cs := fun j v hv => h j v hv
def RightAt (w : World) (m : Ma) (tv hh : Value) (k : Nat) (W : World) : Prop := (∀ j, j < k → thR m.hist j (m.ths.getD j .no) = true) ∧ MB W w.heap.size m.word m.clock tv hh ∧ New w W
set_option maxRecDepth 100000 in
set_option maxHeartbeats 4000000 in
theorem right_S (v : Value) (m : Ma) (w : World) (hv : ReadsM w v m) (hw : m.word < 18446744073709551616) : Calls Try.prog 94 #[v] w fun e w' => e = .returned (.bool (rightM rightB m)) ∧ New w w' := by
  by_cases hno : ¬ (0 ≤ m.clock ∧ m.clock ≤ 4611686018427387904 ∧ m.ths.length ≤ 3 ∧ rightB m.word = true)
  · rw [right_no fun h => absurd h hno]
    exact right_head v m w hv hw hno
  obtain ⟨tv, hh, lv, rfl, hR⟩ := hv
  obtain ⟨h1, h2, h3, h4⟩ := Decidable.not_not.1 hno
  have HW := Lib.hid (right_any m.word hw)
  rw [h4] at HW
  obtain ⟨n, hn⟩ : ∃ n, m.ths.length = n := ⟨_, rfl⟩
  have Hn := Lib.hid hn
  have HR := Lib.hid hR
  obtain ⟨ao, cap, ht, _⟩ := hR.ths.2
  obtain ⟨ho, hcap, hhv, _⟩ := hR.hist.2
  have hl := hR.ths.1
  have hlh := hR.hist.1
  rw [hn] at ht hl h3
  subst ht hhv
  obtain ⟨b, hb⟩ : ∃ b, rightM rightB m = b := ⟨_, rfl⟩
  have Hb := Lib.hid hb
  rw [hb]
  have d1 : decide (m.clock < 0) = false := decide_eq_false (by omega)
  have d2 : decide (4611686018427387904 < m.clock) = false := decide_eq_false (by omega)
  have d3 : decide ((3 : Int) < (n : Int)) = false := decide_eq_false (by omega)
  have hB := World.alloc_heap_new w (.cells (maV m (.slice ao n cap) (.slice ho m.hist.length hcap)).toArray 77)
  have hN0 : New w (w.alloc (.cells (maV m (.slice ao n cap) (.slice ho m.hist.length hcap)).toArray 77)) := (Mods.refl _ _).alloc _
  have h0 : Hid (RightAt w m (.slice ao n cap) (.slice ho m.hist.length hcap) 0 (w.alloc (.cells (maV m (.slice ao n cap) (.slice ho m.hist.length hcap)).toArray 77))) := Lib.hid ⟨fun j hj => by omega, hB, hN0⟩
  have Hyes := Lib.hid hno
  have Hw := Lib.hid h4
  clear hno h4 hn hb hR hw h2 hB hN0 h1
  unfold maV at *
  go_enter Try.func94, Try.ntmps94
  go_wp2_with fail
  refine (HW.out _).mono ?_
  rintro e w1 ⟨rfl, hN1⟩
  have h1 : RightAt w m (.slice ao n cap) (.slice ho m.hist.length hcap) 0 w1 := ⟨h0.out.1, h0.out.2.1.new hN1, h0.out.2.2.trans hN1⟩
  have hc2 := h1.2.1.c2
  have H1 := Lib.hid h1
  clear h1 h0 hN1 HW
  go_wp2_with fail
  go_loopw [29] (fun i wr => ∃ k : Nat, k ≤ n ∧ i = .int .i64 k ∧ Hid (RightAt w m (.slice ao n cap) (.slice ho m.hist.length hcap) k wr)) (fun i _ => n - (intOf i).toNat)
  case atStart => exact ⟨0, Nat.zero_le _, rfl, H1⟩
  case round =>
    obtain ⟨k, hk, rfl, hA⟩ := hrel
    clear hc2 H1
    by_cases hkn : k < n
    · have hkd : decide ((k : Int) < (n : Int)) = true := decide_eq_true (by omega)
      have hkm : k < m.ths.length := by rw [Hn.out]; exact hkn
      obtain ⟨g, o, cap', hv, hra⟩ := (HR.out.new hA.out.2.2).thread hkm
      cases hv
      have hE := HR.out.left k hkm
      obtain ⟨lvk, hlvk⟩ : ∃ x, lv k = x := ⟨_, rfl⟩
      rw [hlvk] at hra hE
      obtain ⟨t, ht⟩ : ∃ t, m.ths.getD k .no = t := ⟨_, rfl⟩
      rw [ht] at hra hE
      have Ht := Lib.hid ht
      have hone := th_one (t := t) hE
      clear ht hlvk
      go_upto_region 6 with (first | (refine op_value rfl (run_load_mid 100 (.tmp 32) rfl g (o + k * 4) rfl (t.cs lvk) _ hra Try.underlying100 rfl info100) ?_) | (refine op_skip rfl (run_store_new 100 (.tmp 4) (.tmp 33) rfl 100 [.slice none 0 0, .bool false, .int .u64 0, .int .i64 0] (t.cs lvk) rfl rfl info100 rfl hone) ?_))
      have hNa : New wr (wr.alloc (.cells (t.cs lvk).toArray 100)) := (Mods.refl _ _).alloc _
      have hD := World.alloc_heap_new wr (.cells (t.cs lvk).toArray 100)
      have hRA : RightAt w m (.slice (some ⟨g, o, none⟩) m.ths.length cap) (.slice ho m.hist.length hcap) k (wr.alloc (.cells (t.cs lvk).toArray 100)) := ⟨hA.out.1, hA.out.2.1.new hNa, hA.out.2.2.trans hNa⟩
      obtain ⟨W1, hW⟩ : ∃ W, wr.alloc (.cells (t.cs lvk).toArray 100) = W := ⟨_, rfl⟩
      obtain ⟨D, hDD⟩ : ∃ D, wr.heap.size = D := ⟨_, rfl⟩
      rw [hW] at hD hRA ⊢
      rw [hDD] at hD ⊢
      have hcD := th_c0 hD
      have hE1 := hE.new hRA.2.2
      have HA := Lib.hid (all_S lvk t.left W1 hE1)
      obtain ⟨ll, la, lc, hlv, hlr⟩ := hE1
      subst hlv
      clear hW hDD hra hone hNa hA
      obtain ⟨c, hc⟩ : ∃ c, allD t.left = c := ⟨_, rfl⟩
      have hc' : (t.left.all fun p => isDeed p.d) = c := hc
      rw [hc'] at HA
      have Hc := Lib.hid hc
      have HE := Lib.hid hE
      clear hc hc' hE hlr
      go_wp2_with fail
      refine HA.out.mono ?_
      rintro e w2 ⟨rfl, hN2⟩
      have hD2 := hN2.heap hD id
      have hRA2 : RightAt w m (.slice (some ⟨g, o, none⟩) m.ths.length cap) (.slice ho m.hist.length hcap) k w2 := ⟨hRA.1, hRA.2.1.new hN2, hRA.2.2.trans hN2⟩
      clear hD hcD hRA hN2 HA
      cases c with
      | false =>
        have hb : Hid (b = false) := Lib.hid (by rw [← Hb.out]; exact right_no fun _ => ⟨k, hkm, by rw [Ht.out]; exact thR_all Hc.out⟩)
        have HN := Lib.hid hRA2.2.2
        clear hRA2 hD2
        go_wp2_with fail
        go_ret
        exact ⟨by rw [hb.out]; rfl, HN.out⟩
      | true =>
        have hc1 := th_c1 hD2
        have hc3 := th_c3 hD2
        have hc0 := th_c0 hD2
        have hB3 := hRA2.2.1.c3
        obtain ⟨mo, hmo⟩ : ∃ x, t.moment = x := ⟨_, rfl⟩
        obtain ⟨ld, hld⟩ : ∃ x, t.loaded = x := ⟨_, rfl⟩
        rw [hmo] at hc3
        rw [hld] at hc1
        have Hmo := Lib.hid hmo
        have Hld := Lib.hid hld
        have HN := Lib.hid hRA2
        clear hmo hld
        by_cases h1 : mo = -1
        · have e1 : (mo == -1) = true := by simpa using h1
          cases ld with
          | true =>
            have hb : Hid (b = false) := Lib.hid (by rw [← Hb.out]; exact right_no fun _ => ⟨k, hkm, by rw [Ht.out]; exact thR_ld (Hmo.out.trans h1) Hld.out⟩)
            clear hRA2 hD2 h1
            go_wp2_with fail
            go_ret
            exact ⟨by rw [hb.out]; rfl, HN.out.2.2⟩
          | false =>
            have hnext : Hid (RightAt w m (.slice (some ⟨g, o, none⟩) m.ths.length cap) (.slice ho m.hist.length hcap) (k + 1) w2) := Lib.hid ⟨fun j hj => by
              by_cases hjk : j < k
              · exact HN.out.1 j hjk
              · obtain rfl : j = k := by omega
                rw [Ht.out]
                exact thR_none Hc.out (Hmo.out.trans h1) Hld.out, HN.out.2⟩
            clear hRA2 hD2 h1
            go_wp2_with fail
            go_roundw
            case rel => exact ⟨k + 1, by omega, by go_num, hnext⟩
            case measure => simp [intOf]; omega
        · have e1 : (mo == -1) = false := by simpa using h1
          have hbad : ¬ (0 ≤ mo ∧ mo < m.hist.length ∧ 0 < t.left.length) → Hid (b = false) := fun h => Lib.hid (by
            rw [← Hb.out]
            exact right_no fun _ => ⟨k, hkm, by rw [Ht.out]; exact thR_rng (by rw [Hmo.out]; exact h1) (by rw [Hmo.out]; exact h)⟩)
          have Hbad := Lib.hid hbad
          clear hbad h1
          by_cases r1 : mo < 0
          · have hb := Hbad.out (by omega)
            have f1 : decide (mo < 0) = true := decide_eq_true r1
            clear hRA2 hD2 Hbad
            go_wp2_with fail
            go_ret
            exact ⟨by rw [hb.out]; rfl, HN.out.2.2⟩
          have f1 : decide (mo < 0) = false := decide_eq_false r1
          by_cases r2 : (m.hist.length : Int) ≤ mo
          · have hb := Hbad.out (by omega)
            have f2 : decide ((m.hist.length : Int) ≤ mo) = true := decide_eq_true r2
            clear hRA2 hD2 Hbad
            go_wp2_with fail
            go_ret
            exact ⟨by rw [hb.out]; rfl, HN.out.2.2⟩
          have f2 : decide ((m.hist.length : Int) ≤ mo) = false := decide_eq_false r2
          by_cases r3 : t.left.length = 0
          · have hb := Hbad.out (by omega)
            have f3 : t.left = [] := List.eq_nil_of_length_eq_zero r3
            have f4 : ((t.left.length : Int) == 0) = true := by simp [f3]
            clear hRA2 hD2 Hbad
            go_wp2_with fail
            go_ret
            exact ⟨by rw [hb.out]; rfl, HN.out.2.2⟩
          have f4 : ((t.left.length : Int) == 0) = false := by rw [beq_eq_false_iff_ne]; omega
          clear Hbad
          obtain ⟨j, rfl⟩ := Int.eq_ofNat_of_zero_le (Int.not_lt.1 r1)
          have hjl : j < m.hist.length := by omega
          have hlp : 0 < t.left.length := by omega
          obtain ⟨hg, hoo, hcap', hvh, hrh⟩ := (HR.out.new HN.out.2.2).moment hjl
          cases hvh
          obtain ⟨h, hh⟩ : ∃ x, m.hist.getD j .no = x := ⟨_, rfl⟩
          rw [hh] at hrh
          have Hh := Lib.hid hh
          have hmone := mo_one h
          have hjj1 : (0 : Int) ≤ (j : Int) := by omega
          have hjj2 : (j : Int) < (m.hist.length : Int) := by omega
          clear hh r1 r2 r3
          go_upto_region 13 with fail
          go_upto_region 14 with (first | (refine op_value rfl (run_load_mid 95 (.tmp 73) rfl hg (hoo + j * 8) rfl h.cs _ hrh Try.underlying95 rfl info95) ?_) | (refine op_skip rfl (run_store_new 95 (.tmp 5) (.tmp 74) rfl 95 [.int .i64 0, .int .u8 0, .int .i64 0, .int .i64 0, .int .i64 0, .int .i64 0, .int .i64 0, .bool false] h.cs rfl rfl info95 rfl hmone) ?_))
          have hNa : New w2 (w2.alloc (.cells h.cs.toArray 95)) := (Mods.refl _ _).alloc _
          have hE := World.alloc_heap_new w2 (.cells h.cs.toArray 95)
          have hRA : RightAt w m (.slice (some ⟨g, o, none⟩) m.ths.length cap) (.slice (some ⟨hg, hoo, none⟩) m.hist.length hcap) k (w2.alloc (.cells h.cs.toArray 95)) := ⟨hRA2.1, hRA2.2.1.new hNa, hRA2.2.2.trans hNa⟩
          have hDa := hNa.heap hD2 id
          obtain ⟨W, hW⟩ : ∃ W, w2.alloc (.cells h.cs.toArray 95) = W := ⟨_, rfl⟩
          obtain ⟨E, hEE⟩ : ∃ E, w2.heap.size = E := ⟨_, rfl⟩
          rw [hW] at hE hRA hDa ⊢
          rw [hEE] at hE ⊢
          obtain ⟨_, ao', cap'', he, hr⟩ := HE.out
          cases he
          obtain ⟨lb, lo, rfl, hrd⟩ := hr 0 hlp
          rw [Nat.zero_mul, Nat.add_zero] at hrd
          replace hrd : W.rangeAt lb lo (t.left.getD 0 .no).cs := fun j v hv => hRA.2.2.cell (hrd j v hv) id
          have hre : W.rangeAt E 1 h.deed.cs := fun j v hv => by
            rw [cell_of_row _ _ _ _ _ _ hE]
            match j, hv with
            | 0, hv => exact hv
            | 1, hv => exact hv
            | 2, hv => exact hv
          have he0 : W.cell? ⟨E, 0, none⟩ = some (.int .i64 h.thread) := by rw [cell_of_row _ _ _ _ _ _ hE]; rfl
          have he5 : W.cell? ⟨E, 5, none⟩ = some (.int .i64 h.en) := by rw [cell_of_row _ _ _ _ _ _ hE]; rfl
          have hd0 := th_c0 hDa
          have hl0 : (0 : Int) < (t.left.length : Int) := by omega
          obtain ⟨p, hp⟩ : ∃ p, t.left.getD 0 .no = p := ⟨_, rfl⟩
          rw [hp] at hrd
          have Hp := Lib.hid hp
          have hres : thR m.hist k t = momR k t h := by rw [thR_mom Hmo.out Hc.out hjl hlp, Hh.out]
          have Hres : Hid (thR m.hist k t = (decide (h.thread = k) && (dEq h.deed p && decide (h.en = -1)))) := Lib.hid (by rw [hres]; unfold momR; rw [hp])
          have HRA := Lib.hid hRA
          clear hres hp hE hDa hW hEE hr hRA2 hD2 hc0 hc1 hc3 hB3 hrh hmone hNa hRA
          obtain ⟨q, hq⟩ : ∃ q, dEq h.deed p = q := ⟨_, rfl⟩
          rw [hq] at Hres
          have Hq := Lib.hid hq
          clear hq
          have HneV : ∀ n, ∀ a : Act, a.eval (.tmp 81) = .agg h.deed.cs.toArray → a.eval (.tmp 85) = .agg p.cs.toArray → ∀ o : Oper, o.op = .binOp .neq 93 (.tmp 81) (.tmp 85) 93 → (execOp a.eval o).run Try.prog (W.drewN n) = .ok (.value (.bool (!q))) (W.drewN n) := by
            intro n a h1 h2 o ho
            rw [← Hq.out]
            exact run_neq_deed (.tmp 81) (.tmp 85) ho h.deed p h1 h2
          refine wp_region_quiet_lit (by kernel_rfl) (by kernel_rfl) ?_
          by_cases t1 : h.thread = (k : Int)
          · have t2 : (h.thread != (k : Int)) = false := by rw [bne_eq_false_iff_eq]; exact t1
            have T1 := Lib.hid t1
            clear t1
            cases q with
            | false =>
              have hb : Hid (b = false) := Lib.hid (by rw [← Hb.out]; exact right_no fun _ => ⟨k, hkm, by rw [Ht.out, Hres.out]; simp⟩)
              simp only [Act.put]
              repeat (first | ((refine BigFrame.wpQuiet_want (by rfl) (fun K hK => quiet_val (.agg h.deed.cs.toArray) (by rintro _ ⟨n, rfl⟩; exact run_load_mid 93 (.tmp 80) rfl E 1 rfl h.deed.cs _ (range_drewN hre n) Try.underlying93 rfl info93) (hK _ ?_))); simp only [Act.put, List.setIfInBounds_toArray, List.set_cons_succ, List.set_cons_zero]) | ((refine BigFrame.wpQuiet_want (by rfl) (fun K hK => quiet_val (.agg p.cs.toArray) (by rintro _ ⟨n, rfl⟩; exact run_load_mid 93 (.tmp 84) rfl lb lo rfl p.cs _ (range_drewN hrd n) Try.underlying93 rfl info93) (hK _ ?_))); simp only [Act.put, List.setIfInBounds_toArray, List.set_cons_succ, List.set_cons_zero]) | ((refine BigFrame.wpQuiet_want (by rfl) (fun K hK => quiet_val (.bool true) (by rintro _ ⟨n, rfl⟩; exact HneV n _ rfl rfl _ rfl) (hK _ ?_))); simp only [Act.put, List.setIfInBounds_toArray, List.set_cons_succ, List.set_cons_zero]) | go_big_quiet_step (fail))
              refine wpQuiet_nil ?_
              rintro _ ⟨nd, rfl⟩
              have HNd := Lib.hid (HRA.out.2.2.drewN nd)
              go_wp2_with fail
              go_ret
              exact ⟨by rw [hb.out]; rfl, HNd.out⟩
            | true =>
              by_cases t3 : h.en = -1
              · have t4 : (h.en != -1) = false := by rw [bne_eq_false_iff_eq]; exact t3
                have T3 := Lib.hid t3
                have hnext : ∀ nd, Hid (RightAt w m (.slice (some ⟨g, o, none⟩) m.ths.length cap) (.slice (some ⟨hg, hoo, none⟩) m.hist.length hcap) (k + 1) (W.drewN nd)) := fun nd => Lib.hid ⟨fun j hj => by
                  by_cases hjk : j < k
                  · exact HRA.out.1 j hjk
                  · obtain rfl : j = k := by omega
                    rw [Ht.out, Hres.out, T1.out, T3.out]
                    simp, HRA.out.2.1, HRA.out.2.2.drewN nd⟩
                clear t3
                simp only [Act.put]
                repeat (first | ((refine BigFrame.wpQuiet_want (by rfl) (fun K hK => quiet_val (.agg h.deed.cs.toArray) (by rintro _ ⟨n, rfl⟩; exact run_load_mid 93 (.tmp 80) rfl E 1 rfl h.deed.cs _ (range_drewN hre n) Try.underlying93 rfl info93) (hK _ ?_))); simp only [Act.put, List.setIfInBounds_toArray, List.set_cons_succ, List.set_cons_zero]) | ((refine BigFrame.wpQuiet_want (by rfl) (fun K hK => quiet_val (.agg p.cs.toArray) (by rintro _ ⟨n, rfl⟩; exact run_load_mid 93 (.tmp 84) rfl lb lo rfl p.cs _ (range_drewN hrd n) Try.underlying93 rfl info93) (hK _ ?_))); simp only [Act.put, List.setIfInBounds_toArray, List.set_cons_succ, List.set_cons_zero]) | ((refine BigFrame.wpQuiet_want (by rfl) (fun K hK => quiet_val (.bool false) (by rintro _ ⟨n, rfl⟩; exact HneV n _ rfl rfl _ rfl) (hK _ ?_))); simp only [Act.put, List.setIfInBounds_toArray, List.set_cons_succ, List.set_cons_zero]) | go_big_quiet_step (fail))
                refine wpQuiet_nil ?_
                rintro _ ⟨nd, rfl⟩
                have hnext := hnext nd
                go_wp2_with fail
                go_roundw
                case rel => exact ⟨k + 1, by omega, by go_num, hnext⟩
                case measure => simp [intOf]; omega
              · have t4 : (h.en != -1) = true := by rw [bne_iff_ne]; exact t3
                have T3 := Lib.hid t3
                clear t3
                have hb : Hid (b = false) := Lib.hid (by rw [← Hb.out]; exact right_no fun _ => ⟨k, hkm, by rw [Ht.out, Hres.out]; simp; intro _; exact T3.out⟩)
                simp only [Act.put]
                repeat (first | ((refine BigFrame.wpQuiet_want (by rfl) (fun K hK => quiet_val (.agg h.deed.cs.toArray) (by rintro _ ⟨n, rfl⟩; exact run_load_mid 93 (.tmp 80) rfl E 1 rfl h.deed.cs _ (range_drewN hre n) Try.underlying93 rfl info93) (hK _ ?_))); simp only [Act.put, List.setIfInBounds_toArray, List.set_cons_succ, List.set_cons_zero]) | ((refine BigFrame.wpQuiet_want (by rfl) (fun K hK => quiet_val (.agg p.cs.toArray) (by rintro _ ⟨n, rfl⟩; exact run_load_mid 93 (.tmp 84) rfl lb lo rfl p.cs _ (range_drewN hrd n) Try.underlying93 rfl info93) (hK _ ?_))); simp only [Act.put, List.setIfInBounds_toArray, List.set_cons_succ, List.set_cons_zero]) | ((refine BigFrame.wpQuiet_want (by rfl) (fun K hK => quiet_val (.bool false) (by rintro _ ⟨n, rfl⟩; exact HneV n _ rfl rfl _ rfl) (hK _ ?_))); simp only [Act.put, List.setIfInBounds_toArray, List.set_cons_succ, List.set_cons_zero]) | go_big_quiet_step (fail))
                refine wpQuiet_nil ?_
                rintro _ ⟨nd, rfl⟩
                have HNd := Lib.hid (HRA.out.2.2.drewN nd)
                go_wp2_with fail
                go_ret
                exact ⟨by rw [hb.out]; rfl, HNd.out⟩
          · have t2 : (h.thread != (k : Int)) = true := by rw [bne_iff_ne]; exact t1
            have T1 := Lib.hid t1
            clear t1
            have hb : Hid (b = false) := Lib.hid (by rw [← Hb.out]; exact right_no fun _ => ⟨k, hkm, by rw [Ht.out, Hres.out]; simp; intro e; exact absurd e T1.out⟩)
            simp only [Act.put]
            repeat go_big_quiet_step (fail)
            refine wpQuiet_nil ?_
            rintro _ ⟨nd, rfl⟩
            have HNd := Lib.hid (HRA.out.2.2.drewN nd)
            go_wp2_with fail
            go_ret
            exact ⟨by rw [hb.out]; rfl, HNd.out⟩
    · obtain rfl : k = n := by omega
      have hkd : decide ((k : Int) < (k : Int)) = false := decide_eq_false (by omega)
      have hb : Hid (b = true) := Lib.hid (by
        rw [← Hb.out, rightM_iff]
        obtain ⟨h1, h2, _⟩ := Decidable.not_not.1 Hyes.out
        refine ⟨h1, h2, by rw [Hn.out]; exact h3, Hw.out, fun i hi => ?_⟩
        exact thR_iff.1 (hA.out.1 i (by rw [Hn.out] at hi; exact hi)))
      have HN := Lib.hid hA.out.2.2
      go_wp2_with fail
      go_ret
      exact ⟨by rw [hb.out]; rfl, HN.out⟩
end Go.Proofs.Ytkjloeefcaadlaa
