/- The document's machines that may be. -/
import Derived.Test.YtkjloeefcaadlaaP25
import Derived.Deep.CutRange
set_option linter.unusedSimpArgs false
set_option linter.unusedVariables false
namespace Go.Proofs.Ytkjloeefcaadlaa
open Go.RowKit Go.Shelf Go.Cs
attribute [local go_sem] Oper.semAt_some
set_option maxRecDepth 100000 in
set_option maxHeartbeats 4000000 in
theorem right_ref18 (v : Value) (m : Ma) (w : World) (hv : ReadsM w v m) (hw : m.word < 18446744073709551616) : Calls Try.prog 50 #[v] w fun e w' => e = .returned (.bool (rightM rightB m)) ∧ New w w' := by
  have HV := Lib.hid hv
  obtain ⟨tv, hh, lv, rfl, hR⟩ := hv
  have HW := Lib.hid (right_gen m.word hw)
  obtain ⟨⟨ao, cap, rfl⟩, ⟨ho, hcap, rfl⟩⟩ := hR.slices
  have hl := hR.ths.1
  obtain ⟨rb, hrb⟩ : ∃ b, rightB m.word = b := ⟨_, rfl⟩
  rw [hrb] at HW
  have Hrb := Lib.hid hrb
  obtain ⟨r, hr⟩ : ∃ r, rightM rightB m = r := ⟨_, rfl⟩
  have Hr := Lib.hid hr
  rw [hr]
  have hno : ¬ (0 ≤ m.clock ∧ m.clock ≤ 4611686018427387904 ∧ m.ths.length ≤ 3 ∧ rightB m.word = true) → Hid (r = false) := fun h => Lib.hid (by rw [← Hr.out]; exact right_no fun h' => absurd h' h)
  have Hno := Lib.hid hno
  have hB : MB (w.alloc (.cells #[.int .u64 (m.word : Nat), .int .i64 m.clock, .slice ao m.ths.length cap, .slice ho m.hist.length hcap] 77)) w.heap.size m.word m.clock (.slice ao m.ths.length cap) (.slice ho m.hist.length hcap) := World.alloc_heap_new w _
  have hN0 : New w (w.alloc (.cells #[.int .u64 (m.word : Nat), .int .i64 m.clock, .slice ao m.ths.length cap, .slice ho m.hist.length hcap] 77)) := (Mods.refl _ _).alloc _
  have h0 : Hid (MB (w.alloc (.cells #[.int .u64 (m.word : Nat), .int .i64 m.clock, .slice ao m.ths.length cap, .slice ho m.hist.length hcap] 77)) w.heap.size m.word m.clock (.slice ao m.ths.length cap) (.slice ho m.hist.length hcap) ∧ New w (w.alloc (.cells #[.int .u64 (m.word : Nat), .int .i64 m.clock, .slice ao m.ths.length cap, .slice ho m.hist.length hcap] 77))) := Lib.hid ⟨hB, hN0⟩
  clear hr hR hrb hw hno hB hN0
  unfold maV at HV ⊢
  cases rb with
  | false =>
    have hrf := Hno.out (fun h => by have := h.2.2.2; rw [Hrb.out] at this; cases this)
    go_enter Try.func50, Try.ntmps50
    go_wp2_with fail
    refine (HW.out _).mono ?_
    rintro e w1 ⟨rfl, hN1⟩
    have HN := Lib.hid (h0.out.2.trans hN1)
    clear hN1
    go_wp2_with fail
    go_ret
    exact ⟨by rw [hrf.out]; rfl, HN.out⟩
  | true =>
    by_cases h3 : 3 < m.ths.length
    · have hrf := Hno.out (fun h => by omega)
      have d3 : decide ((3 : Int) < (m.ths.length : Int)) = true := decide_eq_true (by omega)
      go_enter Try.func50, Try.ntmps50
      go_wp2_with fail
      refine (HW.out _).mono ?_
      rintro e w1 ⟨rfl, hN1⟩
      have HN := Lib.hid (h0.out.2.trans hN1)
      have c2 := (h0.out.1.new hN1).c2
      clear hN1
      go_wp2_with fail
      go_ret
      exact ⟨by rw [hrf.out]; rfl, HN.out⟩
    have d3 : decide ((3 : Int) < (m.ths.length : Int)) = false := decide_eq_false (by omega)
    by_cases h1 : m.clock < 0
    · have hrf := Hno.out (fun h => by omega)
      have d1 : decide (m.clock < 0) = true := decide_eq_true h1
      go_enter Try.func50, Try.ntmps50
      go_wp2_with fail
      refine (HW.out _).mono ?_
      rintro e w1 ⟨rfl, hN1⟩
      have HN := Lib.hid (h0.out.2.trans hN1)
      have c2 := (h0.out.1.new hN1).c2
      have c1 := (h0.out.1.new hN1).c1
      clear hN1
      go_wp2_with fail
      go_ret
      exact ⟨by rw [hrf.out]; rfl, HN.out⟩
    have d1 : decide (m.clock < 0) = false := decide_eq_false h1
    by_cases h2 : 4611686018427387904 < m.clock
    · have hrf := Hno.out (fun h => by omega)
      have d2 : decide (4611686018427387904 < m.clock) = true := decide_eq_true h2
      go_enter Try.func50, Try.ntmps50
      go_wp2_with fail
      refine (HW.out _).mono ?_
      rintro e w1 ⟨rfl, hN1⟩
      have HN := Lib.hid (h0.out.2.trans hN1)
      have c2 := (h0.out.1.new hN1).c2
      have c1 := (h0.out.1.new hN1).c1
      clear hN1
      go_wp2_with fail
      go_ret
      exact ⟨by rw [hrf.out]; rfl, HN.out⟩
    have d2 : decide (4611686018427387904 < m.clock) = false := decide_eq_false h2
    have Hhead := Lib.hid (show 0 ≤ m.clock ∧ m.clock ≤ 4611686018427387904 ∧ m.ths.length ≤ 3 from ⟨by omega, by omega, by omega⟩)
    go_enter Try.func50, Try.ntmps50
    go_wp2_with fail
    refine (HW.out _).mono ?_
    rintro e w1 ⟨rfl, hN1⟩
    have hA : Hid (MB w1 w.heap.size m.word m.clock (.slice ao m.ths.length cap) (.slice ho m.hist.length hcap) ∧ New w w1) := Lib.hid ⟨h0.out.1.new hN1, h0.out.2.trans hN1⟩
    have c2 := hA.out.1.c2
    have c1 := hA.out.1.c1
    clear hN1 h0 h1 h2
    go_wp2_with fail
    clear c1 c2
    go_loopw [3] (fun c wr => ∃ k : Nat, k ≤ m.ths.length ∧ c = .int .i64 (k : Nat) ∧ Hid (∀ q, q < k → thR m.hist q (m.ths.getD q .no) = true) ∧ Hid (MB wr w.heap.size m.word m.clock (.slice ao m.ths.length cap) (.slice ho m.hist.length hcap) ∧ New w wr)) (fun c _ => m.ths.length - (intOf c).toNat)
    case atStart => exact ⟨0, Nat.zero_le _, rfl, Lib.hid (fun i hi => by omega), hA⟩
    case round =>
      obtain ⟨k, hk, rfl, hbef, hB⟩ := hrel
      clear hA
      have c2 := hB.out.1.c2
      by_cases hkn : k < m.ths.length
      · have hkd : decide ((k : Int) < (m.ths.length : Int)) = true := decide_eq_true (by omega)
        have HT := Lib.hid (thread_ref _ m k wr (HV.out.new hB.out.2) hkn)
        obtain ⟨c, hc⟩ : ∃ c, thR m.hist k (m.ths.getD k .no) = c := ⟨_, rfl⟩
        rw [hc] at HT
        have Hc := Lib.hid hc
        have hl77 : (Try.prog.info? 77).map (·.size) = some (#[.int .u64 (m.word : Nat), .int .i64 m.clock, .slice ao m.ths.length cap, .slice ho m.hist.length hcap] : Array Value).size := info77
        have hB' : wr.heap[w.heap.size]? = some (.cells #[.int .u64 (m.word : Nat), .int .i64 m.clock, .slice ao m.ths.length cap, .slice ho m.hist.length hcap] 77 (0, 0)) := hB.out.1
        clear hc
        go_upto_region 6 with fail
        go_wp2_with (refine op_value rfl (run_load_row 77 (.tmp 1) rfl w.heap.size rfl 77 #[.int .u64 (m.word : Nat), .int .i64 m.clock, .slice ao m.ths.length cap, .slice ho m.hist.length hcap] (0, 0) _ hB' Try.underlying77 rfl hl77) ?_)
        refine HT.out.mono ?_
        rintro e w2 ⟨rfl, hN2⟩
        have HB2 : Hid (MB w2 w.heap.size m.word m.clock (.slice ao m.ths.length cap) (.slice ho m.hist.length hcap) ∧ New w w2) := Lib.hid ⟨hB.out.1.new hN2, hB.out.2.trans hN2⟩
        clear hN2 hB' hl77 HT c2
        cases c with
        | false =>
          have hrf : Hid (r = false) := Lib.hid (by rw [← Hr.out]; exact right_no fun _ => ⟨k, hkn, Hc.out⟩)
          go_wp2_with fail
          go_ret
          exact ⟨by rw [hrf.out]; rfl, HB2.out.2⟩
        | true =>
          have hnx : Hid (∀ q, q < k + 1 → thR m.hist q (m.ths.getD q .no) = true) := Lib.hid (fun q hq => by
            by_cases hqk : q < k
            · exact hbef.out q hqk
            · obtain rfl : q = k := by omega
              exact Hc.out)
          go_wp2_with fail
          go_roundw
          case rel => exact ⟨k + 1, by omega, by go_num, hnx, HB2⟩
          case measure => simp [intOf]; omega
      · obtain rfl : k = m.ths.length := by omega
        have hkd : decide ((m.ths.length : Int) < (m.ths.length : Int)) = false := decide_eq_false (by omega)
        have hrf : Hid (r = true) := Lib.hid (by
          rw [← Hr.out, rightM_iff]
          exact ⟨Hhead.out.1, Hhead.out.2.1, Hhead.out.2.2, Hrb.out, fun i hi => thR_iff.1 (hbef.out i hi)⟩)
        go_wp2_with fail
        go_ret
        exact ⟨by rw [hrf.out]; rfl, hB.out.2⟩
end Go.Proofs.Ytkjloeefcaadlaa
/- The document's comparisons. -/
namespace Go.Proofs.Ytkjloeefcaadlaa
open Go.RowKit Go.Shelf Go.Cs
attribute [local go_sem] Oper.semAt_some
set_option maxHeartbeats 2000000 in
theorem deeds_ref (v v' : Value) (L M : List Dn) (w : World) (hv : ReadsE w v L) (hv' : ReadsE w v' M) :
    Calls Try.prog 110 #[v, v'] w fun e w' => e = .returned (.bool (eqE L M)) ∧ New w w' := by
  obtain ⟨hl, ao, cap, rfl, hc⟩ := hv
  obtain ⟨hl', ao', cap', rfl, hc'⟩ := hv'
  by_cases hlen : L.length = M.length
  · obtain ⟨r, hr⟩ : ∃ r, eqE L M = r := ⟨_, rfl⟩
    have Hr := Lib.hid hr
    rw [hr]
    rw [← hlen] at hc' hl' ⊢
    obtain ⟨n, hn⟩ : ∃ n, L.length = n := ⟨_, rfl⟩
    have Hn := Lib.hid hn
    have Hlen := Lib.hid hlen
    rw [hn] at hl hc hc' ⊢
    have Hc := Lib.hid hc
    have Hc' := Lib.hid hc'
    clear hr hn hlen hc hc' hl'
    go_enter Try.func110, Try.ntmps110
    go_wp2_with fail
    go_loopw [5] (fun c wr => ∃ k : Nat, k ≤ n ∧ c = .int .i64 k ∧ Hid (∀ i, i < k → dEq (L.getD i .no) (M.getD i .no) = true) ∧ New w wr) (fun c _ => n - (intOf c).toNat)
    case atStart => exact ⟨0, Nat.zero_le _, rfl, Lib.hid (fun i hi => by omega), Mods.refl _ _⟩
    case round =>
      obtain ⟨k, hk, rfl, hbef, hN⟩ := hrel
      by_cases hkn : k < n
      · have hkd : decide ((k : Int) < (n : Int)) = true := decide_eq_true (by omega)
        obtain ⟨b, o, rfl, hr⟩ := Hc.out k hkn
        obtain ⟨b', o', rfl, hr'⟩ := Hc'.out k hkn
        have hr : wr.drew.rangeAt b (o + k * 3) (L.getD k .no).cs := fun j v hv => hN.drew.cell (hr j v hv) id
        have hr' : wr.drew.rangeAt b' (o' + k * 3) (M.getD k .no).cs := fun j v hv => hN.drew.cell (hr' j v hv) id
        obtain ⟨p, hp⟩ : ∃ p, L.getD k .no = p := ⟨_, rfl⟩
        obtain ⟨q, hq⟩ : ∃ p, M.getD k .no = p := ⟨_, rfl⟩
        have Hp := Lib.hid hp
        have Hq := Lib.hid hq
        rw [hp] at hr
        rw [hq] at hr'
        clear hp hq
        go_upto_region 6 with fail
        refine (wpIn_wide (n := 0)).1 ?_
        refine wpIn_region_any (by kernel_rfl) ?_
        show wpAnyIn _ _ _ _ _ _ _ _ _ wr.drew
        refine any_take 0 (some 17) (.slice (some ⟨b, o, none⟩) n cap) rfl rfl (by kernel_rfl) (by kernel_rfl) (by kernel_rfl) (fun _ _ _ h => h) (.value rfl fun w => by go_simp) ?_
        refine any_take 1 (some 18) (.int .i64 k) rfl rfl (by kernel_rfl) (by kernel_rfl) (by kernel_rfl) (fun _ _ _ h => h) (.value rfl fun w => by go_simp) ?_
        refine any_take 2 (some 19) (.pointer (some ⟨b, o + k * 3, none⟩)) rfl rfl (by kernel_rfl) (by kernel_rfl) (by kernel_rfl) (fun _ _ _ h => h) (.value rfl fun w => by go_simp) ?_
        refine any_take 4 (some 21) (.slice (some ⟨b', o', none⟩) n cap') rfl rfl (by kernel_rfl) (by kernel_rfl) (by kernel_rfl) (fun _ _ _ h => h) (.value rfl fun w => by go_simp) ?_
        refine any_take 5 (some 22) (.int .i64 k) rfl rfl (by kernel_rfl) (by kernel_rfl) (by kernel_rfl) (fun _ _ _ h => h) (.value rfl fun w => by go_simp) ?_
        refine any_take 6 (some 23) (.pointer (some ⟨b', o' + k * 3, none⟩)) rfl rfl (by kernel_rfl) (by kernel_rfl) (by kernel_rfl) (fun _ _ _ h => h) (.value rfl fun w => by go_simp) ?_
        simp only [Act.put, List.setIfInBounds_toArray, List.set_cons_succ, List.set_cons_zero]
        refine wpAnyIn_all (rs := [3, 7]) (by kernel_rfl) (by simp) ?_
        simp only [List.mem_cons, List.not_mem_nil, or_false, forall_eq_or_imp, forall_eq]
        refine ⟨?ord1, ?ord2⟩
        case' ord1 =>
          refine opIn_value (some 20) (v := .agg p.cs.toArray) (w' := wr.drew) rfl rfl rfl rfl (run_load_mid 93 (.tmp 19) rfl b (o + k * 3) rfl p.cs _ hr Try.underlying93 rfl info93) ?_
          refine wpAnyIn_all (rs := [7]) (by kernel_rfl) (by simp) ?_
          simp only [List.mem_cons, List.not_mem_nil, or_false, forall_eq]
          refine opIn_value (some 24) (v := .agg q.cs.toArray) (w' := wr.drew) rfl rfl rfl rfl (run_load_mid 93 (.tmp 23) rfl b' (o' + k * 3) rfl q.cs _ hr' Try.underlying93 rfl info93) ?_
        case' ord2 =>
          refine opIn_value (some 24) (v := .agg q.cs.toArray) (w' := wr.drew) rfl rfl rfl rfl (run_load_mid 93 (.tmp 23) rfl b' (o' + k * 3) rfl q.cs _ hr' Try.underlying93 rfl info93) ?_
          refine wpAnyIn_all (rs := [3]) (by kernel_rfl) (by simp) ?_
          simp only [List.mem_cons, List.not_mem_nil, or_false, forall_eq]
          refine opIn_value (some 20) (v := .agg p.cs.toArray) (w' := wr.drew) rfl rfl rfl rfl (run_load_mid 93 (.tmp 19) rfl b (o + k * 3) rfl p.cs _ hr Try.underlying93 rfl info93) ?_
        all_goals
          simp only [Act.put, List.setIfInBounds_toArray, List.set_cons_succ, List.set_cons_zero]
          refine wpAnyIn_all (rs := [8]) (by kernel_rfl) (by simp) ?_
          simp only [List.mem_cons, List.not_mem_nil, or_false, forall_eq]
          refine opIn_value (some 25) (v := .bool (!(dEq p q))) (w' := wr.drew) rfl rfl rfl rfl (run_neq_deed (.tmp 20) (.tmp 24) rfl p q rfl rfl) ?_
          simp only [Act.put, List.setIfInBounds_toArray, List.set_cons_succ, List.set_cons_zero]
          refine wpAnyIn_done (by kernel_rfl) ?_ _
          obtain ⟨t, ht⟩ : ∃ t, dEq p q = t := ⟨_, rfl⟩
          have Ht := Lib.hid ht
          rw [ht]
          clear ht hr hr'
          cases t with
          | true =>
            have hnext : Hid (∀ i, i < k + 1 → dEq (L.getD i .no) (M.getD i .no) = true) := Lib.hid (fun i hi => by
              by_cases h : i < k
              · exact hbef.out i h
              · obtain rfl : i = k := by omega
                rw [Hp.out, Hq.out]; exact Ht.out)
            clear hbef
            go_wp2_with fail
            go_roundw
            case rel => exact ⟨k + 1, by omega, by go_num, hnext, hN.drew⟩
            case measure => simp [intOf]; omega
          | false =>
            have hR : r = false := by
              rw [← Hr.out, eqE]
              have : ((List.range L.length).all fun i => dEq (L.getD i .no) (M.getD i .no)) = false := by
                rw [List.all_eq_false]
                exact ⟨k, List.mem_range.2 (by rw [Hn.out]; exact hkn), by rw [Hp.out, Hq.out, Ht.out]; simp⟩
              rw [this, Bool.and_false]
            clear hbef
            go_wp2_with fail
            go_ret
            exact ⟨by rw [hR]; rfl, hN.drew⟩
      · obtain rfl : k = n := by omega
        have hkd : decide ((k : Int) < (k : Int)) = false := decide_eq_false (by omega)
        have hR : r = true := by
          rw [← Hr.out, eqE, decide_eq_true Hlen.out, Bool.true_and, List.all_eq_true]
          intro i hi
          exact hbef.out i (by have := List.mem_range.1 hi; have := Hn.out; omega)
        clear hbef
        go_wp2_with fail
        go_ret
        exact ⟨by rw [hR]; rfl, hN⟩
  · have hR : eqE L M = false := by rw [eqE, decide_eq_false hlen, Bool.false_and]
    rw [hR]
    obtain ⟨n, hn⟩ : ∃ n, L.length = n := ⟨_, rfl⟩
    obtain ⟨m, hm⟩ : ∃ n, M.length = n := ⟨_, rfl⟩
    rw [hn, hm] at hlen ⊢
    have e : ((n : Int) != (m : Int)) = true := by simp; omega
    have e' : (n != m) = true := by simpa using hlen
    clear hR hc hc' hn hm hlen
    go_enter Try.func110, Try.ntmps110
    go_wp2_with fail
    go_ret
    exact ⟨rfl, Mods.refl _ _⟩
set_option maxHeartbeats 2000000 in
theorem moments_ref (v v' : Value) (L M : List Mo) (w : World) (hv : ReadsF w v L.length 8 (mosF L)) (hv' : ReadsF w v' M.length 8 (mosF M)) :
    Calls Try.prog 109 #[v, v'] w fun e w' => e = .returned (.bool (eqH L M)) ∧ New w w' := by
  obtain ⟨hl, ao, cap, rfl, hc⟩ := hv
  obtain ⟨hl', ao', cap', rfl, hc'⟩ := hv'
  by_cases hlen : L.length = M.length
  · obtain ⟨r, hr⟩ : ∃ r, eqH L M = r := ⟨_, rfl⟩
    have Hr := Lib.hid hr
    rw [hr]
    rw [← hlen] at hc' hl' ⊢
    obtain ⟨n, hn⟩ : ∃ n, L.length = n := ⟨_, rfl⟩
    have Hn := Lib.hid hn
    have Hlen := Lib.hid hlen
    rw [hn] at hl hc hc' ⊢
    have Hc := Lib.hid hc
    have Hc' := Lib.hid hc'
    clear hr hn hlen hc hc' hl'
    go_enter Try.func109, Try.ntmps109
    go_wp2_with fail
    go_loopw [5] (fun c wr => ∃ k : Nat, k ≤ n ∧ c = .int .i64 k ∧ Hid (∀ i, i < k → mEq (L.getD i .no) (M.getD i .no) = true) ∧ New w wr) (fun c _ => n - (intOf c).toNat)
    case atStart => exact ⟨0, Nat.zero_le _, rfl, Lib.hid (fun i hi => by omega), Mods.refl _ _⟩
    case round =>
      obtain ⟨k, hk, rfl, hbef, hN⟩ := hrel
      by_cases hkn : k < n
      · have hkd : decide ((k : Int) < (n : Int)) = true := decide_eq_true (by omega)
        obtain ⟨b, o, rfl, hr⟩ := Hc.out k hkn
        obtain ⟨b', o', rfl, hr'⟩ := Hc'.out k hkn
        have hr : wr.drew.rangeAt b (o + k * 8) (L.getD k .no).cs := fun j v hv => hN.drew.cell (hr j v hv) id
        have hr' : wr.drew.rangeAt b' (o' + k * 8) (M.getD k .no).cs := fun j v hv => hN.drew.cell (hr' j v hv) id
        obtain ⟨p, hp⟩ : ∃ p, L.getD k .no = p := ⟨_, rfl⟩
        obtain ⟨q, hq⟩ : ∃ p, M.getD k .no = p := ⟨_, rfl⟩
        have Hp := Lib.hid hp
        have Hq := Lib.hid hq
        rw [hp] at hr
        rw [hq] at hr'
        clear hp hq
        go_upto_region 6 with fail
        refine (wpIn_wide (n := 0)).1 ?_
        refine wpIn_region_any (by kernel_rfl) ?_
        show wpAnyIn _ _ _ _ _ _ _ _ _ wr.drew
        refine any_take 0 (some 17) (.slice (some ⟨b, o, none⟩) n cap) rfl rfl (by kernel_rfl) (by kernel_rfl) (by kernel_rfl) (fun _ _ _ h => h) (.value rfl fun w => by go_simp) ?_
        refine any_take 1 (some 18) (.int .i64 k) rfl rfl (by kernel_rfl) (by kernel_rfl) (by kernel_rfl) (fun _ _ _ h => h) (.value rfl fun w => by go_simp) ?_
        refine any_take 2 (some 19) (.pointer (some ⟨b, o + k * 8, none⟩)) rfl rfl (by kernel_rfl) (by kernel_rfl) (by kernel_rfl) (fun _ _ _ h => h) (.value rfl fun w => by go_simp) ?_
        refine any_take 4 (some 21) (.slice (some ⟨b', o', none⟩) n cap') rfl rfl (by kernel_rfl) (by kernel_rfl) (by kernel_rfl) (fun _ _ _ h => h) (.value rfl fun w => by go_simp) ?_
        refine any_take 5 (some 22) (.int .i64 k) rfl rfl (by kernel_rfl) (by kernel_rfl) (by kernel_rfl) (fun _ _ _ h => h) (.value rfl fun w => by go_simp) ?_
        refine any_take 6 (some 23) (.pointer (some ⟨b', o' + k * 8, none⟩)) rfl rfl (by kernel_rfl) (by kernel_rfl) (by kernel_rfl) (fun _ _ _ h => h) (.value rfl fun w => by go_simp) ?_
        simp only [Act.put, List.setIfInBounds_toArray, List.set_cons_succ, List.set_cons_zero]
        refine wpAnyIn_all (rs := [3, 7]) (by kernel_rfl) (by simp) ?_
        simp only [List.mem_cons, List.not_mem_nil, or_false, forall_eq_or_imp, forall_eq]
        refine ⟨?ord1, ?ord2⟩
        case' ord1 =>
          refine opIn_value (some 20) (v := .agg p.cs.toArray) (w' := wr.drew) rfl rfl rfl rfl (run_load_mid 95 (.tmp 19) rfl b (o + k * 8) rfl p.cs _ hr Try.underlying95 rfl info95) ?_
          refine wpAnyIn_all (rs := [7]) (by kernel_rfl) (by simp) ?_
          simp only [List.mem_cons, List.not_mem_nil, or_false, forall_eq]
          refine opIn_value (some 24) (v := .agg q.cs.toArray) (w' := wr.drew) rfl rfl rfl rfl (run_load_mid 95 (.tmp 23) rfl b' (o' + k * 8) rfl q.cs _ hr' Try.underlying95 rfl info95) ?_
        case' ord2 =>
          refine opIn_value (some 24) (v := .agg q.cs.toArray) (w' := wr.drew) rfl rfl rfl rfl (run_load_mid 95 (.tmp 23) rfl b' (o' + k * 8) rfl q.cs _ hr' Try.underlying95 rfl info95) ?_
          refine wpAnyIn_all (rs := [3]) (by kernel_rfl) (by simp) ?_
          simp only [List.mem_cons, List.not_mem_nil, or_false, forall_eq]
          refine opIn_value (some 20) (v := .agg p.cs.toArray) (w' := wr.drew) rfl rfl rfl rfl (run_load_mid 95 (.tmp 19) rfl b (o + k * 8) rfl p.cs _ hr Try.underlying95 rfl info95) ?_
        all_goals
          simp only [Act.put, List.setIfInBounds_toArray, List.set_cons_succ, List.set_cons_zero]
          refine wpAnyIn_all (rs := [8]) (by kernel_rfl) (by simp) ?_
          simp only [List.mem_cons, List.not_mem_nil, or_false, forall_eq]
          refine opIn_value (some 25) (v := .bool (!(mEq p q))) (w' := wr.drew) rfl rfl rfl rfl (run_neq_moment (.tmp 20) (.tmp 24) rfl p q rfl rfl) ?_
          simp only [Act.put, List.setIfInBounds_toArray, List.set_cons_succ, List.set_cons_zero]
          refine wpAnyIn_done (by kernel_rfl) ?_ _
          obtain ⟨t, ht⟩ : ∃ t, mEq p q = t := ⟨_, rfl⟩
          have Ht := Lib.hid ht
          rw [ht]
          clear ht hr hr'
          cases t with
          | true =>
            have hnext : Hid (∀ i, i < k + 1 → mEq (L.getD i .no) (M.getD i .no) = true) := Lib.hid (fun i hi => by
              by_cases h : i < k
              · exact hbef.out i h
              · obtain rfl : i = k := by omega
                rw [Hp.out, Hq.out]; exact Ht.out)
            clear hbef
            go_wp2_with fail
            go_roundw
            case rel => exact ⟨k + 1, by omega, by go_num, hnext, hN.drew⟩
            case measure => simp [intOf]; omega
          | false =>
            have hR : r = false := by
              rw [← Hr.out, eqH]
              have : ((List.range L.length).all fun i => mEq (L.getD i .no) (M.getD i .no)) = false := by
                rw [List.all_eq_false]
                exact ⟨k, List.mem_range.2 (by rw [Hn.out]; exact hkn), by rw [Hp.out, Hq.out, Ht.out]; simp⟩
              rw [this, Bool.and_false]
            clear hbef
            go_wp2_with fail
            go_ret
            exact ⟨by rw [hR]; rfl, hN.drew⟩
      · obtain rfl : k = n := by omega
        have hkd : decide ((k : Int) < (k : Int)) = false := decide_eq_false (by omega)
        have hR : r = true := by
          rw [← Hr.out, eqH, decide_eq_true Hlen.out, Bool.true_and, List.all_eq_true]
          intro i hi
          exact hbef.out i (by have := List.mem_range.1 hi; have := Hn.out; omega)
        clear hbef
        go_wp2_with fail
        go_ret
        exact ⟨by rw [hR]; rfl, hN⟩
  · have hR : eqH L M = false := by rw [eqH, decide_eq_false hlen, Bool.false_and]
    rw [hR]
    obtain ⟨n, hn⟩ : ∃ n, L.length = n := ⟨_, rfl⟩
    obtain ⟨m, hm⟩ : ∃ n, M.length = n := ⟨_, rfl⟩
    rw [hn, hm] at hlen ⊢
    have e : ((n : Int) != (m : Int)) = true := by simp; omega
    have e' : (n != m) = true := by simpa using hlen
    clear hR hc hc' hn hm hlen
    go_enter Try.func109, Try.ntmps109
    go_wp2_with fail
    go_ret
    exact ⟨rfl, Mods.refl _ _⟩
end Go.Proofs.Ytkjloeefcaadlaa
