/- StepsParts: a machine that may be, walked. -/
import Derived.Test.YtkjloeefcaadlaaM31
set_option linter.unusedSimpArgs false
set_option linter.unusedVariables false
namespace Go.Proofs.Ytkjloeefcaadlaa
open Go.RowKit Go.Shelf Go.Cs
attribute [local go_sem] Oper.semAt_some
/-- A machine in a variable, its values. -/
def mvV (m : Ma) (ta : Option Addr) (tc : Nat) (ha : Option Addr) (hc : Nat) : Array Value := #[.int .u64 (m.word : Nat), .int .i64 m.clock, .slice ta m.ths.length tc, .slice ha m.hist.length hc]
theorem InM.run {m : Ma} (h : InM m) (is : List Int) : InM (runM DS rightB m is).1 := by
  induction is generalizing m with
  | nil => exact h
  | cons i is ih =>
    rw [runM_cons]
    exact ih (h.step i)
theorem hist_step {m : Ma} {i : Int} : (stepM DS rightB m i).1.hist.length ≤ m.hist.length + 1 := by
  unfold stepM
  split
  · unfold goM
    split
    · unfold swapM
      split
      · simp
      · simp [List.length_set]
    · unfold readM
      split <;> simp
  · simp
theorem hist_run {m : Ma} (is : List Int) : (runM DS rightB m is).1.hist.length ≤ m.hist.length + is.length := by
  induction is generalizing m with
  | nil => exact Nat.le_refl _
  | cons i is ih =>
    rw [runM_cons]
    have h1 := ih (m := (stepM DS rightB m i).1)
    have h2 := hist_step (m := m) (i := i)
    simp only [List.length_cons]
    omega
theorem reads_take {k : IntKind} {W : World} {a : Option Addr} {n c : Nat} {xs : List Int} (h : ReadsI k W (.slice a n c) xs) {q : Nat} (hq : q ≤ n) : ReadsI k W (.slice a q c) (xs.take q) := by
  obtain ⟨hl, ao, cap, he, hc⟩ := h
  cases he
  refine ⟨by rw [List.length_take]; omega, a, c, by rw [List.length_take, Nat.min_eq_left hq], fun i hi => ?_⟩
  have hi' : i < q := by rw [List.length_take] at hi; omega
  obtain ⟨b, o, e, h⟩ := hc i (by omega)
  refine ⟨b, o, e, ?_⟩
  rw [h]
  simp [List.getD, List.getElem?_take_of_lt hi']
theorem reads_none {k : IntKind} {W : World} {n c : Nat} {xs : List Int} (h : ReadsI k W (.slice none n c) xs) (hn : xs.length = n) : n = 0 := by
  obtain ⟨hl, ao, cap, he, hc⟩ := h
  have he : (Value.slice none n c) = .slice ao xs.length cap := he
  injection he with h1 h2 h3
  subst h1
  rcases Nat.eq_zero_or_pos n with h | h
  · exact h
  · obtain ⟨b, o, e, _⟩ := hc 0 (by omega)
    cases e
theorem reads_drop {k : IntKind} {W : World} {a : Addr} {n c c' : Nat} {xs : List Int} (h : ReadsI k W (.slice (some a) n c) xs) {q : Nat} (hq : q ≤ n) : ReadsI k W (.slice (some (a.add (q * 1))) (n - q) c') (xs.drop q) := by
  obtain ⟨hl, ao, cap, he, hc⟩ := h
  cases he
  refine ⟨by rw [List.length_drop]; omega, _, c', by rw [List.length_drop], fun i hi => ?_⟩
  rw [List.length_drop] at hi
  obtain ⟨b, o, e, h⟩ := hc (q + i) (by omega)
  cases e
  refine ⟨b, o + q, by rw [Nat.mul_one]; unfold Addr.add; split <;> simp_all, ?_⟩
  rw [Nat.add_assoc, h]
  simp [List.getD]
theorem reads_drop0 {k : IntKind} {W : World} {a : Option Addr} {n c q : Nat} {xs : List Int} (h : ReadsI k W (.slice a n c) xs) (hq : n ≤ q) {c' : Nat} : ReadsI k W (.slice a (n - q) c') (xs.drop q) := by
  obtain ⟨hl, ao, cap, he, hc⟩ := h
  cases he
  refine ⟨by rw [List.length_drop]; omega, _, c', by rw [List.length_drop], fun i hi => ?_⟩
  rw [List.length_drop] at hi
  omega
set_option maxRecDepth 100000 in
set_option maxHeartbeats 4000000 in
theorem parts_yes (v : Value) (m : Ma) (pv : Value) (is : List Int) (at' : Int) (w : World) (hv : ReadsM w v m) (hin : InM m) (hp : ReadsI .i64 w pv is) (hcap : ∀ a n c, pv = .slice a n c → n ≤ c) (hi : ∀ n ∈ is, -9223372036854775808 ≤ n ∧ n ≤ 9223372036854775807) (hat : -9223372036854775808 ≤ at' ∧ at' ≤ 9223372036854775807) (hg : greatB m = false) (hr : rightM rightB m = true) (h60 : is.length ≤ 60) :
    Calls Try.prog 13 #[v, pv, .int .i64 at'] w fun e w' => e = .returned (.bool true) ∧ New w w' := by
  have HG := Lib.hid (fun W (hW : New w W) => great_S v m W (hv.new hW))
  rw [hg] at HG
  have HR := Lib.hid (fun W (hW : New w W) => right_ref18 v m W (hv.new hW) hin.word)
  rw [hr] at HR
  have HK := Lib.hid wakes_any
  have hhl : m.hist.length ≤ 40 := by
    unfold greatB at hg
    rw [Bool.or_eq_false_iff, Bool.or_eq_false_iff] at hg
    have := of_decide_eq_false hg.2.2
    omega
  have hclk : 0 ≤ m.clock ∧ m.clock ≤ 4611686018427387904 := by
    have := rightM_iff.1 hr
    exact ⟨this.1, this.2.1⟩
  have HA := Lib.hid (fun W v' (hW : New w W) (h : ReadsM W v' m) => run_S v' pv m is W h (hp.new hW) hin (by omega))
  obtain ⟨pa, pn, pc, rfl, hpn⟩ : ∃ pa pn pc, pv = .slice pa pn pc ∧ is.length = pn := by
    obtain ⟨_, pa, pc, rfl, _⟩ := hp
    exact ⟨_, _, _, rfl, rfl⟩
  obtain ⟨ta, tc, ha, hc, lv, rfl, hR⟩ := hv.slices
  have HMR := Lib.hid hR
  have HP := Lib.hid hp
  have Hin := Lib.hid hin
  have Hpn := Lib.hid hpn
  have hcp := hcap _ _ _ rfl
  have HV := Lib.hid hv
  obtain ⟨n1, hn1⟩ : ∃ n, m.ths.length = n := ⟨_, rfl⟩
  obtain ⟨n2, hn2⟩ : ∃ n, m.hist.length = n := ⟨_, rfl⟩
  obtain ⟨n3, hn3⟩ : ∃ n, m.word = n := ⟨_, rfl⟩
  obtain ⟨n4, hn4⟩ : ∃ n, m.clock = n := ⟨_, rfl⟩
  have Hns := Lib.hid (And.intro hn1 (And.intro hn2 (And.intro hn3 hn4)))
  rw [hpn] at h60
  rw [hn1, hn2] at HMR
  rw [hn1, hn2, hn3, hn4] at HG HR HV ⊢
  have hh2 : n2 ≤ 40 := by omega
  clear hhl
  clear hn1 hn2 hn3 hn4 hR hv hg hr hpn hin hp hi hcap
  have hB : MB (w.alloc (.cells #[.int .u64 (n3 : Nat), .int .i64 n4, .slice ta n1 tc, .slice ha n2 hc] 77)) w.heap.size n3 n4 (.slice ta n1 tc) (.slice ha n2 hc) := World.alloc_heap_new w _
  have hN : New w (w.alloc (.cells #[.int .u64 (n3 : Nat), .int .i64 n4, .slice ta n1 tc, .slice ha n2 hc] 77)) := (Mods.refl _ _).alloc _
  have HN := Lib.hid hN
  clear hN
  unfold MB at hB
  have h60' : decide ((60 : Int) < (pn : Int)) = false := decide_eq_false (by omega)
  go_enter Try.func13, Try.ntmps13
  go_wp2_with (refine op_value rfl (run_load_row 77 (.tmp 3) rfl w.heap.size rfl 77 #[.int .u64 (n3 : Nat), .int .i64 n4, .slice ta n1 tc, .slice ha n2 hc] (0, 0) _ hB Try.underlying77 rfl info77) ?_)
  refine (HG.out _ HN.out).mono ?_
  rintro e w1 ⟨rfl, hN1⟩
  have HN1 := Lib.hid (HN.out.trans hN1)
  have hB1 := hN1.heap hB id
  clear hN1 hB HN HG
  go_wp2_with (refine op_value_g rfl (run_load_row 77 (.tmp 3) rfl w.heap.size rfl 77 #[.int .u64 (n3 : Nat), .int .i64 n4, .slice ta n1 tc, .slice ha n2 hc] (0, 0) _ hB1 Try.underlying77 rfl info77) ?_)
  refine (HR.out _ HN1.out).mono ?_
  rintro e w2 ⟨rfl, hN2⟩
  have HN2 := Lib.hid (HN1.out.trans hN2)
  have hB2 := hN2.heap hB1 id
  clear hN2 hB1 HN1 HR
  go_upto_region 3 with fail
  refine piece (fun a a' W' => Hid (∃ (q : Nat) (u : Value), q ≤ pn ∧ a' = (a.put (some 26) (.int .i64 at') |>.put (some 27) u |>.put (some 28) (.slice pa pn pc) |>.put (some 29) (.int .i64 (pn : Nat)) |>.put (some 30) (.int .i64 (q : Nat)) |>.put (some 2) (.int .i64 (q : Nat))) ∧ W' = w2)) ?_ ?_
  · clear HA hB2
    by_cases h1 : at' < 0
    · go_wp2_with fail
      (first | exact Lib.hid ⟨0, _, Nat.zero_le _, rfl, rfl⟩ | exact Lib.hid ⟨0, Nat.zero_le _, ⟨_, rfl⟩, rfl⟩)
    · obtain ⟨z, rfl⟩ := Int.eq_ofNat_of_zero_le (show 0 ≤ at' by omega)
      have h1' : ¬ ((z : Int) < 0) := h1
      by_cases h2 : z ≤ pn
      · have h3 : (z : Int) ≤ (pn : Int) := by omega
        have h3' : ¬ ((pn : Int) < (z : Int)) := by omega
        go_wp2_with fail
        all_goals (first | exact Lib.hid ⟨z, _, h2, rfl, rfl⟩ | exact Lib.hid ⟨z, h2, ⟨_, rfl⟩, rfl⟩)
      · have h3 : ¬ ((z : Int) ≤ (pn : Int)) := by omega
        have h3' : (pn : Int) < (z : Int) := by omega
        go_wp2_with fail
        all_goals (first | exact Lib.hid ⟨pn, _, Nat.le_refl _, rfl, rfl⟩ | exact Lib.hid ⟨pn, Nat.le_refl _, ⟨_, rfl⟩, rfl⟩)
  rintro a' W' hhid
  obtain ⟨q, u, hq, rfl, rfl⟩ := hhid.out
  clear hhid
  simp only [Act.put, List.setIfInBounds_toArray, List.set_cons_succ, List.set_cons_zero]
  go_wp2_with (refine op_value rfl (run_load_row 77 (.tmp 3) rfl w.heap.size rfl 77 #[.int .u64 (n3 : Nat), .int .i64 n4, .slice ta n1 tc, .slice ha n2 hc] (0, 0) _ hB2 Try.underlying77 rfl info77) ?_)
  obtain ⟨⟨ma, na⟩, hrun⟩ : ∃ r, runM DS rightB m is = r := ⟨_, rfl⟩
  have Hrun := Lib.hid hrun
  rw [hrun] at HA
  have HA : Hid (∀ W v', New w W → ReadsM W v' m → Calls Try.prog 53 #[v', .slice pa pn pc] W fun e w' => ∃ v', e = .returned (.tuple #[v', .int .i64 (na : Nat)]) ∧ ReadsM w' v' ma ∧ New W w') := HA
  clear hrun
  have HRD := Lib.hid (HV.out.new HN2.out)
  refine (HA.out _ _ HN2.out HRD.out).mono ?_
  rintro e w3 ⟨v3, rfl, hR3, hN3⟩
  obtain ⟨taa, tac, haa, hac, lva, rfl, hR3'⟩ := hR3.slices
  clear hR3
  have hone := mach_ones ma.word ma.clock taa haa ma.ths.length tac ma.hist.length hac
  have hA3 := World.alloc_heap_new w3 Z77
  obtain ⟨hNm, hBm, hVA⟩ := made_mach hR3'
  have HN3 := Lib.hid (HN2.out.trans (hN3.trans hNm))
  have hB3 := (hN3.trans hNm).heap hB2 id
  have HVA := Lib.hid (hR3'.new hNm)
  have HBm := Lib.hid hBm
  clear hN3 hNm hBm hVA hR3' hB2 HN2 HRD HA
  unfold Z77 at *
  go_upto_region 5 with (refine op_skip rfl (run_store_row 77 (.tmp 7) (.tmp 35) rfl w3.heap.size rfl 77 [.int .u64 0, .int .i64 0, .slice none 0 0, .slice none 0 0] [.int .u64 (ma.word : Nat), .int .i64 ma.clock, .slice taa ma.ths.length tac, .slice haa ma.hist.length hac] rfl hA3 info77 rfl hone) ?_)
  clear hA3
  obtain ⟨W0, hW0⟩ : ∃ W, (w3.alloc (.cells #[.int .u64 0, .int .i64 0, .slice none 0 0, .slice none 0 0] 77)).setRow w3.heap.size #[.int .u64 (ma.word : Nat), .int .i64 ma.clock, .slice taa ma.ths.length tac, .slice haa ma.hist.length hac] = W := ⟨_, rfl⟩
  obtain ⟨QA, hQA⟩ : ∃ A, w3.heap.size = A := ⟨_, rfl⟩
  rw [hW0] at HVA
  rw [hW0, hQA] at HBm
  rw [hW0] at HN3 hB3 ⊢
  rw [hQA]
  clear hW0 hQA
  obtain ⟨⟨mb, nb⟩, hrunb⟩ : ∃ r, runM DS rightB m (is.take q) = r := ⟨_, rfl⟩
  have HRB : Hid (∀ W, New w W → Calls Try.prog 53 #[.agg #[.int .u64 (n3 : Nat), .int .i64 n4, .slice ta n1 tc, .slice ha n2 hc], .slice pa q pc] W fun e w' => ∃ v', e = .returned (.tuple #[v', .int .i64 (nb : Nat)]) ∧ ReadsM w' v' mb ∧ New W w') := Lib.hid (fun W hW => by
    have hz : (RunPost W (mb, nb)) = fun e w' => ∃ v', e = .returned (.tuple #[v', .int .i64 (nb : Nat)]) ∧ ReadsM w' v' mb ∧ New W w' := rfl
    rw [← hz, ← hrunb]
    exact run_S _ _ m (is.take q) W (HV.out.new hW) (reads_take (HP.out.new hW) hq) Hin.out (by rw [List.length_take]; have := Hns.out.2.1; have := Hpn.out; omega))
  have Hrunb := Lib.hid hrunb
  have q0 : (0 : Int) ≤ (q : Int) := by omega
  have q1 : (q : Int) ≤ (pc : Int) := by omega
  have q2 : q ≤ pc := by omega
  clear hrunb
  refine piece (fun a a' W' => ∃ A tmba tmbc hmba hmbc lvmb, a' = (a.put (some 38) (.agg #[.int .u64 (n3 : Nat), .int .i64 n4, .slice ta n1 tc, .slice ha n2 hc]) |>.put (some 39) (.slice pa pn pc) |>.put (some 40) (.int .i64 (q : Nat)) |>.put (some 41) (.slice pa q pc) |>.put (some 42) (.tuple #[.agg #[.int .u64 (mb.word : Nat), .int .i64 mb.clock, .slice tmba mb.ths.length tmbc, .slice hmba mb.hist.length hmbc], .int .i64 (nb : Nat)]) |>.put (some 37) (.tuple #[.agg #[.int .u64 (mb.word : Nat), .int .i64 mb.clock, .slice tmba mb.ths.length tmbc, .slice hmba mb.hist.length hmbc], .int .i64 (nb : Nat)]) |>.put (some 43) (.agg #[.int .u64 (mb.word : Nat), .int .i64 mb.clock, .slice tmba mb.ths.length tmbc, .slice hmba mb.hist.length hmbc]) |>.put (some 44) (.int .i64 (nb : Nat)) |>.put (some 9) (.pointer (some ⟨A, 0, none⟩)) |>.put (some 10) (.int .i64 (nb : Nat))) ∧ MB W' A mb.word mb.clock (.slice tmba mb.ths.length tmbc) (.slice hmba mb.hist.length hmbc) ∧ MaR W' mb (.slice tmba mb.ths.length tmbc) (.slice hmba mb.hist.length hmbc) lvmb ∧ New W0 W') ?_ ?_
  · refine wp_region_held (by kernel_rfl) (S := fun W => New W0.drew W) ?_
    show wpAnyH _ _ _ _ _ _ _ _ W0.drew
    have hSrc := (Mods.refl (fun _ => False) W0).drew.heap hB3 id
    have HSd := Lib.hid HN3.out.drew
    obtain ⟨Wd, hWd⟩ : ∃ Wd, W0.drew = Wd := ⟨_, rfl⟩
    have hWl : New W0 Wd := by rw [← hWd]; exact (Mods.refl _ _).drew
    rw [hWd] at hSrc HSd ⊢
    have hS : New Wd Wd := Mods.refl _ _
    clear hWd
    refine anyH_take 0 (some 38) (.agg #[.int .u64 (n3 : Nat), .int .i64 n4, .slice ta n1 tc, .slice ha n2 hc]) rfl rfl (by kernel_rfl) (by kernel_rfl) (by kernel_rfl) (fun _ _ _ h => h.elim) (.inl ⟨by rfl, fun W hW => run_load_row 77 (.tmp 3) rfl w.heap.size rfl 77 #[.int .u64 (n3 : Nat), .int .i64 n4, .slice ta n1 tc, .slice ha n2 hc] (0, 0) _ ((show New Wd W from hW).heap hSrc id) Try.underlying77 rfl info77⟩) hS ?_
    simp only [Act.put, List.setIfInBounds_toArray, List.set_cons_succ, List.set_cons_zero]
    refine anyH_take 1 (some 39) (.slice pa pn pc) rfl rfl (by kernel_rfl) (by kernel_rfl) (by kernel_rfl) (fun _ _ _ h => h.elim) (.inl ⟨by rfl, fun W hW => by go_simp⟩) hS ?_
    simp only [Act.put, List.setIfInBounds_toArray, List.set_cons_succ, List.set_cons_zero]
    refine anyH_take 2 (some 40) (.int .i64 (q : Nat)) rfl rfl (by kernel_rfl) (by kernel_rfl) (by kernel_rfl) (fun _ _ _ h => h.elim) (.inl ⟨by rfl, fun W hW => by go_simp⟩) hS ?_
    simp only [Act.put, List.setIfInBounds_toArray, List.set_cons_succ, List.set_cons_zero]
    refine anyH_take 3 (some 41) (.slice pa q pc) rfl rfl (by kernel_rfl) (by kernel_rfl) (by kernel_rfl) (fun _ _ _ h => h.elim) (.inl ⟨by rfl, fun W hW => by go_simp⟩) hS ?_
    simp only [Act.put, List.setIfInBounds_toArray, List.set_cons_succ, List.set_cons_zero]
    refine wpAnyH_all (rs := [4, 8]) (by kernel_rfl) (by simp) ?_
    simp only [List.mem_cons, List.not_mem_nil, or_false, forall_eq_or_imp, forall_eq]
    refine ⟨?_, ?_⟩
    · refine opH_call (some 42) rfl (by rfl) rfl 53 #[.agg #[.int .u64 (n3 : Nat), .int .i64 n4, .slice ta n1 tc, .slice ha n2 hc], .slice pa q pc] (by go_simp) ((HRB.out Wd (HSd.out.trans hS)).mono ?_)
      rintro e W2 ⟨vr, rfl, hRr, hN2⟩
      obtain ⟨tmba, tmbc, hmba, hmbc, lvmb, rfl, hRr'⟩ := hRr.slices
      clear hRr
      have hRr := hRr'
      clear hRr'
      replace hS := hS.trans hN2
      refine ⟨_, rfl, hS, ?_⟩
      simp only [Act.put, List.setIfInBounds_toArray, List.set_cons_succ, List.set_cons_zero]
      clear hN2
      refine anyH_take 5 (some 37) (.tuple #[.agg #[.int .u64 (mb.word : Nat), .int .i64 mb.clock, .slice tmba mb.ths.length tmbc, .slice hmba mb.hist.length hmbc], .int .i64 (nb : Nat)]) rfl rfl (by kernel_rfl) (by kernel_rfl) (by kernel_rfl) (fun _ _ _ h => h.elim) (.inl ⟨by rfl, fun W hW => by go_simp⟩) hS ?_
      simp only [Act.put, List.setIfInBounds_toArray, List.set_cons_succ, List.set_cons_zero]
      refine anyH_take 6 (some 43) (.agg #[.int .u64 (mb.word : Nat), .int .i64 mb.clock, .slice tmba mb.ths.length tmbc, .slice hmba mb.hist.length hmbc]) rfl rfl (by kernel_rfl) (by kernel_rfl) (by kernel_rfl) (fun _ _ _ h => h.elim) (.inl ⟨by rfl, fun W hW => by go_simp⟩) hS ?_
      simp only [Act.put, List.setIfInBounds_toArray, List.set_cons_succ, List.set_cons_zero]
      refine anyH_take 7 (some 44) (.int .i64 (nb : Nat)) rfl rfl (by kernel_rfl) (by kernel_rfl) (by kernel_rfl) (fun _ _ _ h => h.elim) (.inl ⟨by rfl, fun W hW => by go_simp⟩) hS ?_
      simp only [Act.put, List.setIfInBounds_toArray, List.set_cons_succ, List.set_cons_zero]
      refine wpAnyH_all (rs := [8]) (by kernel_rfl) (by simp) ?_
      simp only [List.mem_cons, List.not_mem_nil, or_false, forall_eq_or_imp, forall_eq]
      refine opH_value (some 9) (v := .pointer (some ⟨W2.heap.size, 0, none⟩)) (w' := W2.alloc (.cells #[.int .u64 0, .int .i64 0, .slice none 0 0, .slice none 0 0] 77)) rfl (by rfl) rfl (by go_simp) ?_
      refine ⟨hS.trans ((Mods.refl _ _).alloc _), ?_⟩
      simp only [Act.put, List.setIfInBounds_toArray, List.set_cons_succ, List.set_cons_zero]
      have hA := World.alloc_heap_new W2 (.cells #[.int .u64 0, .int .i64 0, .slice none 0 0, .slice none 0 0] 77)
      have hAl0 : Wd.heap.size ≤ W2.heap.size := hS.size
      replace hRr := hRr.new ((Mods.refl (fun _ => False) W2).alloc (.cells #[.int .u64 0, .int .i64 0, .slice none 0 0, .slice none 0 0] 77))
      replace hS := hS.trans ((Mods.refl _ _).alloc (.cells #[.int .u64 0, .int .i64 0, .slice none 0 0, .slice none 0 0] 77))
      obtain ⟨WA, hWa⟩ : ∃ W, W2.alloc (.cells #[.int .u64 0, .int .i64 0, .slice none 0 0, .slice none 0 0] 77) = W := ⟨_, rfl⟩
      obtain ⟨A, hAA⟩ : ∃ A, W2.heap.size = A := ⟨_, rfl⟩
      have hAl : Wd.heap.size ≤ A := by omega
      rw [hWa] at hA hS hRr ⊢
      rw [hAA] at hA ⊢
      clear hWa hAA hAl0
      refine wpAnyH_all (rs := [9]) (by kernel_rfl) (by simp) ?_
      simp only [List.mem_cons, List.not_mem_nil, or_false, forall_eq_or_imp, forall_eq]
      have hone := mach_ones mb.word mb.clock tmba hmba mb.ths.length tmbc mb.hist.length hmbc
      refine opH_skip none rfl (by rfl) rfl (run_store_row 77 (.tmp 9) (.tmp 43) rfl A rfl 77 [.int .u64 0, .int .i64 0, .slice none 0 0, .slice none 0 0] [.int .u64 (mb.word : Nat), .int .i64 mb.clock, .slice tmba mb.ths.length tmbc, .slice hmba mb.hist.length hmbc] rfl hA info77 rfl hone) ?_
      have hBn : MB _ A mb.word mb.clock (.slice tmba mb.ths.length tmbc) (.slice hmba mb.hist.length hmbc) := setRow_heap WA A _ #[.int .u64 (mb.word : Nat), .int .i64 mb.clock, .slice tmba mb.ths.length tmbc, .slice hmba mb.hist.length hmbc] 77 (0, 0) hA
      have hRn := hRr.keptI (hRr.notIn (show MB WA A 0 0 (.slice none 0 0) (.slice none 0 0) from hA).nb) (mods_setRow hA #[.int .u64 (mb.word : Nat), .int .i64 mb.clock, .slice tmba mb.ths.length tmbc, .slice hmba mb.hist.length hmbc])
      replace hS := hS.setRow hAl #[.int .u64 (mb.word : Nat), .int .i64 mb.clock, .slice tmba mb.ths.length tmbc, .slice hmba mb.hist.length hmbc]
      refine ⟨hS, ?_⟩
      simp only [Act.put, List.setIfInBounds_toArray, List.set_cons_succ, List.set_cons_zero]
      refine anyH_take 10 (some 10) (.int .i64 (nb : Nat)) rfl rfl (by kernel_rfl) (by kernel_rfl) (by kernel_rfl) (fun _ _ _ h => h.elim) (.inl ⟨by rfl, fun W hW => by go_simp⟩) hS ?_
      simp only [Act.put, List.setIfInBounds_toArray, List.set_cons_succ, List.set_cons_zero]
      refine wpAnyH_done (by kernel_rfl) ?_ _
      exact ⟨A, tmba, tmbc, hmba, hmbc, lvmb, rfl, hBn, hRn, hWl.trans hS⟩
    · refine opH_value (some 9) (v := .pointer (some ⟨Wd.heap.size, 0, none⟩)) (w' := Wd.alloc (.cells #[.int .u64 0, .int .i64 0, .slice none 0 0, .slice none 0 0] 77)) rfl (by rfl) rfl (by go_simp) ?_
      refine ⟨hS.trans ((Mods.refl _ _).alloc _), ?_⟩
      simp only [Act.put, List.setIfInBounds_toArray, List.set_cons_succ, List.set_cons_zero]
      have hA := World.alloc_heap_new Wd (.cells #[.int .u64 0, .int .i64 0, .slice none 0 0, .slice none 0 0] 77)
      have hAl0 : Wd.heap.size ≤ Wd.heap.size := hS.size
      replace hS := hS.trans ((Mods.refl _ _).alloc (.cells #[.int .u64 0, .int .i64 0, .slice none 0 0, .slice none 0 0] 77))
      obtain ⟨WA, hWa⟩ : ∃ W, Wd.alloc (.cells #[.int .u64 0, .int .i64 0, .slice none 0 0, .slice none 0 0] 77) = W := ⟨_, rfl⟩
      obtain ⟨A, hAA⟩ : ∃ A, Wd.heap.size = A := ⟨_, rfl⟩
      have hAl : Wd.heap.size ≤ A := by omega
      rw [hWa] at hA hS ⊢
      rw [hAA] at hA ⊢
      clear hWa hAA hAl0
      refine wpAnyH_all (rs := [4]) (by kernel_rfl) (by simp) ?_
      simp only [List.mem_cons, List.not_mem_nil, or_false, forall_eq_or_imp, forall_eq]
      refine opH_call (some 42) rfl (by rfl) rfl 53 #[.agg #[.int .u64 (n3 : Nat), .int .i64 n4, .slice ta n1 tc, .slice ha n2 hc], .slice pa q pc] (by go_simp) ((HRB.out WA (HSd.out.trans hS)).mono ?_)
      rintro e W2 ⟨vr, rfl, hRr, hN2⟩
      obtain ⟨tmba, tmbc, hmba, hmbc, lvmb, rfl, hRr'⟩ := hRr.slices
      clear hRr
      have hRr := hRr'
      clear hRr'
      replace hA := hN2.heap hA id
      replace hS := hS.trans hN2
      refine ⟨_, rfl, hS, ?_⟩
      simp only [Act.put, List.setIfInBounds_toArray, List.set_cons_succ, List.set_cons_zero]
      clear hN2
      refine anyH_take 5 (some 37) (.tuple #[.agg #[.int .u64 (mb.word : Nat), .int .i64 mb.clock, .slice tmba mb.ths.length tmbc, .slice hmba mb.hist.length hmbc], .int .i64 (nb : Nat)]) rfl rfl (by kernel_rfl) (by kernel_rfl) (by kernel_rfl) (fun _ _ _ h => h.elim) (.inl ⟨by rfl, fun W hW => by go_simp⟩) hS ?_
      simp only [Act.put, List.setIfInBounds_toArray, List.set_cons_succ, List.set_cons_zero]
      refine anyH_take 6 (some 43) (.agg #[.int .u64 (mb.word : Nat), .int .i64 mb.clock, .slice tmba mb.ths.length tmbc, .slice hmba mb.hist.length hmbc]) rfl rfl (by kernel_rfl) (by kernel_rfl) (by kernel_rfl) (fun _ _ _ h => h.elim) (.inl ⟨by rfl, fun W hW => by go_simp⟩) hS ?_
      simp only [Act.put, List.setIfInBounds_toArray, List.set_cons_succ, List.set_cons_zero]
      refine anyH_take 7 (some 44) (.int .i64 (nb : Nat)) rfl rfl (by kernel_rfl) (by kernel_rfl) (by kernel_rfl) (fun _ _ _ h => h.elim) (.inl ⟨by rfl, fun W hW => by go_simp⟩) hS ?_
      simp only [Act.put, List.setIfInBounds_toArray, List.set_cons_succ, List.set_cons_zero]
      refine wpAnyH_all (rs := [9]) (by kernel_rfl) (by simp) ?_
      simp only [List.mem_cons, List.not_mem_nil, or_false, forall_eq_or_imp, forall_eq]
      have hone := mach_ones mb.word mb.clock tmba hmba mb.ths.length tmbc mb.hist.length hmbc
      refine opH_skip none rfl (by rfl) rfl (run_store_row 77 (.tmp 9) (.tmp 43) rfl A rfl 77 [.int .u64 0, .int .i64 0, .slice none 0 0, .slice none 0 0] [.int .u64 (mb.word : Nat), .int .i64 mb.clock, .slice tmba mb.ths.length tmbc, .slice hmba mb.hist.length hmbc] rfl hA info77 rfl hone) ?_
      have hBn : MB _ A mb.word mb.clock (.slice tmba mb.ths.length tmbc) (.slice hmba mb.hist.length hmbc) := setRow_heap W2 A _ #[.int .u64 (mb.word : Nat), .int .i64 mb.clock, .slice tmba mb.ths.length tmbc, .slice hmba mb.hist.length hmbc] 77 (0, 0) hA
      have hRn := hRr.keptI (hRr.notIn (show MB W2 A 0 0 (.slice none 0 0) (.slice none 0 0) from hA).nb) (mods_setRow hA #[.int .u64 (mb.word : Nat), .int .i64 mb.clock, .slice tmba mb.ths.length tmbc, .slice hmba mb.hist.length hmbc])
      replace hS := hS.setRow hAl #[.int .u64 (mb.word : Nat), .int .i64 mb.clock, .slice tmba mb.ths.length tmbc, .slice hmba mb.hist.length hmbc]
      refine ⟨hS, ?_⟩
      simp only [Act.put, List.setIfInBounds_toArray, List.set_cons_succ, List.set_cons_zero]
      refine anyH_take 10 (some 10) (.int .i64 (nb : Nat)) rfl rfl (by kernel_rfl) (by kernel_rfl) (by kernel_rfl) (fun _ _ _ h => h.elim) (.inl ⟨by rfl, fun W hW => by go_simp⟩) hS ?_
      simp only [Act.put, List.setIfInBounds_toArray, List.set_cons_succ, List.set_cons_zero]
      refine wpAnyH_done (by kernel_rfl) ?_ _
      exact ⟨A, tmba, tmbc, hmba, hmbc, lvmb, rfl, hBn, hRn, hWl.trans hS⟩
  · rintro a' W' ⟨B, tba, tbc, hba, hbc, lvb, rfl, hBb, hRb, hNb⟩
    simp only [Act.put, List.setIfInBounds_toArray, List.set_cons_succ, List.set_cons_zero]
    have HB2 : Hid (MB W' B mb.word mb.clock (.slice tba mb.ths.length tbc) (.slice hba mb.hist.length hbc) ∧ New w W') := Lib.hid ⟨hBb, HN3.out.trans hNb⟩
    have HMb := Lib.hid hRb
    replace HVA := Lib.hid (HVA.out.new hNb)
    replace HBm := Lib.hid (HBm.out.new hNb)
    replace hB3 := hNb.heap hB3 id
    clear hBb hRb hNb HRB HN3
    obtain ⟨⟨mc, nc⟩, hrunc⟩ : ∃ r, runM DS rightB mb (is.drop q) = r := ⟨_, rfl⟩
    have Hrunc := Lib.hid hrunc
    have hmbi : InM mb := by have := Hin.out.run (is.take q); rw [Hrunb.out] at this; exact this
    have hmbh : mb.hist.length ≤ 100 := by
      have := hist_run (m := m) (is.take q)
      rw [Hrunb.out, List.length_take] at this
      have h1 := Hns.out.2.1
      have h2 := Hpn.out
      have this : mb.hist.length ≤ m.hist.length + min q is.length := this
      omega
    have HRC0 : ∀ sv, (∀ W, New w W → ReadsI .i64 W sv (is.drop q)) → Hid (∀ W, New W' W → Calls Try.prog 53 #[.agg #[.int .u64 (mb.word : Nat), .int .i64 mb.clock, .slice tba mb.ths.length tbc, .slice hba mb.hist.length hbc], sv] W fun e w' => ∃ v', e = .returned (.tuple #[v', .int .i64 (nc : Nat)]) ∧ ReadsM w' v' mc ∧ New W w') := fun sv hsv => Lib.hid (fun W hW => by
      have hz : (RunPost W (mc, nc)) = fun e w' => ∃ v', e = .returned (.tuple #[v', .int .i64 (nc : Nat)]) ∧ ReadsM w' v' mc ∧ New W w' := rfl
      rw [← hz, ← hrunc]
      exact run_S _ _ mb (is.drop q) W ⟨_, _, _, rfl, HMb.out.new hW⟩ (hsv W (HB2.out.2.trans hW)) hmbi (by rw [List.length_drop]; have := Hpn.out; omega))
    go_upto_region 6 with fail
    refine piece (fun a a' W'' => ∃ sv, ∃ A tmca tmcc hmca hmcc lvmc, a' = (a.put (some 46) (.agg #[.int .u64 (mb.word : Nat), .int .i64 mb.clock, .slice tba mb.ths.length tbc, .slice hba mb.hist.length hbc]) |>.put (some 47) (.slice pa pn pc) |>.put (some 48) (.int .i64 (q : Nat)) |>.put (some 49) sv |>.put (some 50) (.tuple #[.agg #[.int .u64 (mc.word : Nat), .int .i64 mc.clock, .slice tmca mc.ths.length tmcc, .slice hmca mc.hist.length hmcc], .int .i64 (nc : Nat)]) |>.put (some 45) (.tuple #[.agg #[.int .u64 (mc.word : Nat), .int .i64 mc.clock, .slice tmca mc.ths.length tmcc, .slice hmca mc.hist.length hmcc], .int .i64 (nc : Nat)]) |>.put (some 51) (.agg #[.int .u64 (mc.word : Nat), .int .i64 mc.clock, .slice tmca mc.ths.length tmcc, .slice hmca mc.hist.length hmcc]) |>.put (some 52) (.int .i64 (nc : Nat)) |>.put (some 11) (.pointer (some ⟨A, 0, none⟩)) |>.put (some 12) (.int .i64 (nc : Nat))) ∧ MB W'' A mc.word mc.clock (.slice tmca mc.ths.length tmcc) (.slice hmca mc.hist.length hmcc) ∧ MaR W'' mc (.slice tmca mc.ths.length tmcc) (.slice hmca mc.hist.length hmcc) lvmc ∧ New W' W'') ?_ ?_
    · cases pa with
      | none =>
        have hp0 := Lib.hid (reads_none HP.out Hpn.out)
        have hqp : (q : Int) ≤ (pn : Int) := by omega
        have HRC := HRC0 (.slice none (pn - q) (pc - q)) (fun W hW => reads_drop0 (HP.out.new hW) (by have := hp0.out; omega))
        refine wp_region_held (by kernel_rfl) (S := fun W => New W'.drew W) ?_
        show wpAnyH _ _ _ _ _ _ _ _ W'.drew
        have hSrc := (Mods.refl (fun _ => False) W').drew.heap HB2.out.1 id
        have HSd := Lib.hid (Mods.refl (fun _ => False) W').drew
        obtain ⟨Wd, hWd⟩ : ∃ Wd, W'.drew = Wd := ⟨_, rfl⟩
        have hWl : New W' Wd := by rw [← hWd]; exact (Mods.refl _ _).drew
        rw [hWd] at hSrc HSd ⊢
        have hS : New Wd Wd := Mods.refl _ _
        clear hWd
        refine anyH_take 0 (some 46) (.agg #[.int .u64 (mb.word : Nat), .int .i64 mb.clock, .slice tba mb.ths.length tbc, .slice hba mb.hist.length hbc]) rfl rfl (by kernel_rfl) (by kernel_rfl) (by kernel_rfl) (fun _ _ _ h => h.elim) (.inl ⟨by rfl, fun W hW => run_load_row 77 (.tmp 9) rfl B rfl 77 #[.int .u64 (mb.word : Nat), .int .i64 mb.clock, .slice tba mb.ths.length tbc, .slice hba mb.hist.length hbc] (0, 0) _ ((show New Wd W from hW).heap hSrc id) Try.underlying77 rfl info77⟩) hS ?_
        simp only [Act.put, List.setIfInBounds_toArray, List.set_cons_succ, List.set_cons_zero]
        refine anyH_take 1 (some 47) (.slice none pn pc) rfl rfl (by kernel_rfl) (by kernel_rfl) (by kernel_rfl) (fun _ _ _ h => h.elim) (.inl ⟨by rfl, fun W hW => by go_simp⟩) hS ?_
        simp only [Act.put, List.setIfInBounds_toArray, List.set_cons_succ, List.set_cons_zero]
        refine anyH_take 2 (some 48) (.int .i64 (q : Nat)) rfl rfl (by kernel_rfl) (by kernel_rfl) (by kernel_rfl) (fun _ _ _ h => h.elim) (.inl ⟨by rfl, fun W hW => by go_simp⟩) hS ?_
        simp only [Act.put, List.setIfInBounds_toArray, List.set_cons_succ, List.set_cons_zero]
        refine anyH_take 3 (some 49) (.slice none (pn - q) (pc - q)) rfl rfl (by kernel_rfl) (by kernel_rfl) (by kernel_rfl) (fun _ _ _ h => h.elim) (.inl ⟨by rfl, fun W hW => by go_simp⟩) hS ?_
        simp only [Act.put, List.setIfInBounds_toArray, List.set_cons_succ, List.set_cons_zero]
        refine wpAnyH_all (rs := [4, 8]) (by kernel_rfl) (by simp) ?_
        simp only [List.mem_cons, List.not_mem_nil, or_false, forall_eq_or_imp, forall_eq]
        refine ⟨?_, ?_⟩
        · refine opH_call (some 50) rfl (by rfl) rfl 53 #[.agg #[.int .u64 (mb.word : Nat), .int .i64 mb.clock, .slice tba mb.ths.length tbc, .slice hba mb.hist.length hbc], .slice none (pn - q) (pc - q)] (by go_simp) ((HRC.out Wd (HSd.out.trans hS)).mono ?_)
          rintro e W2 ⟨vr, rfl, hRr, hN2⟩
          obtain ⟨tmca, tmcc, hmca, hmcc, lvmc, rfl, hRr'⟩ := hRr.slices
          clear hRr
          have hRr := hRr'
          clear hRr'
          replace hS := hS.trans hN2
          refine ⟨_, rfl, hS, ?_⟩
          simp only [Act.put, List.setIfInBounds_toArray, List.set_cons_succ, List.set_cons_zero]
          clear hN2
          refine anyH_take 5 (some 45) (.tuple #[.agg #[.int .u64 (mc.word : Nat), .int .i64 mc.clock, .slice tmca mc.ths.length tmcc, .slice hmca mc.hist.length hmcc], .int .i64 (nc : Nat)]) rfl rfl (by kernel_rfl) (by kernel_rfl) (by kernel_rfl) (fun _ _ _ h => h.elim) (.inl ⟨by rfl, fun W hW => by go_simp⟩) hS ?_
          simp only [Act.put, List.setIfInBounds_toArray, List.set_cons_succ, List.set_cons_zero]
          refine anyH_take 6 (some 51) (.agg #[.int .u64 (mc.word : Nat), .int .i64 mc.clock, .slice tmca mc.ths.length tmcc, .slice hmca mc.hist.length hmcc]) rfl rfl (by kernel_rfl) (by kernel_rfl) (by kernel_rfl) (fun _ _ _ h => h.elim) (.inl ⟨by rfl, fun W hW => by go_simp⟩) hS ?_
          simp only [Act.put, List.setIfInBounds_toArray, List.set_cons_succ, List.set_cons_zero]
          refine anyH_take 7 (some 52) (.int .i64 (nc : Nat)) rfl rfl (by kernel_rfl) (by kernel_rfl) (by kernel_rfl) (fun _ _ _ h => h.elim) (.inl ⟨by rfl, fun W hW => by go_simp⟩) hS ?_
          simp only [Act.put, List.setIfInBounds_toArray, List.set_cons_succ, List.set_cons_zero]
          refine wpAnyH_all (rs := [8]) (by kernel_rfl) (by simp) ?_
          simp only [List.mem_cons, List.not_mem_nil, or_false, forall_eq_or_imp, forall_eq]
          refine opH_value (some 11) (v := .pointer (some ⟨W2.heap.size, 0, none⟩)) (w' := W2.alloc (.cells #[.int .u64 0, .int .i64 0, .slice none 0 0, .slice none 0 0] 77)) rfl (by rfl) rfl (by go_simp) ?_
          refine ⟨hS.trans ((Mods.refl _ _).alloc _), ?_⟩
          simp only [Act.put, List.setIfInBounds_toArray, List.set_cons_succ, List.set_cons_zero]
          have hA := World.alloc_heap_new W2 (.cells #[.int .u64 0, .int .i64 0, .slice none 0 0, .slice none 0 0] 77)
          have hAl0 : Wd.heap.size ≤ W2.heap.size := hS.size
          replace hRr := hRr.new ((Mods.refl (fun _ => False) W2).alloc (.cells #[.int .u64 0, .int .i64 0, .slice none 0 0, .slice none 0 0] 77))
          replace hS := hS.trans ((Mods.refl _ _).alloc (.cells #[.int .u64 0, .int .i64 0, .slice none 0 0, .slice none 0 0] 77))
          obtain ⟨WA, hWa⟩ : ∃ W, W2.alloc (.cells #[.int .u64 0, .int .i64 0, .slice none 0 0, .slice none 0 0] 77) = W := ⟨_, rfl⟩
          obtain ⟨A, hAA⟩ : ∃ A, W2.heap.size = A := ⟨_, rfl⟩
          have hAl : Wd.heap.size ≤ A := by omega
          rw [hWa] at hA hS hRr ⊢
          rw [hAA] at hA ⊢
          clear hWa hAA hAl0
          refine wpAnyH_all (rs := [9]) (by kernel_rfl) (by simp) ?_
          simp only [List.mem_cons, List.not_mem_nil, or_false, forall_eq_or_imp, forall_eq]
          have hone := mach_ones mc.word mc.clock tmca hmca mc.ths.length tmcc mc.hist.length hmcc
          refine opH_skip none rfl (by rfl) rfl (run_store_row 77 (.tmp 11) (.tmp 51) rfl A rfl 77 [.int .u64 0, .int .i64 0, .slice none 0 0, .slice none 0 0] [.int .u64 (mc.word : Nat), .int .i64 mc.clock, .slice tmca mc.ths.length tmcc, .slice hmca mc.hist.length hmcc] rfl hA info77 rfl hone) ?_
          have hBn : MB _ A mc.word mc.clock (.slice tmca mc.ths.length tmcc) (.slice hmca mc.hist.length hmcc) := setRow_heap WA A _ #[.int .u64 (mc.word : Nat), .int .i64 mc.clock, .slice tmca mc.ths.length tmcc, .slice hmca mc.hist.length hmcc] 77 (0, 0) hA
          have hRn := hRr.keptI (hRr.notIn (show MB WA A 0 0 (.slice none 0 0) (.slice none 0 0) from hA).nb) (mods_setRow hA #[.int .u64 (mc.word : Nat), .int .i64 mc.clock, .slice tmca mc.ths.length tmcc, .slice hmca mc.hist.length hmcc])
          replace hS := hS.setRow hAl #[.int .u64 (mc.word : Nat), .int .i64 mc.clock, .slice tmca mc.ths.length tmcc, .slice hmca mc.hist.length hmcc]
          refine ⟨hS, ?_⟩
          simp only [Act.put, List.setIfInBounds_toArray, List.set_cons_succ, List.set_cons_zero]
          refine anyH_take 10 (some 12) (.int .i64 (nc : Nat)) rfl rfl (by kernel_rfl) (by kernel_rfl) (by kernel_rfl) (fun _ _ _ h => h.elim) (.inl ⟨by rfl, fun W hW => by go_simp⟩) hS ?_
          simp only [Act.put, List.setIfInBounds_toArray, List.set_cons_succ, List.set_cons_zero]
          refine wpAnyH_done (by kernel_rfl) ?_ _
          exact ⟨_, A, tmca, tmcc, hmca, hmcc, lvmc, rfl, hBn, hRn, hWl.trans hS⟩
        · refine opH_value (some 11) (v := .pointer (some ⟨Wd.heap.size, 0, none⟩)) (w' := Wd.alloc (.cells #[.int .u64 0, .int .i64 0, .slice none 0 0, .slice none 0 0] 77)) rfl (by rfl) rfl (by go_simp) ?_
          refine ⟨hS.trans ((Mods.refl _ _).alloc _), ?_⟩
          simp only [Act.put, List.setIfInBounds_toArray, List.set_cons_succ, List.set_cons_zero]
          have hA := World.alloc_heap_new Wd (.cells #[.int .u64 0, .int .i64 0, .slice none 0 0, .slice none 0 0] 77)
          have hAl0 : Wd.heap.size ≤ Wd.heap.size := hS.size
          replace hS := hS.trans ((Mods.refl _ _).alloc (.cells #[.int .u64 0, .int .i64 0, .slice none 0 0, .slice none 0 0] 77))
          obtain ⟨WA, hWa⟩ : ∃ W, Wd.alloc (.cells #[.int .u64 0, .int .i64 0, .slice none 0 0, .slice none 0 0] 77) = W := ⟨_, rfl⟩
          obtain ⟨A, hAA⟩ : ∃ A, Wd.heap.size = A := ⟨_, rfl⟩
          have hAl : Wd.heap.size ≤ A := by omega
          rw [hWa] at hA hS ⊢
          rw [hAA] at hA ⊢
          clear hWa hAA hAl0
          refine wpAnyH_all (rs := [4]) (by kernel_rfl) (by simp) ?_
          simp only [List.mem_cons, List.not_mem_nil, or_false, forall_eq_or_imp, forall_eq]
          refine opH_call (some 50) rfl (by rfl) rfl 53 #[.agg #[.int .u64 (mb.word : Nat), .int .i64 mb.clock, .slice tba mb.ths.length tbc, .slice hba mb.hist.length hbc], .slice none (pn - q) (pc - q)] (by go_simp) ((HRC.out WA (HSd.out.trans hS)).mono ?_)
          rintro e W2 ⟨vr, rfl, hRr, hN2⟩
          obtain ⟨tmca, tmcc, hmca, hmcc, lvmc, rfl, hRr'⟩ := hRr.slices
          clear hRr
          have hRr := hRr'
          clear hRr'
          replace hA := hN2.heap hA id
          replace hS := hS.trans hN2
          refine ⟨_, rfl, hS, ?_⟩
          simp only [Act.put, List.setIfInBounds_toArray, List.set_cons_succ, List.set_cons_zero]
          clear hN2
          refine anyH_take 5 (some 45) (.tuple #[.agg #[.int .u64 (mc.word : Nat), .int .i64 mc.clock, .slice tmca mc.ths.length tmcc, .slice hmca mc.hist.length hmcc], .int .i64 (nc : Nat)]) rfl rfl (by kernel_rfl) (by kernel_rfl) (by kernel_rfl) (fun _ _ _ h => h.elim) (.inl ⟨by rfl, fun W hW => by go_simp⟩) hS ?_
          simp only [Act.put, List.setIfInBounds_toArray, List.set_cons_succ, List.set_cons_zero]
          refine anyH_take 6 (some 51) (.agg #[.int .u64 (mc.word : Nat), .int .i64 mc.clock, .slice tmca mc.ths.length tmcc, .slice hmca mc.hist.length hmcc]) rfl rfl (by kernel_rfl) (by kernel_rfl) (by kernel_rfl) (fun _ _ _ h => h.elim) (.inl ⟨by rfl, fun W hW => by go_simp⟩) hS ?_
          simp only [Act.put, List.setIfInBounds_toArray, List.set_cons_succ, List.set_cons_zero]
          refine anyH_take 7 (some 52) (.int .i64 (nc : Nat)) rfl rfl (by kernel_rfl) (by kernel_rfl) (by kernel_rfl) (fun _ _ _ h => h.elim) (.inl ⟨by rfl, fun W hW => by go_simp⟩) hS ?_
          simp only [Act.put, List.setIfInBounds_toArray, List.set_cons_succ, List.set_cons_zero]
          refine wpAnyH_all (rs := [9]) (by kernel_rfl) (by simp) ?_
          simp only [List.mem_cons, List.not_mem_nil, or_false, forall_eq_or_imp, forall_eq]
          have hone := mach_ones mc.word mc.clock tmca hmca mc.ths.length tmcc mc.hist.length hmcc
          refine opH_skip none rfl (by rfl) rfl (run_store_row 77 (.tmp 11) (.tmp 51) rfl A rfl 77 [.int .u64 0, .int .i64 0, .slice none 0 0, .slice none 0 0] [.int .u64 (mc.word : Nat), .int .i64 mc.clock, .slice tmca mc.ths.length tmcc, .slice hmca mc.hist.length hmcc] rfl hA info77 rfl hone) ?_
          have hBn : MB _ A mc.word mc.clock (.slice tmca mc.ths.length tmcc) (.slice hmca mc.hist.length hmcc) := setRow_heap W2 A _ #[.int .u64 (mc.word : Nat), .int .i64 mc.clock, .slice tmca mc.ths.length tmcc, .slice hmca mc.hist.length hmcc] 77 (0, 0) hA
          have hRn := hRr.keptI (hRr.notIn (show MB W2 A 0 0 (.slice none 0 0) (.slice none 0 0) from hA).nb) (mods_setRow hA #[.int .u64 (mc.word : Nat), .int .i64 mc.clock, .slice tmca mc.ths.length tmcc, .slice hmca mc.hist.length hmcc])
          replace hS := hS.setRow hAl #[.int .u64 (mc.word : Nat), .int .i64 mc.clock, .slice tmca mc.ths.length tmcc, .slice hmca mc.hist.length hmcc]
          refine ⟨hS, ?_⟩
          simp only [Act.put, List.setIfInBounds_toArray, List.set_cons_succ, List.set_cons_zero]
          refine anyH_take 10 (some 12) (.int .i64 (nc : Nat)) rfl rfl (by kernel_rfl) (by kernel_rfl) (by kernel_rfl) (fun _ _ _ h => h.elim) (.inl ⟨by rfl, fun W hW => by go_simp⟩) hS ?_
          simp only [Act.put, List.setIfInBounds_toArray, List.set_cons_succ, List.set_cons_zero]
          refine wpAnyH_done (by kernel_rfl) ?_ _
          exact ⟨_, A, tmca, tmcc, hmca, hmcc, lvmc, rfl, hBn, hRn, hWl.trans hS⟩
      | some a0 =>
        by_cases hpq : pc = q
        · have hpq2 : (pc : Int) = (q : Int) := by omega
          have hqp : (q : Int) ≤ (pn : Int) := by omega
          have HRC := HRC0 (.slice (some a0) (pn - q) (pc - q)) (fun W hW => reads_drop0 (HP.out.new hW) (by omega))
          refine wp_region_held (by kernel_rfl) (S := fun W => New W'.drew W) ?_
          show wpAnyH _ _ _ _ _ _ _ _ W'.drew
          have hSrc := (Mods.refl (fun _ => False) W').drew.heap HB2.out.1 id
          have HSd := Lib.hid (Mods.refl (fun _ => False) W').drew
          obtain ⟨Wd, hWd⟩ : ∃ Wd, W'.drew = Wd := ⟨_, rfl⟩
          have hWl : New W' Wd := by rw [← hWd]; exact (Mods.refl _ _).drew
          rw [hWd] at hSrc HSd ⊢
          have hS : New Wd Wd := Mods.refl _ _
          clear hWd
          refine anyH_take 0 (some 46) (.agg #[.int .u64 (mb.word : Nat), .int .i64 mb.clock, .slice tba mb.ths.length tbc, .slice hba mb.hist.length hbc]) rfl rfl (by kernel_rfl) (by kernel_rfl) (by kernel_rfl) (fun _ _ _ h => h.elim) (.inl ⟨by rfl, fun W hW => run_load_row 77 (.tmp 9) rfl B rfl 77 #[.int .u64 (mb.word : Nat), .int .i64 mb.clock, .slice tba mb.ths.length tbc, .slice hba mb.hist.length hbc] (0, 0) _ ((show New Wd W from hW).heap hSrc id) Try.underlying77 rfl info77⟩) hS ?_
          simp only [Act.put, List.setIfInBounds_toArray, List.set_cons_succ, List.set_cons_zero]
          refine anyH_take 1 (some 47) (.slice (some a0) pn pc) rfl rfl (by kernel_rfl) (by kernel_rfl) (by kernel_rfl) (fun _ _ _ h => h.elim) (.inl ⟨by rfl, fun W hW => by go_simp⟩) hS ?_
          simp only [Act.put, List.setIfInBounds_toArray, List.set_cons_succ, List.set_cons_zero]
          refine anyH_take 2 (some 48) (.int .i64 (q : Nat)) rfl rfl (by kernel_rfl) (by kernel_rfl) (by kernel_rfl) (fun _ _ _ h => h.elim) (.inl ⟨by rfl, fun W hW => by go_simp⟩) hS ?_
          simp only [Act.put, List.setIfInBounds_toArray, List.set_cons_succ, List.set_cons_zero]
          refine anyH_take 3 (some 49) (.slice (some a0) (pn - q) (pc - q)) rfl rfl (by kernel_rfl) (by kernel_rfl) (by kernel_rfl) (fun _ _ _ h => h.elim) (.inl ⟨by rfl, fun W hW => by go_simp⟩) hS ?_
          simp only [Act.put, List.setIfInBounds_toArray, List.set_cons_succ, List.set_cons_zero]
          refine wpAnyH_all (rs := [4, 8]) (by kernel_rfl) (by simp) ?_
          simp only [List.mem_cons, List.not_mem_nil, or_false, forall_eq_or_imp, forall_eq]
          refine ⟨?_, ?_⟩
          · refine opH_call (some 50) rfl (by rfl) rfl 53 #[.agg #[.int .u64 (mb.word : Nat), .int .i64 mb.clock, .slice tba mb.ths.length tbc, .slice hba mb.hist.length hbc], .slice (some a0) (pn - q) (pc - q)] (by go_simp) ((HRC.out Wd (HSd.out.trans hS)).mono ?_)
            rintro e W2 ⟨vr, rfl, hRr, hN2⟩
            obtain ⟨tmca, tmcc, hmca, hmcc, lvmc, rfl, hRr'⟩ := hRr.slices
            clear hRr
            have hRr := hRr'
            clear hRr'
            replace hS := hS.trans hN2
            refine ⟨_, rfl, hS, ?_⟩
            simp only [Act.put, List.setIfInBounds_toArray, List.set_cons_succ, List.set_cons_zero]
            clear hN2
            refine anyH_take 5 (some 45) (.tuple #[.agg #[.int .u64 (mc.word : Nat), .int .i64 mc.clock, .slice tmca mc.ths.length tmcc, .slice hmca mc.hist.length hmcc], .int .i64 (nc : Nat)]) rfl rfl (by kernel_rfl) (by kernel_rfl) (by kernel_rfl) (fun _ _ _ h => h.elim) (.inl ⟨by rfl, fun W hW => by go_simp⟩) hS ?_
            simp only [Act.put, List.setIfInBounds_toArray, List.set_cons_succ, List.set_cons_zero]
            refine anyH_take 6 (some 51) (.agg #[.int .u64 (mc.word : Nat), .int .i64 mc.clock, .slice tmca mc.ths.length tmcc, .slice hmca mc.hist.length hmcc]) rfl rfl (by kernel_rfl) (by kernel_rfl) (by kernel_rfl) (fun _ _ _ h => h.elim) (.inl ⟨by rfl, fun W hW => by go_simp⟩) hS ?_
            simp only [Act.put, List.setIfInBounds_toArray, List.set_cons_succ, List.set_cons_zero]
            refine anyH_take 7 (some 52) (.int .i64 (nc : Nat)) rfl rfl (by kernel_rfl) (by kernel_rfl) (by kernel_rfl) (fun _ _ _ h => h.elim) (.inl ⟨by rfl, fun W hW => by go_simp⟩) hS ?_
            simp only [Act.put, List.setIfInBounds_toArray, List.set_cons_succ, List.set_cons_zero]
            refine wpAnyH_all (rs := [8]) (by kernel_rfl) (by simp) ?_
            simp only [List.mem_cons, List.not_mem_nil, or_false, forall_eq_or_imp, forall_eq]
            refine opH_value (some 11) (v := .pointer (some ⟨W2.heap.size, 0, none⟩)) (w' := W2.alloc (.cells #[.int .u64 0, .int .i64 0, .slice none 0 0, .slice none 0 0] 77)) rfl (by rfl) rfl (by go_simp) ?_
            refine ⟨hS.trans ((Mods.refl _ _).alloc _), ?_⟩
            simp only [Act.put, List.setIfInBounds_toArray, List.set_cons_succ, List.set_cons_zero]
            have hA := World.alloc_heap_new W2 (.cells #[.int .u64 0, .int .i64 0, .slice none 0 0, .slice none 0 0] 77)
            have hAl0 : Wd.heap.size ≤ W2.heap.size := hS.size
            replace hRr := hRr.new ((Mods.refl (fun _ => False) W2).alloc (.cells #[.int .u64 0, .int .i64 0, .slice none 0 0, .slice none 0 0] 77))
            replace hS := hS.trans ((Mods.refl _ _).alloc (.cells #[.int .u64 0, .int .i64 0, .slice none 0 0, .slice none 0 0] 77))
            obtain ⟨WA, hWa⟩ : ∃ W, W2.alloc (.cells #[.int .u64 0, .int .i64 0, .slice none 0 0, .slice none 0 0] 77) = W := ⟨_, rfl⟩
            obtain ⟨A, hAA⟩ : ∃ A, W2.heap.size = A := ⟨_, rfl⟩
            have hAl : Wd.heap.size ≤ A := by omega
            rw [hWa] at hA hS hRr ⊢
            rw [hAA] at hA ⊢
            clear hWa hAA hAl0
            refine wpAnyH_all (rs := [9]) (by kernel_rfl) (by simp) ?_
            simp only [List.mem_cons, List.not_mem_nil, or_false, forall_eq_or_imp, forall_eq]
            have hone := mach_ones mc.word mc.clock tmca hmca mc.ths.length tmcc mc.hist.length hmcc
            refine opH_skip none rfl (by rfl) rfl (run_store_row 77 (.tmp 11) (.tmp 51) rfl A rfl 77 [.int .u64 0, .int .i64 0, .slice none 0 0, .slice none 0 0] [.int .u64 (mc.word : Nat), .int .i64 mc.clock, .slice tmca mc.ths.length tmcc, .slice hmca mc.hist.length hmcc] rfl hA info77 rfl hone) ?_
            have hBn : MB _ A mc.word mc.clock (.slice tmca mc.ths.length tmcc) (.slice hmca mc.hist.length hmcc) := setRow_heap WA A _ #[.int .u64 (mc.word : Nat), .int .i64 mc.clock, .slice tmca mc.ths.length tmcc, .slice hmca mc.hist.length hmcc] 77 (0, 0) hA
            have hRn := hRr.keptI (hRr.notIn (show MB WA A 0 0 (.slice none 0 0) (.slice none 0 0) from hA).nb) (mods_setRow hA #[.int .u64 (mc.word : Nat), .int .i64 mc.clock, .slice tmca mc.ths.length tmcc, .slice hmca mc.hist.length hmcc])
            replace hS := hS.setRow hAl #[.int .u64 (mc.word : Nat), .int .i64 mc.clock, .slice tmca mc.ths.length tmcc, .slice hmca mc.hist.length hmcc]
            refine ⟨hS, ?_⟩
            simp only [Act.put, List.setIfInBounds_toArray, List.set_cons_succ, List.set_cons_zero]
            refine anyH_take 10 (some 12) (.int .i64 (nc : Nat)) rfl rfl (by kernel_rfl) (by kernel_rfl) (by kernel_rfl) (fun _ _ _ h => h.elim) (.inl ⟨by rfl, fun W hW => by go_simp⟩) hS ?_
            simp only [Act.put, List.setIfInBounds_toArray, List.set_cons_succ, List.set_cons_zero]
            refine wpAnyH_done (by kernel_rfl) ?_ _
            exact ⟨_, A, tmca, tmcc, hmca, hmcc, lvmc, rfl, hBn, hRn, hWl.trans hS⟩
          · refine opH_value (some 11) (v := .pointer (some ⟨Wd.heap.size, 0, none⟩)) (w' := Wd.alloc (.cells #[.int .u64 0, .int .i64 0, .slice none 0 0, .slice none 0 0] 77)) rfl (by rfl) rfl (by go_simp) ?_
            refine ⟨hS.trans ((Mods.refl _ _).alloc _), ?_⟩
            simp only [Act.put, List.setIfInBounds_toArray, List.set_cons_succ, List.set_cons_zero]
            have hA := World.alloc_heap_new Wd (.cells #[.int .u64 0, .int .i64 0, .slice none 0 0, .slice none 0 0] 77)
            have hAl0 : Wd.heap.size ≤ Wd.heap.size := hS.size
            replace hS := hS.trans ((Mods.refl _ _).alloc (.cells #[.int .u64 0, .int .i64 0, .slice none 0 0, .slice none 0 0] 77))
            obtain ⟨WA, hWa⟩ : ∃ W, Wd.alloc (.cells #[.int .u64 0, .int .i64 0, .slice none 0 0, .slice none 0 0] 77) = W := ⟨_, rfl⟩
            obtain ⟨A, hAA⟩ : ∃ A, Wd.heap.size = A := ⟨_, rfl⟩
            have hAl : Wd.heap.size ≤ A := by omega
            rw [hWa] at hA hS ⊢
            rw [hAA] at hA ⊢
            clear hWa hAA hAl0
            refine wpAnyH_all (rs := [4]) (by kernel_rfl) (by simp) ?_
            simp only [List.mem_cons, List.not_mem_nil, or_false, forall_eq_or_imp, forall_eq]
            refine opH_call (some 50) rfl (by rfl) rfl 53 #[.agg #[.int .u64 (mb.word : Nat), .int .i64 mb.clock, .slice tba mb.ths.length tbc, .slice hba mb.hist.length hbc], .slice (some a0) (pn - q) (pc - q)] (by go_simp) ((HRC.out WA (HSd.out.trans hS)).mono ?_)
            rintro e W2 ⟨vr, rfl, hRr, hN2⟩
            obtain ⟨tmca, tmcc, hmca, hmcc, lvmc, rfl, hRr'⟩ := hRr.slices
            clear hRr
            have hRr := hRr'
            clear hRr'
            replace hA := hN2.heap hA id
            replace hS := hS.trans hN2
            refine ⟨_, rfl, hS, ?_⟩
            simp only [Act.put, List.setIfInBounds_toArray, List.set_cons_succ, List.set_cons_zero]
            clear hN2
            refine anyH_take 5 (some 45) (.tuple #[.agg #[.int .u64 (mc.word : Nat), .int .i64 mc.clock, .slice tmca mc.ths.length tmcc, .slice hmca mc.hist.length hmcc], .int .i64 (nc : Nat)]) rfl rfl (by kernel_rfl) (by kernel_rfl) (by kernel_rfl) (fun _ _ _ h => h.elim) (.inl ⟨by rfl, fun W hW => by go_simp⟩) hS ?_
            simp only [Act.put, List.setIfInBounds_toArray, List.set_cons_succ, List.set_cons_zero]
            refine anyH_take 6 (some 51) (.agg #[.int .u64 (mc.word : Nat), .int .i64 mc.clock, .slice tmca mc.ths.length tmcc, .slice hmca mc.hist.length hmcc]) rfl rfl (by kernel_rfl) (by kernel_rfl) (by kernel_rfl) (fun _ _ _ h => h.elim) (.inl ⟨by rfl, fun W hW => by go_simp⟩) hS ?_
            simp only [Act.put, List.setIfInBounds_toArray, List.set_cons_succ, List.set_cons_zero]
            refine anyH_take 7 (some 52) (.int .i64 (nc : Nat)) rfl rfl (by kernel_rfl) (by kernel_rfl) (by kernel_rfl) (fun _ _ _ h => h.elim) (.inl ⟨by rfl, fun W hW => by go_simp⟩) hS ?_
            simp only [Act.put, List.setIfInBounds_toArray, List.set_cons_succ, List.set_cons_zero]
            refine wpAnyH_all (rs := [9]) (by kernel_rfl) (by simp) ?_
            simp only [List.mem_cons, List.not_mem_nil, or_false, forall_eq_or_imp, forall_eq]
            have hone := mach_ones mc.word mc.clock tmca hmca mc.ths.length tmcc mc.hist.length hmcc
            refine opH_skip none rfl (by rfl) rfl (run_store_row 77 (.tmp 11) (.tmp 51) rfl A rfl 77 [.int .u64 0, .int .i64 0, .slice none 0 0, .slice none 0 0] [.int .u64 (mc.word : Nat), .int .i64 mc.clock, .slice tmca mc.ths.length tmcc, .slice hmca mc.hist.length hmcc] rfl hA info77 rfl hone) ?_
            have hBn : MB _ A mc.word mc.clock (.slice tmca mc.ths.length tmcc) (.slice hmca mc.hist.length hmcc) := setRow_heap W2 A _ #[.int .u64 (mc.word : Nat), .int .i64 mc.clock, .slice tmca mc.ths.length tmcc, .slice hmca mc.hist.length hmcc] 77 (0, 0) hA
            have hRn := hRr.keptI (hRr.notIn (show MB W2 A 0 0 (.slice none 0 0) (.slice none 0 0) from hA).nb) (mods_setRow hA #[.int .u64 (mc.word : Nat), .int .i64 mc.clock, .slice tmca mc.ths.length tmcc, .slice hmca mc.hist.length hmcc])
            replace hS := hS.setRow hAl #[.int .u64 (mc.word : Nat), .int .i64 mc.clock, .slice tmca mc.ths.length tmcc, .slice hmca mc.hist.length hmcc]
            refine ⟨hS, ?_⟩
            simp only [Act.put, List.setIfInBounds_toArray, List.set_cons_succ, List.set_cons_zero]
            refine anyH_take 10 (some 12) (.int .i64 (nc : Nat)) rfl rfl (by kernel_rfl) (by kernel_rfl) (by kernel_rfl) (fun _ _ _ h => h.elim) (.inl ⟨by rfl, fun W hW => by go_simp⟩) hS ?_
            simp only [Act.put, List.setIfInBounds_toArray, List.set_cons_succ, List.set_cons_zero]
            refine wpAnyH_done (by kernel_rfl) ?_ _
            exact ⟨_, A, tmca, tmcc, hmca, hmcc, lvmc, rfl, hBn, hRn, hWl.trans hS⟩
        · have hpq' : ¬ (pc : Int) = (q : Int) := by omega
          have hqp : (q : Int) ≤ (pn : Int) := by omega
          have HRC := HRC0 (.slice (some (a0.add (q * 1))) (pn - q) (pc - q)) (fun W hW => reads_drop (HP.out.new hW) hq)
          refine wp_region_held (by kernel_rfl) (S := fun W => New W'.drew W) ?_
          show wpAnyH _ _ _ _ _ _ _ _ W'.drew
          have hSrc := (Mods.refl (fun _ => False) W').drew.heap HB2.out.1 id
          have HSd := Lib.hid (Mods.refl (fun _ => False) W').drew
          obtain ⟨Wd, hWd⟩ : ∃ Wd, W'.drew = Wd := ⟨_, rfl⟩
          have hWl : New W' Wd := by rw [← hWd]; exact (Mods.refl _ _).drew
          rw [hWd] at hSrc HSd ⊢
          have hS : New Wd Wd := Mods.refl _ _
          clear hWd
          refine anyH_take 0 (some 46) (.agg #[.int .u64 (mb.word : Nat), .int .i64 mb.clock, .slice tba mb.ths.length tbc, .slice hba mb.hist.length hbc]) rfl rfl (by kernel_rfl) (by kernel_rfl) (by kernel_rfl) (fun _ _ _ h => h.elim) (.inl ⟨by rfl, fun W hW => run_load_row 77 (.tmp 9) rfl B rfl 77 #[.int .u64 (mb.word : Nat), .int .i64 mb.clock, .slice tba mb.ths.length tbc, .slice hba mb.hist.length hbc] (0, 0) _ ((show New Wd W from hW).heap hSrc id) Try.underlying77 rfl info77⟩) hS ?_
          simp only [Act.put, List.setIfInBounds_toArray, List.set_cons_succ, List.set_cons_zero]
          refine anyH_take 1 (some 47) (.slice (some a0) pn pc) rfl rfl (by kernel_rfl) (by kernel_rfl) (by kernel_rfl) (fun _ _ _ h => h.elim) (.inl ⟨by rfl, fun W hW => by go_simp⟩) hS ?_
          simp only [Act.put, List.setIfInBounds_toArray, List.set_cons_succ, List.set_cons_zero]
          refine anyH_take 2 (some 48) (.int .i64 (q : Nat)) rfl rfl (by kernel_rfl) (by kernel_rfl) (by kernel_rfl) (fun _ _ _ h => h.elim) (.inl ⟨by rfl, fun W hW => by go_simp⟩) hS ?_
          simp only [Act.put, List.setIfInBounds_toArray, List.set_cons_succ, List.set_cons_zero]
          refine anyH_take 3 (some 49) (.slice (some (a0.add (q * 1))) (pn - q) (pc - q)) rfl rfl (by kernel_rfl) (by kernel_rfl) (by kernel_rfl) (fun _ _ _ h => h.elim) (.inl ⟨by rfl, fun W hW => by go_simp⟩) hS ?_
          simp only [Act.put, List.setIfInBounds_toArray, List.set_cons_succ, List.set_cons_zero]
          refine wpAnyH_all (rs := [4, 8]) (by kernel_rfl) (by simp) ?_
          simp only [List.mem_cons, List.not_mem_nil, or_false, forall_eq_or_imp, forall_eq]
          refine ⟨?_, ?_⟩
          · refine opH_call (some 50) rfl (by rfl) rfl 53 #[.agg #[.int .u64 (mb.word : Nat), .int .i64 mb.clock, .slice tba mb.ths.length tbc, .slice hba mb.hist.length hbc], .slice (some (a0.add (q * 1))) (pn - q) (pc - q)] (by go_simp) ((HRC.out Wd (HSd.out.trans hS)).mono ?_)
            rintro e W2 ⟨vr, rfl, hRr, hN2⟩
            obtain ⟨tmca, tmcc, hmca, hmcc, lvmc, rfl, hRr'⟩ := hRr.slices
            clear hRr
            have hRr := hRr'
            clear hRr'
            replace hS := hS.trans hN2
            refine ⟨_, rfl, hS, ?_⟩
            simp only [Act.put, List.setIfInBounds_toArray, List.set_cons_succ, List.set_cons_zero]
            clear hN2
            refine anyH_take 5 (some 45) (.tuple #[.agg #[.int .u64 (mc.word : Nat), .int .i64 mc.clock, .slice tmca mc.ths.length tmcc, .slice hmca mc.hist.length hmcc], .int .i64 (nc : Nat)]) rfl rfl (by kernel_rfl) (by kernel_rfl) (by kernel_rfl) (fun _ _ _ h => h.elim) (.inl ⟨by rfl, fun W hW => by go_simp⟩) hS ?_
            simp only [Act.put, List.setIfInBounds_toArray, List.set_cons_succ, List.set_cons_zero]
            refine anyH_take 6 (some 51) (.agg #[.int .u64 (mc.word : Nat), .int .i64 mc.clock, .slice tmca mc.ths.length tmcc, .slice hmca mc.hist.length hmcc]) rfl rfl (by kernel_rfl) (by kernel_rfl) (by kernel_rfl) (fun _ _ _ h => h.elim) (.inl ⟨by rfl, fun W hW => by go_simp⟩) hS ?_
            simp only [Act.put, List.setIfInBounds_toArray, List.set_cons_succ, List.set_cons_zero]
            refine anyH_take 7 (some 52) (.int .i64 (nc : Nat)) rfl rfl (by kernel_rfl) (by kernel_rfl) (by kernel_rfl) (fun _ _ _ h => h.elim) (.inl ⟨by rfl, fun W hW => by go_simp⟩) hS ?_
            simp only [Act.put, List.setIfInBounds_toArray, List.set_cons_succ, List.set_cons_zero]
            refine wpAnyH_all (rs := [8]) (by kernel_rfl) (by simp) ?_
            simp only [List.mem_cons, List.not_mem_nil, or_false, forall_eq_or_imp, forall_eq]
            refine opH_value (some 11) (v := .pointer (some ⟨W2.heap.size, 0, none⟩)) (w' := W2.alloc (.cells #[.int .u64 0, .int .i64 0, .slice none 0 0, .slice none 0 0] 77)) rfl (by rfl) rfl (by go_simp) ?_
            refine ⟨hS.trans ((Mods.refl _ _).alloc _), ?_⟩
            simp only [Act.put, List.setIfInBounds_toArray, List.set_cons_succ, List.set_cons_zero]
            have hA := World.alloc_heap_new W2 (.cells #[.int .u64 0, .int .i64 0, .slice none 0 0, .slice none 0 0] 77)
            have hAl0 : Wd.heap.size ≤ W2.heap.size := hS.size
            replace hRr := hRr.new ((Mods.refl (fun _ => False) W2).alloc (.cells #[.int .u64 0, .int .i64 0, .slice none 0 0, .slice none 0 0] 77))
            replace hS := hS.trans ((Mods.refl _ _).alloc (.cells #[.int .u64 0, .int .i64 0, .slice none 0 0, .slice none 0 0] 77))
            obtain ⟨WA, hWa⟩ : ∃ W, W2.alloc (.cells #[.int .u64 0, .int .i64 0, .slice none 0 0, .slice none 0 0] 77) = W := ⟨_, rfl⟩
            obtain ⟨A, hAA⟩ : ∃ A, W2.heap.size = A := ⟨_, rfl⟩
            have hAl : Wd.heap.size ≤ A := by omega
            rw [hWa] at hA hS hRr ⊢
            rw [hAA] at hA ⊢
            clear hWa hAA hAl0
            refine wpAnyH_all (rs := [9]) (by kernel_rfl) (by simp) ?_
            simp only [List.mem_cons, List.not_mem_nil, or_false, forall_eq_or_imp, forall_eq]
            have hone := mach_ones mc.word mc.clock tmca hmca mc.ths.length tmcc mc.hist.length hmcc
            refine opH_skip none rfl (by rfl) rfl (run_store_row 77 (.tmp 11) (.tmp 51) rfl A rfl 77 [.int .u64 0, .int .i64 0, .slice none 0 0, .slice none 0 0] [.int .u64 (mc.word : Nat), .int .i64 mc.clock, .slice tmca mc.ths.length tmcc, .slice hmca mc.hist.length hmcc] rfl hA info77 rfl hone) ?_
            have hBn : MB _ A mc.word mc.clock (.slice tmca mc.ths.length tmcc) (.slice hmca mc.hist.length hmcc) := setRow_heap WA A _ #[.int .u64 (mc.word : Nat), .int .i64 mc.clock, .slice tmca mc.ths.length tmcc, .slice hmca mc.hist.length hmcc] 77 (0, 0) hA
            have hRn := hRr.keptI (hRr.notIn (show MB WA A 0 0 (.slice none 0 0) (.slice none 0 0) from hA).nb) (mods_setRow hA #[.int .u64 (mc.word : Nat), .int .i64 mc.clock, .slice tmca mc.ths.length tmcc, .slice hmca mc.hist.length hmcc])
            replace hS := hS.setRow hAl #[.int .u64 (mc.word : Nat), .int .i64 mc.clock, .slice tmca mc.ths.length tmcc, .slice hmca mc.hist.length hmcc]
            refine ⟨hS, ?_⟩
            simp only [Act.put, List.setIfInBounds_toArray, List.set_cons_succ, List.set_cons_zero]
            refine anyH_take 10 (some 12) (.int .i64 (nc : Nat)) rfl rfl (by kernel_rfl) (by kernel_rfl) (by kernel_rfl) (fun _ _ _ h => h.elim) (.inl ⟨by rfl, fun W hW => by go_simp⟩) hS ?_
            simp only [Act.put, List.setIfInBounds_toArray, List.set_cons_succ, List.set_cons_zero]
            refine wpAnyH_done (by kernel_rfl) ?_ _
            exact ⟨_, A, tmca, tmcc, hmca, hmcc, lvmc, rfl, hBn, hRn, hWl.trans hS⟩
          · refine opH_value (some 11) (v := .pointer (some ⟨Wd.heap.size, 0, none⟩)) (w' := Wd.alloc (.cells #[.int .u64 0, .int .i64 0, .slice none 0 0, .slice none 0 0] 77)) rfl (by rfl) rfl (by go_simp) ?_
            refine ⟨hS.trans ((Mods.refl _ _).alloc _), ?_⟩
            simp only [Act.put, List.setIfInBounds_toArray, List.set_cons_succ, List.set_cons_zero]
            have hA := World.alloc_heap_new Wd (.cells #[.int .u64 0, .int .i64 0, .slice none 0 0, .slice none 0 0] 77)
            have hAl0 : Wd.heap.size ≤ Wd.heap.size := hS.size
            replace hS := hS.trans ((Mods.refl _ _).alloc (.cells #[.int .u64 0, .int .i64 0, .slice none 0 0, .slice none 0 0] 77))
            obtain ⟨WA, hWa⟩ : ∃ W, Wd.alloc (.cells #[.int .u64 0, .int .i64 0, .slice none 0 0, .slice none 0 0] 77) = W := ⟨_, rfl⟩
            obtain ⟨A, hAA⟩ : ∃ A, Wd.heap.size = A := ⟨_, rfl⟩
            have hAl : Wd.heap.size ≤ A := by omega
            rw [hWa] at hA hS ⊢
            rw [hAA] at hA ⊢
            clear hWa hAA hAl0
            refine wpAnyH_all (rs := [4]) (by kernel_rfl) (by simp) ?_
            simp only [List.mem_cons, List.not_mem_nil, or_false, forall_eq_or_imp, forall_eq]
            refine opH_call (some 50) rfl (by rfl) rfl 53 #[.agg #[.int .u64 (mb.word : Nat), .int .i64 mb.clock, .slice tba mb.ths.length tbc, .slice hba mb.hist.length hbc], .slice (some (a0.add (q * 1))) (pn - q) (pc - q)] (by go_simp) ((HRC.out WA (HSd.out.trans hS)).mono ?_)
            rintro e W2 ⟨vr, rfl, hRr, hN2⟩
            obtain ⟨tmca, tmcc, hmca, hmcc, lvmc, rfl, hRr'⟩ := hRr.slices
            clear hRr
            have hRr := hRr'
            clear hRr'
            replace hA := hN2.heap hA id
            replace hS := hS.trans hN2
            refine ⟨_, rfl, hS, ?_⟩
            simp only [Act.put, List.setIfInBounds_toArray, List.set_cons_succ, List.set_cons_zero]
            clear hN2
            refine anyH_take 5 (some 45) (.tuple #[.agg #[.int .u64 (mc.word : Nat), .int .i64 mc.clock, .slice tmca mc.ths.length tmcc, .slice hmca mc.hist.length hmcc], .int .i64 (nc : Nat)]) rfl rfl (by kernel_rfl) (by kernel_rfl) (by kernel_rfl) (fun _ _ _ h => h.elim) (.inl ⟨by rfl, fun W hW => by go_simp⟩) hS ?_
            simp only [Act.put, List.setIfInBounds_toArray, List.set_cons_succ, List.set_cons_zero]
            refine anyH_take 6 (some 51) (.agg #[.int .u64 (mc.word : Nat), .int .i64 mc.clock, .slice tmca mc.ths.length tmcc, .slice hmca mc.hist.length hmcc]) rfl rfl (by kernel_rfl) (by kernel_rfl) (by kernel_rfl) (fun _ _ _ h => h.elim) (.inl ⟨by rfl, fun W hW => by go_simp⟩) hS ?_
            simp only [Act.put, List.setIfInBounds_toArray, List.set_cons_succ, List.set_cons_zero]
            refine anyH_take 7 (some 52) (.int .i64 (nc : Nat)) rfl rfl (by kernel_rfl) (by kernel_rfl) (by kernel_rfl) (fun _ _ _ h => h.elim) (.inl ⟨by rfl, fun W hW => by go_simp⟩) hS ?_
            simp only [Act.put, List.setIfInBounds_toArray, List.set_cons_succ, List.set_cons_zero]
            refine wpAnyH_all (rs := [9]) (by kernel_rfl) (by simp) ?_
            simp only [List.mem_cons, List.not_mem_nil, or_false, forall_eq_or_imp, forall_eq]
            have hone := mach_ones mc.word mc.clock tmca hmca mc.ths.length tmcc mc.hist.length hmcc
            refine opH_skip none rfl (by rfl) rfl (run_store_row 77 (.tmp 11) (.tmp 51) rfl A rfl 77 [.int .u64 0, .int .i64 0, .slice none 0 0, .slice none 0 0] [.int .u64 (mc.word : Nat), .int .i64 mc.clock, .slice tmca mc.ths.length tmcc, .slice hmca mc.hist.length hmcc] rfl hA info77 rfl hone) ?_
            have hBn : MB _ A mc.word mc.clock (.slice tmca mc.ths.length tmcc) (.slice hmca mc.hist.length hmcc) := setRow_heap W2 A _ #[.int .u64 (mc.word : Nat), .int .i64 mc.clock, .slice tmca mc.ths.length tmcc, .slice hmca mc.hist.length hmcc] 77 (0, 0) hA
            have hRn := hRr.keptI (hRr.notIn (show MB W2 A 0 0 (.slice none 0 0) (.slice none 0 0) from hA).nb) (mods_setRow hA #[.int .u64 (mc.word : Nat), .int .i64 mc.clock, .slice tmca mc.ths.length tmcc, .slice hmca mc.hist.length hmcc])
            replace hS := hS.setRow hAl #[.int .u64 (mc.word : Nat), .int .i64 mc.clock, .slice tmca mc.ths.length tmcc, .slice hmca mc.hist.length hmcc]
            refine ⟨hS, ?_⟩
            simp only [Act.put, List.setIfInBounds_toArray, List.set_cons_succ, List.set_cons_zero]
            refine anyH_take 10 (some 12) (.int .i64 (nc : Nat)) rfl rfl (by kernel_rfl) (by kernel_rfl) (by kernel_rfl) (fun _ _ _ h => h.elim) (.inl ⟨by rfl, fun W hW => by go_simp⟩) hS ?_
            simp only [Act.put, List.setIfInBounds_toArray, List.set_cons_succ, List.set_cons_zero]
            refine wpAnyH_done (by kernel_rfl) ?_ _
            exact ⟨_, A, tmca, tmcc, hmca, hmcc, lvmc, rfl, hBn, hRn, hWl.trans hS⟩
    · rintro a' W'' ⟨sv, C, tca, tcc, hca, hcc, lvc, rfl, hBc, hRc, hNc⟩
      simp only [Act.put, List.setIfInBounds_toArray, List.set_cons_succ, List.set_cons_zero]
      obtain ⟨hm1, hm2⟩ : ma = mc ∧ na = nb + nc := by
        have := runM_app (D := DS) (R := rightB) (m := m) (a := is.take q) (b := is.drop q)
        rw [List.take_append_drop, Hrun.out, Hrunb.out] at this
        dsimp only at this
        rw [Hrunc.out] at this
        exact Prod.mk.inj this
      have hck : ma.clock = n4 + ((nb + nc : Nat) : Int) := by
        have := runM_clock (D := DS) (R := rightB) (m := m) (a := is)
        rw [Hrun.out, Hns.out.2.2.2] at this
        rw [← hm2]
        exact this
      have hnb : nb ≤ pn ∧ nc ≤ pn := by
        have h1 := runM_le (m := m) (is := is.take q)
        have h2 := runM_le (m := mb) (is := is.drop q)
        rw [Hrunb.out, List.length_take] at h1
        rw [Hrunc.out, List.length_drop] at h2
        have := Hpn.out
        have h1 : nb ≤ min q is.length := h1
        have h2 : nc ≤ is.length - q := h2
        omega
      have hclk' : 0 ≤ n4 ∧ n4 ≤ 4611686018427387904 := by have := hclk; rw [Hns.out.2.2.2] at this; exact this
      subst hm1
      subst hm2
      have HS : Hid (∀ W, New W'' W → Calls Try.prog 55 #[.agg #[.int .u64 (ma.word : Nat), .int .i64 ma.clock, .slice taa ma.ths.length tac, .slice haa ma.hist.length hac], .agg #[.int .u64 (ma.word : Nat), .int .i64 ma.clock, .slice tca ma.ths.length tcc, .slice hca ma.hist.length hcc]] W fun e w' => e = .returned (.bool true) ∧ New W w') := Lib.hid (fun W hW => by
        have := same_ref18 (.agg #[.int .u64 (ma.word : Nat), .int .i64 ma.clock, .slice taa ma.ths.length tac, .slice haa ma.hist.length hac]) (.agg #[.int .u64 (ma.word : Nat), .int .i64 ma.clock, .slice tca ma.ths.length tcc, .slice hca ma.hist.length hcc]) ma ma W ⟨_, _, _, rfl, (HVA.out.new hNc).new hW⟩ ⟨_, _, _, rfl, hRc.new hW⟩
        rw [sameM_refl] at this
        exact this)
      have hA7 : W''.heap[QA]? = some (.cells #[.int .u64 (ma.word : Nat), .int .i64 ma.clock, .slice taa ma.ths.length tac, .slice haa ma.hist.length hac] 77 (0, 0)) := HBm.out.new hNc
      have hA11 : W''.heap[C]? = some (.cells #[.int .u64 (ma.word : Nat), .int .i64 ma.clock, .slice tca ma.ths.length tcc, .slice hca ma.hist.length hcc] 77 (0, 0)) := hBc
      have hA3 := hNc.heap hB3 id
      have k7 : W''.cell? ⟨QA, 1, none⟩ = some (.int .i64 (n4 + ((nb + nc : Nat) : Int))) := by rw [cell_of_row _ _ _ _ _ _ hA7, ← hck]; rfl
      have k3 : W''.cell? ⟨w.heap.size, 1, none⟩ = some (.int .i64 n4) := by rw [cell_of_row _ _ _ _ _ _ hA3]; rfl
      have HNf := Lib.hid (HB2.out.2.trans hNc)
      have b1 := hclk'.1
      have b2 := hclk'.2
      have b3 := hnb.1
      have b4 := hnb.2
      have e8 : (((nb + nc : Nat) : Int) == (nb : Int) + (nc : Int)) = true := by simp
      have e9 : ((n4 + ((nb + nc : Nat) : Int)) == n4 + ((nb + nc : Nat) : Int)) = true := by simp
      obtain ⟨nt, hnt⟩ : ∃ nt, nb + nc = nt := ⟨_, rfl⟩
      rw [hnt] at e8 e9 k7 ⊢
      have b5 : nt ≤ 120 := by omega
      clear hck hRc hBc hNc HVA HBm hB3 hA3 HRC0 hclk hclk' hnb
      go_upto_region 7 with fail
      go_wp2_with (first | (refine op_value_g rfl (run_load_row 77 (.tmp 7) rfl QA rfl 77 #[.int .u64 (ma.word : Nat), .int .i64 ma.clock, .slice taa ma.ths.length tac, .slice haa ma.hist.length hac] (0, 0) _ hA7 Try.underlying77 rfl info77) ?_) | (refine op_value_g rfl (run_load_row 77 (.tmp 11) rfl C rfl 77 #[.int .u64 (ma.word : Nat), .int .i64 ma.clock, .slice tca ma.ths.length tcc, .slice hca ma.hist.length hcc] (0, 0) _ hA11 Try.underlying77 rfl info77) ?_))
      refine (HS.out _ (Mods.refl _ _)).mono ?_
      rintro e w5 ⟨rfl, hN5⟩
      replace k7 := hN5.cell k7 id
      replace k3 := hN5.cell k3 id
      have HN5 := Lib.hid (HNf.out.trans hN5)
      clear hN5 hA7 hA11 HNf HS
      go_wp2_with fail
      refine (HK.out _).mono ?_
      rintro e w6 ⟨rfl, hN6⟩
      have HN6 := Lib.hid (HN5.out.trans hN6)
      clear hN6
      go_wp2_with fail
      go_ret
      exact ⟨rfl, HN6.out⟩
end Go.Proofs.Ytkjloeefcaadlaa
