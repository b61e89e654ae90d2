/- The document's Same. -/
import Derived.Test.YtkjloeefcaadlaaP26
import Derived.Deep.QuietTactic
import Derived.BigQuiet
set_option linter.unusedSimpArgs false
set_option linter.unusedVariables false
namespace Go.Proofs.Ytkjloeefcaadlaa
open Go.RowKit Go.Shelf Go.Cs
attribute [local go_sem] Oper.semAt_some
set_option maxRecDepth 100000 in
set_option maxHeartbeats 8000000 in
theorem same_ref18 (v v' : Value) (a b : Ma) (w : World) (hv : ReadsM w v a) (hv' : ReadsM w v' b) : Calls Try.prog 55 #[v, v'] w fun e w' => e = .returned (.bool (sameM a b)) ∧ New w w' := by
  obtain ⟨tv, hh, lv, rfl, hR⟩ := hv
  obtain ⟨tv', hh', lv', rfl, hR'⟩ := hv'
  have hN0 : New w ((w.alloc (.cells (maV a tv hh).toArray 77)).alloc (.cells (maV b tv' hh').toArray 77)) := ((Mods.refl _ _).alloc _).alloc _
  have HH := Lib.hid fun W (hN : New w W) => moments_ref hh hh' a.hist b.hist W (hR.hist.new hN) (hR'.hist.new hN)
  have HR := Lib.hid hR
  have HR' := Lib.hid hR'
  obtain ⟨⟨qa, qc, rfl⟩, ⟨ra, rc, rfl⟩⟩ := hR.slices
  obtain ⟨⟨qa', qc', rfl⟩, ⟨ra', rc', rfl⟩⟩ := hR'.slices
  have s1 := hR.ths.1
  have s2 := hR'.ths.1
  clear hR hR'
  obtain ⟨r, hr⟩ : ∃ r, sameM a b = r := ⟨_, rfl⟩
  have Hr := Lib.hid hr
  rw [hr]
  obtain ⟨q, hq⟩ : ∃ q, eqH a.hist b.hist = q := ⟨_, rfl⟩
  rw [hq] at HH
  have Hq := Lib.hid hq
  clear hr hq
  have hB0 : MB ((w.alloc (.cells (maV a (.slice qa a.ths.length qc) (.slice ra a.hist.length rc)).toArray 77)).alloc (.cells (maV b (.slice qa' b.ths.length qc') (.slice ra' b.hist.length rc')).toArray 77)) (w.heap.size + 1) b.word b.clock (.slice qa' b.ths.length qc') (.slice ra' b.hist.length rc') := by
    have := World.alloc_heap_new (w.alloc (.cells (maV a (.slice qa a.ths.length qc) (.slice ra a.hist.length rc)).toArray 77)) (.cells (maV b (.slice qa' b.ths.length qc') (.slice ra' b.hist.length rc')).toArray 77)
    rw [World.size_alloc] at this
    exact this
  have hA0 := MB.new (show MB (w.alloc (.cells (maV a (.slice qa a.ths.length qc) (.slice ra a.hist.length rc)).toArray 77)) w.heap.size a.word a.clock (.slice qa a.ths.length qc) (.slice ra a.hist.length rc) from World.alloc_heap_new w _) ((Mods.refl _ _).alloc (.cells (maV b (.slice qa' b.ths.length qc') (.slice ra' b.hist.length rc')).toArray 77))
  have H0 := Lib.hid (And.intro hA0 (And.intro hB0 hN0))
  clear hA0 hB0 hN0
  unfold maV at *
  by_cases h1 : a.word = b.word
  rotate_left
  · have hrf : Hid (r = false) := Lib.hid (by rw [← Hr.out, sameM, beq_false_of_ne h1]; rfl)
    have e1 : ((a.word : Int) != (b.word : Int)) = true := by rw [bne_iff_ne]; omega
    clear h1
    go_enter Try.func55, Try.ntmps55
    go_wp2_with fail
    go_ret
    exact ⟨by rw [hrf.out]; rfl, H0.out.2.2⟩
  have e1 : ((a.word : Int) != (b.word : Int)) = false := by rw [h1]; simp
  by_cases h2 : a.clock = b.clock
  rotate_left
  · have hrf : Hid (r = false) := Lib.hid (by rw [← Hr.out, sameM, beq_false_of_ne h2, Bool.false_and, Bool.and_false])
    have e2 : (a.clock != b.clock) = true := by rw [bne_iff_ne]; exact h2
    clear h1 h2
    go_enter Try.func55, Try.ntmps55
    go_wp2_with fail
    go_ret
    exact ⟨by rw [hrf.out]; rfl, H0.out.2.2⟩
  have e2 : (a.clock != b.clock) = false := by rw [h2]; simp
  by_cases h3 : a.ths.length = b.ths.length
  rotate_left
  · have hrf : Hid (r = false) := Lib.hid (by rw [← Hr.out, sameM, eqT, decide_eq_false h3, Bool.false_and, Bool.false_and, Bool.and_false, Bool.and_false])
    have e3 : ((a.ths.length : Int) != (b.ths.length : Int)) = true := by rw [bne_iff_ne]; omega
    clear h1 h2 h3
    go_enter Try.func55, Try.ntmps55
    go_wp2_with fail
    go_ret
    exact ⟨by rw [hrf.out]; rfl, H0.out.2.2⟩
  have e3 : ((a.ths.length : Int) != (b.ths.length : Int)) = false := by rw [h3]; simp
  have Hes := Lib.hid (And.intro h1 (And.intro h2 h3))
  clear h1 h2 h3
  go_enter Try.func55, Try.ntmps55
  go_wp2_with fail
  refine (HH.out _ H0.out.2.2).mono ?_
  rintro e w1 ⟨rfl, hN1⟩
  have H1 := Lib.hid (And.intro (H0.out.1.new hN1) (And.intro (H0.out.2.1.new hN1) (H0.out.2.2.trans hN1)))
  clear H0 hN1
  cases q with
  | false =>
    have hrf : Hid (r = false) := Lib.hid (by rw [← Hr.out, sameM, Hq.out, Bool.and_false, Bool.and_false, Bool.and_false])
    go_wp2_with fail
    go_ret
    exact ⟨by rw [hrf.out]; rfl, H1.out.2.2⟩
  | true =>
    go_wp2_with fail
    clear e1 e2 e3
    have hlen := Hes.out.2.2
    rw [← hlen] at s2 H1
    obtain ⟨n, hn⟩ : ∃ n, a.ths.length = n := ⟨_, rfl⟩
    have Hn := Lib.hid hn
    rw [hn] at s1 s2 H1
    have hths : ReadsF w (.slice qa n qc) n 4 (thsF a.ths lv) := by have := HR.out.ths; rw [hn] at this; exact this
    have hths' : ReadsF w (.slice qa' n qc') n 4 (thsF b.ths lv') := by have := HR'.out.ths; rw [← hlen, hn] at this; exact this
    have HT := Lib.hid hths
    have HT' := Lib.hid hths'
    clear hn hlen hths hths'
    go_loopw [5] (fun c wr => ∃ k : Nat, k ≤ n ∧ c = .int .i64 (k : Nat) ∧ Hid (∀ i, i < k → thEq (a.ths.getD i .no) (b.ths.getD i .no) = true) ∧ Hid (MB wr w.heap.size a.word a.clock (.slice qa n qc) (.slice ra a.hist.length rc) ∧ MB wr (w.heap.size + 1) b.word b.clock (.slice qa' n qc') (.slice ra' b.hist.length rc') ∧ New w wr)) (fun c _ => n - (intOf c).toNat)
    case atStart => exact ⟨0, Nat.zero_le _, rfl, Lib.hid (fun i hi => by omega), H1⟩
    case round =>
      obtain ⟨k, hk, rfl, hbef, hB⟩ := hrel
      clear H1
      have c2 := hB.out.1.c2
      by_cases hkn : k < n
      · have hkd : decide ((k : Int) < (n : Int)) = true := decide_eq_true (by omega)
        have k0 : (0 : Int) ≤ (k : Int) := by omega
        have k1 : (k : Int) < (n : Int) := by omega
        obtain ⟨_, q1, cap, he, hc⟩ := HT.out
        cases he
        obtain ⟨_, q3, cap', he', hc'⟩ := HT'.out
        cases he'
        obtain ⟨b1, o, rfl, hr⟩ := hc k hkn
        obtain ⟨b', o', rfl, hr'⟩ := hc' k hkn
        have hE := (HR.out.left k (by rw [Hn.out]; exact hkn)).new hB.out.2.2
        have hE' := (HR'.out.left k (by rw [← Hes.out.2.2, Hn.out]; exact hkn)).new hB.out.2.2
        obtain ⟨x, hx⟩ : ∃ x, a.ths.getD k .no = x := ⟨_, rfl⟩
        obtain ⟨y, hy⟩ : ∃ y, b.ths.getD k .no = y := ⟨_, rfl⟩
        obtain ⟨xv, hxv⟩ : ∃ xv, lv k = xv := ⟨_, rfl⟩
        obtain ⟨yv, hyv⟩ : ∃ yv, lv' k = yv := ⟨_, rfl⟩
        unfold thsF at hr hr'
        rw [hx, hxv] at hr
        rw [hy, hyv] at hr'
        rw [hx, hxv] at hE
        rw [hy, hyv] at hE'
        have Hx := Lib.hid hx
        have Hy := Lib.hid hy
        have hone := th_one (t := x) hE
        have hone' := th_one (t := y) hE'
        go_upto_region 6 with fail
        obtain ⟨hA, hBB, hNw⟩ := hB.out
        replace hr : wr.rangeAt b1 (o + k * 4) (x.cs xv) := fun j v hv => hNw.cell (hr j v hv) id
        replace hr' : wr.rangeAt b' (o' + k * 4) (y.cs yv) := fun j v hv => hNw.cell (hr' j v hv) id
        have HD := Lib.hid fun W (hN : New wr W) => deeds_ref xv yv x.left y.left W (hE.new hN) (hE'.new hN)
        clear hx hy hxv hyv hE hE' hc hc' hB
        obtain ⟨W0, hW0⟩ : ∃ W, wr = W := ⟨_, rfl⟩
        rw [hW0] at hA hBB hNw hr hr' HD ⊢
        clear hW0 c2
        refine piece (fun a a' W' => ∃ X Y, a' = (a.put (some 44) (.pointer (some ⟨w.heap.size, 2, none⟩)) |>.put (some 45) (.slice (some ⟨b1, o, none⟩) n qc) |>.put (some 46) (.int .i64 (k : Nat)) |>.put (some 47) (.pointer (some ⟨b1, o + k * 4, none⟩)) |>.put (some 48) (.agg (x.cs xv).toArray) |>.put (some 49) (.pointer (some ⟨w.heap.size + 1, 2, none⟩)) |>.put (some 50) (.slice (some ⟨b', o', none⟩) n qc') |>.put (some 51) (.int .i64 (k : Nat)) |>.put (some 52) (.pointer (some ⟨b', o' + k * 4, none⟩)) |>.put (some 53) (.agg (y.cs yv).toArray) |>.put (some 6) (.pointer (some ⟨X, 0, none⟩)) |>.put (some 7) (.pointer (some ⟨Y, 0, none⟩))) ∧ W'.heap[X]? = some (.cells (x.cs xv).toArray 100 (0, 0)) ∧ W'.heap[Y]? = some (.cells (y.cs yv).toArray 100 (0, 0)) ∧ New W0 W') ?_ ?_
        · refine wp_region_held (S := fun W => New W0 W) (by kernel_rfl) ?_
          have hS : New W0 W0.drew := (Mods.refl _ W0).drew
          show wpAnyH _ _ _ _ _ _ _ _ W0.drew
          obtain ⟨Wd, hWd⟩ : ∃ Wd, W0.drew = Wd := ⟨_, rfl⟩
          rw [hWd] at hS ⊢
          clear hWd
          refine anyH_take 0 (some 44) (.pointer (some ⟨w.heap.size, 2, none⟩)) rfl rfl (by kernel_rfl) (by kernel_rfl) (by kernel_rfl) (fun _ _ _ h => h.elim) (.inl ⟨by rfl, fun W hW => by go_simp⟩) hS ?_
          simp only [Act.put, List.setIfInBounds_toArray, List.set_cons_succ, List.set_cons_zero]
          refine anyH_take 1 (some 45) (.slice (some ⟨b1, o, none⟩) n qc) rfl rfl (by kernel_rfl) (by kernel_rfl) (by kernel_rfl) (fun _ _ _ h => h.elim) (.inl ⟨by rfl, fun W hW => by have := (hA.new hW).c2; go_simp⟩) hS ?_
          simp only [Act.put, List.setIfInBounds_toArray, List.set_cons_succ, List.set_cons_zero]
          refine anyH_take 2 (some 46) (.int .i64 (k : Nat)) rfl rfl (by kernel_rfl) (by kernel_rfl) (by kernel_rfl) (fun _ _ _ h => h.elim) (.inl ⟨by rfl, fun W hW => by go_simp⟩) hS ?_
          simp only [Act.put, List.setIfInBounds_toArray, List.set_cons_succ, List.set_cons_zero]
          refine anyH_take 3 (some 47) (.pointer (some ⟨b1, o + k * 4, none⟩)) rfl rfl (by kernel_rfl) (by kernel_rfl) (by kernel_rfl) (fun _ _ _ h => h.elim) (.inl ⟨by rfl, fun W hW => by go_simp⟩) hS ?_
          simp only [Act.put, List.setIfInBounds_toArray, List.set_cons_succ, List.set_cons_zero]
          refine anyH_take 4 (some 48) (.agg (x.cs xv).toArray) rfl rfl (by kernel_rfl) (by kernel_rfl) (by kernel_rfl) (fun _ _ _ h => h.elim) (.inl ⟨by rfl, fun W hW => run_load_mid 100 (.tmp 47) rfl b1 (o + k * 4) rfl (x.cs xv) _ (fun j v hv => hW.cell (hr j v hv) id) Try.underlying100 rfl info100⟩) hS ?_
          simp only [Act.put, List.setIfInBounds_toArray, List.set_cons_succ, List.set_cons_zero]
          refine anyH_take 5 (some 49) (.pointer (some ⟨w.heap.size + 1, 2, none⟩)) rfl rfl (by kernel_rfl) (by kernel_rfl) (by kernel_rfl) (fun _ _ _ h => h.elim) (.inl ⟨by rfl, fun W hW => by go_simp⟩) hS ?_
          simp only [Act.put, List.setIfInBounds_toArray, List.set_cons_succ, List.set_cons_zero]
          refine anyH_take 6 (some 50) (.slice (some ⟨b', o', none⟩) n qc') rfl rfl (by kernel_rfl) (by kernel_rfl) (by kernel_rfl) (fun _ _ _ h => h.elim) (.inl ⟨by rfl, fun W hW => by have := (hBB.new hW).c2; go_simp⟩) hS ?_
          simp only [Act.put, List.setIfInBounds_toArray, List.set_cons_succ, List.set_cons_zero]
          refine anyH_take 7 (some 51) (.int .i64 (k : Nat)) rfl rfl (by kernel_rfl) (by kernel_rfl) (by kernel_rfl) (fun _ _ _ h => h.elim) (.inl ⟨by rfl, fun W hW => by go_simp⟩) hS ?_
          simp only [Act.put, List.setIfInBounds_toArray, List.set_cons_succ, List.set_cons_zero]
          refine anyH_take 8 (some 52) (.pointer (some ⟨b', o' + k * 4, none⟩)) rfl rfl (by kernel_rfl) (by kernel_rfl) (by kernel_rfl) (fun _ _ _ h => h.elim) (.inl ⟨by rfl, fun W hW => by go_simp⟩) hS ?_
          simp only [Act.put, List.setIfInBounds_toArray, List.set_cons_succ, List.set_cons_zero]
          refine anyH_take 9 (some 53) (.agg (y.cs yv).toArray) rfl rfl (by kernel_rfl) (by kernel_rfl) (by kernel_rfl) (fun _ _ _ h => h.elim) (.inl ⟨by rfl, fun W hW => run_load_mid 100 (.tmp 52) rfl b' (o' + k * 4) rfl (y.cs yv) _ (fun j v hv => hW.cell (hr' j v hv) id) Try.underlying100 rfl info100⟩) hS ?_
          simp only [Act.put, List.setIfInBounds_toArray, List.set_cons_succ, List.set_cons_zero]
          refine wpAnyH_all (rs := [10, 11]) (by kernel_rfl) (by simp) ?_
          simp only [List.mem_cons, List.not_mem_nil, or_false, forall_eq_or_imp, forall_eq]
          refine ⟨?_, ?_⟩
          · refine opH_value (some 6) (v := .pointer (some ⟨Wd.heap.size, 0, none⟩)) (w' := Wd.alloc (.cells #[.slice none 0 0, .bool false, .int .u64 0, .int .i64 0] 100)) rfl (by rfl) rfl (by go_simp) ?_
            refine ⟨hS.trans ((Mods.refl _ _).alloc _), ?_⟩
            simp only [Act.put, List.setIfInBounds_toArray, List.set_cons_succ, List.set_cons_zero]
            have hX := World.alloc_heap_new Wd (.cells #[.slice none 0 0, .bool false, .int .u64 0, .int .i64 0] 100)
            have hXl : W0.heap.size ≤ Wd.heap.size := hS.size
            replace hS := hS.trans ((Mods.refl _ _).alloc (.cells #[.slice none 0 0, .bool false, .int .u64 0, .int .i64 0] 100))
            obtain ⟨WX, hWa⟩ : ∃ W, Wd.alloc (.cells #[.slice none 0 0, .bool false, .int .u64 0, .int .i64 0] 100) = W := ⟨_, rfl⟩
            obtain ⟨X, hAA⟩ : ∃ A, Wd.heap.size = A := ⟨_, rfl⟩
            rw [hWa] at hX hS ⊢
            rw [hAA] at hX hXl ⊢
            clear hWa hAA
            refine wpAnyH_all (rs := [11]) (by kernel_rfl) (by simp) ?_
            simp only [List.mem_cons, List.not_mem_nil, or_false, forall_eq]
            refine opH_value (some 7) (v := .pointer (some ⟨WX.heap.size, 0, none⟩)) (w' := WX.alloc (.cells #[.slice none 0 0, .bool false, .int .u64 0, .int .i64 0] 100)) rfl (by rfl) rfl (by go_simp) ?_
            refine ⟨hS.trans ((Mods.refl _ _).alloc _), ?_⟩
            simp only [Act.put, List.setIfInBounds_toArray, List.set_cons_succ, List.set_cons_zero]
            have hY := World.alloc_heap_new WX (.cells #[.slice none 0 0, .bool false, .int .u64 0, .int .i64 0] 100)
            have hYl : W0.heap.size ≤ WX.heap.size := hS.size
            have hne : X ≠ WX.heap.size := fun e => by have := (Array.getElem?_eq_some_iff.1 hX).1; omega
            have hX2 : (WX.alloc (.cells #[.slice none 0 0, .bool false, .int .u64 0, .int .i64 0] 100)).heap[X]? = some (.cells ([.slice none 0 0, .bool false, .int .u64 0, .int .i64 0] : List Value).toArray 100 (0, 0)) := (show New WX (WX.alloc (.cells #[.slice none 0 0, .bool false, .int .u64 0, .int .i64 0] 100)) from (Mods.refl _ _).alloc _).heap hX id
            clear hX
            have hX := hX2
            clear hX2
            replace hS := hS.trans ((Mods.refl _ _).alloc (.cells #[.slice none 0 0, .bool false, .int .u64 0, .int .i64 0] 100))
            obtain ⟨WY, hWa⟩ : ∃ W, WX.alloc (.cells #[.slice none 0 0, .bool false, .int .u64 0, .int .i64 0] 100) = W := ⟨_, rfl⟩
            obtain ⟨Y, hAA⟩ : ∃ A, WX.heap.size = A := ⟨_, rfl⟩
            rw [hWa] at hY hS hX ⊢
            rw [hAA] at hY hYl hne ⊢
            clear hWa hAA
            have hXY : X ≠ Y := hne
            refine wpAnyH_all (rs := [12]) (by kernel_rfl) (by simp) ?_
            simp only [List.mem_cons, List.not_mem_nil, or_false, forall_eq]
            refine opH_skip none rfl (by rfl) rfl (run_store_row 100 (.tmp 6) (.tmp 48) rfl X rfl 100 [.slice none 0 0, .bool false, .int .u64 0, .int .i64 0] (x.cs xv) rfl hX info100 rfl hone) ?_
            have hX1 := setRow_heap WY X _ (x.cs xv).toArray 100 (0, 0) hX
            have hY1 := (mods_setRow hX (x.cs xv).toArray).heap hY (fun e => hXY e.symm)
            refine ⟨hS.setRow hXl _, ?_⟩
            simp only [Act.put, List.setIfInBounds_toArray, List.set_cons_succ, List.set_cons_zero]
            replace hS := hS.setRow hXl (x.cs xv).toArray
            obtain ⟨Ws, hWs⟩ : ∃ W, WY.setRow X (x.cs xv).toArray = W := ⟨_, rfl⟩
            rw [hWs] at hX1 hY1 hS ⊢
            clear hWs hX hY
            refine wpAnyH_all (rs := [13]) (by kernel_rfl) (by simp) ?_
            simp only [List.mem_cons, List.not_mem_nil, or_false, forall_eq]
            refine opH_skip none rfl (by rfl) rfl (run_store_row 100 (.tmp 7) (.tmp 53) rfl Y rfl 100 [.slice none 0 0, .bool false, .int .u64 0, .int .i64 0] (y.cs yv) rfl hY1 info100 rfl hone') ?_
            have hY2 := setRow_heap Ws Y _ (y.cs yv).toArray 100 (0, 0) hY1
            have hX2 := (mods_setRow hY1 (y.cs yv).toArray).heap hX1 hXY
            refine ⟨hS.setRow hYl _, ?_⟩
            simp only [Act.put, List.setIfInBounds_toArray, List.set_cons_succ, List.set_cons_zero]
            replace hS := hS.setRow hYl (y.cs yv).toArray
            refine wpAnyH_done (by kernel_rfl) ?_ _
            exact ⟨X, Y, rfl, hX2, hY2, hS⟩
          · refine opH_value (some 7) (v := .pointer (some ⟨Wd.heap.size, 0, none⟩)) (w' := Wd.alloc (.cells #[.slice none 0 0, .bool false, .int .u64 0, .int .i64 0] 100)) rfl (by rfl) rfl (by go_simp) ?_
            refine ⟨hS.trans ((Mods.refl _ _).alloc _), ?_⟩
            simp only [Act.put, List.setIfInBounds_toArray, List.set_cons_succ, List.set_cons_zero]
            have hY := World.alloc_heap_new Wd (.cells #[.slice none 0 0, .bool false, .int .u64 0, .int .i64 0] 100)
            have hYl : W0.heap.size ≤ Wd.heap.size := hS.size
            replace hS := hS.trans ((Mods.refl _ _).alloc (.cells #[.slice none 0 0, .bool false, .int .u64 0, .int .i64 0] 100))
            obtain ⟨WY, hWa⟩ : ∃ W, Wd.alloc (.cells #[.slice none 0 0, .bool false, .int .u64 0, .int .i64 0] 100) = W := ⟨_, rfl⟩
            obtain ⟨Y, hAA⟩ : ∃ A, Wd.heap.size = A := ⟨_, rfl⟩
            rw [hWa] at hY hS ⊢
            rw [hAA] at hY hYl ⊢
            clear hWa hAA
            refine wpAnyH_all (rs := [10]) (by kernel_rfl) (by simp) ?_
            simp only [List.mem_cons, List.not_mem_nil, or_false, forall_eq]
            refine opH_value (some 6) (v := .pointer (some ⟨WY.heap.size, 0, none⟩)) (w' := WY.alloc (.cells #[.slice none 0 0, .bool false, .int .u64 0, .int .i64 0] 100)) rfl (by rfl) rfl (by go_simp) ?_
            refine ⟨hS.trans ((Mods.refl _ _).alloc _), ?_⟩
            simp only [Act.put, List.setIfInBounds_toArray, List.set_cons_succ, List.set_cons_zero]
            have hX := World.alloc_heap_new WY (.cells #[.slice none 0 0, .bool false, .int .u64 0, .int .i64 0] 100)
            have hXl : W0.heap.size ≤ WY.heap.size := hS.size
            have hne : Y ≠ WY.heap.size := fun e => by have := (Array.getElem?_eq_some_iff.1 hY).1; omega
            have hY2 : (WY.alloc (.cells #[.slice none 0 0, .bool false, .int .u64 0, .int .i64 0] 100)).heap[Y]? = some (.cells ([.slice none 0 0, .bool false, .int .u64 0, .int .i64 0] : List Value).toArray 100 (0, 0)) := (show New WY (WY.alloc (.cells #[.slice none 0 0, .bool false, .int .u64 0, .int .i64 0] 100)) from (Mods.refl _ _).alloc _).heap hY id
            clear hY
            have hY := hY2
            clear hY2
            replace hS := hS.trans ((Mods.refl _ _).alloc (.cells #[.slice none 0 0, .bool false, .int .u64 0, .int .i64 0] 100))
            obtain ⟨WX, hWa⟩ : ∃ W, WY.alloc (.cells #[.slice none 0 0, .bool false, .int .u64 0, .int .i64 0] 100) = W := ⟨_, rfl⟩
            obtain ⟨X, hAA⟩ : ∃ A, WY.heap.size = A := ⟨_, rfl⟩
            rw [hWa] at hX hS hY ⊢
            rw [hAA] at hX hXl hne ⊢
            clear hWa hAA
            have hXY : X ≠ Y := hne.symm
            refine wpAnyH_all (rs := [12]) (by kernel_rfl) (by simp) ?_
            simp only [List.mem_cons, List.not_mem_nil, or_false, forall_eq]
            refine opH_skip none rfl (by rfl) rfl (run_store_row 100 (.tmp 6) (.tmp 48) rfl X rfl 100 [.slice none 0 0, .bool false, .int .u64 0, .int .i64 0] (x.cs xv) rfl hX info100 rfl hone) ?_
            have hX1 := setRow_heap WX X _ (x.cs xv).toArray 100 (0, 0) hX
            have hY1 := (mods_setRow hX (x.cs xv).toArray).heap hY (fun e => hXY e.symm)
            refine ⟨hS.setRow hXl _, ?_⟩
            simp only [Act.put, List.setIfInBounds_toArray, List.set_cons_succ, List.set_cons_zero]
            replace hS := hS.setRow hXl (x.cs xv).toArray
            obtain ⟨Ws, hWs⟩ : ∃ W, WX.setRow X (x.cs xv).toArray = W := ⟨_, rfl⟩
            rw [hWs] at hX1 hY1 hS ⊢
            clear hWs hX hY
            refine wpAnyH_all (rs := [13]) (by kernel_rfl) (by simp) ?_
            simp only [List.mem_cons, List.not_mem_nil, or_false, forall_eq]
            refine opH_skip none rfl (by rfl) rfl (run_store_row 100 (.tmp 7) (.tmp 53) rfl Y rfl 100 [.slice none 0 0, .bool false, .int .u64 0, .int .i64 0] (y.cs yv) rfl hY1 info100 rfl hone') ?_
            have hY2 := setRow_heap Ws Y _ (y.cs yv).toArray 100 (0, 0) hY1
            have hX2 := (mods_setRow hY1 (y.cs yv).toArray).heap hX1 hXY
            refine ⟨hS.setRow hYl _, ?_⟩
            simp only [Act.put, List.setIfInBounds_toArray, List.set_cons_succ, List.set_cons_zero]
            replace hS := hS.setRow hYl (y.cs yv).toArray
            refine wpAnyH_done (by kernel_rfl) ?_ _
            exact ⟨X, Y, rfl, hX2, hY2, hS⟩
        rintro a1 W1 ⟨X, Y, rfl, hX, hY, hN1⟩
        simp only [Act.put, List.setIfInBounds_toArray, List.set_cons_succ, List.set_cons_zero]
        have hx0 := th_c0 hX
        have hy0 := th_c0 hY
        obtain ⟨t, ht⟩ : ∃ t, eqE x.left y.left = t := ⟨_, rfl⟩
        rw [ht] at HD
        have Ht := Lib.hid ht
        have HL := Lib.hid (And.intro (hA.new hN1) (And.intro (hBB.new hN1) (hNw.trans hN1)))
        have HXY := Lib.hid (And.intro hX hY)
        clear ht hA hBB hNw hr hr' hX hY hone hone'
        go_wp2_with fail
        refine (HD.out _ hN1).mono ?_
        rintro e W2 ⟨rfl, hN2⟩
        have HL2 := Lib.hid (And.intro (HL.out.1.new hN2) (And.intro (HL.out.2.1.new hN2) (HL.out.2.2.trans hN2)))
        have hX := hN2.heap HXY.out.1 id
        have hY := hN2.heap HXY.out.2 id
        have x1 := th_c1 hX
        have x2 := th_c2 hX
        have x3 := th_c3 hX
        have y1 := th_c1 hY
        have y2 := th_c2 hY
        have y3 := th_c3 hY
        have hbad : thEq x y = false → Hid (r = false) := fun h => Lib.hid (by
          rw [← Hr.out, sameM, eqT]
          have : ((List.range a.ths.length).all fun i => thEq (a.ths.getD i .no) (b.ths.getD i .no)) = false := by
            rw [List.all_eq_false]
            exact ⟨k, List.mem_range.2 (by rw [Hn.out]; exact hkn), by rw [Hx.out, Hy.out, h]; simp⟩
          rw [this, Bool.and_false, Bool.false_and, Bool.and_false, Bool.and_false])
        have Hbad := Lib.hid hbad
        clear hbad hX hY HXY hN1 hN2 HL HD hx0 hy0
        cases t with
        | false =>
          have hrf := Hbad.out (by unfold thEq; rw [Ht.out, Bool.and_false, Bool.and_false, Bool.and_false])
          clear x1 x2 x3 y1 y2 y3
          go_wp2_with fail
          go_ret
          exact ⟨by rw [hrf.out]; rfl, HL2.out.2.2⟩
        | true =>
          obtain ⟨bx, hbx⟩ : ∃ u, x.loaded = u := ⟨_, rfl⟩
          obtain ⟨bz, hbz⟩ : ∃ u, y.loaded = u := ⟨_, rfl⟩
          rw [hbx] at x1
          rw [hbz] at y1
          by_cases j1 : bx = bz
          rotate_left
          · have hrf := Hbad.out (by unfold thEq; rw [hbx, hbz, beq_false_of_ne j1, Bool.false_and])
            clear x2 x3 y2 y3 hbx hbz
            cases bx <;> cases bz
            all_goals first
              | exact absurd rfl j1
              | (clear j1
                 go_wp2_with fail
                 go_ret
                 exact ⟨by rw [hrf.out]; rfl, HL2.out.2.2⟩)
          subst j1
          have Hj1 := Lib.hid (hbx.trans hbz.symm)
          clear hbx hbz
          cases bx
          all_goals
            by_cases j2 : x.seen = y.seen
            rotate_left
            · have hrf := Hbad.out (by unfold thEq; rw [beq_false_of_ne j2, Bool.false_and, Bool.and_false])
              have d2 : ((x.seen : Int) != (y.seen : Int)) = true := by rw [bne_iff_ne]; omega
              clear x3 y3 j2
              go_wp2_with fail
              go_ret
              exact ⟨by rw [hrf.out]; rfl, HL2.out.2.2⟩
            have d2 : ((x.seen : Int) != (y.seen : Int)) = false := by rw [j2]; simp
            by_cases j3 : x.moment = y.moment
            rotate_left
            · have hrf := Hbad.out (by unfold thEq; rw [beq_false_of_ne j3, Bool.false_and, Bool.and_false, Bool.and_false])
              have d3 : (x.moment != y.moment) = true := by rw [bne_iff_ne]; exact j3
              clear j2 j3
              go_wp2_with fail
              go_ret
              exact ⟨by rw [hrf.out]; rfl, HL2.out.2.2⟩
            have d3 : (x.moment != y.moment) = false := by rw [j3]; simp
            have hnext : Hid (∀ i, i < k + 1 → thEq (a.ths.getD i .no) (b.ths.getD i .no) = true) := Lib.hid (fun i hi => by
              by_cases h : i < k
              · exact hbef.out i h
              · obtain rfl : i = k := by omega
                rw [Hx.out, Hy.out]
                unfold thEq
                rw [Ht.out, Hj1.out, j2, j3]; simp)
            clear j2 j3
            go_wp2_with fail
            go_roundw
            case rel => exact ⟨k + 1, by omega, by go_num, hnext, HL2⟩
            case measure => simp [intOf]; omega
      · obtain rfl : k = n := by omega
        have hkd : decide ((k : Int) < (k : Int)) = false := decide_eq_false (by omega)
        have hrf : Hid (r = true) := Lib.hid (by
          have h4 : eqT a.ths b.ths = true := by
            unfold eqT
            rw [Bool.and_eq_true, decide_eq_true_eq]
            refine ⟨Hes.out.2.2, ?_⟩
            rw [List.all_eq_true]
            intro i hi
            exact hbef.out i (by have := List.mem_range.1 hi; rw [Hn.out] at this; exact this)
          rw [← Hr.out, sameM, h4, Hq.out, Hes.out.1, Hes.out.2.1]; simp)
        go_wp2_with fail
        go_ret
        exact ⟨by rw [hrf.out]; rfl, hB.out.2.2⟩
end Go.Proofs.Ytkjloeefcaadlaa
