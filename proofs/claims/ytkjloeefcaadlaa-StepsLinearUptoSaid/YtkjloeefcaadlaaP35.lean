/- StepsLinear, walked. -/
import Derived.Test.YtkjloeefcaadlaaP29
import Derived.Test.YtkjloeefcaadlaaP31
import Derived.Test.YtkjloeefcaadlaaP34
set_option linter.unusedSimpArgs false
set_option linter.unusedVariables false
namespace Go.Proofs.Ytkjloeefcaadlaa
open Go.RowKit Go.Shelf Go.Cs
attribute [local go_sem] Oper.semAt_some
theorem hist_step' {m : Ma} {i : Int} : m.hist.length ≤ (stepM DS rightB m i).1.hist.length := by
  unfold stepM
  split
  · unfold goM
    split
    · unfold swapM
      split
      · simp
      · simp [List.length_set]
    · unfold readM
      split <;> simp
  · simp
/-- At the beginning of a round. -/
def LinAt (w : World) (x B9 i : Nat) (W : World) : Prop :=
  ∃ (m : Ma) (ata : Option Addr) (atc : Nat) (aha : Option Addr) (ahc : Nat) (alv : Nat → Value), MB W B9 m.word m.clock (.slice ata m.ths.length atc) (.slice aha m.hist.length ahc) ∧ MaR W m (.slice ata m.ths.length atc) (.slice aha m.hist.length ahc) alv ∧
    New w W ∧ (∃ σ, Lin DS rightB x m σ) ∧ InMH m ∧ m.clock ≤ i
set_option maxRecDepth 100000 in
set_option maxHeartbeats 4000000 in
theorem linear_no (x : Nat) (v : Value) (ls : List (List Dn)) (pa : Option Addr) (pn pc : Nat) (w : World) (hx : x < 18446744073709551616) (hv : ReadsLs w v ls) (hsum : ∀ k, k ≤ ls.length → manyTo ls k ≤ 4000000000000000000) (hno : newOk rightB x ls = false ∨ 60 < pn) :
    Calls Try.prog 9 #[.int .u64 x, v, .slice pa pn pc] w fun e w' => e = .returned (.bool true) ∧ New w w' := by
  have HC := Lib.hid (begun_S x v ls w hx hv hsum)
  obtain ⟨ok, hok⟩ : ∃ b, newOk rightB x ls = b := ⟨_, rfl⟩
  rw [hok] at HC hno
  obtain ⟨m0, hm0⟩ : ∃ m, (if ok = true then newM x ls else noneM) = m := ⟨_, rfl⟩
  rw [hm0] at HC
  have HK := Lib.hid wakes_any
  obtain ⟨_, va, vc, rfl, _⟩ := hv
  obtain ⟨n, hn⟩ : ∃ n, ls.length = n := ⟨_, rfl⟩
  rw [hn] at HC ⊢
  have Hno := Lib.hid hno
  clear hno hn hok hm0 hsum
  go_enter Try.func9, Try.ntmps9
  go_upto_region 2 with fail
  refine HC.out.mono ?_
  rintro e w1 ⟨v', rfl, hR, hN1⟩
  obtain ⟨ata, atc, aha, ahc, alv, rfl, hR'⟩ := hR.slices
  clear hR
  have hone := mach_ones m0.word m0.clock ata aha m0.ths.length atc m0.hist.length ahc
  have hA2 : (w1.alloc (.cells #[.int .u64 0, .int .i64 0, .slice none 0 0, .slice none 0 0] 77)).heap[w1.heap.size]? = some (.cells #[.int .u64 0, .int .i64 0, .slice none 0 0, .slice none 0 0] 77 (0, 0)) := World.alloc_heap_new w1 _
  obtain ⟨hNm, hBm, _⟩ := made_mach hR'
  unfold Z77 at hNm hBm
  have HNw := Lib.hid hN1
  clear hN1 HC
  have hRm := hR'.new hNm
  clear hR'
  go_upto_region 2 with (refine op_skip rfl (run_store_row 77 (.tmp 7) (.tmp 18) rfl w1.heap.size rfl 77 [.int .u64 0, .int .i64 0, .slice none 0 0, .slice none 0 0] [.int .u64 (m0.word : Nat), .int .i64 m0.clock, .slice ata m0.ths.length atc, .slice aha m0.hist.length ahc] rfl hA2 info77 rfl hone) ?_)
  clear hA2 hone
  obtain ⟨W1, hW2⟩ : ∃ W, (w1.alloc (.cells #[.int .u64 0, .int .i64 0, .slice none 0 0, .slice none 0 0] 77)).setRow w1.heap.size #[.int .u64 (m0.word : Nat), .int .i64 m0.clock, .slice ata m0.ths.length atc, .slice aha m0.hist.length ahc] = W := ⟨_, rfl⟩
  obtain ⟨A, hB⟩ : ∃ B, w1.heap.size = B := ⟨_, rfl⟩
  rw [hW2] at hBm hRm hNm ⊢
  rw [hB] at hBm ⊢
  clear hW2 hB
  have HN := Lib.hid (HNw.out.trans hNm)
  clear hRm hNm hBm HNw
  cases ok with
  | false =>
    go_wp2_with fail
    refine (HK.out _).mono ?_
    rintro e w2 ⟨rfl, hN2⟩
    have HN2 := Lib.hid (HN.out.trans hN2)
    clear hN2
    go_wp2_with fail
    go_ret
    exact ⟨rfl, HN2.out⟩
  | true =>
    have h7 : decide ((60 : Int) < (pn : Int)) = true := decide_eq_true (by
      rcases Hno.out with h | h
      · cases h
      · omega)
    go_wp2_with fail
    refine (HK.out _).mono ?_
    rintro e w2 ⟨rfl, hN2⟩
    have HN2 := Lib.hid (HN.out.trans hN2)
    clear hN2
    go_wp2_with fail
    go_ret
    exact ⟨rfl, HN2.out⟩
set_option maxRecDepth 100000 in
set_option maxHeartbeats 16000000 in
theorem linear_yes (x : Nat) (v : Value) (ls : List (List Dn)) (pv : Value) (is : List Int) (w : World) (hx : x < 18446744073709551616) (hv : ReadsLs w v ls) (hsum : ∀ k, k ≤ ls.length → manyTo ls k ≤ 4000000000000000000) (hin : ∀ l ∈ ls, InLs l) (hp : ReadsI .i64 w pv is) (hok : newOk rightB x ls = true) (h60 : is.length ≤ 60) :
    Calls Try.prog 9 #[.int .u64 x, v, pv] w fun e w' => e = .returned (.bool true) ∧ New w w' := by
  have HC := Lib.hid (begun_S x v ls w hx hv hsum)
  rw [hok, if_pos rfl] at HC
  have HNEW := Lib.hid (fun W (hW : New w W) => new_S x v ls W hx (hv.new hW) hsum)
  rw [hok, if_pos rfl] at HNEW
  have HK := Lib.hid wakes_any
  have hr0 : rightB x = true := by
    unfold newOk at hok
    simp only [Bool.and_eq_true] at hok
    exact hok.1
  have Hr0 := Lib.hid hr0
  have Hx := Lib.hid hx
  obtain ⟨_, va, vc, rfl, _⟩ := hv
  obtain ⟨n, hn⟩ : ∃ n, ls.length = n := ⟨_, rfl⟩
  rw [hn] at HC HNEW ⊢
  obtain ⟨pa, pn, pc, rfl, hpn⟩ : ∃ pa pn pc, pv = .slice pa pn pc ∧ is.length = pn := by
    obtain ⟨_, pa, pc, rfl, _⟩ := hp
    exact ⟨_, _, _, rfl, rfl⟩
  have HP := Lib.hid hp
  have Hpn := Lib.hid hpn
  rw [hpn] at h60
  have HM0 : Hid (Lin DS rightB x (newM x ls) [] ∧ InMH (newM x ls)) := Lib.hid ⟨Lin.begin hok, InMH.new hx hin⟩
  obtain ⟨m0, hm0⟩ : ∃ m, newM x ls = m := ⟨_, rfl⟩
  have Hm0 : Hid (m0.clock = 0) := Lib.hid (by rw [← hm0]; rfl)
  rw [hm0] at HC HNEW HM0
  have d60 : decide ((60 : Int) < (pn : Int)) = false := decide_eq_false (by omega)
  clear hsum hok hn hp hpn hm0 hin hr0 hx
  go_enter Try.func9, Try.ntmps9
  go_upto_region 2 with fail
  refine HC.out.mono ?_
  rintro e w1 ⟨v', rfl, hR, hN1⟩
  obtain ⟨ata, atc, aha, ahc, alv, rfl, hR'⟩ := hR.slices
  clear hR
  have hone := mach_ones m0.word m0.clock ata aha m0.ths.length atc m0.hist.length ahc
  have hA2 : (w1.alloc (.cells #[.int .u64 0, .int .i64 0, .slice none 0 0, .slice none 0 0] 77)).heap[w1.heap.size]? = some (.cells #[.int .u64 0, .int .i64 0, .slice none 0 0, .slice none 0 0] 77 (0, 0)) := World.alloc_heap_new w1 _
  obtain ⟨hNm, hBm, _⟩ := made_mach hR'
  unfold Z77 at hNm hBm
  have HNw := Lib.hid hN1
  clear hN1 HC
  have hRm := hR'.new hNm
  clear hR'
  go_upto_region 2 with (refine op_skip rfl (run_store_row 77 (.tmp 7) (.tmp 18) rfl w1.heap.size rfl 77 [.int .u64 0, .int .i64 0, .slice none 0 0, .slice none 0 0] [.int .u64 (m0.word : Nat), .int .i64 m0.clock, .slice ata m0.ths.length atc, .slice aha m0.hist.length ahc] rfl hA2 info77 rfl hone) ?_)
  clear hA2 hone
  obtain ⟨W1, hW2⟩ : ∃ W, (w1.alloc (.cells #[.int .u64 0, .int .i64 0, .slice none 0 0, .slice none 0 0] 77)).setRow w1.heap.size #[.int .u64 (m0.word : Nat), .int .i64 m0.clock, .slice ata m0.ths.length atc, .slice aha m0.hist.length ahc] = W := ⟨_, rfl⟩
  obtain ⟨B7, hB⟩ : ∃ B, w1.heap.size = B := ⟨_, rfl⟩
  rw [hW2] at hBm hRm hNm ⊢
  rw [hB] at hBm ⊢
  clear hW2 hB
  have HN := Lib.hid (HNw.out.trans hNm)
  clear hNm HNw hRm hBm
  go_upto_region 4 with fail
  go_upto_region 5 with fail
  refine (HNEW.out _ HN.out).mono ?_
  rintro e w2 ⟨v', rfl, hR, hN1⟩
  obtain ⟨bta, btc, bha, bhc, blv, rfl, hR'⟩ := hR.slices
  clear hR
  have hone := mach_ones m0.word m0.clock bta bha m0.ths.length btc m0.hist.length bhc
  have hA2 : (w2.alloc (.cells #[.int .u64 0, .int .i64 0, .slice none 0 0, .slice none 0 0] 77)).heap[w2.heap.size]? = some (.cells #[.int .u64 0, .int .i64 0, .slice none 0 0, .slice none 0 0] 77 (0, 0)) := World.alloc_heap_new w2 _
  obtain ⟨hNm, hBm, _⟩ := made_mach hR'
  unfold Z77 at hNm hBm
  have HNw := Lib.hid (HN.out.trans hN1)
  clear hN1 HNEW HN
  have hRm := hR'.new hNm
  clear hR'
  go_upto_region 5 with (refine op_skip rfl (run_store_row 77 (.tmp 9) (.tmp 32) rfl w2.heap.size rfl 77 [.int .u64 0, .int .i64 0, .slice none 0 0, .slice none 0 0] [.int .u64 (m0.word : Nat), .int .i64 m0.clock, .slice bta m0.ths.length btc, .slice bha m0.hist.length bhc] rfl hA2 info77 rfl hone) ?_)
  clear hA2 hone
  obtain ⟨W2, hW2⟩ : ∃ W, (w2.alloc (.cells #[.int .u64 0, .int .i64 0, .slice none 0 0, .slice none 0 0] 77)).setRow w2.heap.size #[.int .u64 (m0.word : Nat), .int .i64 m0.clock, .slice bta m0.ths.length btc, .slice bha m0.hist.length bhc] = W := ⟨_, rfl⟩
  obtain ⟨B9, hB⟩ : ∃ B, w2.heap.size = B := ⟨_, rfl⟩
  rw [hW2] at hBm hRm hNm ⊢
  rw [hB] at hBm ⊢
  clear hW2
  have hBq := hB
  have HN := Lib.hid (HNw.out.trans hNm)
  have HW9 : Hid (w.heap.size ≤ B9) := Lib.hid (by rw [← hBq]; exact HNw.out.size)
  have H0 : Hid (LinAt w x B9 0 W2) := Lib.hid ⟨m0, _, _, _, _, _, hBm, hRm, HN.out, ⟨_, HM0.out.1⟩, HM0.out.2, by rw [Hm0.out]; exact Int.le_refl _⟩
  clear hNm HNw hRm hBm hBq
  go_wp2_with fail
  go_loopw [11] (fun c11 wr => ∃ i : Nat, i ≤ pn ∧ c11 = .int .i64 (i : Nat) ∧ Hid (LinAt w x B9 i wr)) (fun c _ => pn - (intOf c).toNat)
  case atStart => exact ⟨0, Nat.zero_le _, rfl, H0⟩
  case round =>
    obtain ⟨i, hi, rfl, hA⟩ := hrel
    clear H0
    by_cases hin' : i < pn
    · have hid : decide ((i : Int) < (pn : Int)) = true := decide_eq_true (by omega)
      have i0 : (0 : Int) ≤ (i : Int) := by omega
      have i1 : (i : Int) < (pn : Int) := by omega
      obtain ⟨m, ata, atc, aha, ahc, alv, hB, hR, hN, ⟨σ, hLin⟩, hIn, hcl⟩ := hA.out
      obtain ⟨_, pa', pc', he, hc⟩ := HP.out.new hN
      injection he with he1 he2 he3
      subst he1
      obtain ⟨pb, po, rfl, hpick⟩ := hc i (by rw [Hpn.out]; exact hin')
      obtain ⟨z, hz⟩ : ∃ z, is.getD i 0 = z := ⟨_, rfl⟩
      rw [hz] at hpick
      have hh8 : m.hist.length ≤ 8 := by have := hLin.le; omega
      obtain ⟨⟨o, wt⟩, hst⟩ : ∃ r, stepM DS rightB m z = r := ⟨_, rfl⟩
      obtain ⟨σ', hLin'⟩ := hLin.step DS_right DS_no (by omega) z
      have hck := stepM_clock (D := DS) (R := rightB) (m := m) (i := z)
      have hIn' := hIn.step z
      have hhl := hist_step' (m := m) (i := z)
      rw [hst] at hLin' hck hIn' hhl
      dsimp only at hLin' hck hIn' hhl
      have HST : Hid (∀ W, New wr.drew W → Calls Try.prog 49 #[.agg #[.int .u64 (m.word : Nat), .int .i64 m.clock, .slice ata m.ths.length atc, .slice aha m.hist.length ahc], .int .i64 z] W fun e w' => ∃ v', e = .returned (.tuple #[v', .bool wt]) ∧ ReadsM w' v' o ∧ New W w') := Lib.hid (fun W hW => by
        have hz : StepPost W m (o, wt) = fun e w' => ∃ v', e = .returned (.tuple #[v', .bool wt]) ∧ ReadsM w' v' o ∧ New W w' := rfl
        rw [← hz, ← hst]
        exact step_S _ m z W ⟨_, _, _, rfl, (hR.new (Mods.refl _ wr).drew).new hW⟩ hIn.1 (by omega))
      have hcl2 : o.clock ≤ ((i + 1 : Nat) : Int) := by rw [hck]; split <;> omega
      have HL := Lib.hid (And.intro hLin' (And.intro hIn' hcl2))
      have hmc := (rightM_iff.1 hLin.right).1
      have HN1 := Lib.hid hN
      have Hck := Lib.hid hck
      clear hst hz hc hA hR hN he2 he3 hLin hIn hLin' hIn' hcl2 hck
      go_upto_region 10 with fail
      refine piece (fun a a' W' => ∃ A qta qtc qha qhc qlv, a' = (a.put (some 43) (.agg #[.int .u64 (m.word : Nat), .int .i64 m.clock, .slice ata m.ths.length atc, .slice aha m.hist.length ahc]) |>.put (some 44) (.slice (some ⟨pb, po, none⟩) pn pc) |>.put (some 45) (.int .i64 (i : Nat)) |>.put (some 46) (.pointer (some ⟨pb, po + i, none⟩)) |>.put (some 47) (.int .i64 z) |>.put (some 48) (.tuple #[.agg #[.int .u64 (o.word : Nat), .int .i64 o.clock, .slice qta o.ths.length qtc, .slice qha o.hist.length qhc], .bool wt]) |>.put (some 42) (.tuple #[.agg #[.int .u64 (o.word : Nat), .int .i64 o.clock, .slice qta o.ths.length qtc, .slice qha o.hist.length qhc], .bool wt]) |>.put (some 49) (.agg #[.int .u64 (o.word : Nat), .int .i64 o.clock, .slice qta o.ths.length qtc, .slice qha o.hist.length qhc]) |>.put (some 50) (.bool wt) |>.put (some 12) (.pointer (some ⟨A, 0, none⟩)) |>.put (some 13) (.bool wt)) ∧ MB W' A o.word o.clock (.slice qta o.ths.length qtc) (.slice qha o.hist.length qhc) ∧ MaR W' o (.slice qta o.ths.length qtc) (.slice qha o.hist.length qhc) qlv ∧ New wr.drew W') ?_ ?_
      · refine wp_region_held (by kernel_rfl) (S := fun W => New wr.drew W) ?_
        show wpAnyH _ _ _ _ _ _ _ _ wr.drew
        have hSrc := (Mods.refl (fun _ => False) wr).drew.heap hB id
        replace hpick := (Mods.refl (fun _ => False) wr).drew.cell hpick id
        obtain ⟨Wd, hWd⟩ : ∃ Wd, wr.drew = Wd := ⟨_, rfl⟩
        rw [hWd] at hSrc hpick HST ⊢
        have hS : New Wd Wd := Mods.refl _ _
        clear hWd
        refine anyH_take 0 (some 43) (.agg #[.int .u64 (m.word : Nat), .int .i64 m.clock, .slice ata m.ths.length atc, .slice aha m.hist.length ahc]) rfl rfl (by kernel_rfl) (by kernel_rfl) (by kernel_rfl) (fun _ _ _ h => h.elim) (.inl ⟨by rfl, fun W hW => run_load_row 77 (.tmp 9) rfl B9 rfl 77 #[.int .u64 (m.word : Nat), .int .i64 m.clock, .slice ata m.ths.length atc, .slice aha m.hist.length ahc] (0, 0) _ ((show New Wd W from hW).heap hSrc id) Try.underlying77 rfl info77⟩) hS ?_
        simp only [Act.put, List.setIfInBounds_toArray, List.set_cons_succ, List.set_cons_zero]
        refine anyH_take 1 (some 44) (.slice (some ⟨pb, po, none⟩) pn pc) rfl rfl (by kernel_rfl) (by kernel_rfl) (by kernel_rfl) (fun _ _ _ h => h.elim) (.inl ⟨by rfl, fun W hW => by go_simp⟩) hS ?_
        simp only [Act.put, List.setIfInBounds_toArray, List.set_cons_succ, List.set_cons_zero]
        refine anyH_take 2 (some 45) (.int .i64 (i : Nat)) rfl rfl (by kernel_rfl) (by kernel_rfl) (by kernel_rfl) (fun _ _ _ h => h.elim) (.inl ⟨by rfl, fun W hW => by go_simp⟩) hS ?_
        simp only [Act.put, List.setIfInBounds_toArray, List.set_cons_succ, List.set_cons_zero]
        refine anyH_take 3 (some 46) (.pointer (some ⟨pb, po + i, none⟩)) rfl rfl (by kernel_rfl) (by kernel_rfl) (by kernel_rfl) (fun _ _ _ h => h.elim) (.inl ⟨by rfl, fun W hW => by go_simp⟩) hS ?_
        simp only [Act.put, List.setIfInBounds_toArray, List.set_cons_succ, List.set_cons_zero]
        refine anyH_take 4 (some 47) (.int .i64 z) rfl rfl (by kernel_rfl) (by kernel_rfl) (by kernel_rfl) (fun _ _ _ h => h.elim) (.inl ⟨by rfl, fun W hW => by have := (show New Wd W from hW).cell hpick id; go_simp⟩) hS ?_
        simp only [Act.put, List.setIfInBounds_toArray, List.set_cons_succ, List.set_cons_zero]
        refine wpAnyH_all (rs := [5, 9]) (by kernel_rfl) (by simp) ?_
        simp only [List.mem_cons, List.not_mem_nil, or_false, forall_eq_or_imp, forall_eq]
        refine ⟨?_, ?_⟩
        · refine opH_call (some 48) rfl (by rfl) rfl 49 #[.agg #[.int .u64 (m.word : Nat), .int .i64 m.clock, .slice ata m.ths.length atc, .slice aha m.hist.length ahc], .int .i64 z] (by go_simp) ((HST.out Wd hS).mono ?_)
          rintro e W2 ⟨vr, rfl, hRr0, hN2⟩
          obtain ⟨qta, qtc, qha, qhc, qlv, rfl, hRr⟩ := hRr0.slices
          clear hRr0
          replace hS := hS.trans hN2
          refine ⟨_, rfl, hS, ?_⟩
          simp only [Act.put, List.setIfInBounds_toArray, List.set_cons_succ, List.set_cons_zero]
          clear hN2
          refine anyH_take 6 (some 42) (.tuple #[.agg #[.int .u64 (o.word : Nat), .int .i64 o.clock, .slice qta o.ths.length qtc, .slice qha o.hist.length qhc], .bool wt]) rfl rfl (by kernel_rfl) (by kernel_rfl) (by kernel_rfl) (fun _ _ _ h => h.elim) (.inl ⟨by rfl, fun W hW => by go_simp⟩) hS ?_
          simp only [Act.put, List.setIfInBounds_toArray, List.set_cons_succ, List.set_cons_zero]
          refine anyH_take 7 (some 49) (.agg #[.int .u64 (o.word : Nat), .int .i64 o.clock, .slice qta o.ths.length qtc, .slice qha o.hist.length qhc]) rfl rfl (by kernel_rfl) (by kernel_rfl) (by kernel_rfl) (fun _ _ _ h => h.elim) (.inl ⟨by rfl, fun W hW => by go_simp⟩) hS ?_
          simp only [Act.put, List.setIfInBounds_toArray, List.set_cons_succ, List.set_cons_zero]
          refine anyH_take 8 (some 50) (.bool wt) rfl rfl (by kernel_rfl) (by kernel_rfl) (by kernel_rfl) (fun _ _ _ h => h.elim) (.inl ⟨by rfl, fun W hW => by go_simp⟩) hS ?_
          simp only [Act.put, List.setIfInBounds_toArray, List.set_cons_succ, List.set_cons_zero]
          refine wpAnyH_all (rs := [9]) (by kernel_rfl) (by simp) ?_
          simp only [List.mem_cons, List.not_mem_nil, or_false, forall_eq_or_imp, forall_eq]
          refine opH_value (some 12) (v := .pointer (some ⟨W2.heap.size, 0, none⟩)) (w' := W2.alloc (.cells #[.int .u64 0, .int .i64 0, .slice none 0 0, .slice none 0 0] 77)) rfl (by rfl) rfl (by go_simp) ?_
          refine ⟨hS.trans ((Mods.refl _ _).alloc _), ?_⟩
          simp only [Act.put, List.setIfInBounds_toArray, List.set_cons_succ, List.set_cons_zero]
          have hA := World.alloc_heap_new W2 (.cells #[.int .u64 0, .int .i64 0, .slice none 0 0, .slice none 0 0] 77)
          have hAl0 : Wd.heap.size ≤ W2.heap.size := hS.size
          replace hRr := hRr.new ((Mods.refl (fun _ => False) W2).alloc (.cells #[.int .u64 0, .int .i64 0, .slice none 0 0, .slice none 0 0] 77))
          replace hS := hS.trans ((Mods.refl _ _).alloc (.cells #[.int .u64 0, .int .i64 0, .slice none 0 0, .slice none 0 0] 77))
          obtain ⟨WA, hWa⟩ : ∃ W, W2.alloc (.cells #[.int .u64 0, .int .i64 0, .slice none 0 0, .slice none 0 0] 77) = W := ⟨_, rfl⟩
          obtain ⟨A, hAA⟩ : ∃ A, W2.heap.size = A := ⟨_, rfl⟩
          have hAl : Wd.heap.size ≤ A := by omega
          rw [hWa] at hA hS hRr ⊢
          rw [hAA] at hA ⊢
          clear hWa hAA hAl0
          refine wpAnyH_all (rs := [10]) (by kernel_rfl) (by simp) ?_
          simp only [List.mem_cons, List.not_mem_nil, or_false, forall_eq_or_imp, forall_eq]
          have hone := mach_ones o.word o.clock qta qha o.ths.length qtc o.hist.length qhc
          refine opH_skip none rfl (by rfl) rfl (run_store_row 77 (.tmp 12) (.tmp 49) rfl A rfl 77 [.int .u64 0, .int .i64 0, .slice none 0 0, .slice none 0 0] [.int .u64 (o.word : Nat), .int .i64 o.clock, .slice qta o.ths.length qtc, .slice qha o.hist.length qhc] rfl hA info77 rfl hone) ?_
          have hBn : MB _ A o.word o.clock (.slice qta o.ths.length qtc) (.slice qha o.hist.length qhc) := setRow_heap WA A _ #[.int .u64 (o.word : Nat), .int .i64 o.clock, .slice qta o.ths.length qtc, .slice qha o.hist.length qhc] 77 (0, 0) hA
          have hRn := hRr.keptI (hRr.notIn (show MB WA A 0 0 (.slice none 0 0) (.slice none 0 0) from hA).nb) (mods_setRow hA #[.int .u64 (o.word : Nat), .int .i64 o.clock, .slice qta o.ths.length qtc, .slice qha o.hist.length qhc])
          replace hS := hS.setRow hAl #[.int .u64 (o.word : Nat), .int .i64 o.clock, .slice qta o.ths.length qtc, .slice qha o.hist.length qhc]
          refine ⟨hS, ?_⟩
          simp only [Act.put, List.setIfInBounds_toArray, List.set_cons_succ, List.set_cons_zero]
          refine anyH_take 11 (some 13) (.bool wt) rfl rfl (by kernel_rfl) (by kernel_rfl) (by kernel_rfl) (fun _ _ _ h => h.elim) (.inl ⟨by rfl, fun W hW => by go_simp⟩) hS ?_
          simp only [Act.put, List.setIfInBounds_toArray, List.set_cons_succ, List.set_cons_zero]
          refine wpAnyH_done (by kernel_rfl) ?_ _
          exact ⟨A, qta, qtc, qha, qhc, qlv, rfl, hBn, hRn, hS⟩
        · refine opH_value (some 12) (v := .pointer (some ⟨Wd.heap.size, 0, none⟩)) (w' := Wd.alloc (.cells #[.int .u64 0, .int .i64 0, .slice none 0 0, .slice none 0 0] 77)) rfl (by rfl) rfl (by go_simp) ?_
          refine ⟨hS.trans ((Mods.refl _ _).alloc _), ?_⟩
          simp only [Act.put, List.setIfInBounds_toArray, List.set_cons_succ, List.set_cons_zero]
          have hA := World.alloc_heap_new Wd (.cells #[.int .u64 0, .int .i64 0, .slice none 0 0, .slice none 0 0] 77)
          have hAl0 : Wd.heap.size ≤ Wd.heap.size := hS.size
          replace hS := hS.trans ((Mods.refl _ _).alloc (.cells #[.int .u64 0, .int .i64 0, .slice none 0 0, .slice none 0 0] 77))
          obtain ⟨WA, hWa⟩ : ∃ W, Wd.alloc (.cells #[.int .u64 0, .int .i64 0, .slice none 0 0, .slice none 0 0] 77) = W := ⟨_, rfl⟩
          obtain ⟨A, hAA⟩ : ∃ A, Wd.heap.size = A := ⟨_, rfl⟩
          have hAl : Wd.heap.size ≤ A := by omega
          rw [hWa] at hA hS ⊢
          rw [hAA] at hA ⊢
          clear hWa hAA hAl0
          refine wpAnyH_all (rs := [5]) (by kernel_rfl) (by simp) ?_
          simp only [List.mem_cons, List.not_mem_nil, or_false, forall_eq_or_imp, forall_eq]
          refine opH_call (some 48) rfl (by rfl) rfl 49 #[.agg #[.int .u64 (m.word : Nat), .int .i64 m.clock, .slice ata m.ths.length atc, .slice aha m.hist.length ahc], .int .i64 z] (by go_simp) ((HST.out WA hS).mono ?_)
          rintro e W2 ⟨vr, rfl, hRr0, hN2⟩
          obtain ⟨qta, qtc, qha, qhc, qlv, rfl, hRr⟩ := hRr0.slices
          clear hRr0
          replace hA := hN2.heap hA id
          replace hS := hS.trans hN2
          refine ⟨_, rfl, hS, ?_⟩
          simp only [Act.put, List.setIfInBounds_toArray, List.set_cons_succ, List.set_cons_zero]
          clear hN2
          refine anyH_take 6 (some 42) (.tuple #[.agg #[.int .u64 (o.word : Nat), .int .i64 o.clock, .slice qta o.ths.length qtc, .slice qha o.hist.length qhc], .bool wt]) rfl rfl (by kernel_rfl) (by kernel_rfl) (by kernel_rfl) (fun _ _ _ h => h.elim) (.inl ⟨by rfl, fun W hW => by go_simp⟩) hS ?_
          simp only [Act.put, List.setIfInBounds_toArray, List.set_cons_succ, List.set_cons_zero]
          refine anyH_take 7 (some 49) (.agg #[.int .u64 (o.word : Nat), .int .i64 o.clock, .slice qta o.ths.length qtc, .slice qha o.hist.length qhc]) rfl rfl (by kernel_rfl) (by kernel_rfl) (by kernel_rfl) (fun _ _ _ h => h.elim) (.inl ⟨by rfl, fun W hW => by go_simp⟩) hS ?_
          simp only [Act.put, List.setIfInBounds_toArray, List.set_cons_succ, List.set_cons_zero]
          refine anyH_take 8 (some 50) (.bool wt) rfl rfl (by kernel_rfl) (by kernel_rfl) (by kernel_rfl) (fun _ _ _ h => h.elim) (.inl ⟨by rfl, fun W hW => by go_simp⟩) hS ?_
          simp only [Act.put, List.setIfInBounds_toArray, List.set_cons_succ, List.set_cons_zero]
          refine wpAnyH_all (rs := [10]) (by kernel_rfl) (by simp) ?_
          simp only [List.mem_cons, List.not_mem_nil, or_false, forall_eq_or_imp, forall_eq]
          have hone := mach_ones o.word o.clock qta qha o.ths.length qtc o.hist.length qhc
          refine opH_skip none rfl (by rfl) rfl (run_store_row 77 (.tmp 12) (.tmp 49) rfl A rfl 77 [.int .u64 0, .int .i64 0, .slice none 0 0, .slice none 0 0] [.int .u64 (o.word : Nat), .int .i64 o.clock, .slice qta o.ths.length qtc, .slice qha o.hist.length qhc] rfl hA info77 rfl hone) ?_
          have hBn : MB _ A o.word o.clock (.slice qta o.ths.length qtc) (.slice qha o.hist.length qhc) := setRow_heap W2 A _ #[.int .u64 (o.word : Nat), .int .i64 o.clock, .slice qta o.ths.length qtc, .slice qha o.hist.length qhc] 77 (0, 0) hA
          have hRn := hRr.keptI (hRr.notIn (show MB W2 A 0 0 (.slice none 0 0) (.slice none 0 0) from hA).nb) (mods_setRow hA #[.int .u64 (o.word : Nat), .int .i64 o.clock, .slice qta o.ths.length qtc, .slice qha o.hist.length qhc])
          replace hS := hS.setRow hAl #[.int .u64 (o.word : Nat), .int .i64 o.clock, .slice qta o.ths.length qtc, .slice qha o.hist.length qhc]
          refine ⟨hS, ?_⟩
          simp only [Act.put, List.setIfInBounds_toArray, List.set_cons_succ, List.set_cons_zero]
          refine anyH_take 11 (some 13) (.bool wt) rfl rfl (by kernel_rfl) (by kernel_rfl) (by kernel_rfl) (fun _ _ _ h => h.elim) (.inl ⟨by rfl, fun W hW => by go_simp⟩) hS ?_
          simp only [Act.put, List.setIfInBounds_toArray, List.set_cons_succ, List.set_cons_zero]
          refine wpAnyH_done (by kernel_rfl) ?_ _
          exact ⟨A, qta, qtc, qha, qhc, qlv, rfl, hBn, hRn, hS⟩
      · rintro a' W' ⟨C, qta, qtc, qha, qhc, qlv, rfl, hBo, hRo, hNo⟩
        simp only [Act.put, List.setIfInBounds_toArray, List.set_cons_succ, List.set_cons_zero]
        have hNw : New wr W' := (Mods.refl (fun _ => False) wr).drew.trans hNo
        have hB' := hB.new hNw
        have hN' := HN1.out.trans hNw
        clear hNo hNw HST hB hpick
        have HRT : Hid (Calls Try.prog 50 #[.agg #[.int .u64 (o.word : Nat), .int .i64 o.clock, .slice qta o.ths.length qtc, .slice qha o.hist.length qhc]] W' fun e w' => e = .returned (.bool true) ∧ New W' w') := Lib.hid (by
          have := right_ref18 (.agg #[.int .u64 (o.word : Nat), .int .i64 o.clock, .slice qta o.ths.length qtc, .slice qha o.hist.length qhc]) o W' ⟨_, _, _, rfl, hRo⟩ HL.out.2.1.1.word
          rw [HL.out.1.right] at this
          exact this)
        have hBC : W'.heap[C]? = some (.cells #[.int .u64 (o.word : Nat), .int .i64 o.clock, .slice qta o.ths.length qtc, .slice qha o.hist.length qhc] 77 (0, 0)) := hBo
        have HRo := Lib.hid hRo
        go_upto_region 11 with fail
        go_wp2_with (refine op_value rfl (run_load_row 77 (.tmp 12) rfl C rfl 77 #[.int .u64 (o.word : Nat), .int .i64 o.clock, .slice qta o.ths.length qtc, .slice qha o.hist.length qhc] (0, 0) _ hBC Try.underlying77 rfl info77) ?_)
        refine HRT.out.mono ?_
        rintro e w5 ⟨rfl, hN5⟩
        have hBo5 := hBo.new hN5
        have hB5 := hB'.new hN5
        have HR5 := Lib.hid (HRo.out.new hN5)
        have HN5 := Lib.hid (hN'.trans hN5)
        have o1 := hBo5.c1
        have o3 := hBo5.c3
        have m1 := hB5.c1
        have m3 := hB5.c3
        have HB5 := Lib.hid (And.intro hB5 hBo5)
        have HM5 := Lib.hid hmc
        have HH := Lib.hid (And.intro hh8 hhl)
        have dlen : decide ((o.hist.length : Int) < (m.hist.length : Int)) = false := decide_eq_false (by omega)
        have hle : m.hist.length ≤ o.hist.length := by omega
        have hnl : ¬ (o.hist.length < m.hist.length) := by omega
        have w64 : m.clock + 1 ≤ 100 := by omega
        have hmc0 : 0 ≤ m.clock := hmc
        have hone := mach_ones o.word o.clock qta qha o.ths.length qtc o.hist.length qhc
        have hBC5 : w5.heap[C]? = some (.cells #[.int .u64 (o.word : Nat), .int .i64 o.clock, .slice qta o.ths.length qtc, .slice qha o.hist.length qhc] 77 (0, 0)) := hBo5
        have hBB5 : w5.heap[B9]? = some (.cells #[.int .u64 (m.word : Nat), .int .i64 m.clock, .slice ata m.ths.length atc, .slice aha m.hist.length ahc] 77 (0, 0)) := hB5
        have hnx : Hid (LinAt w x B9 (i + 1) (w5.setRow B9 #[.int .u64 (o.word : Nat), .int .i64 o.clock, .slice qta o.ths.length qtc, .slice qha o.hist.length qhc])) := Lib.hid ⟨o, _, _, _, _, qlv, setRow_heap w5 B9 _ #[.int .u64 (o.word : Nat), .int .i64 o.clock, .slice qta o.ths.length qtc, .slice qha o.hist.length qhc] 77 (0, 0) hB5, HR5.out.keptI (HR5.out.notIn hB5.nb) (mods_setRow hB5 _), HN5.out.setRow HW9.out _, ⟨_, HL.out.1⟩, HL.out.2.1, HL.out.2.2⟩
        clear hBo hB' hRo hN5 hN' HRT hBC hBo5 hB5 hmc hcl hhl hh8
        cases wt with
        | false =>
          have ec : o.clock = m.clock := by rw [Hck.out]; simp
          rw [ec] at o1
          have e1 : (m.clock != m.clock) = false := by simp
          have e2 : (m.clock == m.clock + 1) = false := by rw [beq_eq_false_iff_ne]; omega
          clear ec
          go_upto_region 13 with fail
          clear o1 o3 m1 m3
          go_wp2_with (first | (refine op_value rfl (run_load_row 77 (.tmp 12) rfl C rfl 77 #[.int .u64 (o.word : Nat), .int .i64 o.clock, .slice qta o.ths.length qtc, .slice qha o.hist.length qhc] (0, 0) _ hBC5 Try.underlying77 rfl info77) ?_) | (refine op_skip rfl (run_store_row 77 (.tmp 9) (.tmp 88) rfl B9 rfl 77 [.int .u64 (m.word : Nat), .int .i64 m.clock, .slice ata m.ths.length atc, .slice aha m.hist.length ahc] [.int .u64 (o.word : Nat), .int .i64 o.clock, .slice qta o.ths.length qtc, .slice qha o.hist.length qhc] rfl hBB5 info77 rfl hone) ?_))
          go_roundw
          case rel => exact ⟨i + 1, by omega, by go_num, hnx⟩
          case measure => simp [intOf]; omega
        | true =>
          have ec : o.clock = m.clock + 1 := by rw [Hck.out]; simp
          rw [ec] at o1
          have e1 : (m.clock + 1 != m.clock) = true := by rw [bne_iff_ne]; omega
          have e2 : (m.clock + 1 != m.clock + 1) = false := by simp
          have e3 : (m.clock + 1 == m.clock + 1) = true := by simp
          clear ec
          go_upto_region 13 with fail
          clear o1 o3 m1 m3
          go_wp2_with (first | (refine op_value rfl (run_load_row 77 (.tmp 12) rfl C rfl 77 #[.int .u64 (o.word : Nat), .int .i64 o.clock, .slice qta o.ths.length qtc, .slice qha o.hist.length qhc] (0, 0) _ hBC5 Try.underlying77 rfl info77) ?_) | (refine op_skip rfl (run_store_row 77 (.tmp 9) (.tmp 88) rfl B9 rfl 77 [.int .u64 (m.word : Nat), .int .i64 m.clock, .slice ata m.ths.length atc, .slice aha m.hist.length ahc] [.int .u64 (o.word : Nat), .int .i64 o.clock, .slice qta o.ths.length qtc, .slice qha o.hist.length qhc] rfl hBB5 info77 rfl hone) ?_))
          go_roundw
          case rel => exact ⟨i + 1, by omega, by go_num, hnx⟩
          case measure => simp [intOf]; omega
    · obtain rfl : pn = i := by omega
      have hid : decide ((pn : Int) < (pn : Int)) = false := decide_eq_false (by omega)
      obtain ⟨m, ata, atc, aha, ahc, alv, hB, hR, hN, ⟨σ, hLin⟩, hIn, hcl⟩ := hA.out
      have hfound := hLin.found Hr0.out
      have HL1 : Hid (Calls Try.prog 51 #[.int .u64 x, .slice aha m.hist.length ahc, .int .u64 (m.word : Nat)] wr fun e w' => e = .returned (.bool true) ∧ New wr w') := Lib.hid (by
        have := linear_ref x m.word _ m.hist wr hR.hist Hx.out
        rw [hfound] at this
        exact this)
      have HL2 : Hid (∀ W, New wr W → Calls Try.prog 52 #[.int .u64 x, .slice aha m.hist.length ahc, .int .u64 (m.word : Nat)] W fun e w' => e = .returned (.bool true) ∧ New W w') := Lib.hid (fun W hW => by
        have := linear_S x m.word _ m.hist W (hR.hist.new hW) Hx.out hIn.2
        rw [hfound] at this
        exact this)
      have c0 := hB.c0
      have c3 := hB.c3
      have HN1 := Lib.hid hN
      clear hA hB hR hN hLin hIn hcl hfound
      go_wp2_with fail
      refine HL1.out.mono ?_
      rintro e w3 ⟨rfl, hN3⟩
      have c0' := hN3.cell c0 id
      have c3' := hN3.cell c3 id
      have HC2 := Lib.hid (HL2.out _ hN3)
      have HN3 := Lib.hid (HN1.out.trans hN3)
      clear hN3 c0 c3 HL1 HL2
      go_wp2_with fail
      refine HC2.out.mono ?_
      rintro e w4 ⟨rfl, hN4⟩
      have HN4 := Lib.hid (HN3.out.trans hN4)
      clear hN4 c0' c3' HC2
      go_wp2_with fail
      refine (HK.out _).mono ?_
      rintro e w6 ⟨rfl, hN6⟩
      have HN6 := Lib.hid (HN4.out.trans hN6)
      clear hN6
      go_wp2_with fail
      go_ret
      exact ⟨rfl, HN6.out⟩
end Go.Proofs.Ytkjloeefcaadlaa
