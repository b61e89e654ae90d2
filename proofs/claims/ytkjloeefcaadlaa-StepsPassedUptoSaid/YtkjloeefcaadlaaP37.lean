/- StepsPassed, walked. -/
import Derived.Test.YtkjloeefcaadlaaP36
set_option linter.unusedSimpArgs false
set_option linter.unusedVariables false
namespace Go.Proofs.Ytkjloeefcaadlaa
open Go.RowKit Go.Shelf Go.Cs
attribute [local go_sem] Oper.semAt_some
/-- A thread's cells. -/
theorem MaR.th {W : World} {m : Ma} {ta : Option Addr} {tc : Nat} {hh : Value} {lv : Nat → Value} (h : MaR W m (.slice ta m.ths.length tc) hh lv) {k : Nat} (hk : k < m.ths.length) :
    ∃ b o la lc, ta = some ⟨b, o, none⟩ ∧ W.cell? ⟨b, o + k * 4, none⟩ = some (.slice la (m.ths.getD k .no).left.length lc) ∧ W.cell? ⟨b, o + k * 4 + 1, none⟩ = some (.bool (m.ths.getD k .no).loaded) ∧ W.cell? ⟨b, o + k * 4 + 2, none⟩ = some (.int .u64 ((m.ths.getD k .no).seen : Nat)) := by
  obtain ⟨_, ao, cap, he, hc⟩ := h.ths
  injection he with e1 e2 e3
  subst e1
  obtain ⟨b, o, rfl, hr⟩ := hc k hk
  obtain ⟨_, la, lc, hl, _⟩ := h.left k hk
  refine ⟨b, o, la, lc, rfl, ?_, hr 1 _ rfl, hr 2 _ rfl⟩
  have := hr 0 _ rfl
  rw [hl] at this
  exact this
theorem ne_of_bool {W : World} {b j RB : Nat} {x : Bool} {z0 z1 z2 : Int} (h : W.cell? ⟨b, j, none⟩ = some (.bool x)) (hR : W.heap[RB]? = some (.cells #[.int .i64 z0, .int .i64 z1, .int .i64 z2] 97 (0, 0))) : b ≠ RB := by
  rintro rfl
  rw [cell_of_row _ _ _ _ _ _ hR] at h
  match j, h with
  | 0, h => cases h
  | 1, h => cases h
  | 2, h => cases h
  | j + 3, h => simp at h
/-- A moment's cells. -/
theorem MaR.mo {W : World} {m : Ma} {tv : Value} {ha : Option Addr} {hc : Nat} {lv : Nat → Value} (h : MaR W m tv (.slice ha m.hist.length hc) lv) {k : Nat} (hk : k < m.hist.length) :
    ∃ b o, ha = some ⟨b, o, none⟩ ∧ W.cell? ⟨b, o + k * 8, none⟩ = some (.int .i64 (m.hist.getD k .no).thread) ∧ W.cell? ⟨b, o + k * 8 + 5, none⟩ = some (.int .i64 (m.hist.getD k .no).en) ∧ W.cell? ⟨b, o + k * 8 + 7, none⟩ = some (.bool (m.hist.getD k .no).ok) := by
  obtain ⟨_, ao, cap, he, hcc⟩ := h.hist
  injection he with e1 e2 e3
  subst e1
  obtain ⟨b, o, rfl, hr⟩ := hcc k hk
  exact ⟨b, o, rfl, hr 0 _ rfl, hr 5 _ rfl, hr 7 _ rfl⟩
def pz (H : List Mo) (t : Nat) (r : Int) (q : Nat) : Bool := (List.range q).any fun j => decide ((H.getD j .no).thread ≠ t) && (decide (r < (H.getD j .no).en) && (H.getD j .no).ok)
theorem pz_succ (H : List Mo) (t : Nat) (r : Int) (q : Nat) : pz H t r (q + 1) = (pz H t r q || (decide ((H.getD q .no).thread ≠ t) && (decide (r < (H.getD q .no).en) && (H.getD q .no).ok))) := by
  unfold pz
  rw [List.range_succ, List.any_append]
  simp
theorem pz_all {H : List Mo} {t : Nat} {r : Int} (h : passedB H t r = true) : pz H t r H.length = true := by
  obtain ⟨k, hk, h1, h2, h3⟩ := passedB_iff.1 h
  unfold pz
  rw [List.any_eq_true]
  exact ⟨k, List.mem_range.2 hk, by rw [decide_eq_true h1, decide_eq_true h2, h3]; rfl⟩
/-- At the beginning of a round. -/
def PasAt (w : World) (B7 RB i : Nat) (W : World) : Prop :=
  ∃ (m : Ma) (rd : Nat → Int) (ata : Option Addr) (atc : Nat) (aha : Option Addr) (ahc : Nat) (alv : Nat → Value), MB W B7 m.word m.clock (.slice ata m.ths.length atc) (.slice aha m.hist.length ahc) ∧ MaR W m (.slice ata m.ths.length atc) (.slice aha m.hist.length ahc) alv ∧
    W.heap[RB]? = some (.cells #[.int .i64 (rd 0), .int .i64 (rd 1), .int .i64 (rd 2)] 97 (0, 0)) ∧ New w W ∧ Pas (R := rightB) m rd ∧ InM m ∧ m.hist.length ≤ i ∧ m.clock ≤ i
set_option maxRecDepth 100000 in
set_option maxHeartbeats 4000000 in
theorem passed_no (x : Nat) (v : Value) (ls : List (List Dn)) (pa : Option Addr) (pn pc : Nat) (w : World) (hx : x < 18446744073709551616) (hv : ReadsLs w v ls) (hsum : ∀ k, k ≤ ls.length → manyTo ls k ≤ 4000000000000000000) (hno : newOk rightB x ls = false ∨ 60 < pn) :
    Calls Try.prog 11 #[.int .u64 x, v, .slice pa pn pc] w fun e w' => e = .returned (.bool true) ∧ New w w' := by
  have HC := Lib.hid (begun_S x v ls w hx hv hsum)
  obtain ⟨ok, hok⟩ : ∃ b, newOk rightB x ls = b := ⟨_, rfl⟩
  rw [hok] at HC hno
  obtain ⟨m0, hm0⟩ : ∃ m, (if ok = true then newM x ls else noneM) = m := ⟨_, rfl⟩
  rw [hm0] at HC
  have HK := Lib.hid wakes_any
  obtain ⟨_, va, vc, rfl, _⟩ := hv
  obtain ⟨n, hn⟩ : ∃ n, ls.length = n := ⟨_, rfl⟩
  rw [hn] at HC ⊢
  have Hno := Lib.hid hno
  clear hno hn hok hm0 hsum
  go_enter Try.func11, Try.ntmps11
  go_upto_region 2 with fail
  refine HC.out.mono ?_
  rintro e w1 ⟨v', rfl, hR, hN1⟩
  obtain ⟨ata, atc, aha, ahc, alv, rfl, hR'⟩ := hR.slices
  clear hR
  have hone := mach_ones m0.word m0.clock ata aha m0.ths.length atc m0.hist.length ahc
  have hA2 : (w1.alloc (.cells #[.int .u64 0, .int .i64 0, .slice none 0 0, .slice none 0 0] 77)).heap[w1.heap.size]? = some (.cells #[.int .u64 0, .int .i64 0, .slice none 0 0, .slice none 0 0] 77 (0, 0)) := World.alloc_heap_new w1 _
  obtain ⟨hNm, hBm, _⟩ := made_mach hR'
  unfold Z77 at hNm hBm
  have HNw := Lib.hid hN1
  clear hN1 HC
  have hRm := hR'.new hNm
  clear hR'
  go_upto_region 2 with (refine op_skip rfl (run_store_row 77 (.tmp 7) (.tmp 20) rfl w1.heap.size rfl 77 [.int .u64 0, .int .i64 0, .slice none 0 0, .slice none 0 0] [.int .u64 (m0.word : Nat), .int .i64 m0.clock, .slice ata m0.ths.length atc, .slice aha m0.hist.length ahc] rfl hA2 info77 rfl hone) ?_)
  clear hA2 hone
  obtain ⟨W1, hW2⟩ : ∃ W, (w1.alloc (.cells #[.int .u64 0, .int .i64 0, .slice none 0 0, .slice none 0 0] 77)).setRow w1.heap.size #[.int .u64 (m0.word : Nat), .int .i64 m0.clock, .slice ata m0.ths.length atc, .slice aha m0.hist.length ahc] = W := ⟨_, rfl⟩
  obtain ⟨A, hB⟩ : ∃ B, w1.heap.size = B := ⟨_, rfl⟩
  rw [hW2] at hBm hRm hNm ⊢
  rw [hB] at hBm ⊢
  clear hW2 hB
  have HN := Lib.hid (HNw.out.trans hNm)
  clear hRm hNm hBm HNw
  cases ok with
  | false =>
    go_wp2_with fail
    refine (HK.out _).mono ?_
    rintro e w2 ⟨rfl, hN2⟩
    have HN2 := Lib.hid (HN.out.trans hN2)
    clear hN2
    go_wp2_with fail
    go_ret
    exact ⟨rfl, HN2.out⟩
  | true =>
    have h7 : decide ((60 : Int) < (pn : Int)) = true := decide_eq_true (by
      rcases Hno.out with h | h
      · cases h
      · omega)
    go_wp2_with fail
    refine (HK.out _).mono ?_
    rintro e w2 ⟨rfl, hN2⟩
    have HN2 := Lib.hid (HN.out.trans hN2)
    clear hN2
    go_wp2_with fail
    go_ret
    exact ⟨rfl, HN2.out⟩
set_option maxRecDepth 100000 in
set_option maxHeartbeats 16000000 in
theorem passed_yes (x : Nat) (v : Value) (ls : List (List Dn)) (pv : Value) (is : List Int) (w : World) (hx : x < 18446744073709551616) (hv : ReadsLs w v ls) (hsum : ∀ k, k ≤ ls.length → manyTo ls k ≤ 4000000000000000000) (hin : ∀ l ∈ ls, InLs l) (hp : ReadsI .i64 w pv is) (hok : newOk rightB x ls = true) (h60 : is.length ≤ 60) :
    Calls Try.prog 11 #[.int .u64 x, v, pv] w fun e w' => e = .returned (.bool true) ∧ New w w' := by
  have HC := Lib.hid (begun_S x v ls w hx hv hsum)
  rw [hok, if_pos rfl] at HC
  have HK := Lib.hid wakes_any
  obtain ⟨_, va, vc, rfl, _⟩ := hv
  obtain ⟨n, hn⟩ : ∃ n, ls.length = n := ⟨_, rfl⟩
  rw [hn] at HC ⊢
  obtain ⟨pa, pn, pc, rfl, hpn⟩ : ∃ pa pn pc, pv = .slice pa pn pc ∧ is.length = pn := by
    obtain ⟨_, pa, pc, rfl, _⟩ := hp
    exact ⟨_, _, _, rfl, rfl⟩
  have HP := Lib.hid hp
  have Hpn := Lib.hid hpn
  rw [hpn] at h60
  have HM0 : Hid (Pas (R := rightB) (newM x ls) (fun _ => 0) ∧ InM (newM x ls)) := Lib.hid (by
    have hb := (Lin.begin (D := DS) (R := rightB) hok).right
    refine ⟨⟨hb, fun t ht hl => ?_⟩, (InMH.new hx hin).1⟩
    have ht' : t < ls.length := by simpa [newM] using ht
    have : (newM x ls).ths.getD t .no = newT (ls.getD t []) := by
      show (ls.map newT).getD t .no = _
      simp [List.getD, ht']
    rw [this] at hl
    cases hl)
  obtain ⟨m0, hm0⟩ : ∃ m, newM x ls = m := ⟨_, rfl⟩
  have Hm0 : Hid (m0.hist.length = 0 ∧ m0.clock = 0) := Lib.hid (by rw [← hm0]; exact ⟨rfl, rfl⟩)
  rw [hm0] at HC HM0
  have d60 : decide ((60 : Int) < (pn : Int)) = false := decide_eq_false (by omega)
  clear hsum hok hn hp hpn hm0 hin
  go_enter Try.func11, Try.ntmps11
  go_upto_region 2 with fail
  refine HC.out.mono ?_
  rintro e w1 ⟨v', rfl, hR, hN1⟩
  obtain ⟨ata, atc, aha, ahc, alv, rfl, hR'⟩ := hR.slices
  clear hR
  have hone := mach_ones m0.word m0.clock ata aha m0.ths.length atc m0.hist.length ahc
  have hA2 : (w1.alloc (.cells #[.int .u64 0, .int .i64 0, .slice none 0 0, .slice none 0 0] 77)).heap[w1.heap.size]? = some (.cells #[.int .u64 0, .int .i64 0, .slice none 0 0, .slice none 0 0] 77 (0, 0)) := World.alloc_heap_new w1 _
  obtain ⟨hNm, hBm, _⟩ := made_mach hR'
  unfold Z77 at hNm hBm
  have HNw := Lib.hid hN1
  clear hN1 HC
  have hRm := hR'.new hNm
  clear hR'
  go_upto_region 2 with (refine op_skip rfl (run_store_row 77 (.tmp 7) (.tmp 20) rfl w1.heap.size rfl 77 [.int .u64 0, .int .i64 0, .slice none 0 0, .slice none 0 0] [.int .u64 (m0.word : Nat), .int .i64 m0.clock, .slice ata m0.ths.length atc, .slice aha m0.hist.length ahc] rfl hA2 info77 rfl hone) ?_)
  clear hA2 hone
  obtain ⟨W1, hW2⟩ : ∃ W, (w1.alloc (.cells #[.int .u64 0, .int .i64 0, .slice none 0 0, .slice none 0 0] 77)).setRow w1.heap.size #[.int .u64 (m0.word : Nat), .int .i64 m0.clock, .slice ata m0.ths.length atc, .slice aha m0.hist.length ahc] = W := ⟨_, rfl⟩
  obtain ⟨B7, hB⟩ : ∃ B, w1.heap.size = B := ⟨_, rfl⟩
  rw [hW2] at hBm hRm hNm ⊢
  rw [hB] at hBm ⊢
  clear hW2
  have hBq := hB
  have HN := Lib.hid (HNw.out.trans hNm)
  have hWB7 : Hid (w.heap.size ≤ B7) := Lib.hid (by rw [← hBq]; exact HNw.out.size)
  clear hNm HNw
  have hZ3 := World.alloc_heap_new W1 (.cells #[.int .i64 0, .int .i64 0, .int .i64 0] 97)
  have hNz : New W1 (W1.alloc (.cells #[.int .i64 0, .int .i64 0, .int .i64 0] 97)) := (Mods.refl _ _).alloc _
  have H0 : Hid (PasAt w B7 W1.heap.size 0 (W1.alloc (.cells #[.int .i64 0, .int .i64 0, .int .i64 0] 97))) := Lib.hid ⟨m0, fun _ => 0, _, _, _, _, _, hBm.new hNz, hRm.new hNz, hZ3, HN.out.trans hNz, HM0.out.1, HM0.out.2, by rw [Hm0.out.1]; exact Nat.le_refl _, by rw [Hm0.out.2]; exact Int.le_refl _⟩
  clear hBm hRm hZ3 hNz
  go_wp2_with fail
  obtain ⟨RB, hRB⟩ : ∃ A, W1.heap.size = A := ⟨_, rfl⟩
  rw [hRB] at H0 ⊢
  have hB7 : B7 ≠ RB := by
    obtain ⟨_, _, _, _, _, _, _, hb, _, hr, _⟩ := H0.out
    intro e
    unfold MB at hb
    rw [e, hr] at hb
    cases hb
  have hB7' : ¬ RB = B7 := fun e => hB7 e.symm
  have hW7 : Hid (w.heap.size ≤ B7) := hWB7
  have HWR : Hid (w.heap.size ≤ RB) := Lib.hid (by rw [← hRB]; exact HN.out.size)
  clear hWB7
  clear hRB
  go_loopw [10] (fun c10 wr => ∃ i : Nat, i ≤ pn ∧ c10 = .int .i64 (i : Nat) ∧ Hid (PasAt w B7 RB i wr)) (fun c _ => pn - (intOf c).toNat)
  case atStart => exact ⟨0, Nat.zero_le _, rfl, H0⟩
  case round =>
    obtain ⟨i, hi, rfl, hA⟩ := hrel
    clear H0
    by_cases hin' : i < pn
    · have hid : decide ((i : Int) < (pn : Int)) = true := decide_eq_true (by omega)
      have i0 : (0 : Int) ≤ (i : Int) := by omega
      have i1 : (i : Int) < (pn : Int) := by omega
      obtain ⟨m, rd, ata, atc, aha, ahc, alv, hB, hR, hRD, hN, hPas, hInM, hhl, hcl⟩ := hA.out
      obtain ⟨_, pa', pc', he, hc⟩ := HP.out.new hN
      injection he with he1 he2 he3
      subst he1
      obtain ⟨pb, po, rfl, hpick⟩ := hc i (by rw [Hpn.out]; exact hin')
      obtain ⟨z, hz⟩ : ∃ z, is.getD i 0 = z := ⟨_, rfl⟩
      rw [hz] at hpick
      obtain ⟨⟨o, wt⟩, hst⟩ : ∃ r, stepM DS rightB m z = r := ⟨_, rfl⟩
      have HST : Hid (∀ W, New wr.drew W → Calls Try.prog 49 #[.agg #[.int .u64 (m.word : Nat), .int .i64 m.clock, .slice ata m.ths.length atc, .slice aha m.hist.length ahc], .int .i64 z] W fun e w' => ∃ v', e = .returned (.tuple #[v', .bool wt]) ∧ ReadsM w' v' o ∧ New W w') := Lib.hid (fun W hW => by
        have hz : StepPost W m (o, wt) = fun e w' => ∃ v', e = .returned (.tuple #[v', .bool wt]) ∧ ReadsM w' v' o ∧ New W w' := rfl
        rw [← hz, ← hst]
        exact step_S _ m z W ⟨_, _, _, rfl, (hR.new (Mods.refl _ wr).drew).new hW⟩ hInM (by omega))
      have Hst := Lib.hid hst
      have Hz := Lib.hid hz
      have Hm := Lib.hid (And.intro hPas (And.intro hInM (And.intro hhl hcl)))
      have HRm := Lib.hid hR
      have HN1 := Lib.hid hN
      clear hst hz hc hA hR hN hPas hInM hhl hcl he2 he3
      go_upto_region 8 with fail
      refine piece (fun a a' W' => ∃ A qta qtc qha qhc qlv, a' = (a.put (some 37) (.agg #[.int .u64 (m.word : Nat), .int .i64 m.clock, .slice ata m.ths.length atc, .slice aha m.hist.length ahc]) |>.put (some 38) (.slice (some ⟨pb, po, none⟩) pn pc) |>.put (some 39) (.int .i64 (i : Nat)) |>.put (some 40) (.pointer (some ⟨pb, po + i, none⟩)) |>.put (some 41) (.int .i64 z) |>.put (some 42) (.tuple #[.agg #[.int .u64 (o.word : Nat), .int .i64 o.clock, .slice qta o.ths.length qtc, .slice qha o.hist.length qhc], .bool wt]) |>.put (some 36) (.tuple #[.agg #[.int .u64 (o.word : Nat), .int .i64 o.clock, .slice qta o.ths.length qtc, .slice qha o.hist.length qhc], .bool wt]) |>.put (some 43) (.agg #[.int .u64 (o.word : Nat), .int .i64 o.clock, .slice qta o.ths.length qtc, .slice qha o.hist.length qhc]) |>.put (some 44) (.bool wt) |>.put (some 11) (.pointer (some ⟨A, 0, none⟩)) |>.put (some 12) (.bool wt)) ∧ MB W' A o.word o.clock (.slice qta o.ths.length qtc) (.slice qha o.hist.length qhc) ∧ MaR W' o (.slice qta o.ths.length qtc) (.slice qha o.hist.length qhc) qlv ∧ New wr.drew W') ?_ ?_
      · refine wp_region_held (by kernel_rfl) (S := fun W => New wr.drew W) ?_
        show wpAnyH _ _ _ _ _ _ _ _ wr.drew
        have hSrc := (Mods.refl (fun _ => False) wr).drew.heap hB id
        replace hpick := (Mods.refl (fun _ => False) wr).drew.cell hpick id
        obtain ⟨Wd, hWd⟩ : ∃ Wd, wr.drew = Wd := ⟨_, rfl⟩
        rw [hWd] at hSrc hpick HST ⊢
        have hS : New Wd Wd := Mods.refl _ _
        clear hWd
        refine anyH_take 0 (some 37) (.agg #[.int .u64 (m.word : Nat), .int .i64 m.clock, .slice ata m.ths.length atc, .slice aha m.hist.length ahc]) rfl rfl (by kernel_rfl) (by kernel_rfl) (by kernel_rfl) (fun _ _ _ h => h.elim) (.inl ⟨by rfl, fun W hW => run_load_row 77 (.tmp 7) rfl B7 rfl 77 #[.int .u64 (m.word : Nat), .int .i64 m.clock, .slice ata m.ths.length atc, .slice aha m.hist.length ahc] (0, 0) _ ((show New Wd W from hW).heap hSrc id) Try.underlying77 rfl info77⟩) hS ?_
        simp only [Act.put, List.setIfInBounds_toArray, List.set_cons_succ, List.set_cons_zero]
        refine anyH_take 1 (some 38) (.slice (some ⟨pb, po, none⟩) pn pc) rfl rfl (by kernel_rfl) (by kernel_rfl) (by kernel_rfl) (fun _ _ _ h => h.elim) (.inl ⟨by rfl, fun W hW => by go_simp⟩) hS ?_
        simp only [Act.put, List.setIfInBounds_toArray, List.set_cons_succ, List.set_cons_zero]
        refine anyH_take 2 (some 39) (.int .i64 (i : Nat)) rfl rfl (by kernel_rfl) (by kernel_rfl) (by kernel_rfl) (fun _ _ _ h => h.elim) (.inl ⟨by rfl, fun W hW => by go_simp⟩) hS ?_
        simp only [Act.put, List.setIfInBounds_toArray, List.set_cons_succ, List.set_cons_zero]
        refine anyH_take 3 (some 40) (.pointer (some ⟨pb, po + i, none⟩)) rfl rfl (by kernel_rfl) (by kernel_rfl) (by kernel_rfl) (fun _ _ _ h => h.elim) (.inl ⟨by rfl, fun W hW => by go_simp⟩) hS ?_
        simp only [Act.put, List.setIfInBounds_toArray, List.set_cons_succ, List.set_cons_zero]
        refine anyH_take 4 (some 41) (.int .i64 z) rfl rfl (by kernel_rfl) (by kernel_rfl) (by kernel_rfl) (fun _ _ _ h => h.elim) (.inl ⟨by rfl, fun W hW => by have := (show New Wd W from hW).cell hpick id; go_simp⟩) hS ?_
        simp only [Act.put, List.setIfInBounds_toArray, List.set_cons_succ, List.set_cons_zero]
        refine wpAnyH_all (rs := [5, 9]) (by kernel_rfl) (by simp) ?_
        simp only [List.mem_cons, List.not_mem_nil, or_false, forall_eq_or_imp, forall_eq]
        refine ⟨?_, ?_⟩
        · refine opH_call (some 42) rfl (by rfl) rfl 49 #[.agg #[.int .u64 (m.word : Nat), .int .i64 m.clock, .slice ata m.ths.length atc, .slice aha m.hist.length ahc], .int .i64 z] (by go_simp) ((HST.out Wd hS).mono ?_)
          rintro e W2 ⟨vr, rfl, hRr0, hN2⟩
          obtain ⟨qta, qtc, qha, qhc, qlv, rfl, hRr⟩ := hRr0.slices
          clear hRr0
          replace hS := hS.trans hN2
          refine ⟨_, rfl, hS, ?_⟩
          simp only [Act.put, List.setIfInBounds_toArray, List.set_cons_succ, List.set_cons_zero]
          clear hN2
          refine anyH_take 6 (some 36) (.tuple #[.agg #[.int .u64 (o.word : Nat), .int .i64 o.clock, .slice qta o.ths.length qtc, .slice qha o.hist.length qhc], .bool wt]) rfl rfl (by kernel_rfl) (by kernel_rfl) (by kernel_rfl) (fun _ _ _ h => h.elim) (.inl ⟨by rfl, fun W hW => by go_simp⟩) hS ?_
          simp only [Act.put, List.setIfInBounds_toArray, List.set_cons_succ, List.set_cons_zero]
          refine anyH_take 7 (some 43) (.agg #[.int .u64 (o.word : Nat), .int .i64 o.clock, .slice qta o.ths.length qtc, .slice qha o.hist.length qhc]) rfl rfl (by kernel_rfl) (by kernel_rfl) (by kernel_rfl) (fun _ _ _ h => h.elim) (.inl ⟨by rfl, fun W hW => by go_simp⟩) hS ?_
          simp only [Act.put, List.setIfInBounds_toArray, List.set_cons_succ, List.set_cons_zero]
          refine anyH_take 8 (some 44) (.bool wt) rfl rfl (by kernel_rfl) (by kernel_rfl) (by kernel_rfl) (fun _ _ _ h => h.elim) (.inl ⟨by rfl, fun W hW => by go_simp⟩) hS ?_
          simp only [Act.put, List.setIfInBounds_toArray, List.set_cons_succ, List.set_cons_zero]
          refine wpAnyH_all (rs := [9]) (by kernel_rfl) (by simp) ?_
          simp only [List.mem_cons, List.not_mem_nil, or_false, forall_eq_or_imp, forall_eq]
          refine opH_value (some 11) (v := .pointer (some ⟨W2.heap.size, 0, none⟩)) (w' := W2.alloc (.cells #[.int .u64 0, .int .i64 0, .slice none 0 0, .slice none 0 0] 77)) rfl (by rfl) rfl (by go_simp) ?_
          refine ⟨hS.trans ((Mods.refl _ _).alloc _), ?_⟩
          simp only [Act.put, List.setIfInBounds_toArray, List.set_cons_succ, List.set_cons_zero]
          have hA := World.alloc_heap_new W2 (.cells #[.int .u64 0, .int .i64 0, .slice none 0 0, .slice none 0 0] 77)
          have hAl0 : Wd.heap.size ≤ W2.heap.size := hS.size
          replace hRr := hRr.new ((Mods.refl (fun _ => False) W2).alloc (.cells #[.int .u64 0, .int .i64 0, .slice none 0 0, .slice none 0 0] 77))
          replace hS := hS.trans ((Mods.refl _ _).alloc (.cells #[.int .u64 0, .int .i64 0, .slice none 0 0, .slice none 0 0] 77))
          obtain ⟨WA, hWa⟩ : ∃ W, W2.alloc (.cells #[.int .u64 0, .int .i64 0, .slice none 0 0, .slice none 0 0] 77) = W := ⟨_, rfl⟩
          obtain ⟨A, hAA⟩ : ∃ A, W2.heap.size = A := ⟨_, rfl⟩
          have hAl : Wd.heap.size ≤ A := by omega
          rw [hWa] at hA hS hRr ⊢
          rw [hAA] at hA ⊢
          clear hWa hAA hAl0
          refine wpAnyH_all (rs := [10]) (by kernel_rfl) (by simp) ?_
          simp only [List.mem_cons, List.not_mem_nil, or_false, forall_eq_or_imp, forall_eq]
          have hone := mach_ones o.word o.clock qta qha o.ths.length qtc o.hist.length qhc
          refine opH_skip none rfl (by rfl) rfl (run_store_row 77 (.tmp 11) (.tmp 43) rfl A rfl 77 [.int .u64 0, .int .i64 0, .slice none 0 0, .slice none 0 0] [.int .u64 (o.word : Nat), .int .i64 o.clock, .slice qta o.ths.length qtc, .slice qha o.hist.length qhc] rfl hA info77 rfl hone) ?_
          have hBn : MB _ A o.word o.clock (.slice qta o.ths.length qtc) (.slice qha o.hist.length qhc) := setRow_heap WA A _ #[.int .u64 (o.word : Nat), .int .i64 o.clock, .slice qta o.ths.length qtc, .slice qha o.hist.length qhc] 77 (0, 0) hA
          have hRn := hRr.keptI (hRr.notIn (show MB WA A 0 0 (.slice none 0 0) (.slice none 0 0) from hA).nb) (mods_setRow hA #[.int .u64 (o.word : Nat), .int .i64 o.clock, .slice qta o.ths.length qtc, .slice qha o.hist.length qhc])
          replace hS := hS.setRow hAl #[.int .u64 (o.word : Nat), .int .i64 o.clock, .slice qta o.ths.length qtc, .slice qha o.hist.length qhc]
          refine ⟨hS, ?_⟩
          simp only [Act.put, List.setIfInBounds_toArray, List.set_cons_succ, List.set_cons_zero]
          refine anyH_take 11 (some 12) (.bool wt) rfl rfl (by kernel_rfl) (by kernel_rfl) (by kernel_rfl) (fun _ _ _ h => h.elim) (.inl ⟨by rfl, fun W hW => by go_simp⟩) hS ?_
          simp only [Act.put, List.setIfInBounds_toArray, List.set_cons_succ, List.set_cons_zero]
          refine wpAnyH_done (by kernel_rfl) ?_ _
          exact ⟨A, qta, qtc, qha, qhc, qlv, rfl, hBn, hRn, hS⟩
        · refine opH_value (some 11) (v := .pointer (some ⟨Wd.heap.size, 0, none⟩)) (w' := Wd.alloc (.cells #[.int .u64 0, .int .i64 0, .slice none 0 0, .slice none 0 0] 77)) rfl (by rfl) rfl (by go_simp) ?_
          refine ⟨hS.trans ((Mods.refl _ _).alloc _), ?_⟩
          simp only [Act.put, List.setIfInBounds_toArray, List.set_cons_succ, List.set_cons_zero]
          have hA := World.alloc_heap_new Wd (.cells #[.int .u64 0, .int .i64 0, .slice none 0 0, .slice none 0 0] 77)
          have hAl0 : Wd.heap.size ≤ Wd.heap.size := hS.size
          replace hS := hS.trans ((Mods.refl _ _).alloc (.cells #[.int .u64 0, .int .i64 0, .slice none 0 0, .slice none 0 0] 77))
          obtain ⟨WA, hWa⟩ : ∃ W, Wd.alloc (.cells #[.int .u64 0, .int .i64 0, .slice none 0 0, .slice none 0 0] 77) = W := ⟨_, rfl⟩
          obtain ⟨A, hAA⟩ : ∃ A, Wd.heap.size = A := ⟨_, rfl⟩
          have hAl : Wd.heap.size ≤ A := by omega
          rw [hWa] at hA hS ⊢
          rw [hAA] at hA ⊢
          clear hWa hAA hAl0
          refine wpAnyH_all (rs := [5]) (by kernel_rfl) (by simp) ?_
          simp only [List.mem_cons, List.not_mem_nil, or_false, forall_eq_or_imp, forall_eq]
          refine opH_call (some 42) rfl (by rfl) rfl 49 #[.agg #[.int .u64 (m.word : Nat), .int .i64 m.clock, .slice ata m.ths.length atc, .slice aha m.hist.length ahc], .int .i64 z] (by go_simp) ((HST.out WA hS).mono ?_)
          rintro e W2 ⟨vr, rfl, hRr0, hN2⟩
          obtain ⟨qta, qtc, qha, qhc, qlv, rfl, hRr⟩ := hRr0.slices
          clear hRr0
          replace hA := hN2.heap hA id
          replace hS := hS.trans hN2
          refine ⟨_, rfl, hS, ?_⟩
          simp only [Act.put, List.setIfInBounds_toArray, List.set_cons_succ, List.set_cons_zero]
          clear hN2
          refine anyH_take 6 (some 36) (.tuple #[.agg #[.int .u64 (o.word : Nat), .int .i64 o.clock, .slice qta o.ths.length qtc, .slice qha o.hist.length qhc], .bool wt]) rfl rfl (by kernel_rfl) (by kernel_rfl) (by kernel_rfl) (fun _ _ _ h => h.elim) (.inl ⟨by rfl, fun W hW => by go_simp⟩) hS ?_
          simp only [Act.put, List.setIfInBounds_toArray, List.set_cons_succ, List.set_cons_zero]
          refine anyH_take 7 (some 43) (.agg #[.int .u64 (o.word : Nat), .int .i64 o.clock, .slice qta o.ths.length qtc, .slice qha o.hist.length qhc]) rfl rfl (by kernel_rfl) (by kernel_rfl) (by kernel_rfl) (fun _ _ _ h => h.elim) (.inl ⟨by rfl, fun W hW => by go_simp⟩) hS ?_
          simp only [Act.put, List.setIfInBounds_toArray, List.set_cons_succ, List.set_cons_zero]
          refine anyH_take 8 (some 44) (.bool wt) rfl rfl (by kernel_rfl) (by kernel_rfl) (by kernel_rfl) (fun _ _ _ h => h.elim) (.inl ⟨by rfl, fun W hW => by go_simp⟩) hS ?_
          simp only [Act.put, List.setIfInBounds_toArray, List.set_cons_succ, List.set_cons_zero]
          refine wpAnyH_all (rs := [10]) (by kernel_rfl) (by simp) ?_
          simp only [List.mem_cons, List.not_mem_nil, or_false, forall_eq_or_imp, forall_eq]
          have hone := mach_ones o.word o.clock qta qha o.ths.length qtc o.hist.length qhc
          refine opH_skip none rfl (by rfl) rfl (run_store_row 77 (.tmp 11) (.tmp 43) rfl A rfl 77 [.int .u64 0, .int .i64 0, .slice none 0 0, .slice none 0 0] [.int .u64 (o.word : Nat), .int .i64 o.clock, .slice qta o.ths.length qtc, .slice qha o.hist.length qhc] rfl hA info77 rfl hone) ?_
          have hBn : MB _ A o.word o.clock (.slice qta o.ths.length qtc) (.slice qha o.hist.length qhc) := setRow_heap W2 A _ #[.int .u64 (o.word : Nat), .int .i64 o.clock, .slice qta o.ths.length qtc, .slice qha o.hist.length qhc] 77 (0, 0) hA
          have hRn := hRr.keptI (hRr.notIn (show MB W2 A 0 0 (.slice none 0 0) (.slice none 0 0) from hA).nb) (mods_setRow hA #[.int .u64 (o.word : Nat), .int .i64 o.clock, .slice qta o.ths.length qtc, .slice qha o.hist.length qhc])
          replace hS := hS.setRow hAl #[.int .u64 (o.word : Nat), .int .i64 o.clock, .slice qta o.ths.length qtc, .slice qha o.hist.length qhc]
          refine ⟨hS, ?_⟩
          simp only [Act.put, List.setIfInBounds_toArray, List.set_cons_succ, List.set_cons_zero]
          refine anyH_take 11 (some 12) (.bool wt) rfl rfl (by kernel_rfl) (by kernel_rfl) (by kernel_rfl) (fun _ _ _ h => h.elim) (.inl ⟨by rfl, fun W hW => by go_simp⟩) hS ?_
          simp only [Act.put, List.setIfInBounds_toArray, List.set_cons_succ, List.set_cons_zero]
          refine wpAnyH_done (by kernel_rfl) ?_ _
          exact ⟨A, qta, qtc, qha, qhc, qlv, rfl, hBn, hRn, hS⟩
      · rintro a' W' ⟨C, qta, qtc, qha, qhc, qlv, rfl, hBo, hRo, hNo⟩
        simp only [Act.put, List.setIfInBounds_toArray, List.set_cons_succ, List.set_cons_zero]
        have hNw : New wr W' := (Mods.refl (fun _ => False) wr).drew.trans hNo
        have hB' := hB.new hNw
        have hRm := HRm.out.new hNw
        have hRD' := hNw.heap hRD id
        have hN' := HN1.out.trans hNw
        clear hNo hNw HST hB hRD HRm hpick
        cases wt with
        | false =>
          obtain rfl : o = m := by
            have := Hst.out
            unfold stepM at this
            split at this
            · cases this
            · exact (congrArg Prod.fst this).symm
          have HS : Hid (Calls Try.prog 55 #[.agg #[.int .u64 (o.word : Nat), .int .i64 o.clock, .slice qta o.ths.length qtc, .slice qha o.hist.length qhc], .agg #[.int .u64 (o.word : Nat), .int .i64 o.clock, .slice ata o.ths.length atc, .slice aha o.hist.length ahc]] W' fun e w' => e = .returned (.bool true) ∧ New W' w') := Lib.hid (by
            have := same_ref18 (.agg #[.int .u64 (o.word : Nat), .int .i64 o.clock, .slice qta o.ths.length qtc, .slice qha o.hist.length qhc]) (.agg #[.int .u64 (o.word : Nat), .int .i64 o.clock, .slice ata o.ths.length atc, .slice aha o.hist.length ahc]) o o W' ⟨_, _, _, rfl, hRo⟩ ⟨_, _, _, rfl, hRm⟩
            rw [sameM_refl'] at this
            exact this)
          have hBB : W'.heap[B7]? = some (.cells #[.int .u64 (o.word : Nat), .int .i64 o.clock, .slice ata o.ths.length atc, .slice aha o.hist.length ahc] 77 (0, 0)) := hB'
          have hBC : W'.heap[C]? = some (.cells #[.int .u64 (o.word : Nat), .int .i64 o.clock, .slice qta o.ths.length qtc, .slice qha o.hist.length qhc] 77 (0, 0)) := hBo
          have HKEEP := Lib.hid (And.intro hB' (And.intro hRm (And.intro hRD' hN')))
          clear hB' hRm hRD' hN' hRo hBo
          go_upto_region 10 with fail
          go_wp2_with (first | (refine op_value rfl (run_load_row 77 (.tmp 11) rfl C rfl 77 #[.int .u64 (o.word : Nat), .int .i64 o.clock, .slice qta o.ths.length qtc, .slice qha o.hist.length qhc] (0, 0) _ hBC Try.underlying77 rfl info77) ?_) | (refine op_value rfl (run_load_row 77 (.tmp 7) rfl B7 rfl 77 #[.int .u64 (o.word : Nat), .int .i64 o.clock, .slice ata o.ths.length atc, .slice aha o.hist.length ahc] (0, 0) _ hBB Try.underlying77 rfl info77) ?_))
          refine HS.out.mono ?_
          rintro e w5 ⟨rfl, hN5⟩
          have hnx : Hid (PasAt w B7 RB (i + 1) w5) := Lib.hid ⟨o, rd, _, _, _, _, _, HKEEP.out.1.new hN5, HKEEP.out.2.1.new hN5, hN5.heap HKEEP.out.2.2.1 id, HKEEP.out.2.2.2.trans hN5, Hm.out.1, Hm.out.2.1, by have := Hm.out.2.2.1; omega, by have := Hm.out.2.2.2; omega⟩
          clear hN5 HS hBB hBC HKEEP
          go_wp2_with fail
          go_roundw
          case rel => exact ⟨i + 1, by omega, by go_num, hnx⟩
          case measure => simp [intOf]; omega
        | true =>
          obtain ⟨hmay, ho⟩ : mayM rightB m z = true ∧ goM DS m z.toNat = o := by
            have := Hst.out
            unfold stepM at this
            split at this
            · next h => exact ⟨h, congrArg Prod.fst this⟩
            · cases this
          obtain ⟨hright, k, rfl, hk, hlf⟩ := mayM_iff.1 hmay
          rw [Int.toNat_natCast] at ho
          have hk3 : k < 3 := by have := (rightM_iff.1 hright).2.2.1; omega
          have hgr : rightM rightB (goM DS m k) = true := go_right DS_right hmay (by have := Hm.out.2.2.2; omega)
          obtain ⟨t', hths, hclk⟩ := goM_ths (D := DS) m k
          rw [ho] at hths hclk hgr
          have hol : o.ths.length = m.ths.length := by rw [hths, List.length_set]
          have hoin : InM o := by rw [← ho]; exact Hm.out.2.1.go hk
          have hohist : o.hist.length ≤ i + 1 := by
            have := histX_step (m := m) (i := (k : Int))
            rw [Hst.out] at this
            have h2 := Hm.out.2.2.1
            have this : o.hist.length ≤ m.hist.length + 1 := this
            omega
          have hocl : o.clock ≤ ((i + 1 : Nat) : Int) := by have := Hm.out.2.2.2; rw [hclk]; omega
          have hko : k < o.ths.length := by omega
          obtain ⟨mb, mo, mla, mlc, rfl, tm0, tm1, tm2⟩ := hRm.th hk
          obtain ⟨ob, oo, ola, olc, rfl, to0, to1, to2⟩ := hRo.th hko
          have Hmay := Lib.hid (And.intro hmay (And.intro hgr ho))
          have Ho := Lib.hid (And.intro hoin (And.intro hohist hocl))
          have HRo := Lib.hid hRo
          have HRm := Lib.hid hRm
          have m0 := hB'.c0
          have m2 := hB'.c2
          have o0 := hBo.c0
          have o1 := hBo.c1
          have o2 := hBo.c2
          have o3 := hBo.c3
          have HBo := Lib.hid hBo
          have HB' := Lib.hid hB'
          have HRD := Lib.hid hRD'
          have HN' := Lib.hid hN'
          have d1 : decide ((k : Int) < 0) = false := decide_eq_false (by omega)
          have d2 : decide ((m.ths.length : Int) ≤ (k : Int)) = false := decide_eq_false (by omega)
          have d3 : ((o.ths.length : Int) != (m.ths.length : Int)) = false := by rw [hol]; simp
          have kk0 : (0 : Int) ≤ (k : Int) := by omega
          have kk1 : (k : Int) < (m.ths.length : Int) := by omega
          have kk2 : (k : Int) < (o.ths.length : Int) := by omega
          have kk3 : (k : Int) < 3 := by omega
          have hpk : W'.cell? ⟨pb, po + i, none⟩ = some (.int .i64 (k : Nat)) := by
            obtain ⟨_, pa', pc', he, hc⟩ := HP.out.new hN'
            injection he with he1 he2 he3
            subst he1
            obtain ⟨b1, o1, he4, hcell⟩ := hc i (by rw [Hpn.out]; exact hin')
            cases he4
            rw [hcell, Hz.out]
          clear hths hclk hgr ho hoin hohist hocl hright hmay hRo hRm hBo hB' hRD' hN' hol
          obtain ⟨lm, hlm⟩ : ∃ b, (m.ths.getD k .no).loaded = b := ⟨_, rfl⟩
          have Hlm := Lib.hid hlm
          rw [hlm] at tm1
          clear hlm
          go_upto_region 15 with fail
          have hmbR := ne_of_bool tm1 HRD.out
          have hobR := ne_of_bool to1 HRD.out
          have hCR : C ≠ RB := by
            intro e
            have h1 := HBo.out
            unfold MB at h1
            rw [e, HRD.out] at h1
            cases h1
          have HW7 : Hid (w.heap.size ≤ B7) := hW7
          cases lm with
          | false =>
            obtain ⟨p1, p2, p3, p4⟩ := Hm.out.1.reads Hmay.out.1 (by rw [Hmay.out.2.2]; exact Hmay.out.2.1) Hlm.out
            rw [Hmay.out.2.2] at p1 p2 p3 p4
            rw [p2] at to1
            rw [p3] at to2
            rw [p4] at o0
            have HP1 := Lib.hid p1
            clear p1 p2 p3 p4
            have r0 : W'.cell? ⟨RB, k, none⟩ = some (.int .i64 (rd k)) := by
              rw [cell_of_row _ _ _ _ _ _ HRD.out]
              match k, hk3 with
              | 0, _ => rfl
              | 1, _ => rfl
              | 2, _ => rfl
            have rf : W'.frozen? ⟨RB, k, none⟩ = false := frozen_of_row _ _ _ _ _ HRD.out
            have hMs := setMods W' RB k (.int .i64 o.clock)
            have hRD2 : (W'.setCell ⟨RB, k, none⟩ (.int .i64 o.clock)).heap[RB]? = some (.cells #[.int .i64 ((fun t => if t = k then o.clock else rd t) 0), .int .i64 ((fun t => if t = k then o.clock else rd t) 1), .int .i64 ((fun t => if t = k then o.clock else rd t) 2)] 97 (0, 0)) := by
              rw [heap_setCell_same W' RB k _ 97 (.int .i64 o.clock) HRD.out]
              match k, hk3 with
              | 0, _ => rfl
              | 1, _ => rfl
              | 2, _ => rfl
            have hNs : New w (W'.setCell ⟨RB, k, none⟩ (.int .i64 o.clock)) := HN'.out.setCell (p := ⟨RB, k, none⟩) (.inl HWR.out) _
            have nb := (show NB W' RB from NB.of_row (cs := [.int .i64 (rd 0), .int .i64 (rd 1), .int .i64 (rd 2)]) HRD.out (by
              intro v hv
              simp only [List.mem_cons, List.not_mem_nil, or_false] at hv
              rcases hv with rfl | rfl | rfl <;> exact ⟨(fun _ e => by cases e), (fun _ e => by cases e)⟩))
            have HF0 := Lib.hid (And.intro (hMs.heap HB'.out hB7) (And.intro (hMs.heap HBo.out hCR) (And.intro (HRo.out.keptI (HRo.out.notIn nb) hMs) (And.intro hRD2 hNs))))
            go_upto_region 16 with fail
            go_upto_region 17 with fail
            replace m0 := hMs.cell m0 hB7
            replace m2 := hMs.cell m2 hB7
            replace o0 := hMs.cell o0 hCR
            replace o2 := hMs.cell o2 hCR
            replace to1 := hMs.cell to1 hobR
            replace to2 := hMs.cell to2 hobR
            replace tm1 := hMs.cell tm1 hmbR
            obtain ⟨Ws, hWs⟩ : ∃ W, W'.setCell ⟨RB, k, none⟩ (.int .i64 o.clock) = W := ⟨_, rfl⟩
            rw [hWs] at m0 m2 o0 o2 to1 to2 tm1 HF0 ⊢
            clear hMs hRD2 hNs nb hWs r0 rf to0 tm0 tm2 o1 o3 hpk
            refine piece (fun a a' Wq => a' = (a.put (some 84) (.pointer (some ⟨C, 2, none⟩)) |>.put (some 85) (.slice (some ⟨ob, oo, none⟩) o.ths.length qtc) |>.put (some 86) (.int .i64 (k : Nat)) |>.put (some 87) (.pointer (some ⟨ob, oo + k * 4, none⟩)) |>.put (some 88) (.pointer (some ⟨ob, oo + k * 4 + 1, none⟩)) |>.put (some 89) (.bool true) |>.put (some 90) (.bool false) |>.put (some 91) (.bool false) |>.put (some 92) (.pointer (some ⟨C, 2, none⟩)) |>.put (some 93) (.slice (some ⟨ob, oo, none⟩) o.ths.length qtc) |>.put (some 94) (.int .i64 (k : Nat)) |>.put (some 95) (.pointer (some ⟨ob, oo + k * 4, none⟩)) |>.put (some 96) (.pointer (some ⟨ob, oo + k * 4 + 2, none⟩)) |>.put (some 97) (.int .u64 (m.word : Nat)) |>.put (some 98) (.pointer (some ⟨B7, 0, none⟩)) |>.put (some 99) (.int .u64 (m.word : Nat)) |>.put (some 100) (.bool false) |>.put (some 101) (.bool false) |>.put (some 102) (.bool false) |>.put (some 103) (.pointer (some ⟨C, 0, none⟩)) |>.put (some 104) (.int .u64 (m.word : Nat)) |>.put (some 105) (.pointer (some ⟨B7, 0, none⟩)) |>.put (some 106) (.int .u64 (m.word : Nat)) |>.put (some 107) (.bool false) |>.put (some 108) (.bool false)) ∧ Wq = Ws.drew) ?_ ?_
            · refine wp_region_held (by kernel_rfl) (S := fun W => W = Ws.drew) ?_
              show wpAnyH _ _ _ _ _ _ _ _ Ws.drew
              replace m0 := (Mods.refl (fun _ => False) Ws).drew.cell m0 id
              replace m2 := (Mods.refl (fun _ => False) Ws).drew.cell m2 id
              replace o0 := (Mods.refl (fun _ => False) Ws).drew.cell o0 id
              replace o2 := (Mods.refl (fun _ => False) Ws).drew.cell o2 id
              replace to1 := (Mods.refl (fun _ => False) Ws).drew.cell to1 id
              replace to2 := (Mods.refl (fun _ => False) Ws).drew.cell to2 id
              replace tm1 := (Mods.refl (fun _ => False) Ws).drew.cell tm1 id
              obtain ⟨Wd, hWd⟩ : ∃ Wd, Ws.drew = Wd := ⟨_, rfl⟩
              rw [hWd] at m0 m2 o0 o2 to1 to2 tm1 ⊢
              have hS : Wd = Wd := rfl
              clear hWd
              refine anyH_take 0 (some 84) (.pointer (some ⟨C, 2, none⟩)) rfl rfl (by kernel_rfl) (by kernel_rfl) (by kernel_rfl) (fun _ _ _ h => h.elim) (.inl ⟨by rfl, fun W hW => by have e : W = Wd := hW; subst e; go_simp⟩) hS ?_
              simp only [Act.put, List.setIfInBounds_toArray, List.set_cons_succ, List.set_cons_zero]
              refine anyH_take 1 (some 85) (.slice (some ⟨ob, oo, none⟩) o.ths.length qtc) rfl rfl (by kernel_rfl) (by kernel_rfl) (by kernel_rfl) (fun _ _ _ h => h.elim) (.inl ⟨by rfl, fun W hW => by have e : W = Wd := hW; subst e; go_simp⟩) hS ?_
              simp only [Act.put, List.setIfInBounds_toArray, List.set_cons_succ, List.set_cons_zero]
              refine anyH_take 2 (some 86) (.int .i64 (k : Nat)) rfl rfl (by kernel_rfl) (by kernel_rfl) (by kernel_rfl) (fun _ _ _ h => h.elim) (.inl ⟨by rfl, fun W hW => by have e : W = Wd := hW; subst e; go_simp⟩) hS ?_
              simp only [Act.put, List.setIfInBounds_toArray, List.set_cons_succ, List.set_cons_zero]
              refine anyH_take 3 (some 87) (.pointer (some ⟨ob, oo + k * 4, none⟩)) rfl rfl (by kernel_rfl) (by kernel_rfl) (by kernel_rfl) (fun _ _ _ h => h.elim) (.inl ⟨by rfl, fun W hW => by have e : W = Wd := hW; subst e; go_simp⟩) hS ?_
              simp only [Act.put, List.setIfInBounds_toArray, List.set_cons_succ, List.set_cons_zero]
              refine anyH_take 4 (some 88) (.pointer (some ⟨ob, oo + k * 4 + 1, none⟩)) rfl rfl (by kernel_rfl) (by kernel_rfl) (by kernel_rfl) (fun _ _ _ h => h.elim) (.inl ⟨by rfl, fun W hW => by have e : W = Wd := hW; subst e; go_simp⟩) hS ?_
              simp only [Act.put, List.setIfInBounds_toArray, List.set_cons_succ, List.set_cons_zero]
              refine anyH_take 5 (some 89) (.bool true) rfl rfl (by kernel_rfl) (by kernel_rfl) (by kernel_rfl) (fun _ _ _ h => h.elim) (.inl ⟨by rfl, fun W hW => by have e : W = Wd := hW; subst e; go_simp⟩) hS ?_
              simp only [Act.put, List.setIfInBounds_toArray, List.set_cons_succ, List.set_cons_zero]
              refine anyH_take 6 (some 90) (.bool false) rfl rfl (by kernel_rfl) (by kernel_rfl) (by kernel_rfl) (fun _ _ _ h => h.elim) (.inl ⟨by rfl, fun W hW => by have e : W = Wd := hW; subst e; go_simp⟩) hS ?_
              simp only [Act.put, List.setIfInBounds_toArray, List.set_cons_succ, List.set_cons_zero]
              refine anyH_take 7 (some 91) (.bool false) rfl rfl (by kernel_rfl) (by kernel_rfl) (by kernel_rfl) (fun _ _ _ h => h.elim) (.inl ⟨by rfl, fun W hW => by have e : W = Wd := hW; subst e; go_simp⟩) hS ?_
              simp only [Act.put, List.setIfInBounds_toArray, List.set_cons_succ, List.set_cons_zero]
              refine anyH_take 8 (some 92) (.pointer (some ⟨C, 2, none⟩)) rfl rfl (by kernel_rfl) (by kernel_rfl) (by kernel_rfl) (fun _ _ _ h => h.elim) (.inl ⟨by rfl, fun W hW => by have e : W = Wd := hW; subst e; go_simp⟩) hS ?_
              simp only [Act.put, List.setIfInBounds_toArray, List.set_cons_succ, List.set_cons_zero]
              refine anyH_take 9 (some 93) (.slice (some ⟨ob, oo, none⟩) o.ths.length qtc) rfl rfl (by kernel_rfl) (by kernel_rfl) (by kernel_rfl) (fun _ _ _ h => h.elim) (.inl ⟨by rfl, fun W hW => by have e : W = Wd := hW; subst e; go_simp⟩) hS ?_
              simp only [Act.put, List.setIfInBounds_toArray, List.set_cons_succ, List.set_cons_zero]
              refine anyH_take 10 (some 94) (.int .i64 (k : Nat)) rfl rfl (by kernel_rfl) (by kernel_rfl) (by kernel_rfl) (fun _ _ _ h => h.elim) (.inl ⟨by rfl, fun W hW => by have e : W = Wd := hW; subst e; go_simp⟩) hS ?_
              simp only [Act.put, List.setIfInBounds_toArray, List.set_cons_succ, List.set_cons_zero]
              refine anyH_take 11 (some 95) (.pointer (some ⟨ob, oo + k * 4, none⟩)) rfl rfl (by kernel_rfl) (by kernel_rfl) (by kernel_rfl) (fun _ _ _ h => h.elim) (.inl ⟨by rfl, fun W hW => by have e : W = Wd := hW; subst e; go_simp⟩) hS ?_
              simp only [Act.put, List.setIfInBounds_toArray, List.set_cons_succ, List.set_cons_zero]
              refine anyH_take 12 (some 96) (.pointer (some ⟨ob, oo + k * 4 + 2, none⟩)) rfl rfl (by kernel_rfl) (by kernel_rfl) (by kernel_rfl) (fun _ _ _ h => h.elim) (.inl ⟨by rfl, fun W hW => by have e : W = Wd := hW; subst e; go_simp⟩) hS ?_
              simp only [Act.put, List.setIfInBounds_toArray, List.set_cons_succ, List.set_cons_zero]
              refine anyH_take 13 (some 97) (.int .u64 (m.word : Nat)) rfl rfl (by kernel_rfl) (by kernel_rfl) (by kernel_rfl) (fun _ _ _ h => h.elim) (.inl ⟨by rfl, fun W hW => by have e : W = Wd := hW; subst e; go_simp⟩) hS ?_
              simp only [Act.put, List.setIfInBounds_toArray, List.set_cons_succ, List.set_cons_zero]
              refine anyH_take 14 (some 98) (.pointer (some ⟨B7, 0, none⟩)) rfl rfl (by kernel_rfl) (by kernel_rfl) (by kernel_rfl) (fun _ _ _ h => h.elim) (.inl ⟨by rfl, fun W hW => by have e : W = Wd := hW; subst e; go_simp⟩) hS ?_
              simp only [Act.put, List.setIfInBounds_toArray, List.set_cons_succ, List.set_cons_zero]
              refine anyH_take 15 (some 99) (.int .u64 (m.word : Nat)) rfl rfl (by kernel_rfl) (by kernel_rfl) (by kernel_rfl) (fun _ _ _ h => h.elim) (.inl ⟨by rfl, fun W hW => by have e : W = Wd := hW; subst e; go_simp⟩) hS ?_
              simp only [Act.put, List.setIfInBounds_toArray, List.set_cons_succ, List.set_cons_zero]
              refine anyH_take 16 (some 100) (.bool false) rfl rfl (by kernel_rfl) (by kernel_rfl) (by kernel_rfl) (fun _ _ _ h => h.elim) (.inl ⟨by rfl, fun W hW => by have e : W = Wd := hW; subst e; go_simp⟩) hS ?_
              simp only [Act.put, List.setIfInBounds_toArray, List.set_cons_succ, List.set_cons_zero]
              refine anyH_take 17 (some 101) (.bool false) rfl rfl (by kernel_rfl) (by kernel_rfl) (by kernel_rfl) (fun _ _ _ h => h.elim) (.inl ⟨by rfl, fun W hW => by have e : W = Wd := hW; subst e; go_simp⟩) hS ?_
              simp only [Act.put, List.setIfInBounds_toArray, List.set_cons_succ, List.set_cons_zero]
              refine anyH_take 18 (some 102) (.bool false) rfl rfl (by kernel_rfl) (by kernel_rfl) (by kernel_rfl) (fun _ _ _ h => h.elim) (.inl ⟨by rfl, fun W hW => by have e : W = Wd := hW; subst e; go_simp⟩) hS ?_
              simp only [Act.put, List.setIfInBounds_toArray, List.set_cons_succ, List.set_cons_zero]
              refine anyH_take 19 (some 103) (.pointer (some ⟨C, 0, none⟩)) rfl rfl (by kernel_rfl) (by kernel_rfl) (by kernel_rfl) (fun _ _ _ h => h.elim) (.inl ⟨by rfl, fun W hW => by have e : W = Wd := hW; subst e; go_simp⟩) hS ?_
              simp only [Act.put, List.setIfInBounds_toArray, List.set_cons_succ, List.set_cons_zero]
              refine anyH_take 20 (some 104) (.int .u64 (m.word : Nat)) rfl rfl (by kernel_rfl) (by kernel_rfl) (by kernel_rfl) (fun _ _ _ h => h.elim) (.inl ⟨by rfl, fun W hW => by have e : W = Wd := hW; subst e; go_simp⟩) hS ?_
              simp only [Act.put, List.setIfInBounds_toArray, List.set_cons_succ, List.set_cons_zero]
              refine anyH_take 21 (some 105) (.pointer (some ⟨B7, 0, none⟩)) rfl rfl (by kernel_rfl) (by kernel_rfl) (by kernel_rfl) (fun _ _ _ h => h.elim) (.inl ⟨by rfl, fun W hW => by have e : W = Wd := hW; subst e; go_simp⟩) hS ?_
              simp only [Act.put, List.setIfInBounds_toArray, List.set_cons_succ, List.set_cons_zero]
              refine anyH_take 22 (some 106) (.int .u64 (m.word : Nat)) rfl rfl (by kernel_rfl) (by kernel_rfl) (by kernel_rfl) (fun _ _ _ h => h.elim) (.inl ⟨by rfl, fun W hW => by have e : W = Wd := hW; subst e; go_simp⟩) hS ?_
              simp only [Act.put, List.setIfInBounds_toArray, List.set_cons_succ, List.set_cons_zero]
              refine anyH_take 23 (some 107) (.bool false) rfl rfl (by kernel_rfl) (by kernel_rfl) (by kernel_rfl) (fun _ _ _ h => h.elim) (.inl ⟨by rfl, fun W hW => by have e : W = Wd := hW; subst e; go_simp⟩) hS ?_
              simp only [Act.put, List.setIfInBounds_toArray, List.set_cons_succ, List.set_cons_zero]
              refine anyH_take 24 (some 108) (.bool false) rfl rfl (by kernel_rfl) (by kernel_rfl) (by kernel_rfl) (fun _ _ _ h => h.elim) (.inl ⟨by rfl, fun W hW => by have e : W = Wd := hW; subst e; go_simp⟩) hS ?_
              simp only [Act.put, List.setIfInBounds_toArray, List.set_cons_succ, List.set_cons_zero]
              refine wpAnyH_done (by kernel_rfl) ?_ _
              exact ⟨rfl, rfl⟩
            · rintro a' Wz ⟨rfl, rfl⟩
              simp only [Act.put, List.setIfInBounds_toArray, List.set_cons_succ, List.set_cons_zero]
              clear m0 o0 to1 to2
              replace m2 := (Mods.refl (fun _ => False) Ws).drew.cell m2 id
              replace tm1 := (Mods.refl (fun _ => False) Ws).drew.cell tm1 id
              have HD1 : Hid (New Ws Ws.drew) := Lib.hid (Mods.refl _ _).drew
              obtain ⟨Wt, hWt⟩ : ∃ W, Ws.drew = W := ⟨_, rfl⟩
              rw [hWt] at m2 tm1 HD1 ⊢
              clear hWt
              go_upto_region 19 with fail
              refine piece (fun a a' Wq => a' = (a.put (some 109) (.pointer (some ⟨B7, 2, none⟩)) |>.put (some 110) (.slice (some ⟨mb, mo, none⟩) m.ths.length atc) |>.put (some 111) (.int .i64 (k : Nat)) |>.put (some 112) (.pointer (some ⟨mb, mo + k * 4, none⟩)) |>.put (some 113) (.pointer (some ⟨mb, mo + k * 4 + 1, none⟩)) |>.put (some 114) (.bool false) |>.put (some 115) (.bool false) |>.put (some 116) (undef) |>.put (some 117) (undef) |>.put (some 118) (undef) |>.put (some 119) (undef) |>.put (some 120) (undef) |>.put (some 121) (undef) |>.put (some 122) (undef) |>.put (some 123) (undef) |>.put (some 124) (undef) |>.put (some 125) (undef) |>.put (some 126) (undef) |>.put (some 127) (undef) |>.put (some 128) (undef) |>.put (some 129) (undef) |>.put (some 130) (undef) |>.put (some 131) (.bool false)) ∧ Wq = Wt.drew) ?_ ?_
              · refine wp_region_held (by kernel_rfl) (S := fun W => W = Wt.drew) ?_
                show wpAnyH _ _ _ _ _ _ _ _ Wt.drew
                replace m2 := (Mods.refl (fun _ => False) Wt).drew.cell m2 id
                replace tm1 := (Mods.refl (fun _ => False) Wt).drew.cell tm1 id
                obtain ⟨Wd, hWd⟩ : ∃ Wd, Wt.drew = Wd := ⟨_, rfl⟩
                rw [hWd] at m2 tm1 ⊢
                have hS : Wd = Wd := rfl
                clear hWd
                refine anyH_take 0 (some 109) (.pointer (some ⟨B7, 2, none⟩)) rfl rfl (by kernel_rfl) (by kernel_rfl) (by kernel_rfl) (fun _ _ _ h => h.elim) (.inl ⟨by rfl, fun W hW => by have e : W = Wd := hW; subst e; go_simp⟩) hS ?_
                simp only [Act.put, List.setIfInBounds_toArray, List.set_cons_succ, List.set_cons_zero]
                refine anyH_take 1 (some 110) (.slice (some ⟨mb, mo, none⟩) m.ths.length atc) rfl rfl (by kernel_rfl) (by kernel_rfl) (by kernel_rfl) (fun _ _ _ h => h.elim) (.inl ⟨by rfl, fun W hW => by have e : W = Wd := hW; subst e; go_simp⟩) hS ?_
                simp only [Act.put, List.setIfInBounds_toArray, List.set_cons_succ, List.set_cons_zero]
                refine anyH_take 2 (some 111) (.int .i64 (k : Nat)) rfl rfl (by kernel_rfl) (by kernel_rfl) (by kernel_rfl) (fun _ _ _ h => h.elim) (.inl ⟨by rfl, fun W hW => by have e : W = Wd := hW; subst e; go_simp⟩) hS ?_
                simp only [Act.put, List.setIfInBounds_toArray, List.set_cons_succ, List.set_cons_zero]
                refine anyH_take 3 (some 112) (.pointer (some ⟨mb, mo + k * 4, none⟩)) rfl rfl (by kernel_rfl) (by kernel_rfl) (by kernel_rfl) (fun _ _ _ h => h.elim) (.inl ⟨by rfl, fun W hW => by have e : W = Wd := hW; subst e; go_simp⟩) hS ?_
                simp only [Act.put, List.setIfInBounds_toArray, List.set_cons_succ, List.set_cons_zero]
                refine anyH_take 4 (some 113) (.pointer (some ⟨mb, mo + k * 4 + 1, none⟩)) rfl rfl (by kernel_rfl) (by kernel_rfl) (by kernel_rfl) (fun _ _ _ h => h.elim) (.inl ⟨by rfl, fun W hW => by have e : W = Wd := hW; subst e; go_simp⟩) hS ?_
                simp only [Act.put, List.setIfInBounds_toArray, List.set_cons_succ, List.set_cons_zero]
                refine anyH_take 5 (some 114) (.bool false) rfl rfl (by kernel_rfl) (by kernel_rfl) (by kernel_rfl) (fun _ _ _ h => h.elim) (.inl ⟨by rfl, fun W hW => by have e : W = Wd := hW; subst e; go_simp⟩) hS ?_
                simp only [Act.put, List.setIfInBounds_toArray, List.set_cons_succ, List.set_cons_zero]
                refine anyH_take 6 (some 115) (.bool false) rfl rfl (by kernel_rfl) (by kernel_rfl) (by kernel_rfl) (fun _ _ _ h => h.elim) (.inl ⟨by rfl, fun W hW => by have e : W = Wd := hW; subst e; go_simp⟩) hS ?_
                simp only [Act.put, List.setIfInBounds_toArray, List.set_cons_succ, List.set_cons_zero]
                refine anyH_take 7 (some 116) undef rfl rfl (by kernel_rfl) (by kernel_rfl) (by kernel_rfl) (fun _ _ _ h => h.elim) (.inr ⟨by rfl, rfl⟩) hS ?_
                simp only [Act.put, List.setIfInBounds_toArray, List.set_cons_succ, List.set_cons_zero]
                refine anyH_take 8 (some 117) undef rfl rfl (by kernel_rfl) (by kernel_rfl) (by kernel_rfl) (fun _ _ _ h => h.elim) (.inr ⟨by rfl, rfl⟩) hS ?_
                simp only [Act.put, List.setIfInBounds_toArray, List.set_cons_succ, List.set_cons_zero]
                refine anyH_take 9 (some 118) undef rfl rfl (by kernel_rfl) (by kernel_rfl) (by kernel_rfl) (fun _ _ _ h => h.elim) (.inr ⟨by rfl, rfl⟩) hS ?_
                simp only [Act.put, List.setIfInBounds_toArray, List.set_cons_succ, List.set_cons_zero]
                refine anyH_take 10 (some 119) undef rfl rfl (by kernel_rfl) (by kernel_rfl) (by kernel_rfl) (fun _ _ _ h => h.elim) (.inr ⟨by rfl, rfl⟩) hS ?_
                simp only [Act.put, List.setIfInBounds_toArray, List.set_cons_succ, List.set_cons_zero]
                refine anyH_take 11 (some 120) undef rfl rfl (by kernel_rfl) (by kernel_rfl) (by kernel_rfl) (fun _ _ _ h => h.elim) (.inr ⟨by rfl, rfl⟩) hS ?_
                simp only [Act.put, List.setIfInBounds_toArray, List.set_cons_succ, List.set_cons_zero]
                refine anyH_take 12 (some 121) undef rfl rfl (by kernel_rfl) (by kernel_rfl) (by kernel_rfl) (fun _ _ _ h => h.elim) (.inr ⟨by rfl, rfl⟩) hS ?_
                simp only [Act.put, List.setIfInBounds_toArray, List.set_cons_succ, List.set_cons_zero]
                refine anyH_take 13 (some 122) undef rfl rfl (by kernel_rfl) (by kernel_rfl) (by kernel_rfl) (fun _ _ _ h => h.elim) (.inr ⟨by rfl, rfl⟩) hS ?_
                simp only [Act.put, List.setIfInBounds_toArray, List.set_cons_succ, List.set_cons_zero]
                refine anyH_take 14 (some 123) undef rfl rfl (by kernel_rfl) (by kernel_rfl) (by kernel_rfl) (fun _ _ _ h => h.elim) (.inr ⟨by rfl, rfl⟩) hS ?_
                simp only [Act.put, List.setIfInBounds_toArray, List.set_cons_succ, List.set_cons_zero]
                refine anyH_take 15 (some 124) undef rfl rfl (by kernel_rfl) (by kernel_rfl) (by kernel_rfl) (fun _ _ _ h => h.elim) (.inr ⟨by rfl, rfl⟩) hS ?_
                simp only [Act.put, List.setIfInBounds_toArray, List.set_cons_succ, List.set_cons_zero]
                refine anyH_take 16 (some 125) undef rfl rfl (by kernel_rfl) (by kernel_rfl) (by kernel_rfl) (fun _ _ _ h => h.elim) (.inr ⟨by rfl, rfl⟩) hS ?_
                simp only [Act.put, List.setIfInBounds_toArray, List.set_cons_succ, List.set_cons_zero]
                refine anyH_take 17 (some 126) undef rfl rfl (by kernel_rfl) (by kernel_rfl) (by kernel_rfl) (fun _ _ _ h => h.elim) (.inr ⟨by rfl, rfl⟩) hS ?_
                simp only [Act.put, List.setIfInBounds_toArray, List.set_cons_succ, List.set_cons_zero]
                refine anyH_take 18 (some 127) undef rfl rfl (by kernel_rfl) (by kernel_rfl) (by kernel_rfl) (fun _ _ _ h => h.elim) (.inr ⟨by rfl, rfl⟩) hS ?_
                simp only [Act.put, List.setIfInBounds_toArray, List.set_cons_succ, List.set_cons_zero]
                refine anyH_take 19 (some 128) undef rfl rfl (by kernel_rfl) (by kernel_rfl) (by kernel_rfl) (fun _ _ _ h => h.elim) (.inr ⟨by rfl, rfl⟩) hS ?_
                simp only [Act.put, List.setIfInBounds_toArray, List.set_cons_succ, List.set_cons_zero]
                refine anyH_take 20 (some 129) undef rfl rfl (by kernel_rfl) (by kernel_rfl) (by kernel_rfl) (fun _ _ _ h => h.elim) (.inr ⟨by rfl, rfl⟩) hS ?_
                simp only [Act.put, List.setIfInBounds_toArray, List.set_cons_succ, List.set_cons_zero]
                refine anyH_take 21 (some 130) undef rfl rfl (by kernel_rfl) (by kernel_rfl) (by kernel_rfl) (fun _ _ _ h => h.elim) (.inr ⟨by rfl, rfl⟩) hS ?_
                simp only [Act.put, List.setIfInBounds_toArray, List.set_cons_succ, List.set_cons_zero]
                refine anyH_take 22 (some 131) (.bool false) rfl rfl (by kernel_rfl) (by kernel_rfl) (by kernel_rfl) (fun _ _ _ h => h.elim) (.inl ⟨by rfl, fun W hW => by have e : W = Wd := hW; subst e; go_simp⟩) hS ?_
                simp only [Act.put, List.setIfInBounds_toArray, List.set_cons_succ, List.set_cons_zero]
                refine wpAnyH_done (by kernel_rfl) ?_ _
                exact ⟨rfl, rfl⟩
              · rintro a' Wz ⟨rfl, rfl⟩
                simp only [Act.put, List.setIfInBounds_toArray, List.set_cons_succ, List.set_cons_zero]
                have hNe : New Ws Wt.drew := HD1.out.drew
                have HF := Lib.hid (And.intro (hNe.heap HF0.out.1 id) (And.intro (hNe.heap HF0.out.2.1 id) (And.intro (HF0.out.2.2.1.new hNe) (And.intro (hNe.heap HF0.out.2.2.2.1 id) (HF0.out.2.2.2.2.trans hNe)))))
                clear hNe m2 tm1 o2
                have hBB : Wt.drew.heap[B7]? = some (.cells #[.int .u64 (m.word : Nat), .int .i64 m.clock, .slice (some ⟨mb, mo, none⟩) m.ths.length atc, .slice aha m.hist.length ahc] 77 (0, 0)) := HF.out.1
                have hBC : Wt.drew.heap[C]? = some (.cells #[.int .u64 (o.word : Nat), .int .i64 o.clock, .slice (some ⟨ob, oo, none⟩) o.ths.length qtc, .slice qha o.hist.length qhc] 77 (0, 0)) := HF.out.2.1
                have hone := mach_ones o.word o.clock (some ⟨ob, oo, none⟩) qha o.ths.length qtc o.hist.length qhc
                have hnx : Hid (PasAt w B7 RB (i + 1) (Wt.drew.setRow B7 #[.int .u64 (o.word : Nat), .int .i64 o.clock, .slice (some ⟨ob, oo, none⟩) o.ths.length qtc, .slice qha o.hist.length qhc])) := Lib.hid ⟨o, (fun t => if t = k then o.clock else rd t), _, _, _, _, qlv, setRow_heap Wt.drew B7 _ #[.int .u64 (o.word : Nat), .int .i64 o.clock, .slice (some ⟨ob, oo, none⟩) o.ths.length qtc, .slice qha o.hist.length qhc] 77 (0, 0) hBB, HF.out.2.2.1.keptI (HF.out.2.2.1.notIn (show MB Wt.drew B7 m.word m.clock (.slice (some ⟨mb, mo, none⟩) m.ths.length atc) (.slice aha m.hist.length ahc) from HF.out.1).nb) (mods_setRow hBB _), (mods_setRow hBB #[.int .u64 (o.word : Nat), .int .i64 o.clock, .slice (some ⟨ob, oo, none⟩) o.ths.length qtc, .slice qha o.hist.length qhc]).heap HF.out.2.2.2.1 hB7', HF.out.2.2.2.2.setRow HW7.out _, HP1.out, Ho.out.1, Ho.out.2.1, Ho.out.2.2⟩
                clear HF
                go_upto_region 27 with fail
                go_wp2_with (first | (refine op_value rfl (run_load_row 77 (.tmp 11) rfl C rfl 77 #[.int .u64 (o.word : Nat), .int .i64 o.clock, .slice (some ⟨ob, oo, none⟩) o.ths.length qtc, .slice qha o.hist.length qhc] (0, 0) _ hBC Try.underlying77 rfl info77) ?_) | (refine op_skip rfl (run_store_row 77 (.tmp 7) (.tmp 188) rfl B7 rfl 77 [.int .u64 (m.word : Nat), .int .i64 m.clock, .slice (some ⟨mb, mo, none⟩) m.ths.length atc, .slice aha m.hist.length ahc] [.int .u64 (o.word : Nat), .int .i64 o.clock, .slice (some ⟨ob, oo, none⟩) o.ths.length qtc, .slice qha o.hist.length qhc] rfl hBB info77 rfl hone) ?_))
                go_roundw
                case rel => exact ⟨i + 1, by omega, by go_num, hnx⟩
                case measure => simp [intOf]; omega
          | true =>
            have Hsw := Lib.hid (Hm.out.1.swaps (D := DS) Hmay.out.1 (by rw [Hmay.out.2.2]; exact Hmay.out.2.1) Hlm.out)
            rw [Hmay.out.2.2] at Hsw
            obtain ⟨ol, hol⟩ : ∃ n, (o.ths.getD k .no).left.length = n := ⟨_, rfl⟩
            obtain ⟨ml, hml⟩ : ∃ n, (m.ths.getD k .no).left.length = n := ⟨_, rfl⟩
            rw [hol] at to0
            rw [hml] at tm0
            rw [hol, hml] at Hsw
            obtain ⟨lq, hlq⟩ : ∃ b, ((ol : Int) == (ml : Int)) = b := ⟨_, rfl⟩
            have Hlq := Lib.hid hlq
            have HF0 := Lib.hid (And.intro HB'.out (And.intro HBo.out (And.intro HRo.out (And.intro HRD.out HN'.out))))
            have r0 : W'.cell? ⟨RB, k, none⟩ = some (.int .i64 (rd k)) := by
              rw [cell_of_row _ _ _ _ _ _ HRD.out]
              match k, hk3 with
              | 0, _ => rfl
              | 1, _ => rfl
              | 2, _ => rfl
            clear hol hml hpk
            go_upto_region 19 with fail
            refine piece (fun a a' Wq => a' = (a.put (some 109) (.pointer (some ⟨B7, 2, none⟩)) |>.put (some 110) (.slice (some ⟨mb, mo, none⟩) m.ths.length atc) |>.put (some 111) (.int .i64 (k : Nat)) |>.put (some 112) (.pointer (some ⟨mb, mo + k * 4, none⟩)) |>.put (some 113) (.pointer (some ⟨mb, mo + k * 4 + 1, none⟩)) |>.put (some 114) (.bool true) |>.put (some 115) (.bool true) |>.put (some 116) (.pointer (some ⟨C, 2, none⟩)) |>.put (some 117) (.slice (some ⟨ob, oo, none⟩) o.ths.length qtc) |>.put (some 118) (.int .i64 (k : Nat)) |>.put (some 119) (.pointer (some ⟨ob, oo + k * 4, none⟩)) |>.put (some 120) (.pointer (some ⟨ob, oo + k * 4, none⟩)) |>.put (some 121) (.slice ola ol olc) |>.put (some 122) (.int .i64 (ol : Nat)) |>.put (some 123) (.pointer (some ⟨B7, 2, none⟩)) |>.put (some 124) (.slice (some ⟨mb, mo, none⟩) m.ths.length atc) |>.put (some 125) (.int .i64 (k : Nat)) |>.put (some 126) (.pointer (some ⟨mb, mo + k * 4, none⟩)) |>.put (some 127) (.pointer (some ⟨mb, mo + k * 4, none⟩)) |>.put (some 128) (.slice mla ml mlc) |>.put (some 129) (.int .i64 (ml : Nat)) |>.put (some 130) (.bool lq) |>.put (some 131) (.bool lq)) ∧ Wq = W'.drew) ?_ ?_
            · refine wp_region_held (by kernel_rfl) (S := fun W => W = W'.drew) ?_
              show wpAnyH _ _ _ _ _ _ _ _ W'.drew
              replace m2 := (Mods.refl (fun _ => False) W').drew.cell m2 id
              replace tm0 := (Mods.refl (fun _ => False) W').drew.cell tm0 id
              replace tm1 := (Mods.refl (fun _ => False) W').drew.cell tm1 id
              replace o2 := (Mods.refl (fun _ => False) W').drew.cell o2 id
              replace to0 := (Mods.refl (fun _ => False) W').drew.cell to0 id
              obtain ⟨Wd, hWd⟩ : ∃ Wd, W'.drew = Wd := ⟨_, rfl⟩
              rw [hWd] at m2 tm0 tm1 o2 to0 ⊢
              have hS : Wd = Wd := rfl
              clear hWd
              refine anyH_take 0 (some 109) (.pointer (some ⟨B7, 2, none⟩)) rfl rfl (by kernel_rfl) (by kernel_rfl) (by kernel_rfl) (fun _ _ _ h => h.elim) (.inl ⟨by rfl, fun W hW => by have e : W = Wd := hW; subst e; go_simp⟩) hS ?_
              simp only [Act.put, List.setIfInBounds_toArray, List.set_cons_succ, List.set_cons_zero]
              refine anyH_take 1 (some 110) (.slice (some ⟨mb, mo, none⟩) m.ths.length atc) rfl rfl (by kernel_rfl) (by kernel_rfl) (by kernel_rfl) (fun _ _ _ h => h.elim) (.inl ⟨by rfl, fun W hW => by have e : W = Wd := hW; subst e; go_simp⟩) hS ?_
              simp only [Act.put, List.setIfInBounds_toArray, List.set_cons_succ, List.set_cons_zero]
              refine anyH_take 2 (some 111) (.int .i64 (k : Nat)) rfl rfl (by kernel_rfl) (by kernel_rfl) (by kernel_rfl) (fun _ _ _ h => h.elim) (.inl ⟨by rfl, fun W hW => by have e : W = Wd := hW; subst e; go_simp⟩) hS ?_
              simp only [Act.put, List.setIfInBounds_toArray, List.set_cons_succ, List.set_cons_zero]
              refine anyH_take 3 (some 112) (.pointer (some ⟨mb, mo + k * 4, none⟩)) rfl rfl (by kernel_rfl) (by kernel_rfl) (by kernel_rfl) (fun _ _ _ h => h.elim) (.inl ⟨by rfl, fun W hW => by have e : W = Wd := hW; subst e; go_simp⟩) hS ?_
              simp only [Act.put, List.setIfInBounds_toArray, List.set_cons_succ, List.set_cons_zero]
              refine anyH_take 4 (some 113) (.pointer (some ⟨mb, mo + k * 4 + 1, none⟩)) rfl rfl (by kernel_rfl) (by kernel_rfl) (by kernel_rfl) (fun _ _ _ h => h.elim) (.inl ⟨by rfl, fun W hW => by have e : W = Wd := hW; subst e; go_simp⟩) hS ?_
              simp only [Act.put, List.setIfInBounds_toArray, List.set_cons_succ, List.set_cons_zero]
              refine anyH_take 5 (some 114) (.bool true) rfl rfl (by kernel_rfl) (by kernel_rfl) (by kernel_rfl) (fun _ _ _ h => h.elim) (.inl ⟨by rfl, fun W hW => by have e : W = Wd := hW; subst e; go_simp⟩) hS ?_
              simp only [Act.put, List.setIfInBounds_toArray, List.set_cons_succ, List.set_cons_zero]
              refine anyH_take 6 (some 115) (.bool true) rfl rfl (by kernel_rfl) (by kernel_rfl) (by kernel_rfl) (fun _ _ _ h => h.elim) (.inl ⟨by rfl, fun W hW => by have e : W = Wd := hW; subst e; go_simp⟩) hS ?_
              simp only [Act.put, List.setIfInBounds_toArray, List.set_cons_succ, List.set_cons_zero]
              refine anyH_take 7 (some 116) (.pointer (some ⟨C, 2, none⟩)) rfl rfl (by kernel_rfl) (by kernel_rfl) (by kernel_rfl) (fun _ _ _ h => h.elim) (.inl ⟨by rfl, fun W hW => by have e : W = Wd := hW; subst e; go_simp⟩) hS ?_
              simp only [Act.put, List.setIfInBounds_toArray, List.set_cons_succ, List.set_cons_zero]
              refine anyH_take 8 (some 117) (.slice (some ⟨ob, oo, none⟩) o.ths.length qtc) rfl rfl (by kernel_rfl) (by kernel_rfl) (by kernel_rfl) (fun _ _ _ h => h.elim) (.inl ⟨by rfl, fun W hW => by have e : W = Wd := hW; subst e; go_simp⟩) hS ?_
              simp only [Act.put, List.setIfInBounds_toArray, List.set_cons_succ, List.set_cons_zero]
              refine anyH_take 9 (some 118) (.int .i64 (k : Nat)) rfl rfl (by kernel_rfl) (by kernel_rfl) (by kernel_rfl) (fun _ _ _ h => h.elim) (.inl ⟨by rfl, fun W hW => by have e : W = Wd := hW; subst e; go_simp⟩) hS ?_
              simp only [Act.put, List.setIfInBounds_toArray, List.set_cons_succ, List.set_cons_zero]
              refine anyH_take 10 (some 119) (.pointer (some ⟨ob, oo + k * 4, none⟩)) rfl rfl (by kernel_rfl) (by kernel_rfl) (by kernel_rfl) (fun _ _ _ h => h.elim) (.inl ⟨by rfl, fun W hW => by have e : W = Wd := hW; subst e; go_simp⟩) hS ?_
              simp only [Act.put, List.setIfInBounds_toArray, List.set_cons_succ, List.set_cons_zero]
              refine anyH_take 11 (some 120) (.pointer (some ⟨ob, oo + k * 4, none⟩)) rfl rfl (by kernel_rfl) (by kernel_rfl) (by kernel_rfl) (fun _ _ _ h => h.elim) (.inl ⟨by rfl, fun W hW => by have e : W = Wd := hW; subst e; go_simp⟩) hS ?_
              simp only [Act.put, List.setIfInBounds_toArray, List.set_cons_succ, List.set_cons_zero]
              refine anyH_take 12 (some 121) (.slice ola ol olc) rfl rfl (by kernel_rfl) (by kernel_rfl) (by kernel_rfl) (fun _ _ _ h => h.elim) (.inl ⟨by rfl, fun W hW => by have e : W = Wd := hW; subst e; go_simp⟩) hS ?_
              simp only [Act.put, List.setIfInBounds_toArray, List.set_cons_succ, List.set_cons_zero]
              refine anyH_take 13 (some 122) (.int .i64 (ol : Nat)) rfl rfl (by kernel_rfl) (by kernel_rfl) (by kernel_rfl) (fun _ _ _ h => h.elim) (.inl ⟨by rfl, fun W hW => by have e : W = Wd := hW; subst e; go_simp⟩) hS ?_
              simp only [Act.put, List.setIfInBounds_toArray, List.set_cons_succ, List.set_cons_zero]
              refine anyH_take 14 (some 123) (.pointer (some ⟨B7, 2, none⟩)) rfl rfl (by kernel_rfl) (by kernel_rfl) (by kernel_rfl) (fun _ _ _ h => h.elim) (.inl ⟨by rfl, fun W hW => by have e : W = Wd := hW; subst e; go_simp⟩) hS ?_
              simp only [Act.put, List.setIfInBounds_toArray, List.set_cons_succ, List.set_cons_zero]
              refine anyH_take 15 (some 124) (.slice (some ⟨mb, mo, none⟩) m.ths.length atc) rfl rfl (by kernel_rfl) (by kernel_rfl) (by kernel_rfl) (fun _ _ _ h => h.elim) (.inl ⟨by rfl, fun W hW => by have e : W = Wd := hW; subst e; go_simp⟩) hS ?_
              simp only [Act.put, List.setIfInBounds_toArray, List.set_cons_succ, List.set_cons_zero]
              refine anyH_take 16 (some 125) (.int .i64 (k : Nat)) rfl rfl (by kernel_rfl) (by kernel_rfl) (by kernel_rfl) (fun _ _ _ h => h.elim) (.inl ⟨by rfl, fun W hW => by have e : W = Wd := hW; subst e; go_simp⟩) hS ?_
              simp only [Act.put, List.setIfInBounds_toArray, List.set_cons_succ, List.set_cons_zero]
              refine anyH_take 17 (some 126) (.pointer (some ⟨mb, mo + k * 4, none⟩)) rfl rfl (by kernel_rfl) (by kernel_rfl) (by kernel_rfl) (fun _ _ _ h => h.elim) (.inl ⟨by rfl, fun W hW => by have e : W = Wd := hW; subst e; go_simp⟩) hS ?_
              simp only [Act.put, List.setIfInBounds_toArray, List.set_cons_succ, List.set_cons_zero]
              refine anyH_take 18 (some 127) (.pointer (some ⟨mb, mo + k * 4, none⟩)) rfl rfl (by kernel_rfl) (by kernel_rfl) (by kernel_rfl) (fun _ _ _ h => h.elim) (.inl ⟨by rfl, fun W hW => by have e : W = Wd := hW; subst e; go_simp⟩) hS ?_
              simp only [Act.put, List.setIfInBounds_toArray, List.set_cons_succ, List.set_cons_zero]
              refine anyH_take 19 (some 128) (.slice mla ml mlc) rfl rfl (by kernel_rfl) (by kernel_rfl) (by kernel_rfl) (fun _ _ _ h => h.elim) (.inl ⟨by rfl, fun W hW => by have e : W = Wd := hW; subst e; go_simp⟩) hS ?_
              simp only [Act.put, List.setIfInBounds_toArray, List.set_cons_succ, List.set_cons_zero]
              refine anyH_take 20 (some 129) (.int .i64 (ml : Nat)) rfl rfl (by kernel_rfl) (by kernel_rfl) (by kernel_rfl) (fun _ _ _ h => h.elim) (.inl ⟨by rfl, fun W hW => by have e : W = Wd := hW; subst e; go_simp⟩) hS ?_
              simp only [Act.put, List.setIfInBounds_toArray, List.set_cons_succ, List.set_cons_zero]
              refine anyH_take 21 (some 130) (.bool lq) rfl rfl (by kernel_rfl) (by kernel_rfl) (by kernel_rfl) (fun _ _ _ h => h.elim) (.inl ⟨by rfl, fun W hW => by have e : W = Wd := hW; subst e; go_simp⟩) hS ?_
              simp only [Act.put, List.setIfInBounds_toArray, List.set_cons_succ, List.set_cons_zero]
              refine anyH_take 22 (some 131) (.bool lq) rfl rfl (by kernel_rfl) (by kernel_rfl) (by kernel_rfl) (fun _ _ _ h => h.elim) (.inl ⟨by rfl, fun W hW => by have e : W = Wd := hW; subst e; go_simp⟩) hS ?_
              simp only [Act.put, List.setIfInBounds_toArray, List.set_cons_succ, List.set_cons_zero]
              refine wpAnyH_done (by kernel_rfl) ?_ _
              exact ⟨rfl, rfl⟩
            · rintro a' Wz ⟨rfl, rfl⟩
              simp only [Act.put, List.setIfInBounds_toArray, List.set_cons_succ, List.set_cons_zero]
              clear hlq
              cases lq with
              | false =>
                have hNe : New W' W'.drew := (Mods.refl _ _).drew
                have HF := Lib.hid (And.intro (hNe.heap HF0.out.1 id) (And.intro (hNe.heap HF0.out.2.1 id) (And.intro (HF0.out.2.2.1.new hNe) (And.intro (hNe.heap HF0.out.2.2.2.1 id) (HF0.out.2.2.2.2.trans hNe)))))
                clear hNe m0 m2 tm0 tm1 tm2 o0 o1 o2 o3 to0 to1 to2 r0
                have hBB : W'.drew.heap[B7]? = some (.cells #[.int .u64 (m.word : Nat), .int .i64 m.clock, .slice (some ⟨mb, mo, none⟩) m.ths.length atc, .slice aha m.hist.length ahc] 77 (0, 0)) := HF.out.1
                have hBC : W'.drew.heap[C]? = some (.cells #[.int .u64 (o.word : Nat), .int .i64 o.clock, .slice (some ⟨ob, oo, none⟩) o.ths.length qtc, .slice qha o.hist.length qhc] 77 (0, 0)) := HF.out.2.1
                have hone := mach_ones o.word o.clock (some ⟨ob, oo, none⟩) qha o.ths.length qtc o.hist.length qhc
                have hnx : Hid (PasAt w B7 RB (i + 1) (W'.drew.setRow B7 #[.int .u64 (o.word : Nat), .int .i64 o.clock, .slice (some ⟨ob, oo, none⟩) o.ths.length qtc, .slice qha o.hist.length qhc])) := Lib.hid ⟨o, rd, _, _, _, _, qlv, setRow_heap W'.drew B7 _ #[.int .u64 (o.word : Nat), .int .i64 o.clock, .slice (some ⟨ob, oo, none⟩) o.ths.length qtc, .slice qha o.hist.length qhc] 77 (0, 0) hBB, HF.out.2.2.1.keptI (HF.out.2.2.1.notIn (show MB W'.drew B7 m.word m.clock (.slice (some ⟨mb, mo, none⟩) m.ths.length atc) (.slice aha m.hist.length ahc) from HF.out.1).nb) (mods_setRow hBB _), (mods_setRow hBB #[.int .u64 (o.word : Nat), .int .i64 o.clock, .slice (some ⟨ob, oo, none⟩) o.ths.length qtc, .slice qha o.hist.length qhc]).heap HF.out.2.2.2.1 hB7', HF.out.2.2.2.2.setRow HW7.out _, Hsw.out.1, Ho.out.1, Ho.out.2.1, Ho.out.2.2⟩
                clear HF
                go_upto_region 27 with fail
                go_wp2_with (first | (refine op_value rfl (run_load_row 77 (.tmp 11) rfl C rfl 77 #[.int .u64 (o.word : Nat), .int .i64 o.clock, .slice (some ⟨ob, oo, none⟩) o.ths.length qtc, .slice qha o.hist.length qhc] (0, 0) _ hBC Try.underlying77 rfl info77) ?_) | (refine op_skip rfl (run_store_row 77 (.tmp 7) (.tmp 188) rfl B7 rfl 77 [.int .u64 (m.word : Nat), .int .i64 m.clock, .slice (some ⟨mb, mo, none⟩) m.ths.length atc, .slice aha m.hist.length ahc] [.int .u64 (o.word : Nat), .int .i64 o.clock, .slice (some ⟨ob, oo, none⟩) o.ths.length qtc, .slice qha o.hist.length qhc] rfl hBB info77 rfl hone) ?_))
                go_roundw
                case rel => exact ⟨i + 1, by omega, by go_num, hnx⟩
                case measure => simp [intOf]; omega
              | true =>
                have hsw := Hsw.out.2 (by have := Hlq.out; rw [beq_iff_eq] at this; omega)
                have Hpz := Lib.hid (pz_all hsw.1)
                rw [hsw.2.1] at to1
                rw [hsw.2.2] at o0
                clear hsw tm0 tm2 to0 to2 o1 m2 tm1
                have hH : ∀ q, q < o.hist.length → ∃ b o', qha = some ⟨b, o', none⟩ := fun q hq => by
                  obtain ⟨b, o', e, _⟩ := HRo.out.mo hq
                  exact ⟨b, o', e⟩
                have HH := Lib.hid hH
                clear hH
                have HD1 : Hid (New W' W'.drew) := Lib.hid (Mods.refl _ _).drew
                obtain ⟨Wt, hWt⟩ : ∃ W, W'.drew = W := ⟨_, rfl⟩
                rw [hWt] at HD1 ⊢
                clear hWt
                obtain ⟨rk, hrk⟩ : ∃ z, rd k = z := ⟨_, rfl⟩
                rw [hrk] at r0 Hpz
                go_upto_region 21 with fail
                go_wp2_with fail
                go_loopw [14, 15] (fun c14 c15 wr => ∃ q : Nat, q ≤ o.hist.length ∧ c14 = .bool (pz o.hist k rk q) ∧ c15 = .int .i64 (q : Nat) ∧ New W' wr) (fun _ c _ => o.hist.length - (intOf c).toNat)
                case atStart => exact ⟨0, Nat.zero_le _, rfl, rfl, HD1.out⟩
                case round =>
                  obtain ⟨q, hq, rfl, rfl, hNq⟩ := hrel
                  have o3' := hNq.cell o3 id
                  by_cases hql : q < o.hist.length
                  · have hqd : decide ((q : Int) < (o.hist.length : Int)) = true := decide_eq_true (by omega)
                    have q0 : (0 : Int) ≤ (q : Int) := by omega
                    have q1 : (q : Int) < (o.hist.length : Int) := by omega
                    obtain ⟨hb, ho, hqe, t0, t5, t7⟩ := HRo.out.mo hql
                    have hps := pz_succ o.hist k rk q
                    obtain ⟨th, hth⟩ : ∃ z, (o.hist.getD q .no).thread = z := ⟨_, rfl⟩
                    obtain ⟨en, hen⟩ : ∃ z, (o.hist.getD q .no).en = z := ⟨_, rfl⟩
                    obtain ⟨okb, hokb⟩ : ∃ z, (o.hist.getD q .no).ok = z := ⟨_, rfl⟩
                    obtain ⟨pb', hpb⟩ : ∃ z, pz o.hist k rk q = z := ⟨_, rfl⟩
                    rw [hth, hen, hokb, hpb] at hps
                    rw [hth] at t0
                    rw [hen] at t5
                    rw [hokb] at t7
                    rw [hpb]
                    replace t0 := hNq.cell t0 id
                    replace t5 := hNq.cell t5 id
                    replace t7 := hNq.cell t7 id
                    have r0' := hNq.cell r0 id
                    rw [hqe] at o3'
                    have Hps := Lib.hid hps
                    obtain ⟨hn, hhn⟩ : ∃ n, o.hist.length = n := ⟨_, rfl⟩
                    have Hhn := Lib.hid hhn
                    have hq9 : q + 1 ≤ 100 := by have := Ho.out.2.1; omega
                    rw [hhn] at o3' q1 hqd
                    clear hhn
                    go_upto_region 24 with fail
                    cases pb' with
                    | true =>
                      refine piece (fun a a' Wq => a' = (a.put (some 139) (.bool true) |>.put (some 140) (.bool true) |>.put (some 141) (undef) |>.put (some 142) (undef) |>.put (some 143) (undef) |>.put (some 144) (undef) |>.put (some 145) (undef) |>.put (some 146) (undef) |>.put (some 147) (undef) |>.put (some 148) (undef) |>.put (some 149) (undef) |>.put (some 150) (undef) |>.put (some 151) (undef) |>.put (some 152) (undef) |>.put (some 153) (undef) |>.put (some 154) (undef) |>.put (some 155) (undef) |>.put (some 156) (undef) |>.put (some 157) (undef) |>.put (some 158) (undef) |>.put (some 159) (undef) |>.put (some 160) (undef) |>.put (some 161) (undef) |>.put (some 162) (undef) |>.put (some 163) (undef) |>.put (some 164) (undef) |>.put (some 165) (undef) |>.put (some 166) (undef) |>.put (some 167) (undef) |>.put (some 168) (undef) |>.put (some 169) (undef) |>.put (some 170) (.bool true) |>.put (some 14) (.bool true)) ∧ Wq = wr.drew) ?_ ?_
                      · refine wp_region_held (by kernel_rfl) (S := fun W => W = wr.drew) ?_
                        show wpAnyH _ _ _ _ _ _ _ _ wr.drew
                        replace o3' := (Mods.refl (fun _ => False) wr).drew.cell o3' id
                        replace t0 := (Mods.refl (fun _ => False) wr).drew.cell t0 id
                        replace t5 := (Mods.refl (fun _ => False) wr).drew.cell t5 id
                        replace t7 := (Mods.refl (fun _ => False) wr).drew.cell t7 id
                        replace r0' := (Mods.refl (fun _ => False) wr).drew.cell r0' id
                        obtain ⟨Wd, hWd⟩ : ∃ Wd, wr.drew = Wd := ⟨_, rfl⟩
                        rw [hWd] at o3' t0 t5 t7 r0' ⊢
                        have hS : Wd = Wd := rfl
                        clear hWd
                        refine anyH_take 0 (some 139) (.bool true) rfl rfl (by kernel_rfl) (by kernel_rfl) (by kernel_rfl) (fun _ _ _ h => h.elim) (.inl ⟨by rfl, fun W hW => by have e : W = Wd := hW; subst e; go_simp⟩) hS ?_
                        simp only [Act.put, List.setIfInBounds_toArray, List.set_cons_succ, List.set_cons_zero]
                        refine anyH_take 1 (some 140) (.bool true) rfl rfl (by kernel_rfl) (by kernel_rfl) (by kernel_rfl) (fun _ _ _ h => h.elim) (.inl ⟨by rfl, fun W hW => by have e : W = Wd := hW; subst e; go_simp⟩) hS ?_
                        simp only [Act.put, List.setIfInBounds_toArray, List.set_cons_succ, List.set_cons_zero]
                        refine anyH_take 2 (some 141) undef rfl rfl (by kernel_rfl) (by kernel_rfl) (by kernel_rfl) (fun _ _ _ h => h.elim) (.inr ⟨by rfl, rfl⟩) hS ?_
                        simp only [Act.put, List.setIfInBounds_toArray, List.set_cons_succ, List.set_cons_zero]
                        refine anyH_take 3 (some 142) undef rfl rfl (by kernel_rfl) (by kernel_rfl) (by kernel_rfl) (fun _ _ _ h => h.elim) (.inr ⟨by rfl, rfl⟩) hS ?_
                        simp only [Act.put, List.setIfInBounds_toArray, List.set_cons_succ, List.set_cons_zero]
                        refine anyH_take 4 (some 143) undef rfl rfl (by kernel_rfl) (by kernel_rfl) (by kernel_rfl) (fun _ _ _ h => h.elim) (.inr ⟨by rfl, rfl⟩) hS ?_
                        simp only [Act.put, List.setIfInBounds_toArray, List.set_cons_succ, List.set_cons_zero]
                        refine anyH_take 5 (some 144) undef rfl rfl (by kernel_rfl) (by kernel_rfl) (by kernel_rfl) (fun _ _ _ h => h.elim) (.inr ⟨by rfl, rfl⟩) hS ?_
                        simp only [Act.put, List.setIfInBounds_toArray, List.set_cons_succ, List.set_cons_zero]
                        refine anyH_take 6 (some 145) undef rfl rfl (by kernel_rfl) (by kernel_rfl) (by kernel_rfl) (fun _ _ _ h => h.elim) (.inr ⟨by rfl, rfl⟩) hS ?_
                        simp only [Act.put, List.setIfInBounds_toArray, List.set_cons_succ, List.set_cons_zero]
                        refine anyH_take 7 (some 146) undef rfl rfl (by kernel_rfl) (by kernel_rfl) (by kernel_rfl) (fun _ _ _ h => h.elim) (.inr ⟨by rfl, rfl⟩) hS ?_
                        simp only [Act.put, List.setIfInBounds_toArray, List.set_cons_succ, List.set_cons_zero]
                        refine anyH_take 8 (some 147) undef rfl rfl (by kernel_rfl) (by kernel_rfl) (by kernel_rfl) (fun _ _ _ h => h.elim) (.inr ⟨by rfl, rfl⟩) hS ?_
                        simp only [Act.put, List.setIfInBounds_toArray, List.set_cons_succ, List.set_cons_zero]
                        refine anyH_take 9 (some 148) undef rfl rfl (by kernel_rfl) (by kernel_rfl) (by kernel_rfl) (fun _ _ _ h => h.elim) (.inr ⟨by rfl, rfl⟩) hS ?_
                        simp only [Act.put, List.setIfInBounds_toArray, List.set_cons_succ, List.set_cons_zero]
                        refine anyH_take 10 (some 149) undef rfl rfl (by kernel_rfl) (by kernel_rfl) (by kernel_rfl) (fun _ _ _ h => h.elim) (.inr ⟨by rfl, rfl⟩) hS ?_
                        simp only [Act.put, List.setIfInBounds_toArray, List.set_cons_succ, List.set_cons_zero]
                        refine anyH_take 11 (some 150) undef rfl rfl (by kernel_rfl) (by kernel_rfl) (by kernel_rfl) (fun _ _ _ h => h.elim) (.inr ⟨by rfl, rfl⟩) hS ?_
                        simp only [Act.put, List.setIfInBounds_toArray, List.set_cons_succ, List.set_cons_zero]
                        refine anyH_take 12 (some 151) undef rfl rfl (by kernel_rfl) (by kernel_rfl) (by kernel_rfl) (fun _ _ _ h => h.elim) (.inr ⟨by rfl, rfl⟩) hS ?_
                        simp only [Act.put, List.setIfInBounds_toArray, List.set_cons_succ, List.set_cons_zero]
                        refine anyH_take 13 (some 152) undef rfl rfl (by kernel_rfl) (by kernel_rfl) (by kernel_rfl) (fun _ _ _ h => h.elim) (.inr ⟨by rfl, rfl⟩) hS ?_
                        simp only [Act.put, List.setIfInBounds_toArray, List.set_cons_succ, List.set_cons_zero]
                        refine anyH_take 14 (some 153) undef rfl rfl (by kernel_rfl) (by kernel_rfl) (by kernel_rfl) (fun _ _ _ h => h.elim) (.inr ⟨by rfl, rfl⟩) hS ?_
                        simp only [Act.put, List.setIfInBounds_toArray, List.set_cons_succ, List.set_cons_zero]
                        refine anyH_take 15 (some 154) undef rfl rfl (by kernel_rfl) (by kernel_rfl) (by kernel_rfl) (fun _ _ _ h => h.elim) (.inr ⟨by rfl, rfl⟩) hS ?_
                        simp only [Act.put, List.setIfInBounds_toArray, List.set_cons_succ, List.set_cons_zero]
                        refine anyH_take 16 (some 155) undef rfl rfl (by kernel_rfl) (by kernel_rfl) (by kernel_rfl) (fun _ _ _ h => h.elim) (.inr ⟨by rfl, rfl⟩) hS ?_
                        simp only [Act.put, List.setIfInBounds_toArray, List.set_cons_succ, List.set_cons_zero]
                        refine anyH_take 17 (some 156) undef rfl rfl (by kernel_rfl) (by kernel_rfl) (by kernel_rfl) (fun _ _ _ h => h.elim) (.inr ⟨by rfl, rfl⟩) hS ?_
                        simp only [Act.put, List.setIfInBounds_toArray, List.set_cons_succ, List.set_cons_zero]
                        refine anyH_take 18 (some 157) undef rfl rfl (by kernel_rfl) (by kernel_rfl) (by kernel_rfl) (fun _ _ _ h => h.elim) (.inr ⟨by rfl, rfl⟩) hS ?_
                        simp only [Act.put, List.setIfInBounds_toArray, List.set_cons_succ, List.set_cons_zero]
                        refine anyH_take 19 (some 158) undef rfl rfl (by kernel_rfl) (by kernel_rfl) (by kernel_rfl) (fun _ _ _ h => h.elim) (.inr ⟨by rfl, rfl⟩) hS ?_
                        simp only [Act.put, List.setIfInBounds_toArray, List.set_cons_succ, List.set_cons_zero]
                        refine anyH_take 20 (some 159) undef rfl rfl (by kernel_rfl) (by kernel_rfl) (by kernel_rfl) (fun _ _ _ h => h.elim) (.inr ⟨by rfl, rfl⟩) hS ?_
                        simp only [Act.put, List.setIfInBounds_toArray, List.set_cons_succ, List.set_cons_zero]
                        refine anyH_take 21 (some 160) undef rfl rfl (by kernel_rfl) (by kernel_rfl) (by kernel_rfl) (fun _ _ _ h => h.elim) (.inr ⟨by rfl, rfl⟩) hS ?_
                        simp only [Act.put, List.setIfInBounds_toArray, List.set_cons_succ, List.set_cons_zero]
                        refine anyH_take 22 (some 161) undef rfl rfl (by kernel_rfl) (by kernel_rfl) (by kernel_rfl) (fun _ _ _ h => h.elim) (.inr ⟨by rfl, rfl⟩) hS ?_
                        simp only [Act.put, List.setIfInBounds_toArray, List.set_cons_succ, List.set_cons_zero]
                        refine anyH_take 23 (some 162) undef rfl rfl (by kernel_rfl) (by kernel_rfl) (by kernel_rfl) (fun _ _ _ h => h.elim) (.inr ⟨by rfl, rfl⟩) hS ?_
                        simp only [Act.put, List.setIfInBounds_toArray, List.set_cons_succ, List.set_cons_zero]
                        refine anyH_take 24 (some 163) undef rfl rfl (by kernel_rfl) (by kernel_rfl) (by kernel_rfl) (fun _ _ _ h => h.elim) (.inr ⟨by rfl, rfl⟩) hS ?_
                        simp only [Act.put, List.setIfInBounds_toArray, List.set_cons_succ, List.set_cons_zero]
                        refine anyH_take 25 (some 164) undef rfl rfl (by kernel_rfl) (by kernel_rfl) (by kernel_rfl) (fun _ _ _ h => h.elim) (.inr ⟨by rfl, rfl⟩) hS ?_
                        simp only [Act.put, List.setIfInBounds_toArray, List.set_cons_succ, List.set_cons_zero]
                        refine anyH_take 26 (some 165) undef rfl rfl (by kernel_rfl) (by kernel_rfl) (by kernel_rfl) (fun _ _ _ h => h.elim) (.inr ⟨by rfl, rfl⟩) hS ?_
                        simp only [Act.put, List.setIfInBounds_toArray, List.set_cons_succ, List.set_cons_zero]
                        refine anyH_take 27 (some 166) undef rfl rfl (by kernel_rfl) (by kernel_rfl) (by kernel_rfl) (fun _ _ _ h => h.elim) (.inr ⟨by rfl, rfl⟩) hS ?_
                        simp only [Act.put, List.setIfInBounds_toArray, List.set_cons_succ, List.set_cons_zero]
                        refine anyH_take 28 (some 167) undef rfl rfl (by kernel_rfl) (by kernel_rfl) (by kernel_rfl) (fun _ _ _ h => h.elim) (.inr ⟨by rfl, rfl⟩) hS ?_
                        simp only [Act.put, List.setIfInBounds_toArray, List.set_cons_succ, List.set_cons_zero]
                        refine anyH_take 29 (some 168) undef rfl rfl (by kernel_rfl) (by kernel_rfl) (by kernel_rfl) (fun _ _ _ h => h.elim) (.inr ⟨by rfl, rfl⟩) hS ?_
                        simp only [Act.put, List.setIfInBounds_toArray, List.set_cons_succ, List.set_cons_zero]
                        refine anyH_take 30 (some 169) undef rfl rfl (by kernel_rfl) (by kernel_rfl) (by kernel_rfl) (fun _ _ _ h => h.elim) (.inr ⟨by rfl, rfl⟩) hS ?_
                        simp only [Act.put, List.setIfInBounds_toArray, List.set_cons_succ, List.set_cons_zero]
                        refine anyH_take 31 (some 170) (.bool true) rfl rfl (by kernel_rfl) (by kernel_rfl) (by kernel_rfl) (fun _ _ _ h => h.elim) (.inl ⟨by rfl, fun W hW => by have e : W = Wd := hW; subst e; go_simp⟩) hS ?_
                        simp only [Act.put, List.setIfInBounds_toArray, List.set_cons_succ, List.set_cons_zero]
                        refine anyH_take 32 (some 14) (.bool true) rfl rfl (by kernel_rfl) (by kernel_rfl) (by kernel_rfl) (fun _ _ _ h => h.elim) (.inl ⟨by rfl, fun W hW => by have e : W = Wd := hW; subst e; go_simp⟩) hS ?_
                        simp only [Act.put, List.setIfInBounds_toArray, List.set_cons_succ, List.set_cons_zero]
                        refine wpAnyH_done (by kernel_rfl) ?_ _
                        exact ⟨rfl, rfl⟩
                      · rintro a' Wz ⟨rfl, rfl⟩
                        simp only [Act.put, List.setIfInBounds_toArray, List.set_cons_succ, List.set_cons_zero]
                        have hnx : pz o.hist k rk (q + 1) = true := by rw [Hps.out]; simp [*]
                        clear o3' t0 t5 t7 r0'
                        go_wp2_with fail
                        go_roundw
                        case rel => exact ⟨q + 1, by omega, by rw [hnx], by go_num, hNq.drew⟩
                        case measure => simp [intOf]; omega
                    | false =>
                      by_cases ht : th = (k : Int)
                      · have e1 : (th != (k : Int)) = false := by rw [ht]; simp
                        refine piece (fun a a' Wq => a' = (a.put (some 139) (.bool false) |>.put (some 140) (.bool false) |>.put (some 141) (.pointer (some ⟨C, 3, none⟩)) |>.put (some 142) (.slice (some ⟨hb, ho, none⟩) hn qhc) |>.put (some 143) (.int .i64 (q : Nat)) |>.put (some 144) (.pointer (some ⟨hb, ho + q * 8, none⟩)) |>.put (some 145) (.pointer (some ⟨hb, ho + q * 8, none⟩)) |>.put (some 146) (.int .i64 th) |>.put (some 147) (.int .i64 (k : Nat)) |>.put (some 148) (.bool false) |>.put (some 149) (.bool false) |>.put (some 150) (undef) |>.put (some 151) (undef) |>.put (some 152) (undef) |>.put (some 153) (undef) |>.put (some 154) (undef) |>.put (some 155) (undef) |>.put (some 156) (undef) |>.put (some 157) (undef) |>.put (some 158) (undef) |>.put (some 159) (undef) |>.put (some 160) (.bool false) |>.put (some 161) (.bool false) |>.put (some 162) (undef) |>.put (some 163) (undef) |>.put (some 164) (undef) |>.put (some 165) (undef) |>.put (some 166) (undef) |>.put (some 167) (undef) |>.put (some 168) (undef) |>.put (some 169) (.bool false) |>.put (some 170) (.bool false) |>.put (some 14) (.bool false)) ∧ Wq = wr.drew) ?_ ?_
                        · refine wp_region_held (by kernel_rfl) (S := fun W => W = wr.drew) ?_
                          show wpAnyH _ _ _ _ _ _ _ _ wr.drew
                          replace o3' := (Mods.refl (fun _ => False) wr).drew.cell o3' id
                          replace t0 := (Mods.refl (fun _ => False) wr).drew.cell t0 id
                          replace t5 := (Mods.refl (fun _ => False) wr).drew.cell t5 id
                          replace t7 := (Mods.refl (fun _ => False) wr).drew.cell t7 id
                          replace r0' := (Mods.refl (fun _ => False) wr).drew.cell r0' id
                          obtain ⟨Wd, hWd⟩ : ∃ Wd, wr.drew = Wd := ⟨_, rfl⟩
                          rw [hWd] at o3' t0 t5 t7 r0' ⊢
                          have hS : Wd = Wd := rfl
                          clear hWd
                          refine anyH_take 0 (some 139) (.bool false) rfl rfl (by kernel_rfl) (by kernel_rfl) (by kernel_rfl) (fun _ _ _ h => h.elim) (.inl ⟨by rfl, fun W hW => by have e : W = Wd := hW; subst e; go_simp⟩) hS ?_
                          simp only [Act.put, List.setIfInBounds_toArray, List.set_cons_succ, List.set_cons_zero]
                          refine anyH_take 1 (some 140) (.bool false) rfl rfl (by kernel_rfl) (by kernel_rfl) (by kernel_rfl) (fun _ _ _ h => h.elim) (.inl ⟨by rfl, fun W hW => by have e : W = Wd := hW; subst e; go_simp⟩) hS ?_
                          simp only [Act.put, List.setIfInBounds_toArray, List.set_cons_succ, List.set_cons_zero]
                          refine anyH_take 2 (some 141) (.pointer (some ⟨C, 3, none⟩)) rfl rfl (by kernel_rfl) (by kernel_rfl) (by kernel_rfl) (fun _ _ _ h => h.elim) (.inl ⟨by rfl, fun W hW => by have e : W = Wd := hW; subst e; go_simp⟩) hS ?_
                          simp only [Act.put, List.setIfInBounds_toArray, List.set_cons_succ, List.set_cons_zero]
                          refine anyH_take 3 (some 142) (.slice (some ⟨hb, ho, none⟩) hn qhc) rfl rfl (by kernel_rfl) (by kernel_rfl) (by kernel_rfl) (fun _ _ _ h => h.elim) (.inl ⟨by rfl, fun W hW => by have e : W = Wd := hW; subst e; go_simp⟩) hS ?_
                          simp only [Act.put, List.setIfInBounds_toArray, List.set_cons_succ, List.set_cons_zero]
                          refine anyH_take 4 (some 143) (.int .i64 (q : Nat)) rfl rfl (by kernel_rfl) (by kernel_rfl) (by kernel_rfl) (fun _ _ _ h => h.elim) (.inl ⟨by rfl, fun W hW => by have e : W = Wd := hW; subst e; go_simp⟩) hS ?_
                          simp only [Act.put, List.setIfInBounds_toArray, List.set_cons_succ, List.set_cons_zero]
                          refine anyH_take 5 (some 144) (.pointer (some ⟨hb, ho + q * 8, none⟩)) rfl rfl (by kernel_rfl) (by kernel_rfl) (by kernel_rfl) (fun _ _ _ h => h.elim) (.inl ⟨by rfl, fun W hW => by have e : W = Wd := hW; subst e; go_simp⟩) hS ?_
                          simp only [Act.put, List.setIfInBounds_toArray, List.set_cons_succ, List.set_cons_zero]
                          refine anyH_take 6 (some 145) (.pointer (some ⟨hb, ho + q * 8, none⟩)) rfl rfl (by kernel_rfl) (by kernel_rfl) (by kernel_rfl) (fun _ _ _ h => h.elim) (.inl ⟨by rfl, fun W hW => by have e : W = Wd := hW; subst e; go_simp⟩) hS ?_
                          simp only [Act.put, List.setIfInBounds_toArray, List.set_cons_succ, List.set_cons_zero]
                          refine anyH_take 7 (some 146) (.int .i64 th) rfl rfl (by kernel_rfl) (by kernel_rfl) (by kernel_rfl) (fun _ _ _ h => h.elim) (.inl ⟨by rfl, fun W hW => by have e : W = Wd := hW; subst e; go_simp⟩) hS ?_
                          simp only [Act.put, List.setIfInBounds_toArray, List.set_cons_succ, List.set_cons_zero]
                          refine anyH_take 8 (some 147) (.int .i64 (k : Nat)) rfl rfl (by kernel_rfl) (by kernel_rfl) (by kernel_rfl) (fun _ _ _ h => h.elim) (.inl ⟨by rfl, fun W hW => by have e : W = Wd := hW; subst e; go_simp⟩) hS ?_
                          simp only [Act.put, List.setIfInBounds_toArray, List.set_cons_succ, List.set_cons_zero]
                          refine anyH_take 9 (some 148) (.bool false) rfl rfl (by kernel_rfl) (by kernel_rfl) (by kernel_rfl) (fun _ _ _ h => h.elim) (.inl ⟨by rfl, fun W hW => by have e : W = Wd := hW; subst e; go_simp⟩) hS ?_
                          simp only [Act.put, List.setIfInBounds_toArray, List.set_cons_succ, List.set_cons_zero]
                          refine anyH_take 10 (some 149) (.bool false) rfl rfl (by kernel_rfl) (by kernel_rfl) (by kernel_rfl) (fun _ _ _ h => h.elim) (.inl ⟨by rfl, fun W hW => by have e : W = Wd := hW; subst e; go_simp⟩) hS ?_
                          simp only [Act.put, List.setIfInBounds_toArray, List.set_cons_succ, List.set_cons_zero]
                          refine anyH_take 11 (some 150) undef rfl rfl (by kernel_rfl) (by kernel_rfl) (by kernel_rfl) (fun _ _ _ h => h.elim) (.inr ⟨by rfl, rfl⟩) hS ?_
                          simp only [Act.put, List.setIfInBounds_toArray, List.set_cons_succ, List.set_cons_zero]
                          refine anyH_take 12 (some 151) undef rfl rfl (by kernel_rfl) (by kernel_rfl) (by kernel_rfl) (fun _ _ _ h => h.elim) (.inr ⟨by rfl, rfl⟩) hS ?_
                          simp only [Act.put, List.setIfInBounds_toArray, List.set_cons_succ, List.set_cons_zero]
                          refine anyH_take 13 (some 152) undef rfl rfl (by kernel_rfl) (by kernel_rfl) (by kernel_rfl) (fun _ _ _ h => h.elim) (.inr ⟨by rfl, rfl⟩) hS ?_
                          simp only [Act.put, List.setIfInBounds_toArray, List.set_cons_succ, List.set_cons_zero]
                          refine anyH_take 14 (some 153) undef rfl rfl (by kernel_rfl) (by kernel_rfl) (by kernel_rfl) (fun _ _ _ h => h.elim) (.inr ⟨by rfl, rfl⟩) hS ?_
                          simp only [Act.put, List.setIfInBounds_toArray, List.set_cons_succ, List.set_cons_zero]
                          refine anyH_take 15 (some 154) undef rfl rfl (by kernel_rfl) (by kernel_rfl) (by kernel_rfl) (fun _ _ _ h => h.elim) (.inr ⟨by rfl, rfl⟩) hS ?_
                          simp only [Act.put, List.setIfInBounds_toArray, List.set_cons_succ, List.set_cons_zero]
                          refine anyH_take 16 (some 155) undef rfl rfl (by kernel_rfl) (by kernel_rfl) (by kernel_rfl) (fun _ _ _ h => h.elim) (.inr ⟨by rfl, rfl⟩) hS ?_
                          simp only [Act.put, List.setIfInBounds_toArray, List.set_cons_succ, List.set_cons_zero]
                          refine anyH_take 17 (some 156) undef rfl rfl (by kernel_rfl) (by kernel_rfl) (by kernel_rfl) (fun _ _ _ h => h.elim) (.inr ⟨by rfl, rfl⟩) hS ?_
                          simp only [Act.put, List.setIfInBounds_toArray, List.set_cons_succ, List.set_cons_zero]
                          refine anyH_take 18 (some 157) undef rfl rfl (by kernel_rfl) (by kernel_rfl) (by kernel_rfl) (fun _ _ _ h => h.elim) (.inr ⟨by rfl, rfl⟩) hS ?_
                          simp only [Act.put, List.setIfInBounds_toArray, List.set_cons_succ, List.set_cons_zero]
                          refine anyH_take 19 (some 158) undef rfl rfl (by kernel_rfl) (by kernel_rfl) (by kernel_rfl) (fun _ _ _ h => h.elim) (.inr ⟨by rfl, rfl⟩) hS ?_
                          simp only [Act.put, List.setIfInBounds_toArray, List.set_cons_succ, List.set_cons_zero]
                          refine anyH_take 20 (some 159) undef rfl rfl (by kernel_rfl) (by kernel_rfl) (by kernel_rfl) (fun _ _ _ h => h.elim) (.inr ⟨by rfl, rfl⟩) hS ?_
                          simp only [Act.put, List.setIfInBounds_toArray, List.set_cons_succ, List.set_cons_zero]
                          refine anyH_take 21 (some 160) (.bool false) rfl rfl (by kernel_rfl) (by kernel_rfl) (by kernel_rfl) (fun _ _ _ h => h.elim) (.inl ⟨by rfl, fun W hW => by have e : W = Wd := hW; subst e; go_simp⟩) hS ?_
                          simp only [Act.put, List.setIfInBounds_toArray, List.set_cons_succ, List.set_cons_zero]
                          refine anyH_take 22 (some 161) (.bool false) rfl rfl (by kernel_rfl) (by kernel_rfl) (by kernel_rfl) (fun _ _ _ h => h.elim) (.inl ⟨by rfl, fun W hW => by have e : W = Wd := hW; subst e; go_simp⟩) hS ?_
                          simp only [Act.put, List.setIfInBounds_toArray, List.set_cons_succ, List.set_cons_zero]
                          refine anyH_take 23 (some 162) undef rfl rfl (by kernel_rfl) (by kernel_rfl) (by kernel_rfl) (fun _ _ _ h => h.elim) (.inr ⟨by rfl, rfl⟩) hS ?_
                          simp only [Act.put, List.setIfInBounds_toArray, List.set_cons_succ, List.set_cons_zero]
                          refine anyH_take 24 (some 163) undef rfl rfl (by kernel_rfl) (by kernel_rfl) (by kernel_rfl) (fun _ _ _ h => h.elim) (.inr ⟨by rfl, rfl⟩) hS ?_
                          simp only [Act.put, List.setIfInBounds_toArray, List.set_cons_succ, List.set_cons_zero]
                          refine anyH_take 25 (some 164) undef rfl rfl (by kernel_rfl) (by kernel_rfl) (by kernel_rfl) (fun _ _ _ h => h.elim) (.inr ⟨by rfl, rfl⟩) hS ?_
                          simp only [Act.put, List.setIfInBounds_toArray, List.set_cons_succ, List.set_cons_zero]
                          refine anyH_take 26 (some 165) undef rfl rfl (by kernel_rfl) (by kernel_rfl) (by kernel_rfl) (fun _ _ _ h => h.elim) (.inr ⟨by rfl, rfl⟩) hS ?_
                          simp only [Act.put, List.setIfInBounds_toArray, List.set_cons_succ, List.set_cons_zero]
                          refine anyH_take 27 (some 166) undef rfl rfl (by kernel_rfl) (by kernel_rfl) (by kernel_rfl) (fun _ _ _ h => h.elim) (.inr ⟨by rfl, rfl⟩) hS ?_
                          simp only [Act.put, List.setIfInBounds_toArray, List.set_cons_succ, List.set_cons_zero]
                          refine anyH_take 28 (some 167) undef rfl rfl (by kernel_rfl) (by kernel_rfl) (by kernel_rfl) (fun _ _ _ h => h.elim) (.inr ⟨by rfl, rfl⟩) hS ?_
                          simp only [Act.put, List.setIfInBounds_toArray, List.set_cons_succ, List.set_cons_zero]
                          refine anyH_take 29 (some 168) undef rfl rfl (by kernel_rfl) (by kernel_rfl) (by kernel_rfl) (fun _ _ _ h => h.elim) (.inr ⟨by rfl, rfl⟩) hS ?_
                          simp only [Act.put, List.setIfInBounds_toArray, List.set_cons_succ, List.set_cons_zero]
                          refine anyH_take 30 (some 169) (.bool false) rfl rfl (by kernel_rfl) (by kernel_rfl) (by kernel_rfl) (fun _ _ _ h => h.elim) (.inl ⟨by rfl, fun W hW => by have e : W = Wd := hW; subst e; go_simp⟩) hS ?_
                          simp only [Act.put, List.setIfInBounds_toArray, List.set_cons_succ, List.set_cons_zero]
                          refine anyH_take 31 (some 170) (.bool false) rfl rfl (by kernel_rfl) (by kernel_rfl) (by kernel_rfl) (fun _ _ _ h => h.elim) (.inl ⟨by rfl, fun W hW => by have e : W = Wd := hW; subst e; go_simp⟩) hS ?_
                          simp only [Act.put, List.setIfInBounds_toArray, List.set_cons_succ, List.set_cons_zero]
                          refine anyH_take 32 (some 14) (.bool false) rfl rfl (by kernel_rfl) (by kernel_rfl) (by kernel_rfl) (fun _ _ _ h => h.elim) (.inl ⟨by rfl, fun W hW => by have e : W = Wd := hW; subst e; go_simp⟩) hS ?_
                          simp only [Act.put, List.setIfInBounds_toArray, List.set_cons_succ, List.set_cons_zero]
                          refine wpAnyH_done (by kernel_rfl) ?_ _
                          exact ⟨rfl, rfl⟩
                        · rintro a' Wz ⟨rfl, rfl⟩
                          simp only [Act.put, List.setIfInBounds_toArray, List.set_cons_succ, List.set_cons_zero]
                          have hnx : pz o.hist k rk (q + 1) = false := by rw [Hps.out]; simp [*]
                          clear o3' t0 t5 t7 r0'
                          go_wp2_with fail
                          go_roundw
                          case rel => exact ⟨q + 1, by omega, by rw [hnx], by go_num, hNq.drew⟩
                          case measure => simp [intOf]; omega
                      · have e1 : (th != (k : Int)) = true := by simpa using ht
                        by_cases he : rk < en
                        · have e2 : decide (rk < en) = true := decide_eq_true he
                          refine piece (fun a a' Wq => a' = (a.put (some 139) (.bool false) |>.put (some 140) (.bool false) |>.put (some 141) (.pointer (some ⟨C, 3, none⟩)) |>.put (some 142) (.slice (some ⟨hb, ho, none⟩) hn qhc) |>.put (some 143) (.int .i64 (q : Nat)) |>.put (some 144) (.pointer (some ⟨hb, ho + q * 8, none⟩)) |>.put (some 145) (.pointer (some ⟨hb, ho + q * 8, none⟩)) |>.put (some 146) (.int .i64 th) |>.put (some 147) (.int .i64 (k : Nat)) |>.put (some 148) (.bool true) |>.put (some 149) (.bool true) |>.put (some 150) (.pointer (some ⟨C, 3, none⟩)) |>.put (some 151) (.slice (some ⟨hb, ho, none⟩) hn qhc) |>.put (some 152) (.int .i64 (q : Nat)) |>.put (some 153) (.pointer (some ⟨hb, ho + q * 8, none⟩)) |>.put (some 154) (.pointer (some ⟨hb, ho + q * 8 + 5, none⟩)) |>.put (some 155) (.int .i64 en) |>.put (some 156) (.int .i64 (k : Nat)) |>.put (some 157) (.pointer (some ⟨RB, k, none⟩)) |>.put (some 158) (.int .i64 rk) |>.put (some 159) (.bool true) |>.put (some 160) (.bool true) |>.put (some 161) (.bool true) |>.put (some 162) (.pointer (some ⟨C, 3, none⟩)) |>.put (some 163) (.slice (some ⟨hb, ho, none⟩) hn qhc) |>.put (some 164) (.int .i64 (q : Nat)) |>.put (some 165) (.pointer (some ⟨hb, ho + q * 8, none⟩)) |>.put (some 166) (.pointer (some ⟨hb, ho + q * 8 + 6, none⟩)) |>.put (some 167) (.pointer (some ⟨hb, ho + q * 8 + 6 + 1, none⟩)) |>.put (some 168) (.bool okb) |>.put (some 169) (.bool okb) |>.put (some 170) (.bool okb) |>.put (some 14) (.bool okb)) ∧ Wq = wr.drew) ?_ ?_
                          · refine wp_region_held (by kernel_rfl) (S := fun W => W = wr.drew) ?_
                            show wpAnyH _ _ _ _ _ _ _ _ wr.drew
                            replace o3' := (Mods.refl (fun _ => False) wr).drew.cell o3' id
                            replace t0 := (Mods.refl (fun _ => False) wr).drew.cell t0 id
                            replace t5 := (Mods.refl (fun _ => False) wr).drew.cell t5 id
                            replace t7 := (Mods.refl (fun _ => False) wr).drew.cell t7 id
                            replace r0' := (Mods.refl (fun _ => False) wr).drew.cell r0' id
                            obtain ⟨Wd, hWd⟩ : ∃ Wd, wr.drew = Wd := ⟨_, rfl⟩
                            rw [hWd] at o3' t0 t5 t7 r0' ⊢
                            have hS : Wd = Wd := rfl
                            clear hWd
                            refine anyH_take 0 (some 139) (.bool false) rfl rfl (by kernel_rfl) (by kernel_rfl) (by kernel_rfl) (fun _ _ _ h => h.elim) (.inl ⟨by rfl, fun W hW => by have e : W = Wd := hW; subst e; go_simp⟩) hS ?_
                            simp only [Act.put, List.setIfInBounds_toArray, List.set_cons_succ, List.set_cons_zero]
                            refine anyH_take 1 (some 140) (.bool false) rfl rfl (by kernel_rfl) (by kernel_rfl) (by kernel_rfl) (fun _ _ _ h => h.elim) (.inl ⟨by rfl, fun W hW => by have e : W = Wd := hW; subst e; go_simp⟩) hS ?_
                            simp only [Act.put, List.setIfInBounds_toArray, List.set_cons_succ, List.set_cons_zero]
                            refine anyH_take 2 (some 141) (.pointer (some ⟨C, 3, none⟩)) rfl rfl (by kernel_rfl) (by kernel_rfl) (by kernel_rfl) (fun _ _ _ h => h.elim) (.inl ⟨by rfl, fun W hW => by have e : W = Wd := hW; subst e; go_simp⟩) hS ?_
                            simp only [Act.put, List.setIfInBounds_toArray, List.set_cons_succ, List.set_cons_zero]
                            refine anyH_take 3 (some 142) (.slice (some ⟨hb, ho, none⟩) hn qhc) rfl rfl (by kernel_rfl) (by kernel_rfl) (by kernel_rfl) (fun _ _ _ h => h.elim) (.inl ⟨by rfl, fun W hW => by have e : W = Wd := hW; subst e; go_simp⟩) hS ?_
                            simp only [Act.put, List.setIfInBounds_toArray, List.set_cons_succ, List.set_cons_zero]
                            refine anyH_take 4 (some 143) (.int .i64 (q : Nat)) rfl rfl (by kernel_rfl) (by kernel_rfl) (by kernel_rfl) (fun _ _ _ h => h.elim) (.inl ⟨by rfl, fun W hW => by have e : W = Wd := hW; subst e; go_simp⟩) hS ?_
                            simp only [Act.put, List.setIfInBounds_toArray, List.set_cons_succ, List.set_cons_zero]
                            refine anyH_take 5 (some 144) (.pointer (some ⟨hb, ho + q * 8, none⟩)) rfl rfl (by kernel_rfl) (by kernel_rfl) (by kernel_rfl) (fun _ _ _ h => h.elim) (.inl ⟨by rfl, fun W hW => by have e : W = Wd := hW; subst e; go_simp⟩) hS ?_
                            simp only [Act.put, List.setIfInBounds_toArray, List.set_cons_succ, List.set_cons_zero]
                            refine anyH_take 6 (some 145) (.pointer (some ⟨hb, ho + q * 8, none⟩)) rfl rfl (by kernel_rfl) (by kernel_rfl) (by kernel_rfl) (fun _ _ _ h => h.elim) (.inl ⟨by rfl, fun W hW => by have e : W = Wd := hW; subst e; go_simp⟩) hS ?_
                            simp only [Act.put, List.setIfInBounds_toArray, List.set_cons_succ, List.set_cons_zero]
                            refine anyH_take 7 (some 146) (.int .i64 th) rfl rfl (by kernel_rfl) (by kernel_rfl) (by kernel_rfl) (fun _ _ _ h => h.elim) (.inl ⟨by rfl, fun W hW => by have e : W = Wd := hW; subst e; go_simp⟩) hS ?_
                            simp only [Act.put, List.setIfInBounds_toArray, List.set_cons_succ, List.set_cons_zero]
                            refine anyH_take 8 (some 147) (.int .i64 (k : Nat)) rfl rfl (by kernel_rfl) (by kernel_rfl) (by kernel_rfl) (fun _ _ _ h => h.elim) (.inl ⟨by rfl, fun W hW => by have e : W = Wd := hW; subst e; go_simp⟩) hS ?_
                            simp only [Act.put, List.setIfInBounds_toArray, List.set_cons_succ, List.set_cons_zero]
                            refine anyH_take 9 (some 148) (.bool true) rfl rfl (by kernel_rfl) (by kernel_rfl) (by kernel_rfl) (fun _ _ _ h => h.elim) (.inl ⟨by rfl, fun W hW => by have e : W = Wd := hW; subst e; go_simp⟩) hS ?_
                            simp only [Act.put, List.setIfInBounds_toArray, List.set_cons_succ, List.set_cons_zero]
                            refine anyH_take 10 (some 149) (.bool true) rfl rfl (by kernel_rfl) (by kernel_rfl) (by kernel_rfl) (fun _ _ _ h => h.elim) (.inl ⟨by rfl, fun W hW => by have e : W = Wd := hW; subst e; go_simp⟩) hS ?_
                            simp only [Act.put, List.setIfInBounds_toArray, List.set_cons_succ, List.set_cons_zero]
                            refine anyH_take 11 (some 150) (.pointer (some ⟨C, 3, none⟩)) rfl rfl (by kernel_rfl) (by kernel_rfl) (by kernel_rfl) (fun _ _ _ h => h.elim) (.inl ⟨by rfl, fun W hW => by have e : W = Wd := hW; subst e; go_simp⟩) hS ?_
                            simp only [Act.put, List.setIfInBounds_toArray, List.set_cons_succ, List.set_cons_zero]
                            refine anyH_take 12 (some 151) (.slice (some ⟨hb, ho, none⟩) hn qhc) rfl rfl (by kernel_rfl) (by kernel_rfl) (by kernel_rfl) (fun _ _ _ h => h.elim) (.inl ⟨by rfl, fun W hW => by have e : W = Wd := hW; subst e; go_simp⟩) hS ?_
                            simp only [Act.put, List.setIfInBounds_toArray, List.set_cons_succ, List.set_cons_zero]
                            refine anyH_take 13 (some 152) (.int .i64 (q : Nat)) rfl rfl (by kernel_rfl) (by kernel_rfl) (by kernel_rfl) (fun _ _ _ h => h.elim) (.inl ⟨by rfl, fun W hW => by have e : W = Wd := hW; subst e; go_simp⟩) hS ?_
                            simp only [Act.put, List.setIfInBounds_toArray, List.set_cons_succ, List.set_cons_zero]
                            refine anyH_take 14 (some 153) (.pointer (some ⟨hb, ho + q * 8, none⟩)) rfl rfl (by kernel_rfl) (by kernel_rfl) (by kernel_rfl) (fun _ _ _ h => h.elim) (.inl ⟨by rfl, fun W hW => by have e : W = Wd := hW; subst e; go_simp⟩) hS ?_
                            simp only [Act.put, List.setIfInBounds_toArray, List.set_cons_succ, List.set_cons_zero]
                            refine anyH_take 15 (some 154) (.pointer (some ⟨hb, ho + q * 8 + 5, none⟩)) rfl rfl (by kernel_rfl) (by kernel_rfl) (by kernel_rfl) (fun _ _ _ h => h.elim) (.inl ⟨by rfl, fun W hW => by have e : W = Wd := hW; subst e; go_simp⟩) hS ?_
                            simp only [Act.put, List.setIfInBounds_toArray, List.set_cons_succ, List.set_cons_zero]
                            refine anyH_take 16 (some 155) (.int .i64 en) rfl rfl (by kernel_rfl) (by kernel_rfl) (by kernel_rfl) (fun _ _ _ h => h.elim) (.inl ⟨by rfl, fun W hW => by have e : W = Wd := hW; subst e; go_simp⟩) hS ?_
                            simp only [Act.put, List.setIfInBounds_toArray, List.set_cons_succ, List.set_cons_zero]
                            refine anyH_take 17 (some 156) (.int .i64 (k : Nat)) rfl rfl (by kernel_rfl) (by kernel_rfl) (by kernel_rfl) (fun _ _ _ h => h.elim) (.inl ⟨by rfl, fun W hW => by have e : W = Wd := hW; subst e; go_simp⟩) hS ?_
                            simp only [Act.put, List.setIfInBounds_toArray, List.set_cons_succ, List.set_cons_zero]
                            refine anyH_take 18 (some 157) (.pointer (some ⟨RB, k, none⟩)) rfl rfl (by kernel_rfl) (by kernel_rfl) (by kernel_rfl) (fun _ _ _ h => h.elim) (.inl ⟨by rfl, fun W hW => by have e : W = Wd := hW; subst e; go_simp⟩) hS ?_
                            simp only [Act.put, List.setIfInBounds_toArray, List.set_cons_succ, List.set_cons_zero]
                            refine anyH_take 19 (some 158) (.int .i64 rk) rfl rfl (by kernel_rfl) (by kernel_rfl) (by kernel_rfl) (fun _ _ _ h => h.elim) (.inl ⟨by rfl, fun W hW => by have e : W = Wd := hW; subst e; go_simp⟩) hS ?_
                            simp only [Act.put, List.setIfInBounds_toArray, List.set_cons_succ, List.set_cons_zero]
                            refine anyH_take 20 (some 159) (.bool true) rfl rfl (by kernel_rfl) (by kernel_rfl) (by kernel_rfl) (fun _ _ _ h => h.elim) (.inl ⟨by rfl, fun W hW => by have e : W = Wd := hW; subst e; go_simp⟩) hS ?_
                            simp only [Act.put, List.setIfInBounds_toArray, List.set_cons_succ, List.set_cons_zero]
                            refine anyH_take 21 (some 160) (.bool true) rfl rfl (by kernel_rfl) (by kernel_rfl) (by kernel_rfl) (fun _ _ _ h => h.elim) (.inl ⟨by rfl, fun W hW => by have e : W = Wd := hW; subst e; go_simp⟩) hS ?_
                            simp only [Act.put, List.setIfInBounds_toArray, List.set_cons_succ, List.set_cons_zero]
                            refine anyH_take 22 (some 161) (.bool true) rfl rfl (by kernel_rfl) (by kernel_rfl) (by kernel_rfl) (fun _ _ _ h => h.elim) (.inl ⟨by rfl, fun W hW => by have e : W = Wd := hW; subst e; go_simp⟩) hS ?_
                            simp only [Act.put, List.setIfInBounds_toArray, List.set_cons_succ, List.set_cons_zero]
                            refine anyH_take 23 (some 162) (.pointer (some ⟨C, 3, none⟩)) rfl rfl (by kernel_rfl) (by kernel_rfl) (by kernel_rfl) (fun _ _ _ h => h.elim) (.inl ⟨by rfl, fun W hW => by have e : W = Wd := hW; subst e; go_simp⟩) hS ?_
                            simp only [Act.put, List.setIfInBounds_toArray, List.set_cons_succ, List.set_cons_zero]
                            refine anyH_take 24 (some 163) (.slice (some ⟨hb, ho, none⟩) hn qhc) rfl rfl (by kernel_rfl) (by kernel_rfl) (by kernel_rfl) (fun _ _ _ h => h.elim) (.inl ⟨by rfl, fun W hW => by have e : W = Wd := hW; subst e; go_simp⟩) hS ?_
                            simp only [Act.put, List.setIfInBounds_toArray, List.set_cons_succ, List.set_cons_zero]
                            refine anyH_take 25 (some 164) (.int .i64 (q : Nat)) rfl rfl (by kernel_rfl) (by kernel_rfl) (by kernel_rfl) (fun _ _ _ h => h.elim) (.inl ⟨by rfl, fun W hW => by have e : W = Wd := hW; subst e; go_simp⟩) hS ?_
                            simp only [Act.put, List.setIfInBounds_toArray, List.set_cons_succ, List.set_cons_zero]
                            refine anyH_take 26 (some 165) (.pointer (some ⟨hb, ho + q * 8, none⟩)) rfl rfl (by kernel_rfl) (by kernel_rfl) (by kernel_rfl) (fun _ _ _ h => h.elim) (.inl ⟨by rfl, fun W hW => by have e : W = Wd := hW; subst e; go_simp⟩) hS ?_
                            simp only [Act.put, List.setIfInBounds_toArray, List.set_cons_succ, List.set_cons_zero]
                            refine anyH_take 27 (some 166) (.pointer (some ⟨hb, ho + q * 8 + 6, none⟩)) rfl rfl (by kernel_rfl) (by kernel_rfl) (by kernel_rfl) (fun _ _ _ h => h.elim) (.inl ⟨by rfl, fun W hW => by have e : W = Wd := hW; subst e; go_simp⟩) hS ?_
                            simp only [Act.put, List.setIfInBounds_toArray, List.set_cons_succ, List.set_cons_zero]
                            refine anyH_take 28 (some 167) (.pointer (some ⟨hb, ho + q * 8 + 6 + 1, none⟩)) rfl rfl (by kernel_rfl) (by kernel_rfl) (by kernel_rfl) (fun _ _ _ h => h.elim) (.inl ⟨by rfl, fun W hW => by have e : W = Wd := hW; subst e; go_simp⟩) hS ?_
                            simp only [Act.put, List.setIfInBounds_toArray, List.set_cons_succ, List.set_cons_zero]
                            refine anyH_take 29 (some 168) (.bool okb) rfl rfl (by kernel_rfl) (by kernel_rfl) (by kernel_rfl) (fun _ _ _ h => h.elim) (.inl ⟨by rfl, fun W hW => by have e : W = Wd := hW; subst e; go_simp⟩) hS ?_
                            simp only [Act.put, List.setIfInBounds_toArray, List.set_cons_succ, List.set_cons_zero]
                            refine anyH_take 30 (some 169) (.bool okb) rfl rfl (by kernel_rfl) (by kernel_rfl) (by kernel_rfl) (fun _ _ _ h => h.elim) (.inl ⟨by rfl, fun W hW => by have e : W = Wd := hW; subst e; go_simp⟩) hS ?_
                            simp only [Act.put, List.setIfInBounds_toArray, List.set_cons_succ, List.set_cons_zero]
                            refine anyH_take 31 (some 170) (.bool okb) rfl rfl (by kernel_rfl) (by kernel_rfl) (by kernel_rfl) (fun _ _ _ h => h.elim) (.inl ⟨by rfl, fun W hW => by have e : W = Wd := hW; subst e; go_simp⟩) hS ?_
                            simp only [Act.put, List.setIfInBounds_toArray, List.set_cons_succ, List.set_cons_zero]
                            refine anyH_take 32 (some 14) (.bool okb) rfl rfl (by kernel_rfl) (by kernel_rfl) (by kernel_rfl) (fun _ _ _ h => h.elim) (.inl ⟨by rfl, fun W hW => by have e : W = Wd := hW; subst e; go_simp⟩) hS ?_
                            simp only [Act.put, List.setIfInBounds_toArray, List.set_cons_succ, List.set_cons_zero]
                            refine wpAnyH_done (by kernel_rfl) ?_ _
                            exact ⟨rfl, rfl⟩
                          · rintro a' Wz ⟨rfl, rfl⟩
                            simp only [Act.put, List.setIfInBounds_toArray, List.set_cons_succ, List.set_cons_zero]
                            have hnx : pz o.hist k rk (q + 1) = okb := by rw [Hps.out]; simp [*]
                            clear o3' t0 t5 t7 r0'
                            go_wp2_with fail
                            go_roundw
                            case rel => exact ⟨q + 1, by omega, by rw [hnx], by go_num, hNq.drew⟩
                            case measure => simp [intOf]; omega
                        · have e2 : decide (rk < en) = false := decide_eq_false he
                          refine piece (fun a a' Wq => a' = (a.put (some 139) (.bool false) |>.put (some 140) (.bool false) |>.put (some 141) (.pointer (some ⟨C, 3, none⟩)) |>.put (some 142) (.slice (some ⟨hb, ho, none⟩) hn qhc) |>.put (some 143) (.int .i64 (q : Nat)) |>.put (some 144) (.pointer (some ⟨hb, ho + q * 8, none⟩)) |>.put (some 145) (.pointer (some ⟨hb, ho + q * 8, none⟩)) |>.put (some 146) (.int .i64 th) |>.put (some 147) (.int .i64 (k : Nat)) |>.put (some 148) (.bool true) |>.put (some 149) (.bool true) |>.put (some 150) (.pointer (some ⟨C, 3, none⟩)) |>.put (some 151) (.slice (some ⟨hb, ho, none⟩) hn qhc) |>.put (some 152) (.int .i64 (q : Nat)) |>.put (some 153) (.pointer (some ⟨hb, ho + q * 8, none⟩)) |>.put (some 154) (.pointer (some ⟨hb, ho + q * 8 + 5, none⟩)) |>.put (some 155) (.int .i64 en) |>.put (some 156) (.int .i64 (k : Nat)) |>.put (some 157) (.pointer (some ⟨RB, k, none⟩)) |>.put (some 158) (.int .i64 rk) |>.put (some 159) (.bool false) |>.put (some 160) (.bool false) |>.put (some 161) (.bool false) |>.put (some 162) (undef) |>.put (some 163) (undef) |>.put (some 164) (undef) |>.put (some 165) (undef) |>.put (some 166) (undef) |>.put (some 167) (undef) |>.put (some 168) (undef) |>.put (some 169) (.bool false) |>.put (some 170) (.bool false) |>.put (some 14) (.bool false)) ∧ Wq = wr.drew) ?_ ?_
                          · refine wp_region_held (by kernel_rfl) (S := fun W => W = wr.drew) ?_
                            show wpAnyH _ _ _ _ _ _ _ _ wr.drew
                            replace o3' := (Mods.refl (fun _ => False) wr).drew.cell o3' id
                            replace t0 := (Mods.refl (fun _ => False) wr).drew.cell t0 id
                            replace t5 := (Mods.refl (fun _ => False) wr).drew.cell t5 id
                            replace t7 := (Mods.refl (fun _ => False) wr).drew.cell t7 id
                            replace r0' := (Mods.refl (fun _ => False) wr).drew.cell r0' id
                            obtain ⟨Wd, hWd⟩ : ∃ Wd, wr.drew = Wd := ⟨_, rfl⟩
                            rw [hWd] at o3' t0 t5 t7 r0' ⊢
                            have hS : Wd = Wd := rfl
                            clear hWd
                            refine anyH_take 0 (some 139) (.bool false) rfl rfl (by kernel_rfl) (by kernel_rfl) (by kernel_rfl) (fun _ _ _ h => h.elim) (.inl ⟨by rfl, fun W hW => by have e : W = Wd := hW; subst e; go_simp⟩) hS ?_
                            simp only [Act.put, List.setIfInBounds_toArray, List.set_cons_succ, List.set_cons_zero]
                            refine anyH_take 1 (some 140) (.bool false) rfl rfl (by kernel_rfl) (by kernel_rfl) (by kernel_rfl) (fun _ _ _ h => h.elim) (.inl ⟨by rfl, fun W hW => by have e : W = Wd := hW; subst e; go_simp⟩) hS ?_
                            simp only [Act.put, List.setIfInBounds_toArray, List.set_cons_succ, List.set_cons_zero]
                            refine anyH_take 2 (some 141) (.pointer (some ⟨C, 3, none⟩)) rfl rfl (by kernel_rfl) (by kernel_rfl) (by kernel_rfl) (fun _ _ _ h => h.elim) (.inl ⟨by rfl, fun W hW => by have e : W = Wd := hW; subst e; go_simp⟩) hS ?_
                            simp only [Act.put, List.setIfInBounds_toArray, List.set_cons_succ, List.set_cons_zero]
                            refine anyH_take 3 (some 142) (.slice (some ⟨hb, ho, none⟩) hn qhc) rfl rfl (by kernel_rfl) (by kernel_rfl) (by kernel_rfl) (fun _ _ _ h => h.elim) (.inl ⟨by rfl, fun W hW => by have e : W = Wd := hW; subst e; go_simp⟩) hS ?_
                            simp only [Act.put, List.setIfInBounds_toArray, List.set_cons_succ, List.set_cons_zero]
                            refine anyH_take 4 (some 143) (.int .i64 (q : Nat)) rfl rfl (by kernel_rfl) (by kernel_rfl) (by kernel_rfl) (fun _ _ _ h => h.elim) (.inl ⟨by rfl, fun W hW => by have e : W = Wd := hW; subst e; go_simp⟩) hS ?_
                            simp only [Act.put, List.setIfInBounds_toArray, List.set_cons_succ, List.set_cons_zero]
                            refine anyH_take 5 (some 144) (.pointer (some ⟨hb, ho + q * 8, none⟩)) rfl rfl (by kernel_rfl) (by kernel_rfl) (by kernel_rfl) (fun _ _ _ h => h.elim) (.inl ⟨by rfl, fun W hW => by have e : W = Wd := hW; subst e; go_simp⟩) hS ?_
                            simp only [Act.put, List.setIfInBounds_toArray, List.set_cons_succ, List.set_cons_zero]
                            refine anyH_take 6 (some 145) (.pointer (some ⟨hb, ho + q * 8, none⟩)) rfl rfl (by kernel_rfl) (by kernel_rfl) (by kernel_rfl) (fun _ _ _ h => h.elim) (.inl ⟨by rfl, fun W hW => by have e : W = Wd := hW; subst e; go_simp⟩) hS ?_
                            simp only [Act.put, List.setIfInBounds_toArray, List.set_cons_succ, List.set_cons_zero]
                            refine anyH_take 7 (some 146) (.int .i64 th) rfl rfl (by kernel_rfl) (by kernel_rfl) (by kernel_rfl) (fun _ _ _ h => h.elim) (.inl ⟨by rfl, fun W hW => by have e : W = Wd := hW; subst e; go_simp⟩) hS ?_
                            simp only [Act.put, List.setIfInBounds_toArray, List.set_cons_succ, List.set_cons_zero]
                            refine anyH_take 8 (some 147) (.int .i64 (k : Nat)) rfl rfl (by kernel_rfl) (by kernel_rfl) (by kernel_rfl) (fun _ _ _ h => h.elim) (.inl ⟨by rfl, fun W hW => by have e : W = Wd := hW; subst e; go_simp⟩) hS ?_
                            simp only [Act.put, List.setIfInBounds_toArray, List.set_cons_succ, List.set_cons_zero]
                            refine anyH_take 9 (some 148) (.bool true) rfl rfl (by kernel_rfl) (by kernel_rfl) (by kernel_rfl) (fun _ _ _ h => h.elim) (.inl ⟨by rfl, fun W hW => by have e : W = Wd := hW; subst e; go_simp⟩) hS ?_
                            simp only [Act.put, List.setIfInBounds_toArray, List.set_cons_succ, List.set_cons_zero]
                            refine anyH_take 10 (some 149) (.bool true) rfl rfl (by kernel_rfl) (by kernel_rfl) (by kernel_rfl) (fun _ _ _ h => h.elim) (.inl ⟨by rfl, fun W hW => by have e : W = Wd := hW; subst e; go_simp⟩) hS ?_
                            simp only [Act.put, List.setIfInBounds_toArray, List.set_cons_succ, List.set_cons_zero]
                            refine anyH_take 11 (some 150) (.pointer (some ⟨C, 3, none⟩)) rfl rfl (by kernel_rfl) (by kernel_rfl) (by kernel_rfl) (fun _ _ _ h => h.elim) (.inl ⟨by rfl, fun W hW => by have e : W = Wd := hW; subst e; go_simp⟩) hS ?_
                            simp only [Act.put, List.setIfInBounds_toArray, List.set_cons_succ, List.set_cons_zero]
                            refine anyH_take 12 (some 151) (.slice (some ⟨hb, ho, none⟩) hn qhc) rfl rfl (by kernel_rfl) (by kernel_rfl) (by kernel_rfl) (fun _ _ _ h => h.elim) (.inl ⟨by rfl, fun W hW => by have e : W = Wd := hW; subst e; go_simp⟩) hS ?_
                            simp only [Act.put, List.setIfInBounds_toArray, List.set_cons_succ, List.set_cons_zero]
                            refine anyH_take 13 (some 152) (.int .i64 (q : Nat)) rfl rfl (by kernel_rfl) (by kernel_rfl) (by kernel_rfl) (fun _ _ _ h => h.elim) (.inl ⟨by rfl, fun W hW => by have e : W = Wd := hW; subst e; go_simp⟩) hS ?_
                            simp only [Act.put, List.setIfInBounds_toArray, List.set_cons_succ, List.set_cons_zero]
                            refine anyH_take 14 (some 153) (.pointer (some ⟨hb, ho + q * 8, none⟩)) rfl rfl (by kernel_rfl) (by kernel_rfl) (by kernel_rfl) (fun _ _ _ h => h.elim) (.inl ⟨by rfl, fun W hW => by have e : W = Wd := hW; subst e; go_simp⟩) hS ?_
                            simp only [Act.put, List.setIfInBounds_toArray, List.set_cons_succ, List.set_cons_zero]
                            refine anyH_take 15 (some 154) (.pointer (some ⟨hb, ho + q * 8 + 5, none⟩)) rfl rfl (by kernel_rfl) (by kernel_rfl) (by kernel_rfl) (fun _ _ _ h => h.elim) (.inl ⟨by rfl, fun W hW => by have e : W = Wd := hW; subst e; go_simp⟩) hS ?_
                            simp only [Act.put, List.setIfInBounds_toArray, List.set_cons_succ, List.set_cons_zero]
                            refine anyH_take 16 (some 155) (.int .i64 en) rfl rfl (by kernel_rfl) (by kernel_rfl) (by kernel_rfl) (fun _ _ _ h => h.elim) (.inl ⟨by rfl, fun W hW => by have e : W = Wd := hW; subst e; go_simp⟩) hS ?_
                            simp only [Act.put, List.setIfInBounds_toArray, List.set_cons_succ, List.set_cons_zero]
                            refine anyH_take 17 (some 156) (.int .i64 (k : Nat)) rfl rfl (by kernel_rfl) (by kernel_rfl) (by kernel_rfl) (fun _ _ _ h => h.elim) (.inl ⟨by rfl, fun W hW => by have e : W = Wd := hW; subst e; go_simp⟩) hS ?_
                            simp only [Act.put, List.setIfInBounds_toArray, List.set_cons_succ, List.set_cons_zero]
                            refine anyH_take 18 (some 157) (.pointer (some ⟨RB, k, none⟩)) rfl rfl (by kernel_rfl) (by kernel_rfl) (by kernel_rfl) (fun _ _ _ h => h.elim) (.inl ⟨by rfl, fun W hW => by have e : W = Wd := hW; subst e; go_simp⟩) hS ?_
                            simp only [Act.put, List.setIfInBounds_toArray, List.set_cons_succ, List.set_cons_zero]
                            refine anyH_take 19 (some 158) (.int .i64 rk) rfl rfl (by kernel_rfl) (by kernel_rfl) (by kernel_rfl) (fun _ _ _ h => h.elim) (.inl ⟨by rfl, fun W hW => by have e : W = Wd := hW; subst e; go_simp⟩) hS ?_
                            simp only [Act.put, List.setIfInBounds_toArray, List.set_cons_succ, List.set_cons_zero]
                            refine anyH_take 20 (some 159) (.bool false) rfl rfl (by kernel_rfl) (by kernel_rfl) (by kernel_rfl) (fun _ _ _ h => h.elim) (.inl ⟨by rfl, fun W hW => by have e : W = Wd := hW; subst e; go_simp⟩) hS ?_
                            simp only [Act.put, List.setIfInBounds_toArray, List.set_cons_succ, List.set_cons_zero]
                            refine anyH_take 21 (some 160) (.bool false) rfl rfl (by kernel_rfl) (by kernel_rfl) (by kernel_rfl) (fun _ _ _ h => h.elim) (.inl ⟨by rfl, fun W hW => by have e : W = Wd := hW; subst e; go_simp⟩) hS ?_
                            simp only [Act.put, List.setIfInBounds_toArray, List.set_cons_succ, List.set_cons_zero]
                            refine anyH_take 22 (some 161) (.bool false) rfl rfl (by kernel_rfl) (by kernel_rfl) (by kernel_rfl) (fun _ _ _ h => h.elim) (.inl ⟨by rfl, fun W hW => by have e : W = Wd := hW; subst e; go_simp⟩) hS ?_
                            simp only [Act.put, List.setIfInBounds_toArray, List.set_cons_succ, List.set_cons_zero]
                            refine anyH_take 23 (some 162) undef rfl rfl (by kernel_rfl) (by kernel_rfl) (by kernel_rfl) (fun _ _ _ h => h.elim) (.inr ⟨by rfl, rfl⟩) hS ?_
                            simp only [Act.put, List.setIfInBounds_toArray, List.set_cons_succ, List.set_cons_zero]
                            refine anyH_take 24 (some 163) undef rfl rfl (by kernel_rfl) (by kernel_rfl) (by kernel_rfl) (fun _ _ _ h => h.elim) (.inr ⟨by rfl, rfl⟩) hS ?_
                            simp only [Act.put, List.setIfInBounds_toArray, List.set_cons_succ, List.set_cons_zero]
                            refine anyH_take 25 (some 164) undef rfl rfl (by kernel_rfl) (by kernel_rfl) (by kernel_rfl) (fun _ _ _ h => h.elim) (.inr ⟨by rfl, rfl⟩) hS ?_
                            simp only [Act.put, List.setIfInBounds_toArray, List.set_cons_succ, List.set_cons_zero]
                            refine anyH_take 26 (some 165) undef rfl rfl (by kernel_rfl) (by kernel_rfl) (by kernel_rfl) (fun _ _ _ h => h.elim) (.inr ⟨by rfl, rfl⟩) hS ?_
                            simp only [Act.put, List.setIfInBounds_toArray, List.set_cons_succ, List.set_cons_zero]
                            refine anyH_take 27 (some 166) undef rfl rfl (by kernel_rfl) (by kernel_rfl) (by kernel_rfl) (fun _ _ _ h => h.elim) (.inr ⟨by rfl, rfl⟩) hS ?_
                            simp only [Act.put, List.setIfInBounds_toArray, List.set_cons_succ, List.set_cons_zero]
                            refine anyH_take 28 (some 167) undef rfl rfl (by kernel_rfl) (by kernel_rfl) (by kernel_rfl) (fun _ _ _ h => h.elim) (.inr ⟨by rfl, rfl⟩) hS ?_
                            simp only [Act.put, List.setIfInBounds_toArray, List.set_cons_succ, List.set_cons_zero]
                            refine anyH_take 29 (some 168) undef rfl rfl (by kernel_rfl) (by kernel_rfl) (by kernel_rfl) (fun _ _ _ h => h.elim) (.inr ⟨by rfl, rfl⟩) hS ?_
                            simp only [Act.put, List.setIfInBounds_toArray, List.set_cons_succ, List.set_cons_zero]
                            refine anyH_take 30 (some 169) (.bool false) rfl rfl (by kernel_rfl) (by kernel_rfl) (by kernel_rfl) (fun _ _ _ h => h.elim) (.inl ⟨by rfl, fun W hW => by have e : W = Wd := hW; subst e; go_simp⟩) hS ?_
                            simp only [Act.put, List.setIfInBounds_toArray, List.set_cons_succ, List.set_cons_zero]
                            refine anyH_take 31 (some 170) (.bool false) rfl rfl (by kernel_rfl) (by kernel_rfl) (by kernel_rfl) (fun _ _ _ h => h.elim) (.inl ⟨by rfl, fun W hW => by have e : W = Wd := hW; subst e; go_simp⟩) hS ?_
                            simp only [Act.put, List.setIfInBounds_toArray, List.set_cons_succ, List.set_cons_zero]
                            refine anyH_take 32 (some 14) (.bool false) rfl rfl (by kernel_rfl) (by kernel_rfl) (by kernel_rfl) (fun _ _ _ h => h.elim) (.inl ⟨by rfl, fun W hW => by have e : W = Wd := hW; subst e; go_simp⟩) hS ?_
                            simp only [Act.put, List.setIfInBounds_toArray, List.set_cons_succ, List.set_cons_zero]
                            refine wpAnyH_done (by kernel_rfl) ?_ _
                            exact ⟨rfl, rfl⟩
                          · rintro a' Wz ⟨rfl, rfl⟩
                            simp only [Act.put, List.setIfInBounds_toArray, List.set_cons_succ, List.set_cons_zero]
                            have hnx : pz o.hist k rk (q + 1) = false := by rw [Hps.out]; simp [*]
                            clear o3' t0 t5 t7 r0'
                            go_wp2_with fail
                            go_roundw
                            case rel => exact ⟨q + 1, by omega, by rw [hnx], by go_num, hNq.drew⟩
                            case measure => simp [intOf]; omega
                  · obtain rfl : q = o.hist.length := by omega
                    have hqd : decide ((o.hist.length : Int) < (o.hist.length : Int)) = false := decide_eq_false (by omega)
                    rw [Hpz.out]
                    have o0' := hNq.cell o0 id
                    have o2' := hNq.cell o2 id
                    have m0' := hNq.cell m0 id
                    have to1' := hNq.cell to1 id
                    have HF := Lib.hid (And.intro (hNq.heap HF0.out.1 id) (And.intro (hNq.heap HF0.out.2.1 id) (And.intro (HF0.out.2.2.1.new hNq) (And.intro (hNq.heap HF0.out.2.2.2.1 id) (HF0.out.2.2.2.2.trans hNq)))))
                    clear o0 o2 m0 to1 r0 o3
                    go_upto_region 25 with fail
                    go_upto_region 27 with fail
                    clear o0' o2' m0' to1' o3' hNq
                    have hBB : wr.heap[B7]? = some (.cells #[.int .u64 (m.word : Nat), .int .i64 m.clock, .slice (some ⟨mb, mo, none⟩) m.ths.length atc, .slice aha m.hist.length ahc] 77 (0, 0)) := HF.out.1
                    have hBC : wr.heap[C]? = some (.cells #[.int .u64 (o.word : Nat), .int .i64 o.clock, .slice (some ⟨ob, oo, none⟩) o.ths.length qtc, .slice qha o.hist.length qhc] 77 (0, 0)) := HF.out.2.1
                    have hone := mach_ones o.word o.clock (some ⟨ob, oo, none⟩) qha o.ths.length qtc o.hist.length qhc
                    have hnx : Hid (PasAt w B7 RB (i + 1) (wr.setRow B7 #[.int .u64 (o.word : Nat), .int .i64 o.clock, .slice (some ⟨ob, oo, none⟩) o.ths.length qtc, .slice qha o.hist.length qhc])) := Lib.hid ⟨o, rd, _, _, _, _, qlv, setRow_heap wr B7 _ #[.int .u64 (o.word : Nat), .int .i64 o.clock, .slice (some ⟨ob, oo, none⟩) o.ths.length qtc, .slice qha o.hist.length qhc] 77 (0, 0) hBB, HF.out.2.2.1.keptI (HF.out.2.2.1.notIn (show MB wr B7 m.word m.clock (.slice (some ⟨mb, mo, none⟩) m.ths.length atc) (.slice aha m.hist.length ahc) from HF.out.1).nb) (mods_setRow hBB _), (mods_setRow hBB #[.int .u64 (o.word : Nat), .int .i64 o.clock, .slice (some ⟨ob, oo, none⟩) o.ths.length qtc, .slice qha o.hist.length qhc]).heap HF.out.2.2.2.1 hB7', HF.out.2.2.2.2.setRow HW7.out _, Hsw.out.1, Ho.out.1, Ho.out.2.1, Ho.out.2.2⟩
                    clear HF
                    go_upto_region 27 with fail
                    go_wp2_with (first | (refine op_value rfl (run_load_row 77 (.tmp 11) rfl C rfl 77 #[.int .u64 (o.word : Nat), .int .i64 o.clock, .slice (some ⟨ob, oo, none⟩) o.ths.length qtc, .slice qha o.hist.length qhc] (0, 0) _ hBC Try.underlying77 rfl info77) ?_) | (refine op_skip rfl (run_store_row 77 (.tmp 7) (.tmp 188) rfl B7 rfl 77 [.int .u64 (m.word : Nat), .int .i64 m.clock, .slice (some ⟨mb, mo, none⟩) m.ths.length atc, .slice aha m.hist.length ahc] [.int .u64 (o.word : Nat), .int .i64 o.clock, .slice (some ⟨ob, oo, none⟩) o.ths.length qtc, .slice qha o.hist.length qhc] rfl hBB info77 rfl hone) ?_))
                    go_roundw
                    case rel => exact ⟨i + 1, by omega, by go_num, hnx⟩
                    case measure => simp [intOf]; omega
    · obtain rfl : pn = i := by omega
      have hid : decide ((pn : Int) < (pn : Int)) = false := decide_eq_false (by omega)
      have HNe := Lib.hid (hA.out.choose_spec.choose_spec.choose_spec.choose_spec.choose_spec.choose_spec.choose_spec.2.2.2.1)
      clear hA
      go_wp2_with fail
      refine (HK.out _).mono ?_
      rintro e wz ⟨rfl, hNz⟩
      have HNz := Lib.hid (HNe.out.trans hNz)
      clear hNz
      go_wp2_with fail
      go_ret
      exact ⟨rfl, HNz.out⟩
end Go.Proofs.Ytkjloeefcaadlaa
