/- A machine told in memory of its own. -/
import Derived.Test.YtkjloeefcaadlaaP13
set_option linter.unusedSimpArgs false
set_option linter.unusedVariables false
namespace Go.Proofs.Ytkjloeefcaadlaa
open Go.RowKit Go.Shelf Go.Cs
attribute [local go_sem] Oper.semAt_some
def Only (K : Act → World → Prop) : Exit → Act → World → Prop
  | .normal, a, w => K a w
  | _, _, _ => False
theorem Only.imp {K : Act → World → Prop} {Q : Exit → Act → World → Prop} (h : ∀ a w, K a w → Q .normal a w) : ∀ (e : Exit) (a : Act) (w : World), Only K e a w → Q e a w := fun e a w hk => by
  cases e <;> first | exact h a w hk | exact hk.elim
/-- What follows a piece of code, shown once. -/
theorem piece {P : Program} {c : Code} {Q : Exit → Act → World → Prop} {a : Act} {w : World} (K : Act → Act → World → Prop) (h2 : c.wp P (Only (K a)) a w) (h1 : ∀ a' w', K a a' w' → Q .normal a' w') : c.wp P Q a w :=
  Code.wp_mono (Only.imp h1) h2
theorem info77 : (Try.prog.info? 77).map (·.size) = some 4 := by kernel_rfl
/-- A variable that holds a machine. -/
def MB (W : World) (B : Nat) (x : Nat) (c : Int) (tv hh : Value) : Prop := W.heap[B]? = some (.cells #[.int .u64 x, .int .i64 c, tv, hh] 77 (0, 0))
section
variable {W W' : World} {B x : Nat} {c : Int} {tv hh : Value}
theorem MB.new (h : MB W B x c tv hh) (hN : New W W') : MB W' B x c tv hh := hN.heap h id
theorem MB.lt (h : MB W B x c tv hh) : B < W.heap.size := (Array.getElem?_eq_some_iff.1 h).1
theorem MB.c0 (h : MB W B x c tv hh) : W.cell? ⟨B, 0, none⟩ = some (.int .u64 x) := by rw [cell_of_row _ _ _ _ _ _ h]; rfl
theorem MB.c1 (h : MB W B x c tv hh) : W.cell? ⟨B, 1, none⟩ = some (.int .i64 c) := by rw [cell_of_row _ _ _ _ _ _ h]; rfl
theorem MB.c2 (h : MB W B x c tv hh) : W.cell? ⟨B, 2, none⟩ = some tv := by rw [cell_of_row _ _ _ _ _ _ h]; rfl
theorem MB.c3 (h : MB W B x c tv hh) : W.cell? ⟨B, 3, none⟩ = some hh := by rw [cell_of_row _ _ _ _ _ _ h]; rfl
theorem MB.frozen (h : MB W B x c tv hh) (j : Nat) : W.frozen? ⟨B, j, none⟩ = false := frozen_of_row _ _ _ _ _ h
theorem MB.set0 (h : MB W B x c tv hh) (y : Nat) : MB (W.setCell ⟨B, 0, none⟩ (.int .u64 y)) B y c tv hh := heap_setCell_same _ _ _ _ _ _ h
theorem MB.set1 (h : MB W B x c tv hh) (d : Int) : MB (W.setCell ⟨B, 1, none⟩ (.int .i64 d)) B x d tv hh := heap_setCell_same _ _ _ _ _ _ h
theorem MB.set2 (h : MB W B x c tv hh) (v : Value) : MB (W.setCell ⟨B, 2, none⟩ v) B x c v hh := heap_setCell_same _ _ _ _ _ _ h
theorem MB.set3 (h : MB W B x c tv hh) (v : Value) : MB (W.setCell ⟨B, 3, none⟩ v) B x c tv v := heap_setCell_same _ _ _ _ _ _ h
theorem MB.other (h : MB W B x c tv hh) {C o : Nat} (hne : B ≠ C) (v : Value) : MB (W.setCell ⟨C, o, none⟩ v) B x c tv hh := (heap_setCell_other W ⟨C, o, none⟩ B v hne).trans h
end
theorem flatE_eq (L : List Dn) : flatE L = flatF L.length (fun i => (L.getD i .no).cs) := by
  apply List.ext_getElem?
  intro j
  rw [flatF_at (sz := 3) (by decide) (fun _ => rfl)]
  by_cases hj : j < L.length * 3
  · rw [if_pos hj]
    have hl := flatE_len L
    obtain ⟨u, hu⟩ : ∃ u, (flatE L)[j]? = some u := ⟨_, List.getElem?_eq_getElem (by rw [hl]; exact hj)⟩
    rw [hu, (flatE_at L j u hu).2]
  · rw [if_neg hj, List.getElem?_eq_none (by rw [flatE_len]; omega)]
theorem ReadsE.ofOwns {base : Nat} {W : World} {v : Value} {L : List Dn} (hL : L.length ≤ 5864062014805) (h : W.ownsRow base 93 3 v L.length (flatE L)) : ReadsE W v L := by
  rw [flatE_eq] at h
  exact ⟨hL, rows_ofOwns (sz := 3) (by decide) (fun _ => rfl) h⟩
theorem owns_mono {W : World} {base base' : Nat} {e : TypeId} {sz n : Nat} {v : Value} {xs : List Value} (h : W.ownsRow base e sz v n xs) (hb : base' ≤ base) : W.ownsRow base' e sz v n xs := by
  refine ⟨h.1, h.2.imp id ?_⟩
  rintro ⟨g, cap, cur, rfl, hg, r⟩
  exact ⟨g, cap, cur, rfl, by omega, r⟩
/-- Behind some rounds. -/
def OwnR (w : World) (m : Ma) (ta : Option Addr) (tc : Nat) (hh : Value) (lv : Nat → Value) (k : Nat) (W : World) : Prop :=
  ∃ lv' : Nat → Value, MB W w.heap.size m.word m.clock (.slice ta m.ths.length tc) hh ∧ W.ownsRow (w.heap.size + 1) 100 4 (.slice ta m.ths.length tc) m.ths.length (flatF m.ths.length (thsF m.ths lv')) ∧
    (∀ j, j < k → W.ownsRow (w.heap.size + 1) 93 3 (lv' j) (m.ths.getD j .no).left.length (flatE (m.ths.getD j .no).left)) ∧ (∀ j, k ≤ j → lv' j = lv j) ∧
    W.ownsRow (w.heap.size + 1) 95 8 hh m.hist.length (flatF m.hist.length (mosF m.hist)) ∧ W.heap[w.heap.size + 1]? = some (.cells #[.int .u64 0, .int .i64 0, .slice none 0 0, .slice none 0 0] 77 (0, 0)) ∧ New w W
theorem info100 : (Try.prog.info? 100).map (·.size) = some 4 := by kernel_rfl
theorem th_c0 {W : World} {D : Nat} {t : Th} {v : Value} (h : W.heap[D]? = some (.cells (t.cs v).toArray 100 (0, 0))) : W.cell? ⟨D, 0, none⟩ = some v := by rw [cell_of_row _ _ _ _ _ _ h]; rfl
theorem th_c1 {W : World} {D : Nat} {t : Th} {v : Value} (h : W.heap[D]? = some (.cells (t.cs v).toArray 100 (0, 0))) : W.cell? ⟨D, 1, none⟩ = some (.bool t.loaded) := by rw [cell_of_row _ _ _ _ _ _ h]; rfl
theorem th_c2 {W : World} {D : Nat} {t : Th} {v : Value} (h : W.heap[D]? = some (.cells (t.cs v).toArray 100 (0, 0))) : W.cell? ⟨D, 2, none⟩ = some (.int .u64 (t.seen : Nat)) := by rw [cell_of_row _ _ _ _ _ _ h]; rfl
theorem th_c3 {W : World} {D : Nat} {t : Th} {v : Value} (h : W.heap[D]? = some (.cells (t.cs v).toArray 100 (0, 0))) : W.cell? ⟨D, 3, none⟩ = some (.int .i64 t.moment) := by rw [cell_of_row _ _ _ _ _ _ h]; rfl
theorem mods_setRow {W : World} {B : Nat} {cs : Array Value} {t : TypeId} {fr : Nat × Nat} (hB : W.heap[B]? = some (.cells cs t fr)) (cs' : Array Value) : Mods (fun b => b = B) W (W.setRow B cs') :=
  ⟨rfl, rfl, rfl, by simp [World.setRow], fun k o hk ho => by
    by_cases e : k = B
    · subst e
      rcases ho with ho | ho
      · exact absurd rfl ho
      · rw [hB] at hk
        cases hk
        cases ho
    · rw [← hk]
      simp [World.setRow, Array.getElem?_modify, Ne.symm e]⟩
set_option maxRecDepth 100000 in
set_option maxHeartbeats 4000000 in
theorem own_any (v : Value) (m : Ma) (w : World) (hv : ReadsM w v m) :
    Calls Try.prog 96 #[v] w fun e w' => ∃ tv hv lv, e = .returned (.agg (maV m tv hv).toArray) ∧ MaO w' w.heap.size m tv hv lv ∧ New w w' := by
  obtain ⟨tv, hh, lv, rfl, hR⟩ := hv
  have HT : Hid (∀ W, New w W → w.heap.size < W.heap.size → Calls Try.prog 144 #[tv] W fun e w' => ∃ v', e = .returned v' ∧ w'.ownsRow (w.heap.size + 1) 100 4 v' m.ths.length (flatF m.ths.length (thsF m.ths lv)) ∧ New W w') := Lib.hid (by
    intro W hN hlt
    obtain ⟨hl, ao, cap, rfl, hc⟩ := hR.ths.new hN
    obtain ⟨c1, c2⟩ := ReadsF.cells (by decide) (thsF_len _ _) (⟨hl, ao, cap, rfl, hc⟩ : ReadsF W (.slice ao m.ths.length cap) m.ths.length 4 (thsF m.ths lv))
    have hone : ∀ u ∈ flatF m.ths.length (thsF m.ths lv), u.oneCell' = true := flatF_one fun i hi u hu => by
      obtain ⟨_, ao', cap', he, _⟩ := hR.left i hi
      simp [thsF, Th.cs] at hu
      rcases hu with rfl | rfl | rfl | rfl
      · rw [he]; rfl
      · rfl
      · rfl
      · rfl
    exact (clone_threads ao _ cap _ W hl c1 (flatF_len (thsF_len _ _) _) hone c2).mono fun e w' ⟨v', he, ho, hN'⟩ => ⟨v', he, owns_mono ho (by omega), hN'⟩)
  have HH : Hid (∀ W, New w W → w.heap.size < W.heap.size → Calls Try.prog 145 #[hh] W fun e w' => ∃ v', e = .returned v' ∧ w'.ownsRow (w.heap.size + 1) 95 8 v' m.hist.length (flatF m.hist.length (mosF m.hist)) ∧ New W w') := Lib.hid (by
    intro W hN hlt
    obtain ⟨hl, ao, cap, rfl, hc⟩ := hR.hist.new hN
    obtain ⟨c1, c2⟩ := ReadsF.cells (by decide) (mosF_len _) (⟨hl, ao, cap, rfl, hc⟩ : ReadsF W (.slice ao m.hist.length cap) m.hist.length 8 (mosF m.hist))
    exact (clone_moments ao _ cap _ W hl c1 (flatF_len (mosF_len _) _) (mosF_one _) c2).mono fun e w' ⟨v', he, ho, hN'⟩ => ⟨v', he, owns_mono ho (by omega), hN'⟩)
  unfold maV
  go_enter Try.func96, Try.ntmps96
  go_upto_region 1 with fail
  obtain ⟨W0, hW0⟩ : ∃ W, (w.alloc (.cells #[.int .u64 (m.word : Nat), .int .i64 m.clock, tv, hh] 77)).alloc (.cells #[.int .u64 0, .int .i64 0, .slice none 0 0, .slice none 0 0] 77) = W := ⟨_, rfl⟩
  rw [hW0]
  have hB : MB W0 w.heap.size m.word m.clock tv hh := by
    rw [← hW0]
    exact MB.new (World.alloc_heap_new w _) ((Mods.refl _ _).alloc _)
  have hC : W0.heap[w.heap.size + 1]? = some (.cells #[.int .u64 0, .int .i64 0, .slice none 0 0, .slice none 0 0] 77 (0, 0)) := by
    rw [← hW0]
    have := World.alloc_heap_new (w.alloc (.cells #[.int .u64 (m.word : Nat), .int .i64 m.clock, tv, hh] 77)) (.cells #[.int .u64 0, .int .i64 0, .slice none 0 0, .slice none 0 0] 77)
    rw [World.size_alloc] at this
    exact this
  have hN : New w W0 := by rw [← hW0]; exact ((Mods.refl _ _).alloc _).alloc _
  clear hW0
  refine piece (fun a a' W => ∃ tv' hh', a' = (a.put (some 5) (.pointer (some ⟨w.heap.size, 2, none⟩)) |>.put (some 6) tv |>.put (some 7) tv' |>.put (some 8) (.pointer (some ⟨w.heap.size, 3, none⟩)) |>.put (some 9) hh |>.put (some 10) hh' |>.put (some 11) (.pointer (some ⟨w.heap.size, 2, none⟩)) |>.put (some 12) (.pointer (some ⟨w.heap.size, 3, none⟩))) ∧ MB W w.heap.size m.word m.clock tv' hh' ∧ W.ownsRow (w.heap.size + 1) 100 4 tv' m.ths.length (flatF m.ths.length (thsF m.ths lv)) ∧ W.ownsRow (w.heap.size + 1) 95 8 hh' m.hist.length (flatF m.hist.length (mosF m.hist)) ∧ W.heap[w.heap.size + 1]? = some (.cells #[.int .u64 0, .int .i64 0, .slice none 0 0, .slice none 0 0] 77 (0, 0)) ∧ New w W) ?_ ?_
  · refine (wpIn_wide (n := 0)).1 ?_
    refine wpIn_region_any (by kernel_rfl) ?_
    show wpAnyIn _ _ _ _ _ _ _ _ _ W0.drew
    replace hB : MB W0.drew w.heap.size m.word m.clock tv hh := hB
    replace hC : W0.drew.heap[w.heap.size + 1]? = some (.cells #[.int .u64 0, .int .i64 0, .slice none 0 0, .slice none 0 0] 77 (0, 0)) := hC
    replace hN := hN.drew
    obtain ⟨W, hW⟩ : ∃ W, W0.drew = W := ⟨_, rfl⟩
    rw [hW] at hB hC hN ⊢
    clear hW
    refine any_take 0 (some 5) (.pointer (some ⟨w.heap.size, 2, none⟩)) rfl rfl (by kernel_rfl) (by kernel_rfl) (by kernel_rfl) (fun _ _ _ h => h.elim) (.value rfl fun w => by go_simp) ?_
    simp only [Act.put, List.setIfInBounds_toArray, List.set_cons_succ, List.set_cons_zero]
    refine any_take 3 (some 8) (.pointer (some ⟨w.heap.size, 3, none⟩)) rfl rfl (by kernel_rfl) (by kernel_rfl) (by kernel_rfl) (fun _ _ _ h => h.elim) (.value rfl fun w => by go_simp) ?_
    simp only [Act.put, List.setIfInBounds_toArray, List.set_cons_succ, List.set_cons_zero]
    refine wpAnyIn_all (rs := [1, 4]) (by kernel_rfl) (by simp) ?_
    simp only [List.mem_cons, List.not_mem_nil, or_false, forall_eq_or_imp, forall_eq]
    refine ⟨?_, ?_⟩
    · refine opIn_value (some 6) (v := tv) (w' := W) rfl rfl rfl rfl (by have := hB.c2; go_simp) ?_
      simp only [Act.put, List.setIfInBounds_toArray, List.set_cons_succ, List.set_cons_zero]
      refine wpAnyIn_all (rs := [2, 4]) (by kernel_rfl) (by simp) ?_
      simp only [List.mem_cons, List.not_mem_nil, or_false, forall_eq_or_imp, forall_eq]
      refine ⟨?_, ?_⟩
      · refine opIn_call' (some 7) rfl rfl rfl rfl 144 #[tv] (by go_simp) ((HT.out _ hN hB.lt).mono ?_)
        rintro e W1 ⟨tv', rfl, hT, hN1⟩
        obtain ⟨ta, tc, rfl⟩ := owns_slice hT
        refine ⟨_, rfl, ?_⟩
        simp only [Act.put, List.setIfInBounds_toArray, List.set_cons_succ, List.set_cons_zero]
        replace hB := hB.new hN1
        replace hC := hN1.heap hC id
        replace hN := hN.trans hN1
        clear hN1
        refine wpAnyIn_all (rs := [4]) (by kernel_rfl) (by simp) ?_
        simp only [List.mem_cons, List.not_mem_nil, or_false, forall_eq_or_imp, forall_eq]
        refine opIn_value (some 9) (v := hh) (w' := W1) rfl rfl rfl rfl (by have := hB.c3; go_simp) ?_
        simp only [Act.put, List.setIfInBounds_toArray, List.set_cons_succ, List.set_cons_zero]
        refine any_take 6 (some 11) (.pointer (some ⟨w.heap.size, 2, none⟩)) rfl rfl (by kernel_rfl) (by kernel_rfl) (by kernel_rfl) (fun _ _ _ h => h.elim) (.value rfl fun w => by go_simp) ?_
        simp only [Act.put, List.setIfInBounds_toArray, List.set_cons_succ, List.set_cons_zero]
        refine wpAnyIn_all (rs := [5]) (by kernel_rfl) (by simp) ?_
        simp only [List.mem_cons, List.not_mem_nil, or_false, forall_eq_or_imp, forall_eq]
        refine opIn_call' (some 10) rfl rfl rfl rfl 145 #[hh] (by go_simp) ((HH.out _ hN hB.lt).mono ?_)
        rintro e W2 ⟨hh', rfl, hH, hN1⟩
        obtain ⟨ha, hc, rfl⟩ := owns_slice hH
        refine ⟨_, rfl, ?_⟩
        simp only [Act.put, List.setIfInBounds_toArray, List.set_cons_succ, List.set_cons_zero]
        replace hB := hB.new hN1
        replace hC := hN1.heap hC id
        replace hN := hN.trans hN1
        replace hT := hN1.ownsRow hT fun _ _ => id
        clear hN1
        refine wpAnyIn_all (rs := [7]) (by kernel_rfl) (by simp) ?_
        simp only [List.mem_cons, List.not_mem_nil, or_false, forall_eq_or_imp, forall_eq]
        refine opIn_skip none rfl rfl rfl rfl (w' := W2.setCell ⟨w.heap.size, 2, none⟩ (.slice ta m.ths.length tc)) (by have h1 := hB.c2; have h2 := hB.frozen 2; go_simp) ?_
        simp only [Act.put, List.setIfInBounds_toArray, List.set_cons_succ, List.set_cons_zero]
        replace hB := hB.set2 (.slice ta m.ths.length tc)
        replace hC := (heap_setCell_other _ ⟨w.heap.size, 2, none⟩ (w.heap.size + 1) (.slice ta m.ths.length tc) (Nat.succ_ne_self _)).trans hC
        replace hH := ownsRow_setCell_below hH (a := ⟨w.heap.size, 2, none⟩) (Nat.lt_succ_self _) (.slice ta m.ths.length tc)
        replace hT := ownsRow_setCell_below hT (a := ⟨w.heap.size, 2, none⟩) (Nat.lt_succ_self _) (.slice ta m.ths.length tc)
        replace hN := hN.setCell (p := ⟨w.heap.size, 2, none⟩) (.inl (Nat.le_refl _)) (.slice ta m.ths.length tc)
        obtain ⟨W3, hW⟩ : ∃ W, W2.setCell ⟨w.heap.size, 2, none⟩ (.slice ta m.ths.length tc) = W := ⟨_, rfl⟩
        rw [hW] at hB hC hN hH hT ⊢
        clear hW
        refine any_take 8 (some 12) (.pointer (some ⟨w.heap.size, 3, none⟩)) rfl rfl (by kernel_rfl) (by kernel_rfl) (by kernel_rfl) (fun _ _ _ h => h.elim) (.value rfl fun w => by go_simp) ?_
        simp only [Act.put, List.setIfInBounds_toArray, List.set_cons_succ, List.set_cons_zero]
        refine wpAnyIn_all (rs := [9]) (by kernel_rfl) (by simp) ?_
        simp only [List.mem_cons, List.not_mem_nil, or_false, forall_eq_or_imp, forall_eq]
        refine opIn_skip none rfl rfl rfl rfl (w' := W3.setCell ⟨w.heap.size, 3, none⟩ (.slice ha m.hist.length hc)) (by have h1 := hB.c3; have h2 := hB.frozen 3; go_simp) ?_
        simp only [Act.put, List.setIfInBounds_toArray, List.set_cons_succ, List.set_cons_zero]
        replace hB := hB.set3 (.slice ha m.hist.length hc)
        replace hC := (heap_setCell_other _ ⟨w.heap.size, 3, none⟩ (w.heap.size + 1) (.slice ha m.hist.length hc) (Nat.succ_ne_self _)).trans hC
        replace hH := ownsRow_setCell_below hH (a := ⟨w.heap.size, 3, none⟩) (Nat.lt_succ_self _) (.slice ha m.hist.length hc)
        replace hT := ownsRow_setCell_below hT (a := ⟨w.heap.size, 3, none⟩) (Nat.lt_succ_self _) (.slice ha m.hist.length hc)
        replace hN := hN.setCell (p := ⟨w.heap.size, 3, none⟩) (.inl (Nat.le_refl _)) (.slice ha m.hist.length hc)
        obtain ⟨W4, hW⟩ : ∃ W, W3.setCell ⟨w.heap.size, 3, none⟩ (.slice ha m.hist.length hc) = W := ⟨_, rfl⟩
        rw [hW] at hB hC hN hH hT ⊢
        clear hW
        refine wpAnyIn_done (by kernel_rfl) ?_ _
        exact ⟨_, _, rfl, hB, hT, hH, hC, hN⟩
      · refine opIn_value (some 9) (v := hh) (w' := W) rfl rfl rfl rfl (by have := hB.c3; go_simp) ?_
        simp only [Act.put, List.setIfInBounds_toArray, List.set_cons_succ, List.set_cons_zero]
        refine wpAnyIn_all (rs := [2]) (by kernel_rfl) (by simp) ?_
        simp only [List.mem_cons, List.not_mem_nil, or_false, forall_eq_or_imp, forall_eq]
        refine opIn_call' (some 7) rfl rfl rfl rfl 144 #[tv] (by go_simp) ((HT.out _ hN hB.lt).mono ?_)
        rintro e W1 ⟨tv', rfl, hT, hN1⟩
        obtain ⟨ta, tc, rfl⟩ := owns_slice hT
        refine ⟨_, rfl, ?_⟩
        simp only [Act.put, List.setIfInBounds_toArray, List.set_cons_succ, List.set_cons_zero]
        replace hB := hB.new hN1
        replace hC := hN1.heap hC id
        replace hN := hN.trans hN1
        clear hN1
        refine any_take 6 (some 11) (.pointer (some ⟨w.heap.size, 2, none⟩)) rfl rfl (by kernel_rfl) (by kernel_rfl) (by kernel_rfl) (fun _ _ _ h => h.elim) (.value rfl fun w => by go_simp) ?_
        simp only [Act.put, List.setIfInBounds_toArray, List.set_cons_succ, List.set_cons_zero]
        refine wpAnyIn_all (rs := [5]) (by kernel_rfl) (by simp) ?_
        simp only [List.mem_cons, List.not_mem_nil, or_false, forall_eq_or_imp, forall_eq]
        refine opIn_call' (some 10) rfl rfl rfl rfl 145 #[hh] (by go_simp) ((HH.out _ hN hB.lt).mono ?_)
        rintro e W2 ⟨hh', rfl, hH, hN1⟩
        obtain ⟨ha, hc, rfl⟩ := owns_slice hH
        refine ⟨_, rfl, ?_⟩
        simp only [Act.put, List.setIfInBounds_toArray, List.set_cons_succ, List.set_cons_zero]
        replace hB := hB.new hN1
        replace hC := hN1.heap hC id
        replace hN := hN.trans hN1
        replace hT := hN1.ownsRow hT fun _ _ => id
        clear hN1
        refine wpAnyIn_all (rs := [7]) (by kernel_rfl) (by simp) ?_
        simp only [List.mem_cons, List.not_mem_nil, or_false, forall_eq_or_imp, forall_eq]
        refine opIn_skip none rfl rfl rfl rfl (w' := W2.setCell ⟨w.heap.size, 2, none⟩ (.slice ta m.ths.length tc)) (by have h1 := hB.c2; have h2 := hB.frozen 2; go_simp) ?_
        simp only [Act.put, List.setIfInBounds_toArray, List.set_cons_succ, List.set_cons_zero]
        replace hB := hB.set2 (.slice ta m.ths.length tc)
        replace hC := (heap_setCell_other _ ⟨w.heap.size, 2, none⟩ (w.heap.size + 1) (.slice ta m.ths.length tc) (Nat.succ_ne_self _)).trans hC
        replace hH := ownsRow_setCell_below hH (a := ⟨w.heap.size, 2, none⟩) (Nat.lt_succ_self _) (.slice ta m.ths.length tc)
        replace hT := ownsRow_setCell_below hT (a := ⟨w.heap.size, 2, none⟩) (Nat.lt_succ_self _) (.slice ta m.ths.length tc)
        replace hN := hN.setCell (p := ⟨w.heap.size, 2, none⟩) (.inl (Nat.le_refl _)) (.slice ta m.ths.length tc)
        obtain ⟨W3, hW⟩ : ∃ W, W2.setCell ⟨w.heap.size, 2, none⟩ (.slice ta m.ths.length tc) = W := ⟨_, rfl⟩
        rw [hW] at hB hC hN hH hT ⊢
        clear hW
        refine any_take 8 (some 12) (.pointer (some ⟨w.heap.size, 3, none⟩)) rfl rfl (by kernel_rfl) (by kernel_rfl) (by kernel_rfl) (fun _ _ _ h => h.elim) (.value rfl fun w => by go_simp) ?_
        simp only [Act.put, List.setIfInBounds_toArray, List.set_cons_succ, List.set_cons_zero]
        refine wpAnyIn_all (rs := [9]) (by kernel_rfl) (by simp) ?_
        simp only [List.mem_cons, List.not_mem_nil, or_false, forall_eq_or_imp, forall_eq]
        refine opIn_skip none rfl rfl rfl rfl (w' := W3.setCell ⟨w.heap.size, 3, none⟩ (.slice ha m.hist.length hc)) (by have h1 := hB.c3; have h2 := hB.frozen 3; go_simp) ?_
        simp only [Act.put, List.setIfInBounds_toArray, List.set_cons_succ, List.set_cons_zero]
        replace hB := hB.set3 (.slice ha m.hist.length hc)
        replace hC := (heap_setCell_other _ ⟨w.heap.size, 3, none⟩ (w.heap.size + 1) (.slice ha m.hist.length hc) (Nat.succ_ne_self _)).trans hC
        replace hH := ownsRow_setCell_below hH (a := ⟨w.heap.size, 3, none⟩) (Nat.lt_succ_self _) (.slice ha m.hist.length hc)
        replace hT := ownsRow_setCell_below hT (a := ⟨w.heap.size, 3, none⟩) (Nat.lt_succ_self _) (.slice ha m.hist.length hc)
        replace hN := hN.setCell (p := ⟨w.heap.size, 3, none⟩) (.inl (Nat.le_refl _)) (.slice ha m.hist.length hc)
        obtain ⟨W4, hW⟩ : ∃ W, W3.setCell ⟨w.heap.size, 3, none⟩ (.slice ha m.hist.length hc) = W := ⟨_, rfl⟩
        rw [hW] at hB hC hN hH hT ⊢
        clear hW
        refine wpAnyIn_done (by kernel_rfl) ?_ _
        exact ⟨_, _, rfl, hB, hT, hH, hC, hN⟩
    · refine opIn_value (some 9) (v := hh) (w' := W) rfl rfl rfl rfl (by have := hB.c3; go_simp) ?_
      simp only [Act.put, List.setIfInBounds_toArray, List.set_cons_succ, List.set_cons_zero]
      refine wpAnyIn_all (rs := [1]) (by kernel_rfl) (by simp) ?_
      simp only [List.mem_cons, List.not_mem_nil, or_false, forall_eq_or_imp, forall_eq]
      refine opIn_value (some 6) (v := tv) (w' := W) rfl rfl rfl rfl (by have := hB.c2; go_simp) ?_
      simp only [Act.put, List.setIfInBounds_toArray, List.set_cons_succ, List.set_cons_zero]
      refine wpAnyIn_all (rs := [2]) (by kernel_rfl) (by simp) ?_
      simp only [List.mem_cons, List.not_mem_nil, or_false, forall_eq_or_imp, forall_eq]
      refine opIn_call' (some 7) rfl rfl rfl rfl 144 #[tv] (by go_simp) ((HT.out _ hN hB.lt).mono ?_)
      rintro e W1 ⟨tv', rfl, hT, hN1⟩
      obtain ⟨ta, tc, rfl⟩ := owns_slice hT
      refine ⟨_, rfl, ?_⟩
      simp only [Act.put, List.setIfInBounds_toArray, List.set_cons_succ, List.set_cons_zero]
      replace hB := hB.new hN1
      replace hC := hN1.heap hC id
      replace hN := hN.trans hN1
      clear hN1
      refine any_take 6 (some 11) (.pointer (some ⟨w.heap.size, 2, none⟩)) rfl rfl (by kernel_rfl) (by kernel_rfl) (by kernel_rfl) (fun _ _ _ h => h.elim) (.value rfl fun w => by go_simp) ?_
      simp only [Act.put, List.setIfInBounds_toArray, List.set_cons_succ, List.set_cons_zero]
      refine wpAnyIn_all (rs := [5]) (by kernel_rfl) (by simp) ?_
      simp only [List.mem_cons, List.not_mem_nil, or_false, forall_eq_or_imp, forall_eq]
      refine opIn_call' (some 10) rfl rfl rfl rfl 145 #[hh] (by go_simp) ((HH.out _ hN hB.lt).mono ?_)
      rintro e W2 ⟨hh', rfl, hH, hN1⟩
      obtain ⟨ha, hc, rfl⟩ := owns_slice hH
      refine ⟨_, rfl, ?_⟩
      simp only [Act.put, List.setIfInBounds_toArray, List.set_cons_succ, List.set_cons_zero]
      replace hB := hB.new hN1
      replace hC := hN1.heap hC id
      replace hN := hN.trans hN1
      replace hT := hN1.ownsRow hT fun _ _ => id
      clear hN1
      refine wpAnyIn_all (rs := [7]) (by kernel_rfl) (by simp) ?_
      simp only [List.mem_cons, List.not_mem_nil, or_false, forall_eq_or_imp, forall_eq]
      refine opIn_skip none rfl rfl rfl rfl (w' := W2.setCell ⟨w.heap.size, 2, none⟩ (.slice ta m.ths.length tc)) (by have h1 := hB.c2; have h2 := hB.frozen 2; go_simp) ?_
      simp only [Act.put, List.setIfInBounds_toArray, List.set_cons_succ, List.set_cons_zero]
      replace hB := hB.set2 (.slice ta m.ths.length tc)
      replace hC := (heap_setCell_other _ ⟨w.heap.size, 2, none⟩ (w.heap.size + 1) (.slice ta m.ths.length tc) (Nat.succ_ne_self _)).trans hC
      replace hH := ownsRow_setCell_below hH (a := ⟨w.heap.size, 2, none⟩) (Nat.lt_succ_self _) (.slice ta m.ths.length tc)
      replace hT := ownsRow_setCell_below hT (a := ⟨w.heap.size, 2, none⟩) (Nat.lt_succ_self _) (.slice ta m.ths.length tc)
      replace hN := hN.setCell (p := ⟨w.heap.size, 2, none⟩) (.inl (Nat.le_refl _)) (.slice ta m.ths.length tc)
      obtain ⟨W3, hW⟩ : ∃ W, W2.setCell ⟨w.heap.size, 2, none⟩ (.slice ta m.ths.length tc) = W := ⟨_, rfl⟩
      rw [hW] at hB hC hN hH hT ⊢
      clear hW
      refine any_take 8 (some 12) (.pointer (some ⟨w.heap.size, 3, none⟩)) rfl rfl (by kernel_rfl) (by kernel_rfl) (by kernel_rfl) (fun _ _ _ h => h.elim) (.value rfl fun w => by go_simp) ?_
      simp only [Act.put, List.setIfInBounds_toArray, List.set_cons_succ, List.set_cons_zero]
      refine wpAnyIn_all (rs := [9]) (by kernel_rfl) (by simp) ?_
      simp only [List.mem_cons, List.not_mem_nil, or_false, forall_eq_or_imp, forall_eq]
      refine opIn_skip none rfl rfl rfl rfl (w' := W3.setCell ⟨w.heap.size, 3, none⟩ (.slice ha m.hist.length hc)) (by have h1 := hB.c3; have h2 := hB.frozen 3; go_simp) ?_
      simp only [Act.put, List.setIfInBounds_toArray, List.set_cons_succ, List.set_cons_zero]
      replace hB := hB.set3 (.slice ha m.hist.length hc)
      replace hC := (heap_setCell_other _ ⟨w.heap.size, 3, none⟩ (w.heap.size + 1) (.slice ha m.hist.length hc) (Nat.succ_ne_self _)).trans hC
      replace hH := ownsRow_setCell_below hH (a := ⟨w.heap.size, 3, none⟩) (Nat.lt_succ_self _) (.slice ha m.hist.length hc)
      replace hT := ownsRow_setCell_below hT (a := ⟨w.heap.size, 3, none⟩) (Nat.lt_succ_self _) (.slice ha m.hist.length hc)
      replace hN := hN.setCell (p := ⟨w.heap.size, 3, none⟩) (.inl (Nat.le_refl _)) (.slice ha m.hist.length hc)
      obtain ⟨W4, hW⟩ : ∃ W, W3.setCell ⟨w.heap.size, 3, none⟩ (.slice ha m.hist.length hc) = W := ⟨_, rfl⟩
      rw [hW] at hB hC hN hH hT ⊢
      clear hW
      refine wpAnyIn_done (by kernel_rfl) ?_ _
      exact ⟨_, _, rfl, hB, hT, hH, hC, hN⟩
  · rintro a' W1 ⟨tv', hh', rfl, hB, hT, hH, hC, hN⟩
    simp only [Act.put, List.setIfInBounds_toArray, List.set_cons_succ, List.set_cons_zero]
    clear HT HH
    obtain ⟨ta, tc, rfl⟩ := owns_slice hT
    have hc2 := hB.c2
    have hc3 := hB.c3
    have h0 : OwnR w m ta tc hh' lv 0 W1 := ⟨lv, hB, hT, fun j hj => by omega, fun j _ => rfl, hH, hC, hN⟩
    have hsm := hR.ths.1
    clear hB hT hH hC hN
    go_wp2_with fail
    go_loopw [16] (fun i wr => ∃ k : Nat, k ≤ m.ths.length ∧ i = .int .i64 k ∧ OwnR w m ta tc hh' lv k wr) (fun i _ => m.ths.length - (intOf i).toNat)
    case atStart => exact ⟨0, Nat.zero_le _, rfl, h0⟩
    case round =>
      obtain ⟨k, hk, rfl, lv', hB, hT, hle, hge, hH, hC, hN⟩ := hrel
      clear hc2 hc3 h0
      by_cases hkn : k < m.ths.length
      · have hkd : decide ((k : Int) < (m.ths.length : Int)) = true := decide_eq_true (by omega)
        obtain ⟨t, ht⟩ : ∃ t, m.ths.getD k .no = t := ⟨_, rfl⟩
        have hlk := hR.left k hkn
        have hRT := (ReadsF.ofOwns (by decide) (thsF_len _ _) hsm hT).2
        obtain ⟨ao, cap, hv, hRT⟩ := hRT
        obtain ⟨g, o, rfl, hra⟩ := hRT k hkn
        cases hv
        have hg := hT.lt g rfl
        have ho : o = 0 := by
          rcases hT.2 with ⟨h, _⟩ | ⟨_, _, _, h, _⟩
          · cases h
          · cases h; rfl
        subst ho
        have hcs : thsF m.ths lv' k = t.cs (lv k) := by unfold thsF; rw [ht, hge k (Nat.le_refl _)]
        rw [hcs, Nat.zero_add] at hra
        rw [ht] at hlk
        have hc2 := hB.c2
        have HC : Hid (∀ W, New w W → w.heap.size < W.heap.size → Calls Try.prog 98 #[lv k] W fun e w' => ∃ v', e = .returned v' ∧ w'.ownsRow (w.heap.size + 1) 93 3 v' t.left.length (flatE t.left) ∧ New W w') := Lib.hid (by
          intro W hN hlt
          exact (clone_deeds _ _ W (hlk.new hN)).mono fun e w' ⟨v', he, ho, hN'⟩ => ⟨v', he, owns_mono ho (by omega), hN'⟩)
        have hone : ∀ u ∈ t.cs (lv k), u.oneCell' = true := by
          obtain ⟨_, ao', cap', he, _⟩ := hlk
          intro u hu
          simp [Th.cs] at hu
          rcases hu with rfl | rfl | rfl | rfl
          · rw [he]; rfl
          · rfl
          · rfl
          · rfl
        go_upto_region 5 with (first | (refine op_value rfl (run_load_mid 100 (.tmp 19) rfl g (k * 4) rfl (t.cs (lv k)) _ hra Try.underlying100 rfl info100) ?_) | (refine op_skip rfl (run_store_new 100 (.tmp 4) (.tmp 20) rfl 100 [.slice none 0 0, .bool false, .int .u64 0, .int .i64 0] (t.cs (lv k)) rfl rfl info100 rfl hone) ?_))
        have hNa : New wr (wr.alloc (.cells (t.cs (lv k)).toArray 100)) := (Mods.refl _ _).alloc _
        have hD := World.alloc_heap_new wr (.cells (t.cs (lv k)).toArray 100)
        replace hB := hB.new hNa
        replace hN := hN.trans hNa
        replace hT := hNa.ownsRow hT fun _ _ => id
        have hM := hNa
        obtain ⟨W', hW⟩ : ∃ W, wr.alloc (.cells (t.cs (lv k)).toArray 100) = W := ⟨_, rfl⟩
        obtain ⟨D, hDD⟩ : ∃ D, wr.heap.size = D := ⟨_, rfl⟩
        rw [hW] at hD hB hN hT hM ⊢
        rw [hDD] at hD ⊢
        have hk0 : (0 : Int) ≤ (k : Int) := by omega
        have hk1 : (k : Int) < (m.ths.length : Int) := by omega
        clear hW hDD hra hc2 hone hNa hkd hlk
        refine piece (fun a a' W'' => ∃ na nc, a' = (a.put (some 21) (.pointer (some ⟨w.heap.size, 2, none⟩)) |>.put (some 22) (.slice (some ⟨g, 0, none⟩) m.ths.length tc) |>.put (some 23) (.int .i64 k) |>.put (some 24) (.pointer (some ⟨D, 0, none⟩)) |>.put (some 25) (lv k) |>.put (some 26) (.slice na t.left.length nc) |>.put (some 27) (.pointer (some ⟨g, k * 4, none⟩)) |>.put (some 28) (.pointer (some ⟨g, k * 4, none⟩))) ∧ ∃ W2, W'' = W2.setCell ⟨g, k * 4, none⟩ (.slice na t.left.length nc) ∧ MB W2 w.heap.size m.word m.clock (.slice (some ⟨g, 0, none⟩) m.ths.length tc) hh' ∧ W2.ownsRow (w.heap.size + 1) 100 4 (.slice (some ⟨g, 0, none⟩) m.ths.length tc) m.ths.length (flatF m.ths.length (thsF m.ths lv')) ∧ W2.ownsRow (w.heap.size + 1) 93 3 (.slice na t.left.length nc) t.left.length (flatE t.left) ∧ New wr W2 ∧ New w W2) ?_ ?_
        · refine (wpIn_wide (n := 0)).1 ?_
          refine wpIn_region_any (by kernel_rfl) ?_
          show wpAnyIn _ _ _ _ _ _ _ _ _ W'.drew
          replace hB : MB W'.drew w.heap.size m.word m.clock (.slice (some ⟨g, 0, none⟩) m.ths.length tc) hh' := hB
          replace hD : W'.drew.heap[D]? = some (.cells (t.cs (lv k)).toArray 100 (0, 0)) := hD
          replace hN := hN.drew
          replace hM := hM.drew
          replace hT := (Mods.refl (fun _ => False) W').drew.ownsRow hT fun _ _ => id
          obtain ⟨W, hW⟩ : ∃ W, W'.drew = W := ⟨_, rfl⟩
          rw [hW] at hB hD hN hM hT ⊢
          clear hW
          refine any_take 0 (some 21) (.pointer (some ⟨w.heap.size, 2, none⟩)) rfl rfl (by kernel_rfl) (by kernel_rfl) (by kernel_rfl) (fun _ _ _ h => h.elim) (.value rfl fun w => by go_simp) ?_
          simp only [Act.put, List.setIfInBounds_toArray, List.set_cons_succ, List.set_cons_zero]
          refine any_take 2 (some 23) (.int .i64 k) rfl rfl (by kernel_rfl) (by kernel_rfl) (by kernel_rfl) (fun _ _ _ h => h.elim) (.value rfl fun w => by go_simp) ?_
          simp only [Act.put, List.setIfInBounds_toArray, List.set_cons_succ, List.set_cons_zero]
          refine any_take 3 (some 24) (.pointer (some ⟨D, 0, none⟩)) rfl rfl (by kernel_rfl) (by kernel_rfl) (by kernel_rfl) (fun _ _ _ h => h.elim) (.value rfl fun w => by go_simp) ?_
          simp only [Act.put, List.setIfInBounds_toArray, List.set_cons_succ, List.set_cons_zero]
          refine wpAnyIn_all (rs := [1, 4]) (by kernel_rfl) (by simp) ?_
          simp only [List.mem_cons, List.not_mem_nil, or_false, forall_eq_or_imp, forall_eq]
          refine ⟨?_, ?_⟩
          · refine opIn_value (some 22) (v := .slice (some ⟨g, 0, none⟩) m.ths.length tc) (w' := W) rfl rfl rfl rfl (by have := hB.c2; go_simp) ?_
            simp only [Act.put, List.setIfInBounds_toArray, List.set_cons_succ, List.set_cons_zero]
            refine wpAnyIn_all (rs := [4]) (by kernel_rfl) (by simp) ?_
            simp only [List.mem_cons, List.not_mem_nil, or_false, forall_eq_or_imp, forall_eq]
            refine opIn_value (some 25) (v := lv k) (w' := W) rfl rfl rfl rfl (by have := th_c0 hD; go_simp) ?_
            simp only [Act.put, List.setIfInBounds_toArray, List.set_cons_succ, List.set_cons_zero]
            refine wpAnyIn_all (rs := [5]) (by kernel_rfl) (by simp) ?_
            simp only [List.mem_cons, List.not_mem_nil, or_false, forall_eq_or_imp, forall_eq]
            refine opIn_call' (some 26) rfl rfl rfl rfl 98 #[lv k] (by go_simp) ((HC.out _ hN hB.lt).mono ?_)
            rintro e W2 ⟨nv, rfl, hv, hN1⟩
            obtain ⟨na, nc, rfl⟩ := owns_slice hv
            refine ⟨_, rfl, ?_⟩
            simp only [Act.put, List.setIfInBounds_toArray, List.set_cons_succ, List.set_cons_zero]
            replace hB := hB.new hN1
            replace hD := hN1.heap hD id
            replace hN := hN.trans hN1
            replace hM := hM.trans hN1
            replace hT := hN1.ownsRow hT fun _ _ => id
            clear hN1
            refine any_take 6 (some 27) (.pointer (some ⟨g, k * 4, none⟩)) rfl rfl (by kernel_rfl) (by kernel_rfl) (by kernel_rfl) (fun _ _ _ h => h.elim) (.value rfl fun w => by go_simp) ?_
            simp only [Act.put, List.setIfInBounds_toArray, List.set_cons_succ, List.set_cons_zero]
            refine any_take 7 (some 28) (.pointer (some ⟨g, k * 4, none⟩)) rfl rfl (by kernel_rfl) (by kernel_rfl) (by kernel_rfl) (fun _ _ _ h => h.elim) (.value rfl fun w => by go_simp) ?_
            simp only [Act.put, List.setIfInBounds_toArray, List.set_cons_succ, List.set_cons_zero]
            refine wpAnyIn_all (rs := [8]) (by kernel_rfl) (by simp) ?_
            simp only [List.mem_cons, List.not_mem_nil, or_false, forall_eq_or_imp, forall_eq]
            have hx := World.ownsRow.cellAt hT (k * 4) (by omega)
            rw [flatF_at (sz := 4) (by decide) (thsF_len _ _), if_pos (by omega), Nat.mul_div_cancel _ (by decide : 0 < 4), Nat.mul_mod_left, hcs] at hx
            replace hx : W2.cell? ⟨g, k * 4, none⟩ = some (lv k) := hx
            have hf := World.ownsRow.frozenAt hT (k * 4)
            refine opIn_skip none rfl rfl rfl rfl (w' := W2.setCell ⟨g, k * 4, none⟩ (.slice na t.left.length nc)) (by go_simp) ?_
            simp only [Act.put, List.setIfInBounds_toArray, List.set_cons_succ, List.set_cons_zero]
            refine wpAnyIn_done (by kernel_rfl) ?_ _
            exact ⟨na, nc, rfl, W2, rfl, hB, hT, hv, hM, hN⟩
          · refine opIn_value (some 25) (v := lv k) (w' := W) rfl rfl rfl rfl (by have := th_c0 hD; go_simp) ?_
            simp only [Act.put, List.setIfInBounds_toArray, List.set_cons_succ, List.set_cons_zero]
            refine wpAnyIn_all (rs := [1, 5]) (by kernel_rfl) (by simp) ?_
            simp only [List.mem_cons, List.not_mem_nil, or_false, forall_eq_or_imp, forall_eq]
            refine ⟨?_, ?_⟩
            · refine opIn_value (some 22) (v := .slice (some ⟨g, 0, none⟩) m.ths.length tc) (w' := W) rfl rfl rfl rfl (by have := hB.c2; go_simp) ?_
              simp only [Act.put, List.setIfInBounds_toArray, List.set_cons_succ, List.set_cons_zero]
              refine wpAnyIn_all (rs := [5]) (by kernel_rfl) (by simp) ?_
              simp only [List.mem_cons, List.not_mem_nil, or_false, forall_eq_or_imp, forall_eq]
              refine opIn_call' (some 26) rfl rfl rfl rfl 98 #[lv k] (by go_simp) ((HC.out _ hN hB.lt).mono ?_)
              rintro e W2 ⟨nv, rfl, hv, hN1⟩
              obtain ⟨na, nc, rfl⟩ := owns_slice hv
              refine ⟨_, rfl, ?_⟩
              simp only [Act.put, List.setIfInBounds_toArray, List.set_cons_succ, List.set_cons_zero]
              replace hB := hB.new hN1
              replace hD := hN1.heap hD id
              replace hN := hN.trans hN1
              replace hM := hM.trans hN1
              replace hT := hN1.ownsRow hT fun _ _ => id
              clear hN1
              refine any_take 6 (some 27) (.pointer (some ⟨g, k * 4, none⟩)) rfl rfl (by kernel_rfl) (by kernel_rfl) (by kernel_rfl) (fun _ _ _ h => h.elim) (.value rfl fun w => by go_simp) ?_
              simp only [Act.put, List.setIfInBounds_toArray, List.set_cons_succ, List.set_cons_zero]
              refine any_take 7 (some 28) (.pointer (some ⟨g, k * 4, none⟩)) rfl rfl (by kernel_rfl) (by kernel_rfl) (by kernel_rfl) (fun _ _ _ h => h.elim) (.value rfl fun w => by go_simp) ?_
              simp only [Act.put, List.setIfInBounds_toArray, List.set_cons_succ, List.set_cons_zero]
              refine wpAnyIn_all (rs := [8]) (by kernel_rfl) (by simp) ?_
              simp only [List.mem_cons, List.not_mem_nil, or_false, forall_eq_or_imp, forall_eq]
              have hx := World.ownsRow.cellAt hT (k * 4) (by omega)
              rw [flatF_at (sz := 4) (by decide) (thsF_len _ _), if_pos (by omega), Nat.mul_div_cancel _ (by decide : 0 < 4), Nat.mul_mod_left, hcs] at hx
              replace hx : W2.cell? ⟨g, k * 4, none⟩ = some (lv k) := hx
              have hf := World.ownsRow.frozenAt hT (k * 4)
              refine opIn_skip none rfl rfl rfl rfl (w' := W2.setCell ⟨g, k * 4, none⟩ (.slice na t.left.length nc)) (by go_simp) ?_
              simp only [Act.put, List.setIfInBounds_toArray, List.set_cons_succ, List.set_cons_zero]
              refine wpAnyIn_done (by kernel_rfl) ?_ _
              exact ⟨na, nc, rfl, W2, rfl, hB, hT, hv, hM, hN⟩
            · refine opIn_call' (some 26) rfl rfl rfl rfl 98 #[lv k] (by go_simp) ((HC.out _ hN hB.lt).mono ?_)
              rintro e W2 ⟨nv, rfl, hv, hN1⟩
              obtain ⟨na, nc, rfl⟩ := owns_slice hv
              refine ⟨_, rfl, ?_⟩
              simp only [Act.put, List.setIfInBounds_toArray, List.set_cons_succ, List.set_cons_zero]
              replace hB := hB.new hN1
              replace hD := hN1.heap hD id
              replace hN := hN.trans hN1
              replace hM := hM.trans hN1
              replace hT := hN1.ownsRow hT fun _ _ => id
              clear hN1
              refine wpAnyIn_all (rs := [1]) (by kernel_rfl) (by simp) ?_
              simp only [List.mem_cons, List.not_mem_nil, or_false, forall_eq_or_imp, forall_eq]
              refine opIn_value (some 22) (v := .slice (some ⟨g, 0, none⟩) m.ths.length tc) (w' := W2) rfl rfl rfl rfl (by have := hB.c2; go_simp) ?_
              simp only [Act.put, List.setIfInBounds_toArray, List.set_cons_succ, List.set_cons_zero]
              refine any_take 6 (some 27) (.pointer (some ⟨g, k * 4, none⟩)) rfl rfl (by kernel_rfl) (by kernel_rfl) (by kernel_rfl) (fun _ _ _ h => h.elim) (.value rfl fun w => by go_simp) ?_
              simp only [Act.put, List.setIfInBounds_toArray, List.set_cons_succ, List.set_cons_zero]
              refine any_take 7 (some 28) (.pointer (some ⟨g, k * 4, none⟩)) rfl rfl (by kernel_rfl) (by kernel_rfl) (by kernel_rfl) (fun _ _ _ h => h.elim) (.value rfl fun w => by go_simp) ?_
              simp only [Act.put, List.setIfInBounds_toArray, List.set_cons_succ, List.set_cons_zero]
              refine wpAnyIn_all (rs := [8]) (by kernel_rfl) (by simp) ?_
              simp only [List.mem_cons, List.not_mem_nil, or_false, forall_eq_or_imp, forall_eq]
              have hx := World.ownsRow.cellAt hT (k * 4) (by omega)
              rw [flatF_at (sz := 4) (by decide) (thsF_len _ _), if_pos (by omega), Nat.mul_div_cancel _ (by decide : 0 < 4), Nat.mul_mod_left, hcs] at hx
              replace hx : W2.cell? ⟨g, k * 4, none⟩ = some (lv k) := hx
              have hf := World.ownsRow.frozenAt hT (k * 4)
              refine opIn_skip none rfl rfl rfl rfl (w' := W2.setCell ⟨g, k * 4, none⟩ (.slice na t.left.length nc)) (by go_simp) ?_
              simp only [Act.put, List.setIfInBounds_toArray, List.set_cons_succ, List.set_cons_zero]
              refine wpAnyIn_done (by kernel_rfl) ?_ _
              exact ⟨na, nc, rfl, W2, rfl, hB, hT, hv, hM, hN⟩
        · rintro a' W'' ⟨na, nc, rfl, W2, rfl, hB2, hT2, hv2, hM2, hN2⟩
          simp only [Act.put, List.setIfInBounds_toArray, List.set_cons_succ, List.set_cons_zero]
          have hnext : OwnR w m (some ⟨g, 0, none⟩) tc hh' lv (k + 1) (W2.setCell ⟨g, k * 4, none⟩ (.slice na t.left.length nc)) := by
            have hS : Mods (fun b => b = g) W2 (W2.setCell ⟨g, k * 4, none⟩ (.slice na t.left.length nc)) := (Mods.refl (fun b => b = g) W2).setCell (p := ⟨g, k * 4, none⟩) (.inr rfl) _
            have hTg : W2.heap[g]? ≠ none := by
              intro e
              have := (hT2.lt g rfl).2
              rw [Array.getElem?_eq_getElem this] at e
              cases e
            have hst := (World.ownsRow.stored hT2 (k * 4) (.slice na t.left.length nc)).1
            rw [show k * 4 = k * 4 + 0 by omega, flatF_set (thsF_len _ _) (by decide) hkn] at hst
            have hne : ∀ {e : TypeId} {sz n : Nat} {v : Value} {xs : List Value}, W2.ownsRow (w.heap.size + 1) e sz v n xs → e ≠ 100 → ∀ b, v.ownBlock = some b → b ≠ g := by
              intro e sz n v xs h he b hb hbg
              subst hbg
              exact own_ne h hT2 he hb rfl
            refine ⟨fun j => if j = k then .slice na t.left.length nc else lv' j, hB2.other (by omega) _, ?_, ?_, ?_, hS.ownsRow (hM2.ownsRow hH fun _ _ => id) (hne (hM2.ownsRow hH fun _ _ => id) (by decide)), ?_, ?_⟩
            · rw [flatF_congr (g := fun q => if q = k then (thsF m.ths lv' k).set 0 (.slice na t.left.length nc) else thsF m.ths lv' q)]
              · exact hst
              · intro q hq
                unfold thsF
                dsimp only
                by_cases hqk : q = k
                · subst hqk
                  rw [if_pos rfl, if_pos rfl]
                  rfl
                · rw [if_neg hqk, if_neg hqk]
            · intro j hj
              dsimp only
              by_cases hjk : j = k
              · subst hjk
                rw [if_pos rfl, ht]
                exact hS.ownsRow hv2 (hne hv2 (by decide))
              · rw [if_neg hjk]
                have h3 := hM2.ownsRow (hle j (by omega)) fun _ _ => id
                exact hS.ownsRow h3 (hne h3 (by decide))
            · intro j hj
              dsimp only
              rw [if_neg (by omega)]
              exact hge j (by omega)
            · refine (heap_setCell_other _ ⟨g, k * 4, none⟩ (w.heap.size + 1) _ ?_).trans (hM2.heap hC id)
              intro e
              have e : w.heap.size + 1 = g := e
              subst e
              rcases hT2.2 with ⟨h, _⟩ | ⟨b, _, _, h, _, hb, _⟩
              · cases h
              · cases h
                rw [hM2.heap hC id] at hb
                cases hb
            · exact hN2.setCell (.inl (by show w.heap.size ≤ g; omega)) _
          clear hB2 hT2 hv2 hM2 hN2 hB hT hle hge hH hC hN hD hM HC
          go_wp2_with fail
          go_roundw
          case rel => exact ⟨k + 1, by omega, by go_num, hnext⟩
          case measure => simp [intOf]; omega
      · obtain rfl : k = m.ths.length := by omega
        have hkd : decide ((m.ths.length : Int) < (m.ths.length : Int)) = false := decide_eq_false (by omega)
        have hl1 : (Try.prog.info? 77).map (·.size) = some (maV m (.slice ta m.ths.length tc) hh').toArray.size := info77
        have hl2 : (Try.prog.info? 77).map (·.size) = some (maV m (.slice ta m.ths.length tc) hh').length := info77
        have hB' : wr.heap[w.heap.size]? = some (.cells (maV m (.slice ta m.ths.length tc) hh').toArray 77 (0, 0)) := hB
        have hone : ∀ u ∈ maV m (.slice ta m.ths.length tc) hh', u.oneCell' = true := by
          obtain ⟨ha, hc, he⟩ := owns_slice hH
          intro u hu
          simp [maV] at hu
          rcases hu with rfl | rfl | rfl | rfl
          · rfl
          · rfl
          · rfl
          · rw [he]; rfl
        go_wp2_with (first | (refine op_value rfl (run_load_row 77 (.tmp 1) rfl w.heap.size rfl 77 (maV m (.slice ta m.ths.length tc) hh').toArray (0, 0) _ hB' Try.underlying77 rfl hl1) ?_) | (refine op_skip rfl (run_store_row 77 (.tmp 2) (.tmp 30) rfl (w.heap.size + 1) rfl 77 [.int .u64 0, .int .i64 0, .slice none 0 0, .slice none 0 0] (maV m (.slice ta m.ths.length tc) hh') rfl hC hl2 rfl hone) ?_))
        have hC2 := setRow_heap wr (w.heap.size + 1) _ (maV m (.slice ta m.ths.length tc) hh').toArray 77 (0, 0) hC
        have hS : Mods (fun b => b = w.heap.size + 1) wr (wr.setRow (w.heap.size + 1) (maV m (.slice ta m.ths.length tc) hh').toArray) := mods_setRow hC _
        have hne : ∀ {e : TypeId} {sz n : Nat} {v : Value} {xs : List Value}, wr.ownsRow (w.heap.size + 1) e sz v n xs → e ≠ 77 → ∀ b, v.ownBlock = some b → b ≠ w.heap.size + 1 := by
          intro e sz n v xs h he b hb hbg
          subst hbg
          rcases h.2 with ⟨rfl, _⟩ | ⟨b, _, _, rfl, _, hb', _⟩
          · cases hb
          · cases hb
            rw [hC] at hb'
            cases hb'
            exact he rfl
        refine bodyPost_ret (v := .agg (maV m (.slice ta m.ths.length tc) hh').toArray) ?_ rfl ⟨_, _, lv', rfl, ⟨?_, ?_, ?_, ?_, ?_, hsm, hR.hist.1⟩, hN.setRow (by omega) _⟩
        · exact results_cell_row rfl _ _ (w.heap.size + 1) 77 _ (0, 0) _ rfl hC2 Try.underlying77 rfl hl1
        · exact owns_mono (hS.ownsRow hT (hne hT (by decide))) (by omega)
        · intro j hj
          have h3 := hle j hj
          exact ReadsE.ofOwns (hR.left j hj).1 (hS.ownsRow h3 (hne h3 (by decide)))
        · intro j hj _ b hb
          have h3 := hle j hj
          exact ⟨own_ne h3 hT (by decide) hb, own_ne h3 hH (by decide) hb⟩
        · intro j hj
          rcases (hle j hj).2 with ⟨e, e0⟩ | ⟨b, cp, cur, e, _, _, hn, _⟩
          · exact ⟨none, 0, by rw [e0]; exact e, by omega⟩
          · exact ⟨_, cp, e, hn⟩
        · exact owns_mono (hS.ownsRow hH (hne hH (by decide))) (by omega)
end Go.Proofs.Ytkjloeefcaadlaa
