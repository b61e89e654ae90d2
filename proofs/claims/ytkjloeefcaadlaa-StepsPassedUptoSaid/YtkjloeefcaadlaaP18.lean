/- One that reads the word. -/
import Derived.Test.YtkjloeefcaadlaaP16
set_option linter.unusedSimpArgs false
set_option linter.unusedVariables false
namespace Go.Proofs.Ytkjloeefcaadlaa
open Go.RowKit Go.Shelf Go.Cs
attribute [local go_sem] Oper.semAt_some
set_option maxRecDepth 100000 in
set_option maxHeartbeats 4000000 in
theorem reads_any (W : World) (O N : Nat) (m : Ma) (tv hh : Value) (lv : Nat → Value) (i : Nat) (t : Th) (hi : i < m.ths.length) (ht : m.ths.getD i .no = t) (hl : 0 < t.left.length) (hB : MB W O m.word m.clock tv hh) (hM : MaO W N m tv hh lv) (hlen : m.hist.length < 2000000) :
    Calls Try.prog 100 #[.pointer (some ⟨O, 0, none⟩), .int .i64 i] W fun e W' => (∃ v, e = .returned v) ∧ ∃ hh', MB W' O m.word m.clock tv hh' ∧ MaO W' N (readM m i t) tv hh' lv ∧ Mods (Wr O tv hh) W W' := by
  obtain ⟨g, cap, rfl⟩ := hM.row hi
  obtain ⟨ha, hcap, rfl⟩ := owns_slice hM.hist
  have hgO := hB.apart hM.ths (by decide) rfl
  have hgO1 : ¬ g = O := hgO
  have hgO2 : ¬ O = g := fun e => hgO e.symm
  obtain ⟨a1, f1⟩ := own_thread hM.ths hi 1 (by decide)
  obtain ⟨a2, f2⟩ := own_thread hM.ths hi 2 (by decide)
  obtain ⟨a3, f3⟩ := own_thread hM.ths hi 3 (by decide)
  rw [ht] at a1 a2 a3
  replace a1 : W.cell? ⟨g, i * 4 + 1, none⟩ = some (.bool t.loaded) := a1
  replace a2 : W.cell? ⟨g, i * 4 + 2, none⟩ = some (.int .u64 (t.seen : Nat)) := a2
  replace a3 : W.cell? ⟨g, i * 4 + 3, none⟩ = some (.int .i64 t.moment) := a3
  have c0 := hB.c0
  have c2 := hB.c2
  have i0 : (0 : Int) ≤ (i : Int) := by omega
  have i1 : (i : Int) < (m.ths.length : Int) := by omega
  have hin : Mods (Wr O (.slice (some ⟨g, 0, none⟩) m.ths.length cap) (.slice ha m.hist.length hcap)) W ((W.setCell ⟨g, i * 4 + 1, none⟩ (.bool true)).setCell ⟨g, i * 4 + 2, none⟩ (.int .u64 (m.word : Nat))) := ((Mods.refl _ W).setCell (p := ⟨g, i * 4 + 1, none⟩) (.inr (.inr (.inl rfl))) (.bool true)).setCell (p := ⟨g, i * 4 + 2, none⟩) (.inr (.inr (.inl rfl))) (.int .u64 (m.word : Nat))
  have hs2 := own_store2 hM.ths hi ht true m.word
  have hS : Mods (fun b => b = g) W ((W.setCell ⟨g, i * 4 + 1, none⟩ (.bool true)).setCell ⟨g, i * 4 + 2, none⟩ (.int .u64 (m.word : Nat))) := ((Mods.refl (fun b => b = g) W).setCell (p := ⟨g, i * 4 + 1, none⟩) (.inr rfl) (.bool true)).setCell (p := ⟨g, i * 4 + 2, none⟩) (.inr rfl) (.int .u64 (m.word : Nat))
  have hB2 : MB ((W.setCell ⟨g, i * 4 + 1, none⟩ (.bool true)).setCell ⟨g, i * 4 + 2, none⟩ (.int .u64 (m.word : Nat))) O m.word m.clock (.slice (some ⟨g, 0, none⟩) m.ths.length cap) (.slice ha m.hist.length hcap) := hS.heap hB hgO2
  have hH2 := hS.ownsRow hM.hist fun b hb e => own_ne hM.hist hM.ths (by decide) hb (by rw [e]; rfl)
  have hL2 := fun j hj => (hM.left j hj).kept0 hS fun h0 b hb e => (hM.apart j hj h0 b hb).1 (by rw [e]; rfl)
  have hap := hM.apart
  have hNl := (hM.ths.lt g rfl).1
  have a3' : ((W.setCell ⟨g, i * 4 + 1, none⟩ (.bool true)).setCell ⟨g, i * 4 + 2, none⟩ (.int .u64 (m.word : Nat))).cell? ⟨g, i * 4 + 3, none⟩ = some (.int .i64 t.moment) := by
    rw [(own_thread hs2 (by rw [List.length_set]; exact hi) 3 (by decide)).1, getD_set, if_pos ⟨rfl, hi⟩]
    rfl
  have f3' : ((W.setCell ⟨g, i * 4 + 1, none⟩ (.bool true)).setCell ⟨g, i * 4 + 2, none⟩ (.int .u64 (m.word : Nat))).frozen? ⟨g, i * 4 + 3, none⟩ = false := World.ownsRow.frozenAt hs2 _
  have hsm := hM.small
  have HF := Lib.hid (And.intro a3' (And.intro f3' (And.intro hB2 (And.intro hs2 (And.intro hH2 (And.intro hL2 hin))))))
  have Hap := Lib.hid hap
  have Hcp := Lib.hid hM.caps
  clear a3' f3' hB2 hs2 hH2 hL2 hin hM hap hS a3 f3
  go_enter Try.func100, Try.ntmps100
  go_upto_region 2 with fail
  obtain ⟨b3, g3, hB2, hs2, hH2, hL2, hin⟩ := HF.out
  obtain ⟨W2, hW2⟩ : ∃ W2, (W.setCell ⟨g, i * 4 + 1, none⟩ (.bool true)).setCell ⟨g, i * 4 + 2, none⟩ (.int .u64 (m.word : Nat)) = W2 := ⟨_, rfl⟩
  rw [hW2] at b3 g3 hB2 hs2 hH2 hL2 hin ⊢
  clear hW2 HF a1 f1 a2 f2 c0 c2 hB
  by_cases hmo : t.moment < 0
  · have d1 : decide (t.moment < 0) = true := decide_eq_true hmo
    have c3 := hB2.c3
    have hs3 := own_store3 hs2 (i := i) (by rw [List.length_set]; exact hi) (t := { t with loaded := true, seen := m.word }) (by rw [getD_set, if_pos ⟨rfl, hi⟩]) m.hist.length
    have hS : Mods (fun b => b = g) W2 (W2.setCell ⟨g, i * 4 + 3, none⟩ (.int .i64 m.hist.length)) := (Mods.refl (fun b => b = g) W2).setCell (p := ⟨g, i * 4 + 3, none⟩) (.inr rfl) _
    have hB3 : MB (W2.setCell ⟨g, i * 4 + 3, none⟩ (.int .i64 m.hist.length)) O m.word m.clock (.slice (some ⟨g, 0, none⟩) m.ths.length cap) (.slice ha m.hist.length hcap) := hS.heap hB2 hgO2
    have hH3 := hS.ownsRow hH2 fun b hb e => own_ne hH2 hs2 (by decide) hb (by rw [e]; rfl)
    have hL3 := fun j hj => (hL2 j hj).kept0 hS fun h0 b hb e => (Hap.out j hj h0 b hb).1 (by rw [e]; rfl)
    have hin3 := hin.setCell (p := ⟨g, i * 4 + 3, none⟩) (.inr (.inr (.inl rfl))) (.int .i64 m.hist.length)
    rw [List.set_set] at hs3
    have HF := Lib.hid (And.intro hB3 (And.intro hs3 (And.intro hH3 (And.intro hL3 hin3))))
    clear hs2 hH2 hL2 hin hS hB3 hs3 hH3 hL3 hin3 hB2
    go_upto_region 4 with fail
    obtain ⟨hB3, hs3, hH3, hL3, hin3⟩ := HF.out
    obtain ⟨W3, hW3⟩ : ∃ W3, W2.setCell ⟨g, i * 4 + 3, none⟩ (.int .i64 m.hist.length) = W3 := ⟨_, rfl⟩
    rw [hW3] at hB3 hs3 hH3 hL3 hin3 ⊢
    clear hW3 HF c3 b3 g3
    have hHid := hH3
    have hL4 := left_set (t' := { t with loaded := true, seen := m.word, moment := m.hist.length }) hL3 hi ht rfl
    have hA4 := apart_set (t' := { t with loaded := true, seen := m.word, moment := m.hist.length }) (P := fun b => g ≠ b ∧ (Value.slice ha m.hist.length hcap).ownBlock ≠ some b) (fun j hj h0 b hb => ⟨fun e => (Hap.out j hj h0 b hb).1 (by rw [← e]; rfl), (Hap.out j hj h0 b hb).2⟩) hi ht rfl
    have hcell := (own_thread hs3 (i := i) (by rw [List.length_set]; exact hi) 0 (by decide)).1
    rw [getD_set, if_pos ⟨rfl, hi⟩] at hcell
    obtain ⟨_, lao, lc, hle, hlr⟩ := hL3 i hi
    rw [ht] at hle hlr
    obtain ⟨lb, lo, hao, hrd⟩ := hlr 0 hl
    subst hao
    replace hcell : W3.cell? ⟨g, i * 4, none⟩ = some (.slice (some ⟨lb, lo, none⟩) t.left.length lc) := hcell.trans (congrArg some hle)
    rw [Nat.zero_mul, Nat.add_zero] at hrd
    obtain ⟨p, hp⟩ : ∃ p, t.left.getD 0 .no = p := ⟨_, rfl⟩
    rw [hp] at hrd
    have hI : RI O N m.word m.clock g cap m.ths.length ha hcap m.hist (m.ths.set i { t with loaded := true, seen := m.word, moment := m.hist.length }) lv i lb lo t.left.length lc p W W3.drew :=
      (⟨List.length_set, hB3, hcell, hrd, hH3, by rw [List.length_set] at hs3 ⊢; exact hs3, hL4, hA4, hin3, by have := (hs3.lt g rfl); omega⟩ : RI O N m.word m.clock g cap m.ths.length ha hcap m.hist (m.ths.set i { t with loaded := true, seen := m.word, moment := m.hist.length }) lv i lb lo t.left.length lc p W W3).new (Mods.refl _ _).drew
    have hl0 : (0 : Int) < (t.left.length : Int) := by omega
    obtain ⟨i95, hi95, hz0, hz1, hz2⟩ := info_parts info95'
    have hwl : 24 * m.hist.length ≤ 48000000 := by omega
    clear hB3 hs3 hH3 hL3 hin3 hcell hle hlr hrd hL4 hA4 hHid
    refine piece (fun a a' W' => a'.defers = a.defers ∧ ∃ hv', MB W' O m.word m.clock (.slice (some ⟨g, 0, none⟩) m.ths.length cap) hv' ∧
        W'.ownsRow N 95 8 hv' (m.hist.length + 1) (flatF m.hist.length (mosF m.hist) ++ [.int .i64 i, .int .u8 (p.d : Nat), .int .i64 p.s, .int .i64 p.u, .int .i64 m.clock, .int .i64 (-1), .int .i64 0, .bool false]) ∧
        W'.ownsRow N 100 4 (.slice (some ⟨g, 0, none⟩) m.ths.length cap) (m.ths.set i { t with loaded := true, seen := m.word, moment := m.hist.length }).length (flatF (m.ths.set i { t with loaded := true, seen := m.word, moment := m.hist.length }).length (thsF (m.ths.set i { t with loaded := true, seen := m.word, moment := m.hist.length }) lv)) ∧
        (∀ j, j < (m.ths.set i { t with loaded := true, seen := m.word, moment := m.hist.length }).length → ReadsE W' (lv j) ((m.ths.set i { t with loaded := true, seen := m.word, moment := m.hist.length }).getD j .no).left) ∧
        (∀ j, j < (m.ths.set i { t with loaded := true, seen := m.word, moment := m.hist.length }).length → 0 < ((m.ths.set i { t with loaded := true, seen := m.word, moment := m.hist.length }).getD j .no).left.length → ∀ b, (lv j).ownBlock = some b → g ≠ b ∧ hv'.ownBlock ≠ some b) ∧
        Mods (Wr O (.slice (some ⟨g, 0, none⟩) m.ths.length cap) (.slice ha m.hist.length hcap)) W W') ?_ ?_
    · refine (wpIn_wide (n := 0)).1 ?_
      refine wpIn_region_any (by kernel_rfl) ?_
      show wpAnyIn _ _ _ _ _ _ _ _ _ W3.drew
      obtain ⟨Wd, hWd⟩ : ∃ Wd, W3.drew = Wd := ⟨_, rfl⟩
      rw [hWd] at hI ⊢
      clear hWd
      refine any_take 0 (some 34) (.pointer (some ⟨O, 0, none⟩)) rfl rfl (by kernel_rfl) (by kernel_rfl) (by kernel_rfl) (fun _ _ _ h => h.elim) (.value rfl fun w => by go_simp) ?_
      simp only [Act.put, List.setIfInBounds_toArray, List.set_cons_succ, List.set_cons_zero]
      refine any_take 1 (some 35) (.pointer (some ⟨O, 0, none⟩)) rfl rfl (by kernel_rfl) (by kernel_rfl) (by kernel_rfl) (fun _ _ _ h => h.elim) (.value rfl fun w => by go_simp) ?_
      simp only [Act.put, List.setIfInBounds_toArray, List.set_cons_succ, List.set_cons_zero]
      refine any_take 2 (some 36) (.pointer (some ⟨O, 0, none⟩)) rfl rfl (by kernel_rfl) (by kernel_rfl) (by kernel_rfl) (fun _ _ _ h => h.elim) (.value rfl fun w => by go_simp) ?_
      simp only [Act.put, List.setIfInBounds_toArray, List.set_cons_succ, List.set_cons_zero]
      refine any_take 3 (some 37) (.pointer (some ⟨O, 3, none⟩)) rfl rfl (by kernel_rfl) (by kernel_rfl) (by kernel_rfl) (fun _ _ _ h => h.elim) (.value rfl fun w => by go_simp) ?_
      simp only [Act.put, List.setIfInBounds_toArray, List.set_cons_succ, List.set_cons_zero]
      refine any_take 5 (some 39) (.int .i64 i) rfl rfl (by kernel_rfl) (by kernel_rfl) (by kernel_rfl) (fun _ _ _ h => h.elim) (.value rfl fun w => by go_simp) ?_
      simp only [Act.put, List.setIfInBounds_toArray, List.set_cons_succ, List.set_cons_zero]
      refine any_take 6 (some 40) (.pointer (some ⟨g, i * 4, none⟩)) rfl rfl (by kernel_rfl) (by kernel_rfl) (by kernel_rfl) (fun _ _ _ h => h.elim) (.value rfl fun w => by go_simp) ?_
      simp only [Act.put, List.setIfInBounds_toArray, List.set_cons_succ, List.set_cons_zero]
      refine any_take 7 (some 41) (.pointer (some ⟨g, i * 4, none⟩)) rfl rfl (by kernel_rfl) (by kernel_rfl) (by kernel_rfl) (fun _ _ _ h => h.elim) (.value rfl fun w => by go_simp) ?_
      simp only [Act.put, List.setIfInBounds_toArray, List.set_cons_succ, List.set_cons_zero]
      refine any_take 8 (some 42) (.pointer (some ⟨g, i * 4, none⟩)) rfl rfl (by kernel_rfl) (by kernel_rfl) (by kernel_rfl) (fun _ _ _ h => h.elim) (.value rfl fun w => by go_simp) ?_
      simp only [Act.put, List.setIfInBounds_toArray, List.set_cons_succ, List.set_cons_zero]
      refine any_take 12 (some 46) (.pointer (some ⟨O, 0, none⟩)) rfl rfl (by kernel_rfl) (by kernel_rfl) (by kernel_rfl) (fun _ _ _ h => h.elim) (.value rfl fun w => by go_simp) ?_
      simp only [Act.put, List.setIfInBounds_toArray, List.set_cons_succ, List.set_cons_zero]
      refine any_take 13 (some 47) (.pointer (some ⟨O, 0, none⟩)) rfl rfl (by kernel_rfl) (by kernel_rfl) (by kernel_rfl) (fun _ _ _ h => h.elim) (.value rfl fun w => by go_simp) ?_
      simp only [Act.put, List.setIfInBounds_toArray, List.set_cons_succ, List.set_cons_zero]
      refine any_take 14 (some 48) (.pointer (some ⟨O, 1, none⟩)) rfl rfl (by kernel_rfl) (by kernel_rfl) (by kernel_rfl) (fun _ _ _ h => h.elim) (.value rfl fun w => by go_simp) ?_
      simp only [Act.put, List.setIfInBounds_toArray, List.set_cons_succ, List.set_cons_zero]
      refine wpAnyIn_all (rs := [4, 9, 15]) (by kernel_rfl) (by simp) ?_
      simp only [List.mem_cons, List.not_mem_nil, or_false, forall_eq_or_imp, forall_eq]
      refine ⟨?_, ?_, ?_⟩
      · refine opIn_value (some 38) (v := .slice ha m.hist.length hcap) (w' := Wd) rfl rfl rfl rfl (by have := hI.mb.c3; go_simp) ?_
        simp only [Act.put, List.setIfInBounds_toArray, List.set_cons_succ, List.set_cons_zero]
        refine wpAnyIn_all (rs := [9, 15]) (by kernel_rfl) (by simp) ?_
        simp only [List.mem_cons, List.not_mem_nil, or_false, forall_eq_or_imp, forall_eq]
        refine ⟨?_, ?_⟩
        · refine opIn_value (some 43) (v := .slice (some ⟨lb, lo, none⟩) t.left.length lc) (w' := Wd) rfl rfl rfl rfl (by have := hI.c0; go_simp) ?_
          simp only [Act.put, List.setIfInBounds_toArray, List.set_cons_succ, List.set_cons_zero]
          refine any_take 10 (some 44) (.pointer (some ⟨lb, lo, none⟩)) rfl rfl (by kernel_rfl) (by kernel_rfl) (by kernel_rfl) (fun _ _ _ h => h.elim) (.value rfl fun w => by go_simp) ?_
          simp only [Act.put, List.setIfInBounds_toArray, List.set_cons_succ, List.set_cons_zero]
          refine wpAnyIn_all (rs := [11, 15]) (by kernel_rfl) (by simp) ?_
          simp only [List.mem_cons, List.not_mem_nil, or_false, forall_eq_or_imp, forall_eq]
          refine ⟨?_, ?_⟩
          · refine opIn_value (some 45) (v := .agg #[.int .u8 (p.d : Nat), .int .i64 p.s, .int .i64 p.u]) (w' := Wd) rfl rfl rfl rfl (run_load_mid 93 (.tmp 44) rfl lb lo rfl p.cs _ hI.rd Try.underlying93 rfl info93) ?_
            simp only [Act.put, List.setIfInBounds_toArray, List.set_cons_succ, List.set_cons_zero]
            refine wpAnyIn_all (rs := [15]) (by kernel_rfl) (by simp) ?_
            simp only [List.mem_cons, List.not_mem_nil, or_false, forall_eq_or_imp, forall_eq]
            refine opIn_value (some 49) (v := .int .i64 m.clock) (w' := Wd) rfl rfl rfl rfl (by have := hI.mb.c1; go_simp) ?_
            simp only [Act.put, List.setIfInBounds_toArray, List.set_cons_succ, List.set_cons_zero]
            refine any_take 16 (some 50) (.agg #[.int .i64 i, .int .u8 (p.d : Nat), .int .i64 p.s, .int .i64 p.u, .int .i64 m.clock, .int .i64 (-1), .int .i64 0, .bool false]) rfl rfl (by kernel_rfl) (by kernel_rfl) (by kernel_rfl) (fun _ _ _ h => h.elim) (.value rfl fun w => by go_simp) ?_
            simp only [Act.put, List.setIfInBounds_toArray, List.set_cons_succ, List.set_cons_zero]
            refine wpAnyIn_all (rs := [17]) (by kernel_rfl) (by simp) ?_
            simp only [List.mem_cons, List.not_mem_nil, or_false, forall_eq_or_imp, forall_eq]
            refine opIn_value (some 51) (v := .slice (some ⟨Wd.heap.size, 0, none⟩) 1 1) (w' := Wd.alloc (.cells #[.int .i64 i, .int .u8 (p.d : Nat), .int .i64 p.s, .int .i64 p.u, .int .i64 m.clock, .int .i64 (-1), .int .i64 0, .bool false] 95)) rfl rfl rfl rfl (by go_simp) ?_
            simp only [Act.put, List.setIfInBounds_toArray, List.set_cons_succ, List.set_cons_zero]
            have hA := World.alloc_heap_new Wd (.cells #[.int .i64 i, .int .u8 (p.d : Nat), .int .i64 p.s, .int .i64 p.u, .int .i64 m.clock, .int .i64 (-1), .int .i64 0, .bool false] 95)
            have hNa : New Wd (Wd.alloc (.cells #[.int .i64 i, .int .u8 (p.d : Nat), .int .i64 p.s, .int .i64 p.u, .int .i64 m.clock, .int .i64 (-1), .int .i64 0, .bool false] 95)) := (Mods.refl _ _).alloc _
            have hAz : Wd.heap.size < (Wd.alloc (.cells #[.int .i64 i, .int .u8 (p.d : Nat), .int .i64 p.s, .int .i64 p.u, .int .i64 m.clock, .int .i64 (-1), .int .i64 0, .bool false] 95)).heap.size := by simp
            have hI := hI.new hNa
            obtain ⟨WA, hWA⟩ : ∃ W, Wd.alloc (.cells #[.int .i64 i, .int .u8 (p.d : Nat), .int .i64 p.s, .int .i64 p.u, .int .i64 m.clock, .int .i64 (-1), .int .i64 0, .bool false] 95) = W := ⟨_, rfl⟩
            obtain ⟨A, hAA⟩ : ∃ A, Wd.heap.size = A := ⟨_, rfl⟩
            rw [hWA] at hA hAz hI ⊢
            rw [hAA] at hA hAz ⊢
            clear hWA hAA hNa
            refine wpAnyIn_all (rs := [18]) (by kernel_rfl) (by simp) ?_
            simp only [List.mem_cons, List.not_mem_nil, or_false, forall_eq_or_imp, forall_eq]
            refine opIn_append (some 52) (base := N) (e := 95) rfl rfl rfl rfl rfl Try.underlying75 hi95 hz0 hz1 hz2 rfl (by decide) (.slice ha m.hist.length hcap) m.hist.length (flatF m.hist.length (mosF m.hist)) rfl hI.hist ⟨A, 0, none⟩ 1 1 [.int .i64 i, .int .u8 (p.d : Nat), .int .i64 p.s, .int .i64 p.u, .int .i64 m.clock, .int .i64 (-1), .int .i64 0, .bool false] rfl rfl (cells_new hA) (by simp [Value.oneCell']) (by unfold maxLen; omega) (by omega) (by have := hI.base; omega) (by decide) ?_
            intro hv' WB hown hgrow hblk
            simp only [Act.put, List.setIfInBounds_toArray, List.set_cons_succ, List.set_cons_zero]
            refine any_take 19 (some 53) (.pointer (some ⟨O, 0, none⟩)) rfl rfl (by kernel_rfl) (by kernel_rfl) (by kernel_rfl) (fun _ _ _ h => h.elim) (.value rfl fun w => by go_simp) ?_
            simp only [Act.put, List.setIfInBounds_toArray, List.set_cons_succ, List.set_cons_zero]
            refine any_take 20 (some 54) (.pointer (some ⟨O, 3, none⟩)) rfl rfl (by kernel_rfl) (by kernel_rfl) (by kernel_rfl) (fun _ _ _ h => h.elim) (.value rfl fun w => by go_simp) ?_
            simp only [Act.put, List.setIfInBounds_toArray, List.set_cons_succ, List.set_cons_zero]
            refine wpAnyIn_all (rs := [21]) (by kernel_rfl) (by simp) ?_
            simp only [List.mem_cons, List.not_mem_nil, or_false, forall_eq_or_imp, forall_eq]
            obtain ⟨hB', hT', hL', hap', hMd'⟩ := hI.grown hown hgrow hblk
            obtain ⟨va, vc, rfl⟩ := owns_slice hown
            refine opIn_skip none rfl rfl rfl rfl (w' := WB.setCell ⟨O, 3, none⟩ (.slice va (m.hist.length + 1) vc)) (by have h1 := hB'.c3; have h2 := hB'.frozen 3; go_simp) ?_
            simp only [Act.put, List.setIfInBounds_toArray, List.set_cons_succ, List.set_cons_zero]
            refine wpAnyIn_done (by kernel_rfl) ?_ _
            exact ⟨rfl, _, hB'.set3 _, own_other hown (hgO := hB'.apart hown (by decide)) _ _, own_other hT' (hgO := hB'.apart hT' (by decide)) _ _, fun j hj => (hL' j hj).kept0 (setMods _ _ _ _) (fun h0 b hb e => hI.lapart j hj h0 b hb e), hap', hMd'.setCell (p := ⟨O, 3, none⟩) (.inr (.inl rfl)) _⟩
          · refine opIn_value (some 49) (v := .int .i64 m.clock) (w' := Wd) rfl rfl rfl rfl (by have := hI.mb.c1; go_simp) ?_
            simp only [Act.put, List.setIfInBounds_toArray, List.set_cons_succ, List.set_cons_zero]
            refine wpAnyIn_all (rs := [11]) (by kernel_rfl) (by simp) ?_
            simp only [List.mem_cons, List.not_mem_nil, or_false, forall_eq_or_imp, forall_eq]
            refine opIn_value (some 45) (v := .agg #[.int .u8 (p.d : Nat), .int .i64 p.s, .int .i64 p.u]) (w' := Wd) rfl rfl rfl rfl (run_load_mid 93 (.tmp 44) rfl lb lo rfl p.cs _ hI.rd Try.underlying93 rfl info93) ?_
            simp only [Act.put, List.setIfInBounds_toArray, List.set_cons_succ, List.set_cons_zero]
            refine any_take 16 (some 50) (.agg #[.int .i64 i, .int .u8 (p.d : Nat), .int .i64 p.s, .int .i64 p.u, .int .i64 m.clock, .int .i64 (-1), .int .i64 0, .bool false]) rfl rfl (by kernel_rfl) (by kernel_rfl) (by kernel_rfl) (fun _ _ _ h => h.elim) (.value rfl fun w => by go_simp) ?_
            simp only [Act.put, List.setIfInBounds_toArray, List.set_cons_succ, List.set_cons_zero]
            refine wpAnyIn_all (rs := [17]) (by kernel_rfl) (by simp) ?_
            simp only [List.mem_cons, List.not_mem_nil, or_false, forall_eq_or_imp, forall_eq]
            refine opIn_value (some 51) (v := .slice (some ⟨Wd.heap.size, 0, none⟩) 1 1) (w' := Wd.alloc (.cells #[.int .i64 i, .int .u8 (p.d : Nat), .int .i64 p.s, .int .i64 p.u, .int .i64 m.clock, .int .i64 (-1), .int .i64 0, .bool false] 95)) rfl rfl rfl rfl (by go_simp) ?_
            simp only [Act.put, List.setIfInBounds_toArray, List.set_cons_succ, List.set_cons_zero]
            have hA := World.alloc_heap_new Wd (.cells #[.int .i64 i, .int .u8 (p.d : Nat), .int .i64 p.s, .int .i64 p.u, .int .i64 m.clock, .int .i64 (-1), .int .i64 0, .bool false] 95)
            have hNa : New Wd (Wd.alloc (.cells #[.int .i64 i, .int .u8 (p.d : Nat), .int .i64 p.s, .int .i64 p.u, .int .i64 m.clock, .int .i64 (-1), .int .i64 0, .bool false] 95)) := (Mods.refl _ _).alloc _
            have hAz : Wd.heap.size < (Wd.alloc (.cells #[.int .i64 i, .int .u8 (p.d : Nat), .int .i64 p.s, .int .i64 p.u, .int .i64 m.clock, .int .i64 (-1), .int .i64 0, .bool false] 95)).heap.size := by simp
            have hI := hI.new hNa
            obtain ⟨WA, hWA⟩ : ∃ W, Wd.alloc (.cells #[.int .i64 i, .int .u8 (p.d : Nat), .int .i64 p.s, .int .i64 p.u, .int .i64 m.clock, .int .i64 (-1), .int .i64 0, .bool false] 95) = W := ⟨_, rfl⟩
            obtain ⟨A, hAA⟩ : ∃ A, Wd.heap.size = A := ⟨_, rfl⟩
            rw [hWA] at hA hAz hI ⊢
            rw [hAA] at hA hAz ⊢
            clear hWA hAA hNa
            refine wpAnyIn_all (rs := [18]) (by kernel_rfl) (by simp) ?_
            simp only [List.mem_cons, List.not_mem_nil, or_false, forall_eq_or_imp, forall_eq]
            refine opIn_append (some 52) (base := N) (e := 95) rfl rfl rfl rfl rfl Try.underlying75 hi95 hz0 hz1 hz2 rfl (by decide) (.slice ha m.hist.length hcap) m.hist.length (flatF m.hist.length (mosF m.hist)) rfl hI.hist ⟨A, 0, none⟩ 1 1 [.int .i64 i, .int .u8 (p.d : Nat), .int .i64 p.s, .int .i64 p.u, .int .i64 m.clock, .int .i64 (-1), .int .i64 0, .bool false] rfl rfl (cells_new hA) (by simp [Value.oneCell']) (by unfold maxLen; omega) (by omega) (by have := hI.base; omega) (by decide) ?_
            intro hv' WB hown hgrow hblk
            simp only [Act.put, List.setIfInBounds_toArray, List.set_cons_succ, List.set_cons_zero]
            refine any_take 19 (some 53) (.pointer (some ⟨O, 0, none⟩)) rfl rfl (by kernel_rfl) (by kernel_rfl) (by kernel_rfl) (fun _ _ _ h => h.elim) (.value rfl fun w => by go_simp) ?_
            simp only [Act.put, List.setIfInBounds_toArray, List.set_cons_succ, List.set_cons_zero]
            refine any_take 20 (some 54) (.pointer (some ⟨O, 3, none⟩)) rfl rfl (by kernel_rfl) (by kernel_rfl) (by kernel_rfl) (fun _ _ _ h => h.elim) (.value rfl fun w => by go_simp) ?_
            simp only [Act.put, List.setIfInBounds_toArray, List.set_cons_succ, List.set_cons_zero]
            refine wpAnyIn_all (rs := [21]) (by kernel_rfl) (by simp) ?_
            simp only [List.mem_cons, List.not_mem_nil, or_false, forall_eq_or_imp, forall_eq]
            obtain ⟨hB', hT', hL', hap', hMd'⟩ := hI.grown hown hgrow hblk
            obtain ⟨va, vc, rfl⟩ := owns_slice hown
            refine opIn_skip none rfl rfl rfl rfl (w' := WB.setCell ⟨O, 3, none⟩ (.slice va (m.hist.length + 1) vc)) (by have h1 := hB'.c3; have h2 := hB'.frozen 3; go_simp) ?_
            simp only [Act.put, List.setIfInBounds_toArray, List.set_cons_succ, List.set_cons_zero]
            refine wpAnyIn_done (by kernel_rfl) ?_ _
            exact ⟨rfl, _, hB'.set3 _, own_other hown (hgO := hB'.apart hown (by decide)) _ _, own_other hT' (hgO := hB'.apart hT' (by decide)) _ _, fun j hj => (hL' j hj).kept0 (setMods _ _ _ _) (fun h0 b hb e => hI.lapart j hj h0 b hb e), hap', hMd'.setCell (p := ⟨O, 3, none⟩) (.inr (.inl rfl)) _⟩
        · refine opIn_value (some 49) (v := .int .i64 m.clock) (w' := Wd) rfl rfl rfl rfl (by have := hI.mb.c1; go_simp) ?_
          simp only [Act.put, List.setIfInBounds_toArray, List.set_cons_succ, List.set_cons_zero]
          refine wpAnyIn_all (rs := [9]) (by kernel_rfl) (by simp) ?_
          simp only [List.mem_cons, List.not_mem_nil, or_false, forall_eq_or_imp, forall_eq]
          refine opIn_value (some 43) (v := .slice (some ⟨lb, lo, none⟩) t.left.length lc) (w' := Wd) rfl rfl rfl rfl (by have := hI.c0; go_simp) ?_
          simp only [Act.put, List.setIfInBounds_toArray, List.set_cons_succ, List.set_cons_zero]
          refine any_take 10 (some 44) (.pointer (some ⟨lb, lo, none⟩)) rfl rfl (by kernel_rfl) (by kernel_rfl) (by kernel_rfl) (fun _ _ _ h => h.elim) (.value rfl fun w => by go_simp) ?_
          simp only [Act.put, List.setIfInBounds_toArray, List.set_cons_succ, List.set_cons_zero]
          refine wpAnyIn_all (rs := [11]) (by kernel_rfl) (by simp) ?_
          simp only [List.mem_cons, List.not_mem_nil, or_false, forall_eq_or_imp, forall_eq]
          refine opIn_value (some 45) (v := .agg #[.int .u8 (p.d : Nat), .int .i64 p.s, .int .i64 p.u]) (w' := Wd) rfl rfl rfl rfl (run_load_mid 93 (.tmp 44) rfl lb lo rfl p.cs _ hI.rd Try.underlying93 rfl info93) ?_
          simp only [Act.put, List.setIfInBounds_toArray, List.set_cons_succ, List.set_cons_zero]
          refine any_take 16 (some 50) (.agg #[.int .i64 i, .int .u8 (p.d : Nat), .int .i64 p.s, .int .i64 p.u, .int .i64 m.clock, .int .i64 (-1), .int .i64 0, .bool false]) rfl rfl (by kernel_rfl) (by kernel_rfl) (by kernel_rfl) (fun _ _ _ h => h.elim) (.value rfl fun w => by go_simp) ?_
          simp only [Act.put, List.setIfInBounds_toArray, List.set_cons_succ, List.set_cons_zero]
          refine wpAnyIn_all (rs := [17]) (by kernel_rfl) (by simp) ?_
          simp only [List.mem_cons, List.not_mem_nil, or_false, forall_eq_or_imp, forall_eq]
          refine opIn_value (some 51) (v := .slice (some ⟨Wd.heap.size, 0, none⟩) 1 1) (w' := Wd.alloc (.cells #[.int .i64 i, .int .u8 (p.d : Nat), .int .i64 p.s, .int .i64 p.u, .int .i64 m.clock, .int .i64 (-1), .int .i64 0, .bool false] 95)) rfl rfl rfl rfl (by go_simp) ?_
          simp only [Act.put, List.setIfInBounds_toArray, List.set_cons_succ, List.set_cons_zero]
          have hA := World.alloc_heap_new Wd (.cells #[.int .i64 i, .int .u8 (p.d : Nat), .int .i64 p.s, .int .i64 p.u, .int .i64 m.clock, .int .i64 (-1), .int .i64 0, .bool false] 95)
          have hNa : New Wd (Wd.alloc (.cells #[.int .i64 i, .int .u8 (p.d : Nat), .int .i64 p.s, .int .i64 p.u, .int .i64 m.clock, .int .i64 (-1), .int .i64 0, .bool false] 95)) := (Mods.refl _ _).alloc _
          have hAz : Wd.heap.size < (Wd.alloc (.cells #[.int .i64 i, .int .u8 (p.d : Nat), .int .i64 p.s, .int .i64 p.u, .int .i64 m.clock, .int .i64 (-1), .int .i64 0, .bool false] 95)).heap.size := by simp
          have hI := hI.new hNa
          obtain ⟨WA, hWA⟩ : ∃ W, Wd.alloc (.cells #[.int .i64 i, .int .u8 (p.d : Nat), .int .i64 p.s, .int .i64 p.u, .int .i64 m.clock, .int .i64 (-1), .int .i64 0, .bool false] 95) = W := ⟨_, rfl⟩
          obtain ⟨A, hAA⟩ : ∃ A, Wd.heap.size = A := ⟨_, rfl⟩
          rw [hWA] at hA hAz hI ⊢
          rw [hAA] at hA hAz ⊢
          clear hWA hAA hNa
          refine wpAnyIn_all (rs := [18]) (by kernel_rfl) (by simp) ?_
          simp only [List.mem_cons, List.not_mem_nil, or_false, forall_eq_or_imp, forall_eq]
          refine opIn_append (some 52) (base := N) (e := 95) rfl rfl rfl rfl rfl Try.underlying75 hi95 hz0 hz1 hz2 rfl (by decide) (.slice ha m.hist.length hcap) m.hist.length (flatF m.hist.length (mosF m.hist)) rfl hI.hist ⟨A, 0, none⟩ 1 1 [.int .i64 i, .int .u8 (p.d : Nat), .int .i64 p.s, .int .i64 p.u, .int .i64 m.clock, .int .i64 (-1), .int .i64 0, .bool false] rfl rfl (cells_new hA) (by simp [Value.oneCell']) (by unfold maxLen; omega) (by omega) (by have := hI.base; omega) (by decide) ?_
          intro hv' WB hown hgrow hblk
          simp only [Act.put, List.setIfInBounds_toArray, List.set_cons_succ, List.set_cons_zero]
          refine any_take 19 (some 53) (.pointer (some ⟨O, 0, none⟩)) rfl rfl (by kernel_rfl) (by kernel_rfl) (by kernel_rfl) (fun _ _ _ h => h.elim) (.value rfl fun w => by go_simp) ?_
          simp only [Act.put, List.setIfInBounds_toArray, List.set_cons_succ, List.set_cons_zero]
          refine any_take 20 (some 54) (.pointer (some ⟨O, 3, none⟩)) rfl rfl (by kernel_rfl) (by kernel_rfl) (by kernel_rfl) (fun _ _ _ h => h.elim) (.value rfl fun w => by go_simp) ?_
          simp only [Act.put, List.setIfInBounds_toArray, List.set_cons_succ, List.set_cons_zero]
          refine wpAnyIn_all (rs := [21]) (by kernel_rfl) (by simp) ?_
          simp only [List.mem_cons, List.not_mem_nil, or_false, forall_eq_or_imp, forall_eq]
          obtain ⟨hB', hT', hL', hap', hMd'⟩ := hI.grown hown hgrow hblk
          obtain ⟨va, vc, rfl⟩ := owns_slice hown
          refine opIn_skip none rfl rfl rfl rfl (w' := WB.setCell ⟨O, 3, none⟩ (.slice va (m.hist.length + 1) vc)) (by have h1 := hB'.c3; have h2 := hB'.frozen 3; go_simp) ?_
          simp only [Act.put, List.setIfInBounds_toArray, List.set_cons_succ, List.set_cons_zero]
          refine wpAnyIn_done (by kernel_rfl) ?_ _
          exact ⟨rfl, _, hB'.set3 _, own_other hown (hgO := hB'.apart hown (by decide)) _ _, own_other hT' (hgO := hB'.apart hT' (by decide)) _ _, fun j hj => (hL' j hj).kept0 (setMods _ _ _ _) (fun h0 b hb e => hI.lapart j hj h0 b hb e), hap', hMd'.setCell (p := ⟨O, 3, none⟩) (.inr (.inl rfl)) _⟩
      · refine opIn_value (some 43) (v := .slice (some ⟨lb, lo, none⟩) t.left.length lc) (w' := Wd) rfl rfl rfl rfl (by have := hI.c0; go_simp) ?_
        simp only [Act.put, List.setIfInBounds_toArray, List.set_cons_succ, List.set_cons_zero]
        refine any_take 10 (some 44) (.pointer (some ⟨lb, lo, none⟩)) rfl rfl (by kernel_rfl) (by kernel_rfl) (by kernel_rfl) (fun _ _ _ h => h.elim) (.value rfl fun w => by go_simp) ?_
        simp only [Act.put, List.setIfInBounds_toArray, List.set_cons_succ, List.set_cons_zero]
        refine wpAnyIn_all (rs := [4, 11, 15]) (by kernel_rfl) (by simp) ?_
        simp only [List.mem_cons, List.not_mem_nil, or_false, forall_eq_or_imp, forall_eq]
        refine ⟨?_, ?_, ?_⟩
        · refine opIn_value (some 38) (v := .slice ha m.hist.length hcap) (w' := Wd) rfl rfl rfl rfl (by have := hI.mb.c3; go_simp) ?_
          simp only [Act.put, List.setIfInBounds_toArray, List.set_cons_succ, List.set_cons_zero]
          refine wpAnyIn_all (rs := [11, 15]) (by kernel_rfl) (by simp) ?_
          simp only [List.mem_cons, List.not_mem_nil, or_false, forall_eq_or_imp, forall_eq]
          refine ⟨?_, ?_⟩
          · refine opIn_value (some 45) (v := .agg #[.int .u8 (p.d : Nat), .int .i64 p.s, .int .i64 p.u]) (w' := Wd) rfl rfl rfl rfl (run_load_mid 93 (.tmp 44) rfl lb lo rfl p.cs _ hI.rd Try.underlying93 rfl info93) ?_
            simp only [Act.put, List.setIfInBounds_toArray, List.set_cons_succ, List.set_cons_zero]
            refine wpAnyIn_all (rs := [15]) (by kernel_rfl) (by simp) ?_
            simp only [List.mem_cons, List.not_mem_nil, or_false, forall_eq_or_imp, forall_eq]
            refine opIn_value (some 49) (v := .int .i64 m.clock) (w' := Wd) rfl rfl rfl rfl (by have := hI.mb.c1; go_simp) ?_
            simp only [Act.put, List.setIfInBounds_toArray, List.set_cons_succ, List.set_cons_zero]
            refine any_take 16 (some 50) (.agg #[.int .i64 i, .int .u8 (p.d : Nat), .int .i64 p.s, .int .i64 p.u, .int .i64 m.clock, .int .i64 (-1), .int .i64 0, .bool false]) rfl rfl (by kernel_rfl) (by kernel_rfl) (by kernel_rfl) (fun _ _ _ h => h.elim) (.value rfl fun w => by go_simp) ?_
            simp only [Act.put, List.setIfInBounds_toArray, List.set_cons_succ, List.set_cons_zero]
            refine wpAnyIn_all (rs := [17]) (by kernel_rfl) (by simp) ?_
            simp only [List.mem_cons, List.not_mem_nil, or_false, forall_eq_or_imp, forall_eq]
            refine opIn_value (some 51) (v := .slice (some ⟨Wd.heap.size, 0, none⟩) 1 1) (w' := Wd.alloc (.cells #[.int .i64 i, .int .u8 (p.d : Nat), .int .i64 p.s, .int .i64 p.u, .int .i64 m.clock, .int .i64 (-1), .int .i64 0, .bool false] 95)) rfl rfl rfl rfl (by go_simp) ?_
            simp only [Act.put, List.setIfInBounds_toArray, List.set_cons_succ, List.set_cons_zero]
            have hA := World.alloc_heap_new Wd (.cells #[.int .i64 i, .int .u8 (p.d : Nat), .int .i64 p.s, .int .i64 p.u, .int .i64 m.clock, .int .i64 (-1), .int .i64 0, .bool false] 95)
            have hNa : New Wd (Wd.alloc (.cells #[.int .i64 i, .int .u8 (p.d : Nat), .int .i64 p.s, .int .i64 p.u, .int .i64 m.clock, .int .i64 (-1), .int .i64 0, .bool false] 95)) := (Mods.refl _ _).alloc _
            have hAz : Wd.heap.size < (Wd.alloc (.cells #[.int .i64 i, .int .u8 (p.d : Nat), .int .i64 p.s, .int .i64 p.u, .int .i64 m.clock, .int .i64 (-1), .int .i64 0, .bool false] 95)).heap.size := by simp
            have hI := hI.new hNa
            obtain ⟨WA, hWA⟩ : ∃ W, Wd.alloc (.cells #[.int .i64 i, .int .u8 (p.d : Nat), .int .i64 p.s, .int .i64 p.u, .int .i64 m.clock, .int .i64 (-1), .int .i64 0, .bool false] 95) = W := ⟨_, rfl⟩
            obtain ⟨A, hAA⟩ : ∃ A, Wd.heap.size = A := ⟨_, rfl⟩
            rw [hWA] at hA hAz hI ⊢
            rw [hAA] at hA hAz ⊢
            clear hWA hAA hNa
            refine wpAnyIn_all (rs := [18]) (by kernel_rfl) (by simp) ?_
            simp only [List.mem_cons, List.not_mem_nil, or_false, forall_eq_or_imp, forall_eq]
            refine opIn_append (some 52) (base := N) (e := 95) rfl rfl rfl rfl rfl Try.underlying75 hi95 hz0 hz1 hz2 rfl (by decide) (.slice ha m.hist.length hcap) m.hist.length (flatF m.hist.length (mosF m.hist)) rfl hI.hist ⟨A, 0, none⟩ 1 1 [.int .i64 i, .int .u8 (p.d : Nat), .int .i64 p.s, .int .i64 p.u, .int .i64 m.clock, .int .i64 (-1), .int .i64 0, .bool false] rfl rfl (cells_new hA) (by simp [Value.oneCell']) (by unfold maxLen; omega) (by omega) (by have := hI.base; omega) (by decide) ?_
            intro hv' WB hown hgrow hblk
            simp only [Act.put, List.setIfInBounds_toArray, List.set_cons_succ, List.set_cons_zero]
            refine any_take 19 (some 53) (.pointer (some ⟨O, 0, none⟩)) rfl rfl (by kernel_rfl) (by kernel_rfl) (by kernel_rfl) (fun _ _ _ h => h.elim) (.value rfl fun w => by go_simp) ?_
            simp only [Act.put, List.setIfInBounds_toArray, List.set_cons_succ, List.set_cons_zero]
            refine any_take 20 (some 54) (.pointer (some ⟨O, 3, none⟩)) rfl rfl (by kernel_rfl) (by kernel_rfl) (by kernel_rfl) (fun _ _ _ h => h.elim) (.value rfl fun w => by go_simp) ?_
            simp only [Act.put, List.setIfInBounds_toArray, List.set_cons_succ, List.set_cons_zero]
            refine wpAnyIn_all (rs := [21]) (by kernel_rfl) (by simp) ?_
            simp only [List.mem_cons, List.not_mem_nil, or_false, forall_eq_or_imp, forall_eq]
            obtain ⟨hB', hT', hL', hap', hMd'⟩ := hI.grown hown hgrow hblk
            obtain ⟨va, vc, rfl⟩ := owns_slice hown
            refine opIn_skip none rfl rfl rfl rfl (w' := WB.setCell ⟨O, 3, none⟩ (.slice va (m.hist.length + 1) vc)) (by have h1 := hB'.c3; have h2 := hB'.frozen 3; go_simp) ?_
            simp only [Act.put, List.setIfInBounds_toArray, List.set_cons_succ, List.set_cons_zero]
            refine wpAnyIn_done (by kernel_rfl) ?_ _
            exact ⟨rfl, _, hB'.set3 _, own_other hown (hgO := hB'.apart hown (by decide)) _ _, own_other hT' (hgO := hB'.apart hT' (by decide)) _ _, fun j hj => (hL' j hj).kept0 (setMods _ _ _ _) (fun h0 b hb e => hI.lapart j hj h0 b hb e), hap', hMd'.setCell (p := ⟨O, 3, none⟩) (.inr (.inl rfl)) _⟩
          · refine opIn_value (some 49) (v := .int .i64 m.clock) (w' := Wd) rfl rfl rfl rfl (by have := hI.mb.c1; go_simp) ?_
            simp only [Act.put, List.setIfInBounds_toArray, List.set_cons_succ, List.set_cons_zero]
            refine wpAnyIn_all (rs := [11]) (by kernel_rfl) (by simp) ?_
            simp only [List.mem_cons, List.not_mem_nil, or_false, forall_eq_or_imp, forall_eq]
            refine opIn_value (some 45) (v := .agg #[.int .u8 (p.d : Nat), .int .i64 p.s, .int .i64 p.u]) (w' := Wd) rfl rfl rfl rfl (run_load_mid 93 (.tmp 44) rfl lb lo rfl p.cs _ hI.rd Try.underlying93 rfl info93) ?_
            simp only [Act.put, List.setIfInBounds_toArray, List.set_cons_succ, List.set_cons_zero]
            refine any_take 16 (some 50) (.agg #[.int .i64 i, .int .u8 (p.d : Nat), .int .i64 p.s, .int .i64 p.u, .int .i64 m.clock, .int .i64 (-1), .int .i64 0, .bool false]) rfl rfl (by kernel_rfl) (by kernel_rfl) (by kernel_rfl) (fun _ _ _ h => h.elim) (.value rfl fun w => by go_simp) ?_
            simp only [Act.put, List.setIfInBounds_toArray, List.set_cons_succ, List.set_cons_zero]
            refine wpAnyIn_all (rs := [17]) (by kernel_rfl) (by simp) ?_
            simp only [List.mem_cons, List.not_mem_nil, or_false, forall_eq_or_imp, forall_eq]
            refine opIn_value (some 51) (v := .slice (some ⟨Wd.heap.size, 0, none⟩) 1 1) (w' := Wd.alloc (.cells #[.int .i64 i, .int .u8 (p.d : Nat), .int .i64 p.s, .int .i64 p.u, .int .i64 m.clock, .int .i64 (-1), .int .i64 0, .bool false] 95)) rfl rfl rfl rfl (by go_simp) ?_
            simp only [Act.put, List.setIfInBounds_toArray, List.set_cons_succ, List.set_cons_zero]
            have hA := World.alloc_heap_new Wd (.cells #[.int .i64 i, .int .u8 (p.d : Nat), .int .i64 p.s, .int .i64 p.u, .int .i64 m.clock, .int .i64 (-1), .int .i64 0, .bool false] 95)
            have hNa : New Wd (Wd.alloc (.cells #[.int .i64 i, .int .u8 (p.d : Nat), .int .i64 p.s, .int .i64 p.u, .int .i64 m.clock, .int .i64 (-1), .int .i64 0, .bool false] 95)) := (Mods.refl _ _).alloc _
            have hAz : Wd.heap.size < (Wd.alloc (.cells #[.int .i64 i, .int .u8 (p.d : Nat), .int .i64 p.s, .int .i64 p.u, .int .i64 m.clock, .int .i64 (-1), .int .i64 0, .bool false] 95)).heap.size := by simp
            have hI := hI.new hNa
            obtain ⟨WA, hWA⟩ : ∃ W, Wd.alloc (.cells #[.int .i64 i, .int .u8 (p.d : Nat), .int .i64 p.s, .int .i64 p.u, .int .i64 m.clock, .int .i64 (-1), .int .i64 0, .bool false] 95) = W := ⟨_, rfl⟩
            obtain ⟨A, hAA⟩ : ∃ A, Wd.heap.size = A := ⟨_, rfl⟩
            rw [hWA] at hA hAz hI ⊢
            rw [hAA] at hA hAz ⊢
            clear hWA hAA hNa
            refine wpAnyIn_all (rs := [18]) (by kernel_rfl) (by simp) ?_
            simp only [List.mem_cons, List.not_mem_nil, or_false, forall_eq_or_imp, forall_eq]
            refine opIn_append (some 52) (base := N) (e := 95) rfl rfl rfl rfl rfl Try.underlying75 hi95 hz0 hz1 hz2 rfl (by decide) (.slice ha m.hist.length hcap) m.hist.length (flatF m.hist.length (mosF m.hist)) rfl hI.hist ⟨A, 0, none⟩ 1 1 [.int .i64 i, .int .u8 (p.d : Nat), .int .i64 p.s, .int .i64 p.u, .int .i64 m.clock, .int .i64 (-1), .int .i64 0, .bool false] rfl rfl (cells_new hA) (by simp [Value.oneCell']) (by unfold maxLen; omega) (by omega) (by have := hI.base; omega) (by decide) ?_
            intro hv' WB hown hgrow hblk
            simp only [Act.put, List.setIfInBounds_toArray, List.set_cons_succ, List.set_cons_zero]
            refine any_take 19 (some 53) (.pointer (some ⟨O, 0, none⟩)) rfl rfl (by kernel_rfl) (by kernel_rfl) (by kernel_rfl) (fun _ _ _ h => h.elim) (.value rfl fun w => by go_simp) ?_
            simp only [Act.put, List.setIfInBounds_toArray, List.set_cons_succ, List.set_cons_zero]
            refine any_take 20 (some 54) (.pointer (some ⟨O, 3, none⟩)) rfl rfl (by kernel_rfl) (by kernel_rfl) (by kernel_rfl) (fun _ _ _ h => h.elim) (.value rfl fun w => by go_simp) ?_
            simp only [Act.put, List.setIfInBounds_toArray, List.set_cons_succ, List.set_cons_zero]
            refine wpAnyIn_all (rs := [21]) (by kernel_rfl) (by simp) ?_
            simp only [List.mem_cons, List.not_mem_nil, or_false, forall_eq_or_imp, forall_eq]
            obtain ⟨hB', hT', hL', hap', hMd'⟩ := hI.grown hown hgrow hblk
            obtain ⟨va, vc, rfl⟩ := owns_slice hown
            refine opIn_skip none rfl rfl rfl rfl (w' := WB.setCell ⟨O, 3, none⟩ (.slice va (m.hist.length + 1) vc)) (by have h1 := hB'.c3; have h2 := hB'.frozen 3; go_simp) ?_
            simp only [Act.put, List.setIfInBounds_toArray, List.set_cons_succ, List.set_cons_zero]
            refine wpAnyIn_done (by kernel_rfl) ?_ _
            exact ⟨rfl, _, hB'.set3 _, own_other hown (hgO := hB'.apart hown (by decide)) _ _, own_other hT' (hgO := hB'.apart hT' (by decide)) _ _, fun j hj => (hL' j hj).kept0 (setMods _ _ _ _) (fun h0 b hb e => hI.lapart j hj h0 b hb e), hap', hMd'.setCell (p := ⟨O, 3, none⟩) (.inr (.inl rfl)) _⟩
        · refine opIn_value (some 45) (v := .agg #[.int .u8 (p.d : Nat), .int .i64 p.s, .int .i64 p.u]) (w' := Wd) rfl rfl rfl rfl (run_load_mid 93 (.tmp 44) rfl lb lo rfl p.cs _ hI.rd Try.underlying93 rfl info93) ?_
          simp only [Act.put, List.setIfInBounds_toArray, List.set_cons_succ, List.set_cons_zero]
          refine wpAnyIn_all (rs := [4, 15]) (by kernel_rfl) (by simp) ?_
          simp only [List.mem_cons, List.not_mem_nil, or_false, forall_eq_or_imp, forall_eq]
          refine ⟨?_, ?_⟩
          · refine opIn_value (some 38) (v := .slice ha m.hist.length hcap) (w' := Wd) rfl rfl rfl rfl (by have := hI.mb.c3; go_simp) ?_
            simp only [Act.put, List.setIfInBounds_toArray, List.set_cons_succ, List.set_cons_zero]
            refine wpAnyIn_all (rs := [15]) (by kernel_rfl) (by simp) ?_
            simp only [List.mem_cons, List.not_mem_nil, or_false, forall_eq_or_imp, forall_eq]
            refine opIn_value (some 49) (v := .int .i64 m.clock) (w' := Wd) rfl rfl rfl rfl (by have := hI.mb.c1; go_simp) ?_
            simp only [Act.put, List.setIfInBounds_toArray, List.set_cons_succ, List.set_cons_zero]
            refine any_take 16 (some 50) (.agg #[.int .i64 i, .int .u8 (p.d : Nat), .int .i64 p.s, .int .i64 p.u, .int .i64 m.clock, .int .i64 (-1), .int .i64 0, .bool false]) rfl rfl (by kernel_rfl) (by kernel_rfl) (by kernel_rfl) (fun _ _ _ h => h.elim) (.value rfl fun w => by go_simp) ?_
            simp only [Act.put, List.setIfInBounds_toArray, List.set_cons_succ, List.set_cons_zero]
            refine wpAnyIn_all (rs := [17]) (by kernel_rfl) (by simp) ?_
            simp only [List.mem_cons, List.not_mem_nil, or_false, forall_eq_or_imp, forall_eq]
            refine opIn_value (some 51) (v := .slice (some ⟨Wd.heap.size, 0, none⟩) 1 1) (w' := Wd.alloc (.cells #[.int .i64 i, .int .u8 (p.d : Nat), .int .i64 p.s, .int .i64 p.u, .int .i64 m.clock, .int .i64 (-1), .int .i64 0, .bool false] 95)) rfl rfl rfl rfl (by go_simp) ?_
            simp only [Act.put, List.setIfInBounds_toArray, List.set_cons_succ, List.set_cons_zero]
            have hA := World.alloc_heap_new Wd (.cells #[.int .i64 i, .int .u8 (p.d : Nat), .int .i64 p.s, .int .i64 p.u, .int .i64 m.clock, .int .i64 (-1), .int .i64 0, .bool false] 95)
            have hNa : New Wd (Wd.alloc (.cells #[.int .i64 i, .int .u8 (p.d : Nat), .int .i64 p.s, .int .i64 p.u, .int .i64 m.clock, .int .i64 (-1), .int .i64 0, .bool false] 95)) := (Mods.refl _ _).alloc _
            have hAz : Wd.heap.size < (Wd.alloc (.cells #[.int .i64 i, .int .u8 (p.d : Nat), .int .i64 p.s, .int .i64 p.u, .int .i64 m.clock, .int .i64 (-1), .int .i64 0, .bool false] 95)).heap.size := by simp
            have hI := hI.new hNa
            obtain ⟨WA, hWA⟩ : ∃ W, Wd.alloc (.cells #[.int .i64 i, .int .u8 (p.d : Nat), .int .i64 p.s, .int .i64 p.u, .int .i64 m.clock, .int .i64 (-1), .int .i64 0, .bool false] 95) = W := ⟨_, rfl⟩
            obtain ⟨A, hAA⟩ : ∃ A, Wd.heap.size = A := ⟨_, rfl⟩
            rw [hWA] at hA hAz hI ⊢
            rw [hAA] at hA hAz ⊢
            clear hWA hAA hNa
            refine wpAnyIn_all (rs := [18]) (by kernel_rfl) (by simp) ?_
            simp only [List.mem_cons, List.not_mem_nil, or_false, forall_eq_or_imp, forall_eq]
            refine opIn_append (some 52) (base := N) (e := 95) rfl rfl rfl rfl rfl Try.underlying75 hi95 hz0 hz1 hz2 rfl (by decide) (.slice ha m.hist.length hcap) m.hist.length (flatF m.hist.length (mosF m.hist)) rfl hI.hist ⟨A, 0, none⟩ 1 1 [.int .i64 i, .int .u8 (p.d : Nat), .int .i64 p.s, .int .i64 p.u, .int .i64 m.clock, .int .i64 (-1), .int .i64 0, .bool false] rfl rfl (cells_new hA) (by simp [Value.oneCell']) (by unfold maxLen; omega) (by omega) (by have := hI.base; omega) (by decide) ?_
            intro hv' WB hown hgrow hblk
            simp only [Act.put, List.setIfInBounds_toArray, List.set_cons_succ, List.set_cons_zero]
            refine any_take 19 (some 53) (.pointer (some ⟨O, 0, none⟩)) rfl rfl (by kernel_rfl) (by kernel_rfl) (by kernel_rfl) (fun _ _ _ h => h.elim) (.value rfl fun w => by go_simp) ?_
            simp only [Act.put, List.setIfInBounds_toArray, List.set_cons_succ, List.set_cons_zero]
            refine any_take 20 (some 54) (.pointer (some ⟨O, 3, none⟩)) rfl rfl (by kernel_rfl) (by kernel_rfl) (by kernel_rfl) (fun _ _ _ h => h.elim) (.value rfl fun w => by go_simp) ?_
            simp only [Act.put, List.setIfInBounds_toArray, List.set_cons_succ, List.set_cons_zero]
            refine wpAnyIn_all (rs := [21]) (by kernel_rfl) (by simp) ?_
            simp only [List.mem_cons, List.not_mem_nil, or_false, forall_eq_or_imp, forall_eq]
            obtain ⟨hB', hT', hL', hap', hMd'⟩ := hI.grown hown hgrow hblk
            obtain ⟨va, vc, rfl⟩ := owns_slice hown
            refine opIn_skip none rfl rfl rfl rfl (w' := WB.setCell ⟨O, 3, none⟩ (.slice va (m.hist.length + 1) vc)) (by have h1 := hB'.c3; have h2 := hB'.frozen 3; go_simp) ?_
            simp only [Act.put, List.setIfInBounds_toArray, List.set_cons_succ, List.set_cons_zero]
            refine wpAnyIn_done (by kernel_rfl) ?_ _
            exact ⟨rfl, _, hB'.set3 _, own_other hown (hgO := hB'.apart hown (by decide)) _ _, own_other hT' (hgO := hB'.apart hT' (by decide)) _ _, fun j hj => (hL' j hj).kept0 (setMods _ _ _ _) (fun h0 b hb e => hI.lapart j hj h0 b hb e), hap', hMd'.setCell (p := ⟨O, 3, none⟩) (.inr (.inl rfl)) _⟩
          · refine opIn_value (some 49) (v := .int .i64 m.clock) (w' := Wd) rfl rfl rfl rfl (by have := hI.mb.c1; go_simp) ?_
            simp only [Act.put, List.setIfInBounds_toArray, List.set_cons_succ, List.set_cons_zero]
            refine any_take 16 (some 50) (.agg #[.int .i64 i, .int .u8 (p.d : Nat), .int .i64 p.s, .int .i64 p.u, .int .i64 m.clock, .int .i64 (-1), .int .i64 0, .bool false]) rfl rfl (by kernel_rfl) (by kernel_rfl) (by kernel_rfl) (fun _ _ _ h => h.elim) (.value rfl fun w => by go_simp) ?_
            simp only [Act.put, List.setIfInBounds_toArray, List.set_cons_succ, List.set_cons_zero]
            refine wpAnyIn_all (rs := [4, 17]) (by kernel_rfl) (by simp) ?_
            simp only [List.mem_cons, List.not_mem_nil, or_false, forall_eq_or_imp, forall_eq]
            refine ⟨?_, ?_⟩
            · refine opIn_value (some 38) (v := .slice ha m.hist.length hcap) (w' := Wd) rfl rfl rfl rfl (by have := hI.mb.c3; go_simp) ?_
              simp only [Act.put, List.setIfInBounds_toArray, List.set_cons_succ, List.set_cons_zero]
              refine wpAnyIn_all (rs := [17]) (by kernel_rfl) (by simp) ?_
              simp only [List.mem_cons, List.not_mem_nil, or_false, forall_eq_or_imp, forall_eq]
              refine opIn_value (some 51) (v := .slice (some ⟨Wd.heap.size, 0, none⟩) 1 1) (w' := Wd.alloc (.cells #[.int .i64 i, .int .u8 (p.d : Nat), .int .i64 p.s, .int .i64 p.u, .int .i64 m.clock, .int .i64 (-1), .int .i64 0, .bool false] 95)) rfl rfl rfl rfl (by go_simp) ?_
              simp only [Act.put, List.setIfInBounds_toArray, List.set_cons_succ, List.set_cons_zero]
              have hA := World.alloc_heap_new Wd (.cells #[.int .i64 i, .int .u8 (p.d : Nat), .int .i64 p.s, .int .i64 p.u, .int .i64 m.clock, .int .i64 (-1), .int .i64 0, .bool false] 95)
              have hNa : New Wd (Wd.alloc (.cells #[.int .i64 i, .int .u8 (p.d : Nat), .int .i64 p.s, .int .i64 p.u, .int .i64 m.clock, .int .i64 (-1), .int .i64 0, .bool false] 95)) := (Mods.refl _ _).alloc _
              have hAz : Wd.heap.size < (Wd.alloc (.cells #[.int .i64 i, .int .u8 (p.d : Nat), .int .i64 p.s, .int .i64 p.u, .int .i64 m.clock, .int .i64 (-1), .int .i64 0, .bool false] 95)).heap.size := by simp
              have hI := hI.new hNa
              obtain ⟨WA, hWA⟩ : ∃ W, Wd.alloc (.cells #[.int .i64 i, .int .u8 (p.d : Nat), .int .i64 p.s, .int .i64 p.u, .int .i64 m.clock, .int .i64 (-1), .int .i64 0, .bool false] 95) = W := ⟨_, rfl⟩
              obtain ⟨A, hAA⟩ : ∃ A, Wd.heap.size = A := ⟨_, rfl⟩
              rw [hWA] at hA hAz hI ⊢
              rw [hAA] at hA hAz ⊢
              clear hWA hAA hNa
              refine wpAnyIn_all (rs := [18]) (by kernel_rfl) (by simp) ?_
              simp only [List.mem_cons, List.not_mem_nil, or_false, forall_eq_or_imp, forall_eq]
              refine opIn_append (some 52) (base := N) (e := 95) rfl rfl rfl rfl rfl Try.underlying75 hi95 hz0 hz1 hz2 rfl (by decide) (.slice ha m.hist.length hcap) m.hist.length (flatF m.hist.length (mosF m.hist)) rfl hI.hist ⟨A, 0, none⟩ 1 1 [.int .i64 i, .int .u8 (p.d : Nat), .int .i64 p.s, .int .i64 p.u, .int .i64 m.clock, .int .i64 (-1), .int .i64 0, .bool false] rfl rfl (cells_new hA) (by simp [Value.oneCell']) (by unfold maxLen; omega) (by omega) (by have := hI.base; omega) (by decide) ?_
              intro hv' WB hown hgrow hblk
              simp only [Act.put, List.setIfInBounds_toArray, List.set_cons_succ, List.set_cons_zero]
              refine any_take 19 (some 53) (.pointer (some ⟨O, 0, none⟩)) rfl rfl (by kernel_rfl) (by kernel_rfl) (by kernel_rfl) (fun _ _ _ h => h.elim) (.value rfl fun w => by go_simp) ?_
              simp only [Act.put, List.setIfInBounds_toArray, List.set_cons_succ, List.set_cons_zero]
              refine any_take 20 (some 54) (.pointer (some ⟨O, 3, none⟩)) rfl rfl (by kernel_rfl) (by kernel_rfl) (by kernel_rfl) (fun _ _ _ h => h.elim) (.value rfl fun w => by go_simp) ?_
              simp only [Act.put, List.setIfInBounds_toArray, List.set_cons_succ, List.set_cons_zero]
              refine wpAnyIn_all (rs := [21]) (by kernel_rfl) (by simp) ?_
              simp only [List.mem_cons, List.not_mem_nil, or_false, forall_eq_or_imp, forall_eq]
              obtain ⟨hB', hT', hL', hap', hMd'⟩ := hI.grown hown hgrow hblk
              obtain ⟨va, vc, rfl⟩ := owns_slice hown
              refine opIn_skip none rfl rfl rfl rfl (w' := WB.setCell ⟨O, 3, none⟩ (.slice va (m.hist.length + 1) vc)) (by have h1 := hB'.c3; have h2 := hB'.frozen 3; go_simp) ?_
              simp only [Act.put, List.setIfInBounds_toArray, List.set_cons_succ, List.set_cons_zero]
              refine wpAnyIn_done (by kernel_rfl) ?_ _
              exact ⟨rfl, _, hB'.set3 _, own_other hown (hgO := hB'.apart hown (by decide)) _ _, own_other hT' (hgO := hB'.apart hT' (by decide)) _ _, fun j hj => (hL' j hj).kept0 (setMods _ _ _ _) (fun h0 b hb e => hI.lapart j hj h0 b hb e), hap', hMd'.setCell (p := ⟨O, 3, none⟩) (.inr (.inl rfl)) _⟩
            · refine opIn_value (some 51) (v := .slice (some ⟨Wd.heap.size, 0, none⟩) 1 1) (w' := Wd.alloc (.cells #[.int .i64 i, .int .u8 (p.d : Nat), .int .i64 p.s, .int .i64 p.u, .int .i64 m.clock, .int .i64 (-1), .int .i64 0, .bool false] 95)) rfl rfl rfl rfl (by go_simp) ?_
              simp only [Act.put, List.setIfInBounds_toArray, List.set_cons_succ, List.set_cons_zero]
              have hA := World.alloc_heap_new Wd (.cells #[.int .i64 i, .int .u8 (p.d : Nat), .int .i64 p.s, .int .i64 p.u, .int .i64 m.clock, .int .i64 (-1), .int .i64 0, .bool false] 95)
              have hNa : New Wd (Wd.alloc (.cells #[.int .i64 i, .int .u8 (p.d : Nat), .int .i64 p.s, .int .i64 p.u, .int .i64 m.clock, .int .i64 (-1), .int .i64 0, .bool false] 95)) := (Mods.refl _ _).alloc _
              have hAz : Wd.heap.size < (Wd.alloc (.cells #[.int .i64 i, .int .u8 (p.d : Nat), .int .i64 p.s, .int .i64 p.u, .int .i64 m.clock, .int .i64 (-1), .int .i64 0, .bool false] 95)).heap.size := by simp
              have hI := hI.new hNa
              obtain ⟨WA, hWA⟩ : ∃ W, Wd.alloc (.cells #[.int .i64 i, .int .u8 (p.d : Nat), .int .i64 p.s, .int .i64 p.u, .int .i64 m.clock, .int .i64 (-1), .int .i64 0, .bool false] 95) = W := ⟨_, rfl⟩
              obtain ⟨A, hAA⟩ : ∃ A, Wd.heap.size = A := ⟨_, rfl⟩
              rw [hWA] at hA hAz hI ⊢
              rw [hAA] at hA hAz ⊢
              clear hWA hAA hNa
              refine wpAnyIn_all (rs := [4]) (by kernel_rfl) (by simp) ?_
              simp only [List.mem_cons, List.not_mem_nil, or_false, forall_eq_or_imp, forall_eq]
              refine opIn_value (some 38) (v := .slice ha m.hist.length hcap) (w' := WA) rfl rfl rfl rfl (by have := hI.mb.c3; go_simp) ?_
              simp only [Act.put, List.setIfInBounds_toArray, List.set_cons_succ, List.set_cons_zero]
              refine wpAnyIn_all (rs := [18]) (by kernel_rfl) (by simp) ?_
              simp only [List.mem_cons, List.not_mem_nil, or_false, forall_eq_or_imp, forall_eq]
              refine opIn_append (some 52) (base := N) (e := 95) rfl rfl rfl rfl rfl Try.underlying75 hi95 hz0 hz1 hz2 rfl (by decide) (.slice ha m.hist.length hcap) m.hist.length (flatF m.hist.length (mosF m.hist)) rfl hI.hist ⟨A, 0, none⟩ 1 1 [.int .i64 i, .int .u8 (p.d : Nat), .int .i64 p.s, .int .i64 p.u, .int .i64 m.clock, .int .i64 (-1), .int .i64 0, .bool false] rfl rfl (cells_new hA) (by simp [Value.oneCell']) (by unfold maxLen; omega) (by omega) (by have := hI.base; omega) (by decide) ?_
              intro hv' WB hown hgrow hblk
              simp only [Act.put, List.setIfInBounds_toArray, List.set_cons_succ, List.set_cons_zero]
              refine any_take 19 (some 53) (.pointer (some ⟨O, 0, none⟩)) rfl rfl (by kernel_rfl) (by kernel_rfl) (by kernel_rfl) (fun _ _ _ h => h.elim) (.value rfl fun w => by go_simp) ?_
              simp only [Act.put, List.setIfInBounds_toArray, List.set_cons_succ, List.set_cons_zero]
              refine any_take 20 (some 54) (.pointer (some ⟨O, 3, none⟩)) rfl rfl (by kernel_rfl) (by kernel_rfl) (by kernel_rfl) (fun _ _ _ h => h.elim) (.value rfl fun w => by go_simp) ?_
              simp only [Act.put, List.setIfInBounds_toArray, List.set_cons_succ, List.set_cons_zero]
              refine wpAnyIn_all (rs := [21]) (by kernel_rfl) (by simp) ?_
              simp only [List.mem_cons, List.not_mem_nil, or_false, forall_eq_or_imp, forall_eq]
              obtain ⟨hB', hT', hL', hap', hMd'⟩ := hI.grown hown hgrow hblk
              obtain ⟨va, vc, rfl⟩ := owns_slice hown
              refine opIn_skip none rfl rfl rfl rfl (w' := WB.setCell ⟨O, 3, none⟩ (.slice va (m.hist.length + 1) vc)) (by have h1 := hB'.c3; have h2 := hB'.frozen 3; go_simp) ?_
              simp only [Act.put, List.setIfInBounds_toArray, List.set_cons_succ, List.set_cons_zero]
              refine wpAnyIn_done (by kernel_rfl) ?_ _
              exact ⟨rfl, _, hB'.set3 _, own_other hown (hgO := hB'.apart hown (by decide)) _ _, own_other hT' (hgO := hB'.apart hT' (by decide)) _ _, fun j hj => (hL' j hj).kept0 (setMods _ _ _ _) (fun h0 b hb e => hI.lapart j hj h0 b hb e), hap', hMd'.setCell (p := ⟨O, 3, none⟩) (.inr (.inl rfl)) _⟩
        · refine opIn_value (some 49) (v := .int .i64 m.clock) (w' := Wd) rfl rfl rfl rfl (by have := hI.mb.c1; go_simp) ?_
          simp only [Act.put, List.setIfInBounds_toArray, List.set_cons_succ, List.set_cons_zero]
          refine wpAnyIn_all (rs := [4, 11]) (by kernel_rfl) (by simp) ?_
          simp only [List.mem_cons, List.not_mem_nil, or_false, forall_eq_or_imp, forall_eq]
          refine ⟨?_, ?_⟩
          · refine opIn_value (some 38) (v := .slice ha m.hist.length hcap) (w' := Wd) rfl rfl rfl rfl (by have := hI.mb.c3; go_simp) ?_
            simp only [Act.put, List.setIfInBounds_toArray, List.set_cons_succ, List.set_cons_zero]
            refine wpAnyIn_all (rs := [11]) (by kernel_rfl) (by simp) ?_
            simp only [List.mem_cons, List.not_mem_nil, or_false, forall_eq_or_imp, forall_eq]
            refine opIn_value (some 45) (v := .agg #[.int .u8 (p.d : Nat), .int .i64 p.s, .int .i64 p.u]) (w' := Wd) rfl rfl rfl rfl (run_load_mid 93 (.tmp 44) rfl lb lo rfl p.cs _ hI.rd Try.underlying93 rfl info93) ?_
            simp only [Act.put, List.setIfInBounds_toArray, List.set_cons_succ, List.set_cons_zero]
            refine any_take 16 (some 50) (.agg #[.int .i64 i, .int .u8 (p.d : Nat), .int .i64 p.s, .int .i64 p.u, .int .i64 m.clock, .int .i64 (-1), .int .i64 0, .bool false]) rfl rfl (by kernel_rfl) (by kernel_rfl) (by kernel_rfl) (fun _ _ _ h => h.elim) (.value rfl fun w => by go_simp) ?_
            simp only [Act.put, List.setIfInBounds_toArray, List.set_cons_succ, List.set_cons_zero]
            refine wpAnyIn_all (rs := [17]) (by kernel_rfl) (by simp) ?_
            simp only [List.mem_cons, List.not_mem_nil, or_false, forall_eq_or_imp, forall_eq]
            refine opIn_value (some 51) (v := .slice (some ⟨Wd.heap.size, 0, none⟩) 1 1) (w' := Wd.alloc (.cells #[.int .i64 i, .int .u8 (p.d : Nat), .int .i64 p.s, .int .i64 p.u, .int .i64 m.clock, .int .i64 (-1), .int .i64 0, .bool false] 95)) rfl rfl rfl rfl (by go_simp) ?_
            simp only [Act.put, List.setIfInBounds_toArray, List.set_cons_succ, List.set_cons_zero]
            have hA := World.alloc_heap_new Wd (.cells #[.int .i64 i, .int .u8 (p.d : Nat), .int .i64 p.s, .int .i64 p.u, .int .i64 m.clock, .int .i64 (-1), .int .i64 0, .bool false] 95)
            have hNa : New Wd (Wd.alloc (.cells #[.int .i64 i, .int .u8 (p.d : Nat), .int .i64 p.s, .int .i64 p.u, .int .i64 m.clock, .int .i64 (-1), .int .i64 0, .bool false] 95)) := (Mods.refl _ _).alloc _
            have hAz : Wd.heap.size < (Wd.alloc (.cells #[.int .i64 i, .int .u8 (p.d : Nat), .int .i64 p.s, .int .i64 p.u, .int .i64 m.clock, .int .i64 (-1), .int .i64 0, .bool false] 95)).heap.size := by simp
            have hI := hI.new hNa
            obtain ⟨WA, hWA⟩ : ∃ W, Wd.alloc (.cells #[.int .i64 i, .int .u8 (p.d : Nat), .int .i64 p.s, .int .i64 p.u, .int .i64 m.clock, .int .i64 (-1), .int .i64 0, .bool false] 95) = W := ⟨_, rfl⟩
            obtain ⟨A, hAA⟩ : ∃ A, Wd.heap.size = A := ⟨_, rfl⟩
            rw [hWA] at hA hAz hI ⊢
            rw [hAA] at hA hAz ⊢
            clear hWA hAA hNa
            refine wpAnyIn_all (rs := [18]) (by kernel_rfl) (by simp) ?_
            simp only [List.mem_cons, List.not_mem_nil, or_false, forall_eq_or_imp, forall_eq]
            refine opIn_append (some 52) (base := N) (e := 95) rfl rfl rfl rfl rfl Try.underlying75 hi95 hz0 hz1 hz2 rfl (by decide) (.slice ha m.hist.length hcap) m.hist.length (flatF m.hist.length (mosF m.hist)) rfl hI.hist ⟨A, 0, none⟩ 1 1 [.int .i64 i, .int .u8 (p.d : Nat), .int .i64 p.s, .int .i64 p.u, .int .i64 m.clock, .int .i64 (-1), .int .i64 0, .bool false] rfl rfl (cells_new hA) (by simp [Value.oneCell']) (by unfold maxLen; omega) (by omega) (by have := hI.base; omega) (by decide) ?_
            intro hv' WB hown hgrow hblk
            simp only [Act.put, List.setIfInBounds_toArray, List.set_cons_succ, List.set_cons_zero]
            refine any_take 19 (some 53) (.pointer (some ⟨O, 0, none⟩)) rfl rfl (by kernel_rfl) (by kernel_rfl) (by kernel_rfl) (fun _ _ _ h => h.elim) (.value rfl fun w => by go_simp) ?_
            simp only [Act.put, List.setIfInBounds_toArray, List.set_cons_succ, List.set_cons_zero]
            refine any_take 20 (some 54) (.pointer (some ⟨O, 3, none⟩)) rfl rfl (by kernel_rfl) (by kernel_rfl) (by kernel_rfl) (fun _ _ _ h => h.elim) (.value rfl fun w => by go_simp) ?_
            simp only [Act.put, List.setIfInBounds_toArray, List.set_cons_succ, List.set_cons_zero]
            refine wpAnyIn_all (rs := [21]) (by kernel_rfl) (by simp) ?_
            simp only [List.mem_cons, List.not_mem_nil, or_false, forall_eq_or_imp, forall_eq]
            obtain ⟨hB', hT', hL', hap', hMd'⟩ := hI.grown hown hgrow hblk
            obtain ⟨va, vc, rfl⟩ := owns_slice hown
            refine opIn_skip none rfl rfl rfl rfl (w' := WB.setCell ⟨O, 3, none⟩ (.slice va (m.hist.length + 1) vc)) (by have h1 := hB'.c3; have h2 := hB'.frozen 3; go_simp) ?_
            simp only [Act.put, List.setIfInBounds_toArray, List.set_cons_succ, List.set_cons_zero]
            refine wpAnyIn_done (by kernel_rfl) ?_ _
            exact ⟨rfl, _, hB'.set3 _, own_other hown (hgO := hB'.apart hown (by decide)) _ _, own_other hT' (hgO := hB'.apart hT' (by decide)) _ _, fun j hj => (hL' j hj).kept0 (setMods _ _ _ _) (fun h0 b hb e => hI.lapart j hj h0 b hb e), hap', hMd'.setCell (p := ⟨O, 3, none⟩) (.inr (.inl rfl)) _⟩
          · refine opIn_value (some 45) (v := .agg #[.int .u8 (p.d : Nat), .int .i64 p.s, .int .i64 p.u]) (w' := Wd) rfl rfl rfl rfl (run_load_mid 93 (.tmp 44) rfl lb lo rfl p.cs _ hI.rd Try.underlying93 rfl info93) ?_
            simp only [Act.put, List.setIfInBounds_toArray, List.set_cons_succ, List.set_cons_zero]
            refine any_take 16 (some 50) (.agg #[.int .i64 i, .int .u8 (p.d : Nat), .int .i64 p.s, .int .i64 p.u, .int .i64 m.clock, .int .i64 (-1), .int .i64 0, .bool false]) rfl rfl (by kernel_rfl) (by kernel_rfl) (by kernel_rfl) (fun _ _ _ h => h.elim) (.value rfl fun w => by go_simp) ?_
            simp only [Act.put, List.setIfInBounds_toArray, List.set_cons_succ, List.set_cons_zero]
            refine wpAnyIn_all (rs := [4, 17]) (by kernel_rfl) (by simp) ?_
            simp only [List.mem_cons, List.not_mem_nil, or_false, forall_eq_or_imp, forall_eq]
            refine ⟨?_, ?_⟩
            · refine opIn_value (some 38) (v := .slice ha m.hist.length hcap) (w' := Wd) rfl rfl rfl rfl (by have := hI.mb.c3; go_simp) ?_
              simp only [Act.put, List.setIfInBounds_toArray, List.set_cons_succ, List.set_cons_zero]
              refine wpAnyIn_all (rs := [17]) (by kernel_rfl) (by simp) ?_
              simp only [List.mem_cons, List.not_mem_nil, or_false, forall_eq_or_imp, forall_eq]
              refine opIn_value (some 51) (v := .slice (some ⟨Wd.heap.size, 0, none⟩) 1 1) (w' := Wd.alloc (.cells #[.int .i64 i, .int .u8 (p.d : Nat), .int .i64 p.s, .int .i64 p.u, .int .i64 m.clock, .int .i64 (-1), .int .i64 0, .bool false] 95)) rfl rfl rfl rfl (by go_simp) ?_
              simp only [Act.put, List.setIfInBounds_toArray, List.set_cons_succ, List.set_cons_zero]
              have hA := World.alloc_heap_new Wd (.cells #[.int .i64 i, .int .u8 (p.d : Nat), .int .i64 p.s, .int .i64 p.u, .int .i64 m.clock, .int .i64 (-1), .int .i64 0, .bool false] 95)
              have hNa : New Wd (Wd.alloc (.cells #[.int .i64 i, .int .u8 (p.d : Nat), .int .i64 p.s, .int .i64 p.u, .int .i64 m.clock, .int .i64 (-1), .int .i64 0, .bool false] 95)) := (Mods.refl _ _).alloc _
              have hAz : Wd.heap.size < (Wd.alloc (.cells #[.int .i64 i, .int .u8 (p.d : Nat), .int .i64 p.s, .int .i64 p.u, .int .i64 m.clock, .int .i64 (-1), .int .i64 0, .bool false] 95)).heap.size := by simp
              have hI := hI.new hNa
              obtain ⟨WA, hWA⟩ : ∃ W, Wd.alloc (.cells #[.int .i64 i, .int .u8 (p.d : Nat), .int .i64 p.s, .int .i64 p.u, .int .i64 m.clock, .int .i64 (-1), .int .i64 0, .bool false] 95) = W := ⟨_, rfl⟩
              obtain ⟨A, hAA⟩ : ∃ A, Wd.heap.size = A := ⟨_, rfl⟩
              rw [hWA] at hA hAz hI ⊢
              rw [hAA] at hA hAz ⊢
              clear hWA hAA hNa
              refine wpAnyIn_all (rs := [18]) (by kernel_rfl) (by simp) ?_
              simp only [List.mem_cons, List.not_mem_nil, or_false, forall_eq_or_imp, forall_eq]
              refine opIn_append (some 52) (base := N) (e := 95) rfl rfl rfl rfl rfl Try.underlying75 hi95 hz0 hz1 hz2 rfl (by decide) (.slice ha m.hist.length hcap) m.hist.length (flatF m.hist.length (mosF m.hist)) rfl hI.hist ⟨A, 0, none⟩ 1 1 [.int .i64 i, .int .u8 (p.d : Nat), .int .i64 p.s, .int .i64 p.u, .int .i64 m.clock, .int .i64 (-1), .int .i64 0, .bool false] rfl rfl (cells_new hA) (by simp [Value.oneCell']) (by unfold maxLen; omega) (by omega) (by have := hI.base; omega) (by decide) ?_
              intro hv' WB hown hgrow hblk
              simp only [Act.put, List.setIfInBounds_toArray, List.set_cons_succ, List.set_cons_zero]
              refine any_take 19 (some 53) (.pointer (some ⟨O, 0, none⟩)) rfl rfl (by kernel_rfl) (by kernel_rfl) (by kernel_rfl) (fun _ _ _ h => h.elim) (.value rfl fun w => by go_simp) ?_
              simp only [Act.put, List.setIfInBounds_toArray, List.set_cons_succ, List.set_cons_zero]
              refine any_take 20 (some 54) (.pointer (some ⟨O, 3, none⟩)) rfl rfl (by kernel_rfl) (by kernel_rfl) (by kernel_rfl) (fun _ _ _ h => h.elim) (.value rfl fun w => by go_simp) ?_
              simp only [Act.put, List.setIfInBounds_toArray, List.set_cons_succ, List.set_cons_zero]
              refine wpAnyIn_all (rs := [21]) (by kernel_rfl) (by simp) ?_
              simp only [List.mem_cons, List.not_mem_nil, or_false, forall_eq_or_imp, forall_eq]
              obtain ⟨hB', hT', hL', hap', hMd'⟩ := hI.grown hown hgrow hblk
              obtain ⟨va, vc, rfl⟩ := owns_slice hown
              refine opIn_skip none rfl rfl rfl rfl (w' := WB.setCell ⟨O, 3, none⟩ (.slice va (m.hist.length + 1) vc)) (by have h1 := hB'.c3; have h2 := hB'.frozen 3; go_simp) ?_
              simp only [Act.put, List.setIfInBounds_toArray, List.set_cons_succ, List.set_cons_zero]
              refine wpAnyIn_done (by kernel_rfl) ?_ _
              exact ⟨rfl, _, hB'.set3 _, own_other hown (hgO := hB'.apart hown (by decide)) _ _, own_other hT' (hgO := hB'.apart hT' (by decide)) _ _, fun j hj => (hL' j hj).kept0 (setMods _ _ _ _) (fun h0 b hb e => hI.lapart j hj h0 b hb e), hap', hMd'.setCell (p := ⟨O, 3, none⟩) (.inr (.inl rfl)) _⟩
            · refine opIn_value (some 51) (v := .slice (some ⟨Wd.heap.size, 0, none⟩) 1 1) (w' := Wd.alloc (.cells #[.int .i64 i, .int .u8 (p.d : Nat), .int .i64 p.s, .int .i64 p.u, .int .i64 m.clock, .int .i64 (-1), .int .i64 0, .bool false] 95)) rfl rfl rfl rfl (by go_simp) ?_
              simp only [Act.put, List.setIfInBounds_toArray, List.set_cons_succ, List.set_cons_zero]
              have hA := World.alloc_heap_new Wd (.cells #[.int .i64 i, .int .u8 (p.d : Nat), .int .i64 p.s, .int .i64 p.u, .int .i64 m.clock, .int .i64 (-1), .int .i64 0, .bool false] 95)
              have hNa : New Wd (Wd.alloc (.cells #[.int .i64 i, .int .u8 (p.d : Nat), .int .i64 p.s, .int .i64 p.u, .int .i64 m.clock, .int .i64 (-1), .int .i64 0, .bool false] 95)) := (Mods.refl _ _).alloc _
              have hAz : Wd.heap.size < (Wd.alloc (.cells #[.int .i64 i, .int .u8 (p.d : Nat), .int .i64 p.s, .int .i64 p.u, .int .i64 m.clock, .int .i64 (-1), .int .i64 0, .bool false] 95)).heap.size := by simp
              have hI := hI.new hNa
              obtain ⟨WA, hWA⟩ : ∃ W, Wd.alloc (.cells #[.int .i64 i, .int .u8 (p.d : Nat), .int .i64 p.s, .int .i64 p.u, .int .i64 m.clock, .int .i64 (-1), .int .i64 0, .bool false] 95) = W := ⟨_, rfl⟩
              obtain ⟨A, hAA⟩ : ∃ A, Wd.heap.size = A := ⟨_, rfl⟩
              rw [hWA] at hA hAz hI ⊢
              rw [hAA] at hA hAz ⊢
              clear hWA hAA hNa
              refine wpAnyIn_all (rs := [4]) (by kernel_rfl) (by simp) ?_
              simp only [List.mem_cons, List.not_mem_nil, or_false, forall_eq_or_imp, forall_eq]
              refine opIn_value (some 38) (v := .slice ha m.hist.length hcap) (w' := WA) rfl rfl rfl rfl (by have := hI.mb.c3; go_simp) ?_
              simp only [Act.put, List.setIfInBounds_toArray, List.set_cons_succ, List.set_cons_zero]
              refine wpAnyIn_all (rs := [18]) (by kernel_rfl) (by simp) ?_
              simp only [List.mem_cons, List.not_mem_nil, or_false, forall_eq_or_imp, forall_eq]
              refine opIn_append (some 52) (base := N) (e := 95) rfl rfl rfl rfl rfl Try.underlying75 hi95 hz0 hz1 hz2 rfl (by decide) (.slice ha m.hist.length hcap) m.hist.length (flatF m.hist.length (mosF m.hist)) rfl hI.hist ⟨A, 0, none⟩ 1 1 [.int .i64 i, .int .u8 (p.d : Nat), .int .i64 p.s, .int .i64 p.u, .int .i64 m.clock, .int .i64 (-1), .int .i64 0, .bool false] rfl rfl (cells_new hA) (by simp [Value.oneCell']) (by unfold maxLen; omega) (by omega) (by have := hI.base; omega) (by decide) ?_
              intro hv' WB hown hgrow hblk
              simp only [Act.put, List.setIfInBounds_toArray, List.set_cons_succ, List.set_cons_zero]
              refine any_take 19 (some 53) (.pointer (some ⟨O, 0, none⟩)) rfl rfl (by kernel_rfl) (by kernel_rfl) (by kernel_rfl) (fun _ _ _ h => h.elim) (.value rfl fun w => by go_simp) ?_
              simp only [Act.put, List.setIfInBounds_toArray, List.set_cons_succ, List.set_cons_zero]
              refine any_take 20 (some 54) (.pointer (some ⟨O, 3, none⟩)) rfl rfl (by kernel_rfl) (by kernel_rfl) (by kernel_rfl) (fun _ _ _ h => h.elim) (.value rfl fun w => by go_simp) ?_
              simp only [Act.put, List.setIfInBounds_toArray, List.set_cons_succ, List.set_cons_zero]
              refine wpAnyIn_all (rs := [21]) (by kernel_rfl) (by simp) ?_
              simp only [List.mem_cons, List.not_mem_nil, or_false, forall_eq_or_imp, forall_eq]
              obtain ⟨hB', hT', hL', hap', hMd'⟩ := hI.grown hown hgrow hblk
              obtain ⟨va, vc, rfl⟩ := owns_slice hown
              refine opIn_skip none rfl rfl rfl rfl (w' := WB.setCell ⟨O, 3, none⟩ (.slice va (m.hist.length + 1) vc)) (by have h1 := hB'.c3; have h2 := hB'.frozen 3; go_simp) ?_
              simp only [Act.put, List.setIfInBounds_toArray, List.set_cons_succ, List.set_cons_zero]
              refine wpAnyIn_done (by kernel_rfl) ?_ _
              exact ⟨rfl, _, hB'.set3 _, own_other hown (hgO := hB'.apart hown (by decide)) _ _, own_other hT' (hgO := hB'.apart hT' (by decide)) _ _, fun j hj => (hL' j hj).kept0 (setMods _ _ _ _) (fun h0 b hb e => hI.lapart j hj h0 b hb e), hap', hMd'.setCell (p := ⟨O, 3, none⟩) (.inr (.inl rfl)) _⟩
      · refine opIn_value (some 49) (v := .int .i64 m.clock) (w' := Wd) rfl rfl rfl rfl (by have := hI.mb.c1; go_simp) ?_
        simp only [Act.put, List.setIfInBounds_toArray, List.set_cons_succ, List.set_cons_zero]
        refine wpAnyIn_all (rs := [4, 9]) (by kernel_rfl) (by simp) ?_
        simp only [List.mem_cons, List.not_mem_nil, or_false, forall_eq_or_imp, forall_eq]
        refine ⟨?_, ?_⟩
        · refine opIn_value (some 38) (v := .slice ha m.hist.length hcap) (w' := Wd) rfl rfl rfl rfl (by have := hI.mb.c3; go_simp) ?_
          simp only [Act.put, List.setIfInBounds_toArray, List.set_cons_succ, List.set_cons_zero]
          refine wpAnyIn_all (rs := [9]) (by kernel_rfl) (by simp) ?_
          simp only [List.mem_cons, List.not_mem_nil, or_false, forall_eq_or_imp, forall_eq]
          refine opIn_value (some 43) (v := .slice (some ⟨lb, lo, none⟩) t.left.length lc) (w' := Wd) rfl rfl rfl rfl (by have := hI.c0; go_simp) ?_
          simp only [Act.put, List.setIfInBounds_toArray, List.set_cons_succ, List.set_cons_zero]
          refine any_take 10 (some 44) (.pointer (some ⟨lb, lo, none⟩)) rfl rfl (by kernel_rfl) (by kernel_rfl) (by kernel_rfl) (fun _ _ _ h => h.elim) (.value rfl fun w => by go_simp) ?_
          simp only [Act.put, List.setIfInBounds_toArray, List.set_cons_succ, List.set_cons_zero]
          refine wpAnyIn_all (rs := [11]) (by kernel_rfl) (by simp) ?_
          simp only [List.mem_cons, List.not_mem_nil, or_false, forall_eq_or_imp, forall_eq]
          refine opIn_value (some 45) (v := .agg #[.int .u8 (p.d : Nat), .int .i64 p.s, .int .i64 p.u]) (w' := Wd) rfl rfl rfl rfl (run_load_mid 93 (.tmp 44) rfl lb lo rfl p.cs _ hI.rd Try.underlying93 rfl info93) ?_
          simp only [Act.put, List.setIfInBounds_toArray, List.set_cons_succ, List.set_cons_zero]
          refine any_take 16 (some 50) (.agg #[.int .i64 i, .int .u8 (p.d : Nat), .int .i64 p.s, .int .i64 p.u, .int .i64 m.clock, .int .i64 (-1), .int .i64 0, .bool false]) rfl rfl (by kernel_rfl) (by kernel_rfl) (by kernel_rfl) (fun _ _ _ h => h.elim) (.value rfl fun w => by go_simp) ?_
          simp only [Act.put, List.setIfInBounds_toArray, List.set_cons_succ, List.set_cons_zero]
          refine wpAnyIn_all (rs := [17]) (by kernel_rfl) (by simp) ?_
          simp only [List.mem_cons, List.not_mem_nil, or_false, forall_eq_or_imp, forall_eq]
          refine opIn_value (some 51) (v := .slice (some ⟨Wd.heap.size, 0, none⟩) 1 1) (w' := Wd.alloc (.cells #[.int .i64 i, .int .u8 (p.d : Nat), .int .i64 p.s, .int .i64 p.u, .int .i64 m.clock, .int .i64 (-1), .int .i64 0, .bool false] 95)) rfl rfl rfl rfl (by go_simp) ?_
          simp only [Act.put, List.setIfInBounds_toArray, List.set_cons_succ, List.set_cons_zero]
          have hA := World.alloc_heap_new Wd (.cells #[.int .i64 i, .int .u8 (p.d : Nat), .int .i64 p.s, .int .i64 p.u, .int .i64 m.clock, .int .i64 (-1), .int .i64 0, .bool false] 95)
          have hNa : New Wd (Wd.alloc (.cells #[.int .i64 i, .int .u8 (p.d : Nat), .int .i64 p.s, .int .i64 p.u, .int .i64 m.clock, .int .i64 (-1), .int .i64 0, .bool false] 95)) := (Mods.refl _ _).alloc _
          have hAz : Wd.heap.size < (Wd.alloc (.cells #[.int .i64 i, .int .u8 (p.d : Nat), .int .i64 p.s, .int .i64 p.u, .int .i64 m.clock, .int .i64 (-1), .int .i64 0, .bool false] 95)).heap.size := by simp
          have hI := hI.new hNa
          obtain ⟨WA, hWA⟩ : ∃ W, Wd.alloc (.cells #[.int .i64 i, .int .u8 (p.d : Nat), .int .i64 p.s, .int .i64 p.u, .int .i64 m.clock, .int .i64 (-1), .int .i64 0, .bool false] 95) = W := ⟨_, rfl⟩
          obtain ⟨A, hAA⟩ : ∃ A, Wd.heap.size = A := ⟨_, rfl⟩
          rw [hWA] at hA hAz hI ⊢
          rw [hAA] at hA hAz ⊢
          clear hWA hAA hNa
          refine wpAnyIn_all (rs := [18]) (by kernel_rfl) (by simp) ?_
          simp only [List.mem_cons, List.not_mem_nil, or_false, forall_eq_or_imp, forall_eq]
          refine opIn_append (some 52) (base := N) (e := 95) rfl rfl rfl rfl rfl Try.underlying75 hi95 hz0 hz1 hz2 rfl (by decide) (.slice ha m.hist.length hcap) m.hist.length (flatF m.hist.length (mosF m.hist)) rfl hI.hist ⟨A, 0, none⟩ 1 1 [.int .i64 i, .int .u8 (p.d : Nat), .int .i64 p.s, .int .i64 p.u, .int .i64 m.clock, .int .i64 (-1), .int .i64 0, .bool false] rfl rfl (cells_new hA) (by simp [Value.oneCell']) (by unfold maxLen; omega) (by omega) (by have := hI.base; omega) (by decide) ?_
          intro hv' WB hown hgrow hblk
          simp only [Act.put, List.setIfInBounds_toArray, List.set_cons_succ, List.set_cons_zero]
          refine any_take 19 (some 53) (.pointer (some ⟨O, 0, none⟩)) rfl rfl (by kernel_rfl) (by kernel_rfl) (by kernel_rfl) (fun _ _ _ h => h.elim) (.value rfl fun w => by go_simp) ?_
          simp only [Act.put, List.setIfInBounds_toArray, List.set_cons_succ, List.set_cons_zero]
          refine any_take 20 (some 54) (.pointer (some ⟨O, 3, none⟩)) rfl rfl (by kernel_rfl) (by kernel_rfl) (by kernel_rfl) (fun _ _ _ h => h.elim) (.value rfl fun w => by go_simp) ?_
          simp only [Act.put, List.setIfInBounds_toArray, List.set_cons_succ, List.set_cons_zero]
          refine wpAnyIn_all (rs := [21]) (by kernel_rfl) (by simp) ?_
          simp only [List.mem_cons, List.not_mem_nil, or_false, forall_eq_or_imp, forall_eq]
          obtain ⟨hB', hT', hL', hap', hMd'⟩ := hI.grown hown hgrow hblk
          obtain ⟨va, vc, rfl⟩ := owns_slice hown
          refine opIn_skip none rfl rfl rfl rfl (w' := WB.setCell ⟨O, 3, none⟩ (.slice va (m.hist.length + 1) vc)) (by have h1 := hB'.c3; have h2 := hB'.frozen 3; go_simp) ?_
          simp only [Act.put, List.setIfInBounds_toArray, List.set_cons_succ, List.set_cons_zero]
          refine wpAnyIn_done (by kernel_rfl) ?_ _
          exact ⟨rfl, _, hB'.set3 _, own_other hown (hgO := hB'.apart hown (by decide)) _ _, own_other hT' (hgO := hB'.apart hT' (by decide)) _ _, fun j hj => (hL' j hj).kept0 (setMods _ _ _ _) (fun h0 b hb e => hI.lapart j hj h0 b hb e), hap', hMd'.setCell (p := ⟨O, 3, none⟩) (.inr (.inl rfl)) _⟩
        · refine opIn_value (some 43) (v := .slice (some ⟨lb, lo, none⟩) t.left.length lc) (w' := Wd) rfl rfl rfl rfl (by have := hI.c0; go_simp) ?_
          simp only [Act.put, List.setIfInBounds_toArray, List.set_cons_succ, List.set_cons_zero]
          refine any_take 10 (some 44) (.pointer (some ⟨lb, lo, none⟩)) rfl rfl (by kernel_rfl) (by kernel_rfl) (by kernel_rfl) (fun _ _ _ h => h.elim) (.value rfl fun w => by go_simp) ?_
          simp only [Act.put, List.setIfInBounds_toArray, List.set_cons_succ, List.set_cons_zero]
          refine wpAnyIn_all (rs := [4, 11]) (by kernel_rfl) (by simp) ?_
          simp only [List.mem_cons, List.not_mem_nil, or_false, forall_eq_or_imp, forall_eq]
          refine ⟨?_, ?_⟩
          · refine opIn_value (some 38) (v := .slice ha m.hist.length hcap) (w' := Wd) rfl rfl rfl rfl (by have := hI.mb.c3; go_simp) ?_
            simp only [Act.put, List.setIfInBounds_toArray, List.set_cons_succ, List.set_cons_zero]
            refine wpAnyIn_all (rs := [11]) (by kernel_rfl) (by simp) ?_
            simp only [List.mem_cons, List.not_mem_nil, or_false, forall_eq_or_imp, forall_eq]
            refine opIn_value (some 45) (v := .agg #[.int .u8 (p.d : Nat), .int .i64 p.s, .int .i64 p.u]) (w' := Wd) rfl rfl rfl rfl (run_load_mid 93 (.tmp 44) rfl lb lo rfl p.cs _ hI.rd Try.underlying93 rfl info93) ?_
            simp only [Act.put, List.setIfInBounds_toArray, List.set_cons_succ, List.set_cons_zero]
            refine any_take 16 (some 50) (.agg #[.int .i64 i, .int .u8 (p.d : Nat), .int .i64 p.s, .int .i64 p.u, .int .i64 m.clock, .int .i64 (-1), .int .i64 0, .bool false]) rfl rfl (by kernel_rfl) (by kernel_rfl) (by kernel_rfl) (fun _ _ _ h => h.elim) (.value rfl fun w => by go_simp) ?_
            simp only [Act.put, List.setIfInBounds_toArray, List.set_cons_succ, List.set_cons_zero]
            refine wpAnyIn_all (rs := [17]) (by kernel_rfl) (by simp) ?_
            simp only [List.mem_cons, List.not_mem_nil, or_false, forall_eq_or_imp, forall_eq]
            refine opIn_value (some 51) (v := .slice (some ⟨Wd.heap.size, 0, none⟩) 1 1) (w' := Wd.alloc (.cells #[.int .i64 i, .int .u8 (p.d : Nat), .int .i64 p.s, .int .i64 p.u, .int .i64 m.clock, .int .i64 (-1), .int .i64 0, .bool false] 95)) rfl rfl rfl rfl (by go_simp) ?_
            simp only [Act.put, List.setIfInBounds_toArray, List.set_cons_succ, List.set_cons_zero]
            have hA := World.alloc_heap_new Wd (.cells #[.int .i64 i, .int .u8 (p.d : Nat), .int .i64 p.s, .int .i64 p.u, .int .i64 m.clock, .int .i64 (-1), .int .i64 0, .bool false] 95)
            have hNa : New Wd (Wd.alloc (.cells #[.int .i64 i, .int .u8 (p.d : Nat), .int .i64 p.s, .int .i64 p.u, .int .i64 m.clock, .int .i64 (-1), .int .i64 0, .bool false] 95)) := (Mods.refl _ _).alloc _
            have hAz : Wd.heap.size < (Wd.alloc (.cells #[.int .i64 i, .int .u8 (p.d : Nat), .int .i64 p.s, .int .i64 p.u, .int .i64 m.clock, .int .i64 (-1), .int .i64 0, .bool false] 95)).heap.size := by simp
            have hI := hI.new hNa
            obtain ⟨WA, hWA⟩ : ∃ W, Wd.alloc (.cells #[.int .i64 i, .int .u8 (p.d : Nat), .int .i64 p.s, .int .i64 p.u, .int .i64 m.clock, .int .i64 (-1), .int .i64 0, .bool false] 95) = W := ⟨_, rfl⟩
            obtain ⟨A, hAA⟩ : ∃ A, Wd.heap.size = A := ⟨_, rfl⟩
            rw [hWA] at hA hAz hI ⊢
            rw [hAA] at hA hAz ⊢
            clear hWA hAA hNa
            refine wpAnyIn_all (rs := [18]) (by kernel_rfl) (by simp) ?_
            simp only [List.mem_cons, List.not_mem_nil, or_false, forall_eq_or_imp, forall_eq]
            refine opIn_append (some 52) (base := N) (e := 95) rfl rfl rfl rfl rfl Try.underlying75 hi95 hz0 hz1 hz2 rfl (by decide) (.slice ha m.hist.length hcap) m.hist.length (flatF m.hist.length (mosF m.hist)) rfl hI.hist ⟨A, 0, none⟩ 1 1 [.int .i64 i, .int .u8 (p.d : Nat), .int .i64 p.s, .int .i64 p.u, .int .i64 m.clock, .int .i64 (-1), .int .i64 0, .bool false] rfl rfl (cells_new hA) (by simp [Value.oneCell']) (by unfold maxLen; omega) (by omega) (by have := hI.base; omega) (by decide) ?_
            intro hv' WB hown hgrow hblk
            simp only [Act.put, List.setIfInBounds_toArray, List.set_cons_succ, List.set_cons_zero]
            refine any_take 19 (some 53) (.pointer (some ⟨O, 0, none⟩)) rfl rfl (by kernel_rfl) (by kernel_rfl) (by kernel_rfl) (fun _ _ _ h => h.elim) (.value rfl fun w => by go_simp) ?_
            simp only [Act.put, List.setIfInBounds_toArray, List.set_cons_succ, List.set_cons_zero]
            refine any_take 20 (some 54) (.pointer (some ⟨O, 3, none⟩)) rfl rfl (by kernel_rfl) (by kernel_rfl) (by kernel_rfl) (fun _ _ _ h => h.elim) (.value rfl fun w => by go_simp) ?_
            simp only [Act.put, List.setIfInBounds_toArray, List.set_cons_succ, List.set_cons_zero]
            refine wpAnyIn_all (rs := [21]) (by kernel_rfl) (by simp) ?_
            simp only [List.mem_cons, List.not_mem_nil, or_false, forall_eq_or_imp, forall_eq]
            obtain ⟨hB', hT', hL', hap', hMd'⟩ := hI.grown hown hgrow hblk
            obtain ⟨va, vc, rfl⟩ := owns_slice hown
            refine opIn_skip none rfl rfl rfl rfl (w' := WB.setCell ⟨O, 3, none⟩ (.slice va (m.hist.length + 1) vc)) (by have h1 := hB'.c3; have h2 := hB'.frozen 3; go_simp) ?_
            simp only [Act.put, List.setIfInBounds_toArray, List.set_cons_succ, List.set_cons_zero]
            refine wpAnyIn_done (by kernel_rfl) ?_ _
            exact ⟨rfl, _, hB'.set3 _, own_other hown (hgO := hB'.apart hown (by decide)) _ _, own_other hT' (hgO := hB'.apart hT' (by decide)) _ _, fun j hj => (hL' j hj).kept0 (setMods _ _ _ _) (fun h0 b hb e => hI.lapart j hj h0 b hb e), hap', hMd'.setCell (p := ⟨O, 3, none⟩) (.inr (.inl rfl)) _⟩
          · refine opIn_value (some 45) (v := .agg #[.int .u8 (p.d : Nat), .int .i64 p.s, .int .i64 p.u]) (w' := Wd) rfl rfl rfl rfl (run_load_mid 93 (.tmp 44) rfl lb lo rfl p.cs _ hI.rd Try.underlying93 rfl info93) ?_
            simp only [Act.put, List.setIfInBounds_toArray, List.set_cons_succ, List.set_cons_zero]
            refine any_take 16 (some 50) (.agg #[.int .i64 i, .int .u8 (p.d : Nat), .int .i64 p.s, .int .i64 p.u, .int .i64 m.clock, .int .i64 (-1), .int .i64 0, .bool false]) rfl rfl (by kernel_rfl) (by kernel_rfl) (by kernel_rfl) (fun _ _ _ h => h.elim) (.value rfl fun w => by go_simp) ?_
            simp only [Act.put, List.setIfInBounds_toArray, List.set_cons_succ, List.set_cons_zero]
            refine wpAnyIn_all (rs := [4, 17]) (by kernel_rfl) (by simp) ?_
            simp only [List.mem_cons, List.not_mem_nil, or_false, forall_eq_or_imp, forall_eq]
            refine ⟨?_, ?_⟩
            · refine opIn_value (some 38) (v := .slice ha m.hist.length hcap) (w' := Wd) rfl rfl rfl rfl (by have := hI.mb.c3; go_simp) ?_
              simp only [Act.put, List.setIfInBounds_toArray, List.set_cons_succ, List.set_cons_zero]
              refine wpAnyIn_all (rs := [17]) (by kernel_rfl) (by simp) ?_
              simp only [List.mem_cons, List.not_mem_nil, or_false, forall_eq_or_imp, forall_eq]
              refine opIn_value (some 51) (v := .slice (some ⟨Wd.heap.size, 0, none⟩) 1 1) (w' := Wd.alloc (.cells #[.int .i64 i, .int .u8 (p.d : Nat), .int .i64 p.s, .int .i64 p.u, .int .i64 m.clock, .int .i64 (-1), .int .i64 0, .bool false] 95)) rfl rfl rfl rfl (by go_simp) ?_
              simp only [Act.put, List.setIfInBounds_toArray, List.set_cons_succ, List.set_cons_zero]
              have hA := World.alloc_heap_new Wd (.cells #[.int .i64 i, .int .u8 (p.d : Nat), .int .i64 p.s, .int .i64 p.u, .int .i64 m.clock, .int .i64 (-1), .int .i64 0, .bool false] 95)
              have hNa : New Wd (Wd.alloc (.cells #[.int .i64 i, .int .u8 (p.d : Nat), .int .i64 p.s, .int .i64 p.u, .int .i64 m.clock, .int .i64 (-1), .int .i64 0, .bool false] 95)) := (Mods.refl _ _).alloc _
              have hAz : Wd.heap.size < (Wd.alloc (.cells #[.int .i64 i, .int .u8 (p.d : Nat), .int .i64 p.s, .int .i64 p.u, .int .i64 m.clock, .int .i64 (-1), .int .i64 0, .bool false] 95)).heap.size := by simp
              have hI := hI.new hNa
              obtain ⟨WA, hWA⟩ : ∃ W, Wd.alloc (.cells #[.int .i64 i, .int .u8 (p.d : Nat), .int .i64 p.s, .int .i64 p.u, .int .i64 m.clock, .int .i64 (-1), .int .i64 0, .bool false] 95) = W := ⟨_, rfl⟩
              obtain ⟨A, hAA⟩ : ∃ A, Wd.heap.size = A := ⟨_, rfl⟩
              rw [hWA] at hA hAz hI ⊢
              rw [hAA] at hA hAz ⊢
              clear hWA hAA hNa
              refine wpAnyIn_all (rs := [18]) (by kernel_rfl) (by simp) ?_
              simp only [List.mem_cons, List.not_mem_nil, or_false, forall_eq_or_imp, forall_eq]
              refine opIn_append (some 52) (base := N) (e := 95) rfl rfl rfl rfl rfl Try.underlying75 hi95 hz0 hz1 hz2 rfl (by decide) (.slice ha m.hist.length hcap) m.hist.length (flatF m.hist.length (mosF m.hist)) rfl hI.hist ⟨A, 0, none⟩ 1 1 [.int .i64 i, .int .u8 (p.d : Nat), .int .i64 p.s, .int .i64 p.u, .int .i64 m.clock, .int .i64 (-1), .int .i64 0, .bool false] rfl rfl (cells_new hA) (by simp [Value.oneCell']) (by unfold maxLen; omega) (by omega) (by have := hI.base; omega) (by decide) ?_
              intro hv' WB hown hgrow hblk
              simp only [Act.put, List.setIfInBounds_toArray, List.set_cons_succ, List.set_cons_zero]
              refine any_take 19 (some 53) (.pointer (some ⟨O, 0, none⟩)) rfl rfl (by kernel_rfl) (by kernel_rfl) (by kernel_rfl) (fun _ _ _ h => h.elim) (.value rfl fun w => by go_simp) ?_
              simp only [Act.put, List.setIfInBounds_toArray, List.set_cons_succ, List.set_cons_zero]
              refine any_take 20 (some 54) (.pointer (some ⟨O, 3, none⟩)) rfl rfl (by kernel_rfl) (by kernel_rfl) (by kernel_rfl) (fun _ _ _ h => h.elim) (.value rfl fun w => by go_simp) ?_
              simp only [Act.put, List.setIfInBounds_toArray, List.set_cons_succ, List.set_cons_zero]
              refine wpAnyIn_all (rs := [21]) (by kernel_rfl) (by simp) ?_
              simp only [List.mem_cons, List.not_mem_nil, or_false, forall_eq_or_imp, forall_eq]
              obtain ⟨hB', hT', hL', hap', hMd'⟩ := hI.grown hown hgrow hblk
              obtain ⟨va, vc, rfl⟩ := owns_slice hown
              refine opIn_skip none rfl rfl rfl rfl (w' := WB.setCell ⟨O, 3, none⟩ (.slice va (m.hist.length + 1) vc)) (by have h1 := hB'.c3; have h2 := hB'.frozen 3; go_simp) ?_
              simp only [Act.put, List.setIfInBounds_toArray, List.set_cons_succ, List.set_cons_zero]
              refine wpAnyIn_done (by kernel_rfl) ?_ _
              exact ⟨rfl, _, hB'.set3 _, own_other hown (hgO := hB'.apart hown (by decide)) _ _, own_other hT' (hgO := hB'.apart hT' (by decide)) _ _, fun j hj => (hL' j hj).kept0 (setMods _ _ _ _) (fun h0 b hb e => hI.lapart j hj h0 b hb e), hap', hMd'.setCell (p := ⟨O, 3, none⟩) (.inr (.inl rfl)) _⟩
            · refine opIn_value (some 51) (v := .slice (some ⟨Wd.heap.size, 0, none⟩) 1 1) (w' := Wd.alloc (.cells #[.int .i64 i, .int .u8 (p.d : Nat), .int .i64 p.s, .int .i64 p.u, .int .i64 m.clock, .int .i64 (-1), .int .i64 0, .bool false] 95)) rfl rfl rfl rfl (by go_simp) ?_
              simp only [Act.put, List.setIfInBounds_toArray, List.set_cons_succ, List.set_cons_zero]
              have hA := World.alloc_heap_new Wd (.cells #[.int .i64 i, .int .u8 (p.d : Nat), .int .i64 p.s, .int .i64 p.u, .int .i64 m.clock, .int .i64 (-1), .int .i64 0, .bool false] 95)
              have hNa : New Wd (Wd.alloc (.cells #[.int .i64 i, .int .u8 (p.d : Nat), .int .i64 p.s, .int .i64 p.u, .int .i64 m.clock, .int .i64 (-1), .int .i64 0, .bool false] 95)) := (Mods.refl _ _).alloc _
              have hAz : Wd.heap.size < (Wd.alloc (.cells #[.int .i64 i, .int .u8 (p.d : Nat), .int .i64 p.s, .int .i64 p.u, .int .i64 m.clock, .int .i64 (-1), .int .i64 0, .bool false] 95)).heap.size := by simp
              have hI := hI.new hNa
              obtain ⟨WA, hWA⟩ : ∃ W, Wd.alloc (.cells #[.int .i64 i, .int .u8 (p.d : Nat), .int .i64 p.s, .int .i64 p.u, .int .i64 m.clock, .int .i64 (-1), .int .i64 0, .bool false] 95) = W := ⟨_, rfl⟩
              obtain ⟨A, hAA⟩ : ∃ A, Wd.heap.size = A := ⟨_, rfl⟩
              rw [hWA] at hA hAz hI ⊢
              rw [hAA] at hA hAz ⊢
              clear hWA hAA hNa
              refine wpAnyIn_all (rs := [4]) (by kernel_rfl) (by simp) ?_
              simp only [List.mem_cons, List.not_mem_nil, or_false, forall_eq_or_imp, forall_eq]
              refine opIn_value (some 38) (v := .slice ha m.hist.length hcap) (w' := WA) rfl rfl rfl rfl (by have := hI.mb.c3; go_simp) ?_
              simp only [Act.put, List.setIfInBounds_toArray, List.set_cons_succ, List.set_cons_zero]
              refine wpAnyIn_all (rs := [18]) (by kernel_rfl) (by simp) ?_
              simp only [List.mem_cons, List.not_mem_nil, or_false, forall_eq_or_imp, forall_eq]
              refine opIn_append (some 52) (base := N) (e := 95) rfl rfl rfl rfl rfl Try.underlying75 hi95 hz0 hz1 hz2 rfl (by decide) (.slice ha m.hist.length hcap) m.hist.length (flatF m.hist.length (mosF m.hist)) rfl hI.hist ⟨A, 0, none⟩ 1 1 [.int .i64 i, .int .u8 (p.d : Nat), .int .i64 p.s, .int .i64 p.u, .int .i64 m.clock, .int .i64 (-1), .int .i64 0, .bool false] rfl rfl (cells_new hA) (by simp [Value.oneCell']) (by unfold maxLen; omega) (by omega) (by have := hI.base; omega) (by decide) ?_
              intro hv' WB hown hgrow hblk
              simp only [Act.put, List.setIfInBounds_toArray, List.set_cons_succ, List.set_cons_zero]
              refine any_take 19 (some 53) (.pointer (some ⟨O, 0, none⟩)) rfl rfl (by kernel_rfl) (by kernel_rfl) (by kernel_rfl) (fun _ _ _ h => h.elim) (.value rfl fun w => by go_simp) ?_
              simp only [Act.put, List.setIfInBounds_toArray, List.set_cons_succ, List.set_cons_zero]
              refine any_take 20 (some 54) (.pointer (some ⟨O, 3, none⟩)) rfl rfl (by kernel_rfl) (by kernel_rfl) (by kernel_rfl) (fun _ _ _ h => h.elim) (.value rfl fun w => by go_simp) ?_
              simp only [Act.put, List.setIfInBounds_toArray, List.set_cons_succ, List.set_cons_zero]
              refine wpAnyIn_all (rs := [21]) (by kernel_rfl) (by simp) ?_
              simp only [List.mem_cons, List.not_mem_nil, or_false, forall_eq_or_imp, forall_eq]
              obtain ⟨hB', hT', hL', hap', hMd'⟩ := hI.grown hown hgrow hblk
              obtain ⟨va, vc, rfl⟩ := owns_slice hown
              refine opIn_skip none rfl rfl rfl rfl (w' := WB.setCell ⟨O, 3, none⟩ (.slice va (m.hist.length + 1) vc)) (by have h1 := hB'.c3; have h2 := hB'.frozen 3; go_simp) ?_
              simp only [Act.put, List.setIfInBounds_toArray, List.set_cons_succ, List.set_cons_zero]
              refine wpAnyIn_done (by kernel_rfl) ?_ _
              exact ⟨rfl, _, hB'.set3 _, own_other hown (hgO := hB'.apart hown (by decide)) _ _, own_other hT' (hgO := hB'.apart hT' (by decide)) _ _, fun j hj => (hL' j hj).kept0 (setMods _ _ _ _) (fun h0 b hb e => hI.lapart j hj h0 b hb e), hap', hMd'.setCell (p := ⟨O, 3, none⟩) (.inr (.inl rfl)) _⟩
    · rintro a' W' ⟨hdef, hv', k1, k2, k3, k4, k5, k6⟩
      have HK := Lib.hid (And.intro k1 (And.intro k2 (And.intro k3 (And.intro k4 (And.intro k5 k6)))))
      clear k1 k2 k3 k4 k5 k6
      have hrm : Hid (readM m i t = { m with ths := m.ths.set i { t with loaded := true, seen := m.word, moment := m.hist.length }, hist := m.hist ++ [⟨i, p, m.clock, -1, 0, false⟩] }) := Lib.hid (by
        unfold readM readT
        rw [if_pos hmo, if_pos hmo, hp])
      go_wp2_with fail
      refine bodyPost_end (v := .tuple #[]) (by simp [results, Try.results100, go_sem]) (by simpa using hdef) ?_
      obtain ⟨k1, k2, k3, k4, k5, k6⟩ := HK.out
      refine ⟨⟨_, rfl⟩, _, k1, ?_, k6⟩
      rw [hrm.out]
      have k3' := k3
      refine ⟨?_, k4, fun j hj h0 b hb => ⟨fun e => (k5 j hj h0 b hb).1 (by cases e; rfl), (k5 j hj h0 b hb).2⟩, caps_set Hcp.out hi ht rfl, ?_, ?_⟩
      · have := k3
        rw [List.length_set] at this ⊢
        exact this
      · have e := flat_moments_snoc (H := m.hist) (h' := ⟨i, p, m.clock, -1, 0, false⟩)
        unfold Mo.cs at e
        rw [show (m.hist ++ [(⟨i, p, m.clock, -1, 0, false⟩ : Mo)]).length = m.hist.length + 1 by simp] at e ⊢
        rw [← e]
        exact k2
      · exact ⟨by rw [List.length_set]; exact hsm.1, by simp; omega⟩
  · have d1 : decide (t.moment < 0) = false := decide_eq_false hmo
    have hrm : Hid (readM m i t = { m with ths := m.ths.set i { t with loaded := true, seen := m.word } }) := Lib.hid (by
      unfold readM readT
      rw [if_neg hmo, if_neg hmo])
    have HF := Lib.hid (And.intro hB2 (And.intro hs2 (And.intro hH2 (And.intro hL2 hin))))
    clear hs2 hH2 hL2 hin hB2 g3
    go_wp2_with fail
    refine bodyPost_end (v := .tuple #[]) (by simp [results, Try.results100, go_sem]) rfl ?_
    obtain ⟨hB2, hs2, hH2, hL2, hin⟩ := HF.out
    refine ⟨⟨_, rfl⟩, _, hB2, ?_, hin⟩
    rw [hrm.out]
    refine ⟨?_, ?_, ?_, ?_, hH2, ?_⟩
    · have := hs2
      rwa [List.length_set] at this ⊢
    · exact left_set hL2 hi ht rfl
    · exact apart_set Hap.out hi ht rfl
    · exact caps_set Hcp.out hi ht rfl
    · exact ⟨by rw [List.length_set]; exact hsm.1, hsm.2⟩
end Go.Proofs.Ytkjloeefcaadlaa
