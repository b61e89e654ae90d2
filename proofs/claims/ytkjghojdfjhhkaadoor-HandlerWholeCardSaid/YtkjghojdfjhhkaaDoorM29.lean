/- Streams: what handlers do: ended, reset, written. -/
import Derived.Test.YtkjghojdfjhhkaaDoorM24
set_option linter.unusedSimpArgs false
set_option linter.unusedVariables false
namespace Go.Proofs.YtkjghojdfjhhkaaDoor
open Go.RowKit Go.Shelf Go.Cs
attribute [local go_sem] Oper.semAt_some
set_option maxHeartbeats 4000000 in
set_option maxRecDepth 100000 in
theorem end_S (v : Value) (s : St) (w : World) (h : RdS w v s) (hl : s.out.length ≤ 1000000) :
    Calls Tryd.prog 21 #[v] w fun e w' => ∃ v', e = .returned (.tuple #[v', .int .i64 (endS s).2]) ∧ OwS w.heap.size w' v' (endS s).1 ∧ New w w' := by
  obtain ⟨ov, rfl, hr⟩ := h
  have hwf := writeF_open s
  obtain ⟨ob, hob⟩ : ∃ x, openB s = x := ⟨_, rfl⟩
  obtain ⟨oz, hoz⟩ : ∃ z, (if openB s = true then (1 : Int) else 0) = z := ⟨_, rfl⟩
  rw [hoz] at hwf
  have hgt : decide ((0 : Int) < oz) = ob := by rw [← hoz, ← hob]; cases openB s <;> rfl
  obtain ⟨so, hso⟩ : ∃ x, (endS s).1 = x := ⟨_, rfl⟩
  obtain ⟨ec, hec⟩ : ∃ x, (endS s).2 = x := ⟨_, rfl⟩
  rw [hso, hec]
  have hS1 : (if (ob && decide ((0 : Int) = 0)) = true then { s with ends := true } else s) = so := by rw [← hso]; unfold endS; rw [hob]; cases ob <;> rfl
  have hS2 : (if ob = true then (0 : Int) else 270) = ec := by rw [← hec]; unfold endS; rw [hob]; cases ob <;> rfl
  have DO := Lib.hid (fun W (hN : New w W) => (does_S (S0 := fun _ => False) (J0 := fun _ => True) (J1 := fun _ _ => True) ob 58 #[] 0 s { s with ends := true } (.agg (s.cs ov).toArray) W ⟨ov, rfl, hr.new hN⟩ hl (enters_of Tryd.func58 (by kernel_rfl) rfl) (fun b h => h.elim) (fun W' hM => ⟨ov, rfl, (hr.new hN).new hM⟩) trivial ⟨fun _ _ _ _ => trivial, fun _ _ _ _ _ _ _ => trivial⟩ (fun _ _ => ⟨fun _ _ _ _ => trivial, fun _ _ _ _ _ => trivial⟩) (fun _ => end_deed s W)).mono fun e w' h => show ∃ ox, e = .returned (.tuple #[.agg (so.cs ox).toArray, .int .i64 ec]) ∧ OwB w.heap.size w' ox so.out ∧ New W w' from by
    obtain ⟨v', rfl, hO, hM, -⟩ := h
    rw [hS1] at hO
    rw [hS2]
    obtain ⟨ox, rfl, hO⟩ := hO
    exact ⟨ox, rfl, hO.mono hN.size, hM⟩)
  obtain ⟨W1, B, C, hW, hB, hC, rB, rC, hN1, hz⟩ := pair_rows w #[.int .i64 s.id, .int .u8 s.state, .int .i64 s.send, .int .i64 s.recv, .int .i64 s.owed, .bool s.ans, .bool s.ends, ov, .int .u8 s.urg, .bool s.inc, .int .i64 s.slot] #[.int .i64 0, .int .u8 0, .int .i64 0, .int .i64 0, .int .i64 0, .bool false, .bool false, .slice none 0 0, .int .u8 0, .bool false, .int .i64 0] 24 24
  have HF := Lib.hid (fun W => of_S s ov W)
  have HWR := Lib.hid (fun W => writes_S W)
  have HOU := Lib.hid (fun W => ours_any s ov W)
  unfold St.cs at DO HF HOU
  unfold St.cs

  go_enter Tryd.func21, Tryd.ntmps21
  go_upto_region 1 with fail
  clear hW
  refine piece (fun _ a' W' => (a'.tmps.size = 13 ∧ a'.defers = [] ∧ a'.tmps.getD 2 undef = .pointer (some ⟨C, 0, none⟩) ∧ a'.tmps.getD 3 undef = .int .i64 ec) ∧ (∃ ox, W'.heap[C]? = some (.cells (so.cs ox).toArray 24 (0, 0)) ∧ OwB w.heap.size W' ox so.out) ∧ Mods (fun b => b = C) W1 W') ?reg ?rest
  case rest =>
    rintro ⟨z, dfs⟩ W3 ⟨⟨hs, hd, hq2, hq3⟩, ⟨ox, rC3, hO3⟩, hM3⟩
    simp only at hs hd hq2 hq3
    subst hd
    obtain ⟨u, rfl⟩ : ∃ u : Nat → Value, z = (u 0 :: u 1 :: u 2 :: u 3 :: u 4 :: u 5 :: u 6 :: u 7 :: u 8 :: u 9 :: u 10 :: u 11 :: u 12 :: ([] : List Value)).toArray := ⟨fun i => z.getD i undef, range_lit z 13 hs⟩
    have hp2 : u 2 = _ := hq2
    have hp3 : u 3 = _ := hq3
    rw [hp2, hp3]
    clear hp2 hp3 hq2 hq3 hs
    go_wp2_with fail
    refine bodyPost_ret (v := .tuple #[.agg (so.cs ox).toArray, .int .i64 ec]) (results_row2 rfl _ _ C 24 _ (0, 0) _ rfl rC3 Tryd.underlying24 rfl info24 rfl) rfl ?_
    exact ⟨_, rfl, ⟨ox, rfl, hO3.mono (by omega)⟩, (Mods.ofNew hN1).trans hM3 |>.new (fun k hk => by omega)⟩
  case reg =>
    have hN0 : New W1 W1.drew := (Mods.refl _ _).drew
    refine wp_region_held (by kernel_rfl) (S := fun V => Mods (fun b => b = C) W1 V) ?_
    show wpAnyH _ _ _ _ _ _ _ _ W1.drew
    have hS : Mods (fun b => b = C) W1 W1.drew := Mods.ofNew hN0
    replace rC := hN0.heap rC id
    obtain ⟨Wd, hWd⟩ : ∃ V, W1.drew = V := ⟨_, rfl⟩
    rw [hWd] at hS rC ⊢
    clear hWd hN0
    refine anyH_take 0 (some 4) (.agg #[.int .i64 s.id, .int .u8 s.state, .int .i64 s.send, .int .i64 s.recv, .int .i64 s.owed, .bool s.ans, .bool s.ends, ov, .int .u8 s.urg, .bool s.inc, .int .i64 s.slot]) rfl rfl (by kernel_rfl) (by kernel_rfl) (by kernel_rfl) (fun _ _ _ h => h.elim) (.inl ⟨by rfl, fun W hW => run_load_row 24 (.tmp 1) rfl B rfl 24 _ (0, 0) _ (hW.heap rB (show ¬ B = C by omega)) Tryd.underlying24 rfl info24⟩) hS ?_
    simp only [Act.put, List.setIfInBounds_toArray, List.set_cons_succ, List.set_cons_zero]
    refine anyH_take 2 (some 6) (.agg #[.int .i64 s.id, .int .u8 s.state, .int .i64 s.send, .int .i64 s.recv, .int .i64 s.owed, .bool s.ans, .bool s.ends, ov, .int .u8 s.urg, .bool s.inc, .int .i64 s.slot]) rfl rfl (by kernel_rfl) (by kernel_rfl) (by kernel_rfl) (fun _ _ _ h => h.elim) (.inl ⟨by rfl, fun W hW => run_load_row 24 (.tmp 1) rfl B rfl 24 _ (0, 0) _ (hW.heap rB (show ¬ B = C by omega)) Tryd.underlying24 rfl info24⟩) hS ?_
    simp only [Act.put, List.setIfInBounds_toArray, List.set_cons_succ, List.set_cons_zero]
    refine wpAnyH_all (rs := [1]) (by kernel_rfl) (by simp) ?_
    simp only [List.mem_cons, List.not_mem_nil, or_false, forall_eq_or_imp, forall_eq]
    refine opH_call (some 5) rfl (by rfl) rfl 54 #[] (by go_simp) ((HWR.out Wd).mono ?_)
    rintro e Wc1 ⟨M, rfl, hMap, hk⟩
    replace rC := hk.heap rC id
    replace hS := hS.trans (Mods.ofNew hk)
    clear hk
    refine ⟨_, rfl, hS, ?_⟩
    simp only [Act.put, List.setIfInBounds_toArray, List.set_cons_succ, List.set_cons_zero]
    refine wpAnyH_all (rs := [3]) (by kernel_rfl) (by simp) ?_
    simp only [List.mem_cons, List.not_mem_nil, or_false, forall_eq_or_imp, forall_eq]
    refine opH_call (some 7) rfl (by rfl) rfl 55 #[.agg #[.int .i64 s.id, .int .u8 s.state, .int .i64 s.send, .int .i64 s.recv, .int .i64 s.owed, .bool s.ans, .bool s.ends, ov, .int .u8 s.urg, .bool s.inc, .int .i64 s.slot]] (by go_simp) ((HF.out Wc1).mono ?_)
    rintro e Wc2 ⟨rfl, hk⟩
    replace hMap := hMap.new hk
    have hlk := hMap.look keyP Tryd.underlying71 (zero3 Wc2) (placeOf s) false
    rw [if_neg (by simp), hwf] at hlk
    replace rC := hk.heap rC id
    replace hS := hS.trans (Mods.ofNew hk)
    clear hk
    refine ⟨_, rfl, hS, ?_⟩
    simp only [Act.put, List.setIfInBounds_toArray, List.set_cons_succ, List.set_cons_zero]
    refine wpAnyH_all (rs := [4]) (by kernel_rfl) (by simp) ?_
    simp only [List.mem_cons, List.not_mem_nil, or_false, forall_eq_or_imp, forall_eq]
    refine opH_value (some 8) rfl (by rfl) rfl (v := .int .i64 oz) (w' := Wc2) (by go_simp) ?_
    refine ⟨hS, ?_⟩
    simp only [Act.put, List.setIfInBounds_toArray, List.set_cons_succ, List.set_cons_zero]
    refine anyH_take 5 (some 9) (.bool ob) rfl rfl (by kernel_rfl) (by kernel_rfl) (by kernel_rfl) (fun _ _ _ h => h.elim) (.inl ⟨by rfl, fun W hW => by go_simp⟩) hS ?_
    simp only [Act.put, List.setIfInBounds_toArray, List.set_cons_succ, List.set_cons_zero]
    refine wpAnyH_all (rs := [6]) (by kernel_rfl) (by simp) ?_
    simp only [List.mem_cons, List.not_mem_nil, or_false, forall_eq_or_imp, forall_eq]
    refine opH_call (some 10) rfl (by rfl) rfl 51 #[.agg #[.int .i64 s.id, .int .u8 s.state, .int .i64 s.send, .int .i64 s.recv, .int .i64 s.owed, .bool s.ans, .bool s.ends, ov, .int .u8 s.urg, .bool s.inc, .int .i64 s.slot], .bool ob, .func (.func 58) #[] #[]] (by go_simp) ((DO.out Wc2 (((Mods.ofNew hN1).trans hS |>.new (fun k hk => by omega)))).mono ?_)
    rintro e Wc3 ⟨ox, rfl, hO, hk⟩
    replace rC := hk.heap rC id
    replace hS := hS.trans (Mods.ofNew hk)
    clear hk
    refine ⟨_, rfl, hS, ?_⟩
    simp only [Act.put, List.setIfInBounds_toArray, List.set_cons_succ, List.set_cons_zero]
    refine anyH_take 7 (some 11) (.agg (so.cs ox).toArray) rfl rfl (by kernel_rfl) (by kernel_rfl) (by kernel_rfl) (fun _ _ _ h => h.elim) (.inl ⟨by rfl, fun W hW => by go_simp; rfl⟩) hS ?_
    simp only [Act.put, List.setIfInBounds_toArray, List.set_cons_succ, List.set_cons_zero]
    refine anyH_take 8 (some 12) (.int .i64 ec) rfl rfl (by kernel_rfl) (by kernel_rfl) (by kernel_rfl) (fun _ _ _ h => h.elim) (.inl ⟨by rfl, fun W hW => by go_simp⟩) hS ?_
    simp only [Act.put, List.setIfInBounds_toArray, List.set_cons_succ, List.set_cons_zero]
    refine wpAnyH_all (rs := [9]) (by kernel_rfl) (by simp) ?_
    simp only [List.mem_cons, List.not_mem_nil, or_false, forall_eq_or_imp, forall_eq]
    have hone := cs_one so hO.one
    refine opH_skip none rfl (by rfl) rfl (run_store_row 24 (.tmp 2) (.tmp 11) rfl C rfl 24 [.int .i64 0, .int .u8 0, .int .i64 0, .int .i64 0, .int .i64 0, .bool false, .bool false, .slice none 0 0, .int .u8 0, .bool false, .int .i64 0] (so.cs ox) rfl rC info24 rfl hone) ?_
    have rCy := setRow_heap _ C _ (so.cs ox).toArray 24 (0, 0) rC
    have hOy := hO.setRow (c' := (so.cs ox).toArray) rC (by decide)
    replace hS := hS.trans (mods_setRow rC (so.cs ox).toArray)
    refine ⟨hS, ?_⟩
    simp only [Act.put, List.setIfInBounds_toArray, List.set_cons_succ, List.set_cons_zero]
    refine anyH_take 10 (some 3) (.int .i64 ec) rfl rfl (by kernel_rfl) (by kernel_rfl) (by kernel_rfl) (fun _ _ _ h => h.elim) (.inl ⟨by rfl, fun W hW => by go_simp⟩) hS ?_
    simp only [Act.put, List.setIfInBounds_toArray, List.set_cons_succ, List.set_cons_zero]
    refine wpAnyH_done (by kernel_rfl) ?_ _
    exact ⟨⟨rfl, rfl, rfl, rfl⟩, ⟨ox, rCy, hOy⟩, hS⟩
set_option maxHeartbeats 4000000 in
set_option maxRecDepth 100000 in
theorem reset_S (v : Value) (s : St) (w : World) (h : RdS w v s) (hl : s.out.length ≤ 1000000) :
    Calls Tryd.prog 23 #[v] w fun e w' => ∃ v', e = .returned (.tuple #[v', .int .i64 (resetS s).2]) ∧ OwS w.heap.size w' v' (resetS s).1 ∧ New w w' := by
  obtain ⟨ov, rfl, hr⟩ := h
  obtain ⟨o, ho⟩ : ∃ x, oursB s = x := ⟨_, rfl⟩
  obtain ⟨b3, hb3⟩ : ∃ x, decide (s.state = 3) = x := ⟨_, rfl⟩
  have hb3' : (s.state == 3) = b3 := hb3
  obtain ⟨m, hm⟩ : ∃ x, (o || b3) = x := ⟨_, rfl⟩
  obtain ⟨so, hso⟩ : ∃ x, (resetS s).1 = x := ⟨_, rfl⟩
  obtain ⟨ec, hec⟩ : ∃ x, (resetS s).2 = x := ⟨_, rfl⟩
  rw [hso, hec]
  have hS1 : (if (m && decide ((0 : Int) = 0)) = true then { s with state := 5, out := [], ends := false } else s) = so := by rw [← hso]; unfold resetS; rw [ho, hb3, hm]; cases m <;> rfl
  have hS2 : (if m = true then (0 : Int) else 270) = ec := by rw [← hec]; unfold resetS; rw [ho, hb3, hm]; cases m <;> rfl
  have DO := Lib.hid (fun W (hN : New w W) => (does_S (S0 := fun _ => False) (J0 := fun _ => True) (J1 := fun _ _ => True) m 59 #[] 0 s { s with state := 5, out := [], ends := false } (.agg (s.cs ov).toArray) W ⟨ov, rfl, hr.new hN⟩ hl (enters_of Tryd.func59 (by kernel_rfl) rfl) (fun b h => h.elim) (fun W' hM => ⟨ov, rfl, (hr.new hN).new hM⟩) trivial ⟨fun _ _ _ _ => trivial, fun _ _ _ _ _ _ _ => trivial⟩ (fun _ _ => ⟨fun _ _ _ _ => trivial, fun _ _ _ _ _ => trivial⟩) (fun _ => reset_deed s W)).mono fun e w' h => show ∃ ox, e = .returned (.tuple #[.agg (so.cs ox).toArray, .int .i64 ec]) ∧ OwB w.heap.size w' ox so.out ∧ New W w' from by
    obtain ⟨v', rfl, hO, hM, -⟩ := h
    rw [hS1] at hO
    rw [hS2]
    obtain ⟨ox, rfl, hO⟩ := hO
    exact ⟨ox, rfl, hO.mono hN.size, hM⟩)
  obtain ⟨W1, B, C, hW, hB, hC, rB, rC, hN1, hz⟩ := pair_rows w #[.int .i64 s.id, .int .u8 s.state, .int .i64 s.send, .int .i64 s.recv, .int .i64 s.owed, .bool s.ans, .bool s.ends, ov, .int .u8 s.urg, .bool s.inc, .int .i64 s.slot] #[.int .i64 0, .int .u8 0, .int .i64 0, .int .i64 0, .int .i64 0, .bool false, .bool false, .slice none 0 0, .int .u8 0, .bool false, .int .i64 0] 24 24
  have HF := Lib.hid (fun W => of_S s ov W)
  have HWR := Lib.hid (fun W => writes_S W)
  have HOU := Lib.hid (fun W => ours_any s ov W)
  unfold St.cs at DO HF HOU
  unfold St.cs
  rw [ho] at HOU
  have kB1 : W1.cell? ⟨B, 1, none⟩ = some (.int .u8 s.state) := cell_of_row _ _ 1 _ _ _ rB

  go_enter Tryd.func23, Tryd.ntmps23
  go_upto_region 1 with fail
  clear hW
  refine piece (fun _ a' W' => (a'.tmps.size = 15 ∧ a'.defers = [] ∧ a'.tmps.getD 2 undef = .pointer (some ⟨C, 0, none⟩) ∧ a'.tmps.getD 3 undef = .int .i64 ec) ∧ (∃ ox, W'.heap[C]? = some (.cells (so.cs ox).toArray 24 (0, 0)) ∧ OwB w.heap.size W' ox so.out) ∧ Mods (fun b => b = C) W1 W') ?reg ?rest
  case rest =>
    rintro ⟨z, dfs⟩ W3 ⟨⟨hs, hd, hq2, hq3⟩, ⟨ox, rC3, hO3⟩, hM3⟩
    simp only at hs hd hq2 hq3
    subst hd
    obtain ⟨u, rfl⟩ : ∃ u : Nat → Value, z = (u 0 :: u 1 :: u 2 :: u 3 :: u 4 :: u 5 :: u 6 :: u 7 :: u 8 :: u 9 :: u 10 :: u 11 :: u 12 :: u 13 :: u 14 :: ([] : List Value)).toArray := ⟨fun i => z.getD i undef, range_lit z 15 hs⟩
    have hp2 : u 2 = _ := hq2
    have hp3 : u 3 = _ := hq3
    rw [hp2, hp3]
    clear hp2 hp3 hq2 hq3 hs
    go_wp2_with fail
    refine bodyPost_ret (v := .tuple #[.agg (so.cs ox).toArray, .int .i64 ec]) (results_row2 rfl _ _ C 24 _ (0, 0) _ rfl rC3 Tryd.underlying24 rfl info24 rfl) rfl ?_
    exact ⟨_, rfl, ⟨ox, rfl, hO3.mono (by omega)⟩, (Mods.ofNew hN1).trans hM3 |>.new (fun k hk => by omega)⟩
  case reg =>
    have hN0 : New W1 W1.drew := (Mods.refl _ _).drew
    refine wp_region_held (by kernel_rfl) (S := fun V => Mods (fun b => b = C) W1 V) ?_
    show wpAnyH _ _ _ _ _ _ _ _ W1.drew
    have hS : Mods (fun b => b = C) W1 W1.drew := Mods.ofNew hN0
    replace rC := hN0.heap rC id
    obtain ⟨Wd, hWd⟩ : ∃ V, W1.drew = V := ⟨_, rfl⟩
    rw [hWd] at hS rC ⊢
    clear hWd hN0
    cases o with
    | true =>
      obtain rfl : true = m := by rw [← hm]; rfl
      refine anyH_take 0 (some 4) (.agg #[.int .i64 s.id, .int .u8 s.state, .int .i64 s.send, .int .i64 s.recv, .int .i64 s.owed, .bool s.ans, .bool s.ends, ov, .int .u8 s.urg, .bool s.inc, .int .i64 s.slot]) rfl rfl (by kernel_rfl) (by kernel_rfl) (by kernel_rfl) (fun _ _ _ h => h.elim) (.inl ⟨by rfl, fun W hW => run_load_row 24 (.tmp 1) rfl B rfl 24 _ (0, 0) _ (hW.heap rB (show ¬ B = C by omega)) Tryd.underlying24 rfl info24⟩) hS ?_
      simp only [Act.put, List.setIfInBounds_toArray, List.set_cons_succ, List.set_cons_zero]
      refine anyH_take 1 (some 5) (.agg #[.int .i64 s.id, .int .u8 s.state, .int .i64 s.send, .int .i64 s.recv, .int .i64 s.owed, .bool s.ans, .bool s.ends, ov, .int .u8 s.urg, .bool s.inc, .int .i64 s.slot]) rfl rfl (by kernel_rfl) (by kernel_rfl) (by kernel_rfl) (fun _ _ _ h => h.elim) (.inl ⟨by rfl, fun W hW => run_load_row 24 (.tmp 1) rfl B rfl 24 _ (0, 0) _ (hW.heap rB (show ¬ B = C by omega)) Tryd.underlying24 rfl info24⟩) hS ?_
      simp only [Act.put, List.setIfInBounds_toArray, List.set_cons_succ, List.set_cons_zero]
      refine wpAnyH_all (rs := [2]) (by kernel_rfl) (by simp) ?_
      simp only [List.mem_cons, List.not_mem_nil, or_false, forall_eq_or_imp, forall_eq]
      refine opH_call (some 6) rfl (by rfl) rfl 27 #[.agg #[.int .i64 s.id, .int .u8 s.state, .int .i64 s.send, .int .i64 s.recv, .int .i64 s.owed, .bool s.ans, .bool s.ends, ov, .int .u8 s.urg, .bool s.inc, .int .i64 s.slot]] (by go_simp) ((HOU.out Wd).mono ?_)
      rintro e Wc1 ⟨rfl, hk⟩
      replace rC := hk.heap rC id
      replace hS := hS.trans (Mods.ofNew hk)
      clear hk
      refine ⟨_, rfl, hS, ?_⟩
      simp only [Act.put, List.setIfInBounds_toArray, List.set_cons_succ, List.set_cons_zero]
      refine anyH_take 3 (some 7) (.bool true) rfl rfl (by kernel_rfl) (by kernel_rfl) (by kernel_rfl) (fun _ _ _ h => h.elim) (.inl ⟨by rfl, fun W hW => by go_simp⟩) hS ?_
      simp only [Act.put, List.setIfInBounds_toArray, List.set_cons_succ, List.set_cons_zero]
      refine anyH_take 4 (some 8) undef rfl rfl (by kernel_rfl) (by kernel_rfl) (by kernel_rfl) (fun _ _ _ h => h.elim) (.inr ⟨by rfl, rfl⟩) hS ?_
      simp only [Act.put, List.setIfInBounds_toArray, List.set_cons_succ, List.set_cons_zero]
      refine anyH_take 5 (some 9) undef rfl rfl (by kernel_rfl) (by kernel_rfl) (by kernel_rfl) (fun _ _ _ h => h.elim) (.inr ⟨by rfl, rfl⟩) hS ?_
      simp only [Act.put, List.setIfInBounds_toArray, List.set_cons_succ, List.set_cons_zero]
      refine anyH_take 6 (some 10) undef rfl rfl (by kernel_rfl) (by kernel_rfl) (by kernel_rfl) (fun _ _ _ h => h.elim) (.inr ⟨by rfl, rfl⟩) hS ?_
      simp only [Act.put, List.setIfInBounds_toArray, List.set_cons_succ, List.set_cons_zero]
      refine anyH_take 7 (some 11) (.bool true) rfl rfl (by kernel_rfl) (by kernel_rfl) (by kernel_rfl) (fun _ _ _ h => h.elim) (.inl ⟨by rfl, fun W hW => by go_simp⟩) hS ?_
      simp only [Act.put, List.setIfInBounds_toArray, List.set_cons_succ, List.set_cons_zero]
      refine wpAnyH_all (rs := [8]) (by kernel_rfl) (by simp) ?_
      simp only [List.mem_cons, List.not_mem_nil, or_false, forall_eq_or_imp, forall_eq]
      refine opH_call (some 12) rfl (by rfl) rfl 51 #[.agg #[.int .i64 s.id, .int .u8 s.state, .int .i64 s.send, .int .i64 s.recv, .int .i64 s.owed, .bool s.ans, .bool s.ends, ov, .int .u8 s.urg, .bool s.inc, .int .i64 s.slot], .bool true, .func (.func 59) #[] #[]] (by go_simp) ((DO.out Wc1 (((Mods.ofNew hN1).trans hS |>.new (fun k hk => by omega)))).mono ?_)
      rintro e Wc2 ⟨ox, rfl, hO, hk⟩
      replace rC := hk.heap rC id
      replace hS := hS.trans (Mods.ofNew hk)
      clear hk
      refine ⟨_, rfl, hS, ?_⟩
      simp only [Act.put, List.setIfInBounds_toArray, List.set_cons_succ, List.set_cons_zero]
      refine anyH_take 9 (some 13) (.agg (so.cs ox).toArray) rfl rfl (by kernel_rfl) (by kernel_rfl) (by kernel_rfl) (fun _ _ _ h => h.elim) (.inl ⟨by rfl, fun W hW => by go_simp; rfl⟩) hS ?_
      simp only [Act.put, List.setIfInBounds_toArray, List.set_cons_succ, List.set_cons_zero]
      refine anyH_take 10 (some 14) (.int .i64 ec) rfl rfl (by kernel_rfl) (by kernel_rfl) (by kernel_rfl) (fun _ _ _ h => h.elim) (.inl ⟨by rfl, fun W hW => by go_simp⟩) hS ?_
      simp only [Act.put, List.setIfInBounds_toArray, List.set_cons_succ, List.set_cons_zero]
      refine wpAnyH_all (rs := [11]) (by kernel_rfl) (by simp) ?_
      simp only [List.mem_cons, List.not_mem_nil, or_false, forall_eq_or_imp, forall_eq]
      have hone := cs_one so hO.one
      refine opH_skip none rfl (by rfl) rfl (run_store_row 24 (.tmp 2) (.tmp 13) rfl C rfl 24 [.int .i64 0, .int .u8 0, .int .i64 0, .int .i64 0, .int .i64 0, .bool false, .bool false, .slice none 0 0, .int .u8 0, .bool false, .int .i64 0] (so.cs ox) rfl rC info24 rfl hone) ?_
      have rCy := setRow_heap _ C _ (so.cs ox).toArray 24 (0, 0) rC
      have hOy := hO.setRow (c' := (so.cs ox).toArray) rC (by decide)
      replace hS := hS.trans (mods_setRow rC (so.cs ox).toArray)
      refine ⟨hS, ?_⟩
      simp only [Act.put, List.setIfInBounds_toArray, List.set_cons_succ, List.set_cons_zero]
      refine anyH_take 12 (some 3) (.int .i64 ec) rfl rfl (by kernel_rfl) (by kernel_rfl) (by kernel_rfl) (fun _ _ _ h => h.elim) (.inl ⟨by rfl, fun W hW => by go_simp⟩) hS ?_
      simp only [Act.put, List.setIfInBounds_toArray, List.set_cons_succ, List.set_cons_zero]
      refine wpAnyH_done (by kernel_rfl) ?_ _
      exact ⟨⟨rfl, rfl, rfl, rfl⟩, ⟨ox, rCy, hOy⟩, hS⟩
    | false =>
      obtain rfl : b3 = m := by rw [← hm]; rfl
      refine anyH_take 0 (some 4) (.agg #[.int .i64 s.id, .int .u8 s.state, .int .i64 s.send, .int .i64 s.recv, .int .i64 s.owed, .bool s.ans, .bool s.ends, ov, .int .u8 s.urg, .bool s.inc, .int .i64 s.slot]) rfl rfl (by kernel_rfl) (by kernel_rfl) (by kernel_rfl) (fun _ _ _ h => h.elim) (.inl ⟨by rfl, fun W hW => run_load_row 24 (.tmp 1) rfl B rfl 24 _ (0, 0) _ (hW.heap rB (show ¬ B = C by omega)) Tryd.underlying24 rfl info24⟩) hS ?_
      simp only [Act.put, List.setIfInBounds_toArray, List.set_cons_succ, List.set_cons_zero]
      refine anyH_take 1 (some 5) (.agg #[.int .i64 s.id, .int .u8 s.state, .int .i64 s.send, .int .i64 s.recv, .int .i64 s.owed, .bool s.ans, .bool s.ends, ov, .int .u8 s.urg, .bool s.inc, .int .i64 s.slot]) rfl rfl (by kernel_rfl) (by kernel_rfl) (by kernel_rfl) (fun _ _ _ h => h.elim) (.inl ⟨by rfl, fun W hW => run_load_row 24 (.tmp 1) rfl B rfl 24 _ (0, 0) _ (hW.heap rB (show ¬ B = C by omega)) Tryd.underlying24 rfl info24⟩) hS ?_
      simp only [Act.put, List.setIfInBounds_toArray, List.set_cons_succ, List.set_cons_zero]
      refine wpAnyH_all (rs := [2]) (by kernel_rfl) (by simp) ?_
      simp only [List.mem_cons, List.not_mem_nil, or_false, forall_eq_or_imp, forall_eq]
      refine opH_call (some 6) rfl (by rfl) rfl 27 #[.agg #[.int .i64 s.id, .int .u8 s.state, .int .i64 s.send, .int .i64 s.recv, .int .i64 s.owed, .bool s.ans, .bool s.ends, ov, .int .u8 s.urg, .bool s.inc, .int .i64 s.slot]] (by go_simp) ((HOU.out Wd).mono ?_)
      rintro e Wc3 ⟨rfl, hk⟩
      replace rC := hk.heap rC id
      replace hS := hS.trans (Mods.ofNew hk)
      clear hk
      refine ⟨_, rfl, hS, ?_⟩
      simp only [Act.put, List.setIfInBounds_toArray, List.set_cons_succ, List.set_cons_zero]
      refine anyH_take 3 (some 7) (.bool false) rfl rfl (by kernel_rfl) (by kernel_rfl) (by kernel_rfl) (fun _ _ _ h => h.elim) (.inl ⟨by rfl, fun W hW => by go_simp⟩) hS ?_
      simp only [Act.put, List.setIfInBounds_toArray, List.set_cons_succ, List.set_cons_zero]
      refine anyH_take 4 (some 8) (.pointer (some ⟨B, 1, none⟩)) rfl rfl (by kernel_rfl) (by kernel_rfl) (by kernel_rfl) (fun _ _ _ h => h.elim) (.inl ⟨by rfl, fun W hW => by go_simp⟩) hS ?_
      simp only [Act.put, List.setIfInBounds_toArray, List.set_cons_succ, List.set_cons_zero]
      refine anyH_take 5 (some 9) (.int .u8 s.state) rfl rfl (by kernel_rfl) (by kernel_rfl) (by kernel_rfl) (fun _ _ _ h => h.elim) (.inl ⟨by rfl, fun W hW => by have c := hW.cell kB1 (show ¬ B = C by omega); go_simp⟩) hS ?_
      simp only [Act.put, List.setIfInBounds_toArray, List.set_cons_succ, List.set_cons_zero]
      refine anyH_take 6 (some 10) (.bool b3) rfl rfl (by kernel_rfl) (by kernel_rfl) (by kernel_rfl) (fun _ _ _ h => h.elim) (.inl ⟨by rfl, fun W hW => by go_simp⟩) hS ?_
      simp only [Act.put, List.setIfInBounds_toArray, List.set_cons_succ, List.set_cons_zero]
      refine anyH_take 7 (some 11) (.bool b3) rfl rfl (by kernel_rfl) (by kernel_rfl) (by kernel_rfl) (fun _ _ _ h => h.elim) (.inl ⟨by rfl, fun W hW => by go_simp⟩) hS ?_
      simp only [Act.put, List.setIfInBounds_toArray, List.set_cons_succ, List.set_cons_zero]
      refine wpAnyH_all (rs := [8]) (by kernel_rfl) (by simp) ?_
      simp only [List.mem_cons, List.not_mem_nil, or_false, forall_eq_or_imp, forall_eq]
      refine opH_call (some 12) rfl (by rfl) rfl 51 #[.agg #[.int .i64 s.id, .int .u8 s.state, .int .i64 s.send, .int .i64 s.recv, .int .i64 s.owed, .bool s.ans, .bool s.ends, ov, .int .u8 s.urg, .bool s.inc, .int .i64 s.slot], .bool b3, .func (.func 59) #[] #[]] (by go_simp) ((DO.out Wc3 (((Mods.ofNew hN1).trans hS |>.new (fun k hk => by omega)))).mono ?_)
      rintro e Wc4 ⟨ox, rfl, hO, hk⟩
      replace rC := hk.heap rC id
      replace hS := hS.trans (Mods.ofNew hk)
      clear hk
      refine ⟨_, rfl, hS, ?_⟩
      simp only [Act.put, List.setIfInBounds_toArray, List.set_cons_succ, List.set_cons_zero]
      refine anyH_take 9 (some 13) (.agg (so.cs ox).toArray) rfl rfl (by kernel_rfl) (by kernel_rfl) (by kernel_rfl) (fun _ _ _ h => h.elim) (.inl ⟨by rfl, fun W hW => by go_simp; rfl⟩) hS ?_
      simp only [Act.put, List.setIfInBounds_toArray, List.set_cons_succ, List.set_cons_zero]
      refine anyH_take 10 (some 14) (.int .i64 ec) rfl rfl (by kernel_rfl) (by kernel_rfl) (by kernel_rfl) (fun _ _ _ h => h.elim) (.inl ⟨by rfl, fun W hW => by go_simp⟩) hS ?_
      simp only [Act.put, List.setIfInBounds_toArray, List.set_cons_succ, List.set_cons_zero]
      refine wpAnyH_all (rs := [11]) (by kernel_rfl) (by simp) ?_
      simp only [List.mem_cons, List.not_mem_nil, or_false, forall_eq_or_imp, forall_eq]
      have hone := cs_one so hO.one
      refine opH_skip none rfl (by rfl) rfl (run_store_row 24 (.tmp 2) (.tmp 13) rfl C rfl 24 [.int .i64 0, .int .u8 0, .int .i64 0, .int .i64 0, .int .i64 0, .bool false, .bool false, .slice none 0 0, .int .u8 0, .bool false, .int .i64 0] (so.cs ox) rfl rC info24 rfl hone) ?_
      have rCy := setRow_heap _ C _ (so.cs ox).toArray 24 (0, 0) rC
      have hOy := hO.setRow (c' := (so.cs ox).toArray) rC (by decide)
      replace hS := hS.trans (mods_setRow rC (so.cs ox).toArray)
      refine ⟨hS, ?_⟩
      simp only [Act.put, List.setIfInBounds_toArray, List.set_cons_succ, List.set_cons_zero]
      refine anyH_take 12 (some 3) (.int .i64 ec) rfl rfl (by kernel_rfl) (by kernel_rfl) (by kernel_rfl) (fun _ _ _ h => h.elim) (.inl ⟨by rfl, fun W hW => by go_simp⟩) hS ?_
      simp only [Act.put, List.setIfInBounds_toArray, List.set_cons_succ, List.set_cons_zero]
      refine wpAnyH_done (by kernel_rfl) ?_ _
      exact ⟨⟨rfl, rfl, rfl, rfl⟩, ⟨ox, rCy, hOy⟩, hS⟩
theorem tri_rows (w : World) (c1 c2 c3 : Array Value) (t1 t2 t3 : TypeId) : ∃ W B X C, ((w.alloc (.cells c1 t1)).alloc (.cells c2 t2)).alloc (.cells c3 t3) = W ∧ w.heap.size = B ∧ B + 1 = X ∧ X + 1 = C ∧ W.heap[B]? = some (.cells c1 t1 (0, 0)) ∧ W.heap[X]? = some (.cells c2 t2 (0, 0)) ∧ W.heap[C]? = some (.cells c3 t3 (0, 0)) ∧ New w W ∧ W.heap.size = C + 1 := by
  obtain ⟨W1, B, X, hW, hB, hX, rB, rX, hN, hz⟩ := pair_rows w c1 c2 t1 t2
  rw [hW]
  have hk : New W1 (W1.alloc (.cells c3 t3)) := (Mods.refl _ _).alloc _
  have h3 := World.alloc_heap_new W1 (.cells c3 t3)
  rw [hz] at h3
  exact ⟨_, B, X, X + 1, rfl, hB, hX, rfl, hk.heap rB id, hk.heap rX id, h3, hN.trans hk, by simp [hz]⟩
set_option maxHeartbeats 4000000 in
set_option maxRecDepth 100000 in
theorem write_S (v bv : Value) (s : St) (b : List Int) (w : World) (h : RdS w v s) (hb : RdB w bv b) (hl : s.out.length ≤ 1000000) (hlb : b.length ≤ 1000000) :
    Calls Tryd.prog 19 #[v, bv] w fun e w' => ∃ v', e = .returned (.tuple #[v', .int .i64 (writeS s b).2]) ∧ OwS w.heap.size w' v' (writeS s b).1 ∧ New w w' := by
  obtain ⟨ba, bc, rfl⟩ := hb.slice
  obtain ⟨ov, rfl, hr⟩ := h
  have hwf := writeF_open s
  obtain ⟨ob, hob⟩ : ∃ x, openB s = x := ⟨_, rfl⟩
  obtain ⟨oz, hoz⟩ : ∃ z, (if openB s = true then (1 : Int) else 0) = z := ⟨_, rfl⟩
  rw [hoz] at hwf
  have hgt : decide ((0 : Int) < oz) = ob := by rw [← hoz, ← hob]; cases openB s <;> rfl
  obtain ⟨so, hso⟩ : ∃ x, (writeS s b).1 = x := ⟨_, rfl⟩
  obtain ⟨ec, hec⟩ : ∃ x, (writeS s b).2 = x := ⟨_, rfl⟩
  rw [hso, hec]
  have hS1 : (if (ob && decide (((if 65535 < s.out.length + b.length then 271 else 0) : Int) = 0)) = true then { s with out := s.out ++ b } else s) = so := by
    rw [← hso]
    unfold writeS
    rw [hob]
    by_cases hbig : 65535 < s.out.length + b.length
    · simp only [if_pos hbig]
      cases ob <;> rfl
    · simp only [if_neg hbig]
      cases ob <;> rfl
  have hS2 : (if ob = true then ((if 65535 < s.out.length + b.length then 271 else 0) : Int) else 270) = ec := by
    rw [← hec]
    unfold writeS
    rw [hob]
    by_cases hbig : 65535 < s.out.length + b.length
    · simp only [if_pos hbig]
      cases ob <;> rfl
    · simp only [if_neg hbig]
      cases ob <;> rfl
  have DO := Lib.hid (fun W X (hN : New w W) (hX : W.heap[X]? = some (.cells #[.slice ba b.length bc] 22 (0, 0))) => (does_S (S0 := fun _ => False) (J0 := fun _ => True) (J1 := fun _ _ => True) ob 56 #[.pointer (some ⟨X, 0, none⟩)] (if 65535 < s.out.length + b.length then 271 else 0) s { s with out := s.out ++ b } (.agg (s.cs ov).toArray) W ⟨ov, rfl, hr.new hN⟩ hl (enters_of Tryd.func56 (by kernel_rfl) rfl) (fun b h => h.elim) (fun W' hM => ⟨ov, rfl, (hr.new hN).new hM⟩) trivial ⟨fun _ _ _ _ => trivial, fun _ _ _ _ _ _ _ => trivial⟩ (fun _ _ => ⟨fun _ _ _ _ => trivial, fun _ _ _ _ _ => trivial⟩) (fun _ => write_deed s b (.slice ba b.length bc) X W (hb.new hN) hX hl hlb)).mono fun e w' h => show ∃ ox, e = .returned (.tuple #[.agg (so.cs ox).toArray, .int .i64 ec]) ∧ OwB w.heap.size w' ox so.out ∧ New W w' from by
    obtain ⟨v', rfl, hO, hM, -⟩ := h
    rw [hS1] at hO
    rw [hS2]
    obtain ⟨ox, rfl, hO⟩ := hO
    exact ⟨ox, rfl, hO.mono hN.size, hM⟩)
  obtain ⟨W1, B, X, C, hW, hB, hX, hC, rB, rX, rC, hN1, hz⟩ := tri_rows w #[.int .i64 s.id, .int .u8 s.state, .int .i64 s.send, .int .i64 s.recv, .int .i64 s.owed, .bool s.ans, .bool s.ends, ov, .int .u8 s.urg, .bool s.inc, .int .i64 s.slot] #[.slice ba b.length bc] #[.int .i64 0, .int .u8 0, .int .i64 0, .int .i64 0, .int .i64 0, .bool false, .bool false, .slice none 0 0, .int .u8 0, .bool false, .int .i64 0] 24 22 24
  have HF := Lib.hid (fun W => of_S s ov W)
  have HWR := Lib.hid (fun W => writes_S W)
  have HOU := Lib.hid (fun W => ours_any s ov W)
  unfold St.cs at DO HF HOU
  unfold St.cs

  go_enter Tryd.func19, Tryd.ntmps19
  go_upto_region 1 with fail
  clear hW
  refine piece (fun _ a' W' => (a'.tmps.size = 16 ∧ a'.defers = [] ∧ a'.tmps.getD 4 undef = .pointer (some ⟨C, 0, none⟩) ∧ a'.tmps.getD 5 undef = .int .i64 ec) ∧ (∃ ox, W'.heap[C]? = some (.cells (so.cs ox).toArray 24 (0, 0)) ∧ OwB w.heap.size W' ox so.out) ∧ Mods (fun b => b = C) W1 W') ?reg ?rest
  case rest =>
    rintro ⟨z, dfs⟩ W3 ⟨⟨hs, hd, hq2, hq3⟩, ⟨ox, rC3, hO3⟩, hM3⟩
    simp only at hs hd hq2 hq3
    subst hd
    obtain ⟨u, rfl⟩ : ∃ u : Nat → Value, z = (u 0 :: u 1 :: u 2 :: u 3 :: u 4 :: u 5 :: u 6 :: u 7 :: u 8 :: u 9 :: u 10 :: u 11 :: u 12 :: u 13 :: u 14 :: u 15 :: ([] : List Value)).toArray := ⟨fun i => z.getD i undef, range_lit z 16 hs⟩
    have hp2 : u 4 = _ := hq2
    have hp3 : u 5 = _ := hq3
    rw [hp2, hp3]
    clear hp2 hp3 hq2 hq3 hs
    go_wp2_with fail
    refine bodyPost_ret (v := .tuple #[.agg (so.cs ox).toArray, .int .i64 ec]) (results_row2 rfl _ _ C 24 _ (0, 0) _ rfl rC3 Tryd.underlying24 rfl info24 rfl) rfl ?_
    exact ⟨_, rfl, ⟨ox, rfl, hO3.mono (by omega)⟩, (Mods.ofNew hN1).trans hM3 |>.new (fun k hk => by omega)⟩
  case reg =>
    have hN0 : New W1 W1.drew := (Mods.refl _ _).drew
    refine wp_region_held (by kernel_rfl) (S := fun V => Mods (fun b => b = C) W1 V) ?_
    show wpAnyH _ _ _ _ _ _ _ _ W1.drew
    have hS : Mods (fun b => b = C) W1 W1.drew := Mods.ofNew hN0
    replace rC := hN0.heap rC id
    obtain ⟨Wd, hWd⟩ : ∃ V, W1.drew = V := ⟨_, rfl⟩
    rw [hWd] at hS rC ⊢
    clear hWd hN0
    refine anyH_take 0 (some 6) (.agg #[.int .i64 s.id, .int .u8 s.state, .int .i64 s.send, .int .i64 s.recv, .int .i64 s.owed, .bool s.ans, .bool s.ends, ov, .int .u8 s.urg, .bool s.inc, .int .i64 s.slot]) rfl rfl (by kernel_rfl) (by kernel_rfl) (by kernel_rfl) (fun _ _ _ h => h.elim) (.inl ⟨by rfl, fun W hW => run_load_row 24 (.tmp 2) rfl B rfl 24 _ (0, 0) _ (hW.heap rB (show ¬ B = C by omega)) Tryd.underlying24 rfl info24⟩) hS ?_
    simp only [Act.put, List.setIfInBounds_toArray, List.set_cons_succ, List.set_cons_zero]
    refine anyH_take 2 (some 8) (.agg #[.int .i64 s.id, .int .u8 s.state, .int .i64 s.send, .int .i64 s.recv, .int .i64 s.owed, .bool s.ans, .bool s.ends, ov, .int .u8 s.urg, .bool s.inc, .int .i64 s.slot]) rfl rfl (by kernel_rfl) (by kernel_rfl) (by kernel_rfl) (fun _ _ _ h => h.elim) (.inl ⟨by rfl, fun W hW => run_load_row 24 (.tmp 2) rfl B rfl 24 _ (0, 0) _ (hW.heap rB (show ¬ B = C by omega)) Tryd.underlying24 rfl info24⟩) hS ?_
    simp only [Act.put, List.setIfInBounds_toArray, List.set_cons_succ, List.set_cons_zero]
    refine anyH_take 6 (some 12) (.func (.func 56) #[] #[.pointer (some ⟨X, 0, none⟩)]) rfl rfl (by kernel_rfl) (by kernel_rfl) (by kernel_rfl) (fun _ _ _ h => h.elim) (.inl ⟨by rfl, fun W hW => by go_simp⟩) hS ?_
    simp only [Act.put, List.setIfInBounds_toArray, List.set_cons_succ, List.set_cons_zero]
    refine wpAnyH_all (rs := [1]) (by kernel_rfl) (by simp) ?_
    simp only [List.mem_cons, List.not_mem_nil, or_false, forall_eq_or_imp, forall_eq]
    refine opH_call (some 7) rfl (by rfl) rfl 54 #[] (by go_simp) ((HWR.out Wd).mono ?_)
    rintro e Wc1 ⟨M, rfl, hMap, hk⟩
    replace rC := hk.heap rC id
    replace hS := hS.trans (Mods.ofNew hk)
    clear hk
    refine ⟨_, rfl, hS, ?_⟩
    simp only [Act.put, List.setIfInBounds_toArray, List.set_cons_succ, List.set_cons_zero]
    refine wpAnyH_all (rs := [3]) (by kernel_rfl) (by simp) ?_
    simp only [List.mem_cons, List.not_mem_nil, or_false, forall_eq_or_imp, forall_eq]
    refine opH_call (some 9) rfl (by rfl) rfl 55 #[.agg #[.int .i64 s.id, .int .u8 s.state, .int .i64 s.send, .int .i64 s.recv, .int .i64 s.owed, .bool s.ans, .bool s.ends, ov, .int .u8 s.urg, .bool s.inc, .int .i64 s.slot]] (by go_simp) ((HF.out Wc1).mono ?_)
    rintro e Wc2 ⟨rfl, hk⟩
    replace hMap := hMap.new hk
    have hlk := hMap.look keyP Tryd.underlying71 (zero3 Wc2) (placeOf s) false
    rw [if_neg (by simp), hwf] at hlk
    replace rC := hk.heap rC id
    replace hS := hS.trans (Mods.ofNew hk)
    clear hk
    refine ⟨_, rfl, hS, ?_⟩
    simp only [Act.put, List.setIfInBounds_toArray, List.set_cons_succ, List.set_cons_zero]
    refine wpAnyH_all (rs := [4]) (by kernel_rfl) (by simp) ?_
    simp only [List.mem_cons, List.not_mem_nil, or_false, forall_eq_or_imp, forall_eq]
    refine opH_value (some 10) rfl (by rfl) rfl (v := .int .i64 oz) (w' := Wc2) (by go_simp) ?_
    refine ⟨hS, ?_⟩
    simp only [Act.put, List.setIfInBounds_toArray, List.set_cons_succ, List.set_cons_zero]
    refine anyH_take 5 (some 11) (.bool ob) rfl rfl (by kernel_rfl) (by kernel_rfl) (by kernel_rfl) (fun _ _ _ h => h.elim) (.inl ⟨by rfl, fun W hW => by go_simp⟩) hS ?_
    simp only [Act.put, List.setIfInBounds_toArray, List.set_cons_succ, List.set_cons_zero]
    refine wpAnyH_all (rs := [7]) (by kernel_rfl) (by simp) ?_
    simp only [List.mem_cons, List.not_mem_nil, or_false, forall_eq_or_imp, forall_eq]
    refine opH_call (some 13) rfl (by rfl) rfl 51 #[.agg #[.int .i64 s.id, .int .u8 s.state, .int .i64 s.send, .int .i64 s.recv, .int .i64 s.owed, .bool s.ans, .bool s.ends, ov, .int .u8 s.urg, .bool s.inc, .int .i64 s.slot], .bool ob, .func (.func 56) #[] #[.pointer (some ⟨X, 0, none⟩)]] (by go_simp) ((DO.out Wc2 X (((Mods.ofNew hN1).trans hS |>.new (fun k hk => by omega))) (hS.heap rX (show ¬ X = C by omega))).mono ?_)
    rintro e Wc3 ⟨ox, rfl, hO, hk⟩
    replace rC := hk.heap rC id
    replace hS := hS.trans (Mods.ofNew hk)
    clear hk
    refine ⟨_, rfl, hS, ?_⟩
    simp only [Act.put, List.setIfInBounds_toArray, List.set_cons_succ, List.set_cons_zero]
    refine anyH_take 8 (some 14) (.agg (so.cs ox).toArray) rfl rfl (by kernel_rfl) (by kernel_rfl) (by kernel_rfl) (fun _ _ _ h => h.elim) (.inl ⟨by rfl, fun W hW => by go_simp; rfl⟩) hS ?_
    simp only [Act.put, List.setIfInBounds_toArray, List.set_cons_succ, List.set_cons_zero]
    refine anyH_take 9 (some 15) (.int .i64 ec) rfl rfl (by kernel_rfl) (by kernel_rfl) (by kernel_rfl) (fun _ _ _ h => h.elim) (.inl ⟨by rfl, fun W hW => by go_simp⟩) hS ?_
    simp only [Act.put, List.setIfInBounds_toArray, List.set_cons_succ, List.set_cons_zero]
    refine wpAnyH_all (rs := [10]) (by kernel_rfl) (by simp) ?_
    simp only [List.mem_cons, List.not_mem_nil, or_false, forall_eq_or_imp, forall_eq]
    have hone := cs_one so hO.one
    refine opH_skip none rfl (by rfl) rfl (run_store_row 24 (.tmp 4) (.tmp 14) rfl C rfl 24 [.int .i64 0, .int .u8 0, .int .i64 0, .int .i64 0, .int .i64 0, .bool false, .bool false, .slice none 0 0, .int .u8 0, .bool false, .int .i64 0] (so.cs ox) rfl rC info24 rfl hone) ?_
    have rCy := setRow_heap _ C _ (so.cs ox).toArray 24 (0, 0) rC
    have hOy := hO.setRow (c' := (so.cs ox).toArray) rC (by decide)
    replace hS := hS.trans (mods_setRow rC (so.cs ox).toArray)
    refine ⟨hS, ?_⟩
    simp only [Act.put, List.setIfInBounds_toArray, List.set_cons_succ, List.set_cons_zero]
    refine anyH_take 11 (some 5) (.int .i64 ec) rfl rfl (by kernel_rfl) (by kernel_rfl) (by kernel_rfl) (fun _ _ _ h => h.elim) (.inl ⟨by rfl, fun W hW => by go_simp⟩) hS ?_
    simp only [Act.put, List.setIfInBounds_toArray, List.set_cons_succ, List.set_cons_zero]
    refine wpAnyH_done (by kernel_rfl) ?_ _
    exact ⟨⟨rfl, rfl, rfl, rfl⟩, ⟨ox, rCy, hOy⟩, hS⟩
end Go.Proofs.YtkjghojdfjhhkaaDoor
