/- Streams: what is answered. -/
import Derived.Test.YtkjghojdfjhhkaaDoorM24
set_option linter.unusedSimpArgs false
set_option linter.unusedVariables false
namespace Go.Proofs.YtkjghojdfjhhkaaDoor
open Go.RowKit Go.Shelf Go.Cs
attribute [local go_sem] Oper.semAt_some
theorem results_cct {P : Program} {fn : Func} {p q r : Tmp} {ty ty2 : TypeId} (h : fn.results = #[.cell p ty, .cell q ty2, .tmp r]) (tmps : Array Value) (w : World) (g : Nat) (t : TypeId) (cs : Array Value) (fr : Nat × Nat) (d : TypeDesc)
    (hp : tmps.getD p undef = .pointer (some ⟨g, 0, none⟩)) (hg : w.heap[g]? = some (.cells cs t fr))
    (hu : P.underlying ty = some d) (hd : (match d with | .struct _ | .array _ _ => true | _ => false) = true) (hi : (P.info? ty).map (·.size) = some cs.size) (c : Nat) (hq : tmps.getD q undef = .pointer (some ⟨c, 0, none⟩)) {v v2 : Value} (hl : (loadVar ty2 ⟨c, 0, none⟩).run P w = .ok v w) (hr : tmps.getD r undef = v2) :
    (results fn tmps).run P w = .ok (.tuple #[.agg cs, v, v2]) w := by
  subst hr
  have hp' : tmps[p]?.getD undef = .pointer (some ⟨g, 0, none⟩) := by simpa using hp
  have hq' : tmps[q]?.getD undef = .pointer (some ⟨c, 0, none⟩) := by simpa using hq
  simp [results, h, hp', hq', asAddr, run_loadVar_row w g t ty cs fr d hg hu hd hi, hl]
theorem RdB.kept0 {W W' : World} {v : Value} {xs : List Int} {S : Nat → Prop} (h : RdB W v xs) (hM : Mods S W W') (hS : 0 < xs.length → ∀ g, v.ownBlock = some g → ¬ S g) : RdB W' v xs := by
  refine ⟨?_, h.2⟩
  rcases Nat.eq_zero_or_pos xs.length with h0 | h0
  · obtain ⟨⟨hl, ao, cap, rfl, _⟩, _⟩ := h
    exact ⟨hl, ao, cap, rfl, fun i hi => by omega⟩
  · exact h.1.kept hM (hS h0)
theorem RdB.lt {W : World} {v : Value} {xs : List Int} (h : RdB W v xs) (h0 : 0 < xs.length) : ∀ g, v.ownBlock = some g → g < W.heap.size := by
  obtain ⟨⟨_, ao, cap, rfl, hc⟩, _⟩ := h
  intro g hg
  obtain ⟨b, o, rfl, hv⟩ := hc 0 h0
  cases hg
  obtain ⟨ob, ho, _⟩ := cells_of_cell hv
  exact (Array.getElem?_eq_some_iff.1 ho).1
theorem five_rows (w : World) (c1 c2 c3 c4 c5 : Array Value) (t1 t2 t3 t4 t5 : TypeId) : ∃ W B N P C Lb, ((((w.alloc (.cells c1 t1)).alloc (.cells c2 t2)).alloc (.cells c3 t3)).alloc (.cells c4 t4)).alloc (.cells c5 t5) = W ∧ w.heap.size = B ∧ B + 1 = N ∧ N + 1 = P ∧ P + 1 = C ∧ C + 1 = Lb ∧
    W.heap[B]? = some (.cells c1 t1 (0, 0)) ∧ W.heap[N]? = some (.cells c2 t2 (0, 0)) ∧ W.heap[P]? = some (.cells c3 t3 (0, 0)) ∧ W.heap[C]? = some (.cells c4 t4 (0, 0)) ∧ W.heap[Lb]? = some (.cells c5 t5 (0, 0)) ∧ New w W := by
  obtain ⟨W1, B, N, hW, hB, hN, rB, rN, hN1, hz⟩ := pair_rows w c1 c2 t1 t2
  obtain ⟨W2, P, C, hW2, hP, hC, rP, rC, hN2, hz2⟩ := pair_rows W1 c3 c4 t3 t4
  have hk : New W2 (W2.alloc (.cells c5 t5)) := (Mods.refl _ _).alloc _
  have h5 := World.alloc_heap_new W2 (.cells c5 t5)
  rw [hz2] at h5
  rw [hW, hW2]
  exact ⟨_, B, N, P, C, C + 1, rfl, hB, hN, by omega, hC, rfl, (hN2.trans hk).heap rB id, (hN2.trans hk).heap rN id, hk.heap rP id, hk.heap rC id, h5, (hN1.trans hN2).trans hk⟩
set_option maxHeartbeats 4000000 in
set_option maxRecDepth 100000 in
theorem answer_S (v lv : Value) (s : St) (n : Int) (L : List Fd) (w : World) (h : RdS w v s) (hl : s.out.length ≤ 1000000) (h0 : -9223372036854775808 ≤ n) (h1 : n ≤ 9223372036854775807) (hR : ReadsL w lv L) (hSm : SmallL L) (hc : CapOk lv) (hT : Tab w) (hL : L.length ≤ 1000000) :
    Calls Tryd.prog 15 #[v, .int .i64 n, lv] w (AnsS w (answerS s n L)) := by
  obtain ⟨ov, rfl, hr⟩ := h
  obtain ⟨la, lc, rfl⟩ := hR.slice
  unfold AnsS
  obtain ⟨so, hso⟩ : ∃ x, (answerS s n L).1 = x := ⟨_, rfl⟩
  obtain ⟨lo, hlo⟩ : ∃ x, (answerS s n L).2.1 = x := ⟨_, rfl⟩
  obtain ⟨ec, hec⟩ : ∃ x, (answerS s n L).2.2 = x := ⟨_, rfl⟩
  rw [hso, hlo, hec]
  obtain ⟨o, ho⟩ : ∃ x, oursB s = x := ⟨_, rfl⟩
  obtain ⟨an, han⟩ : ∃ x, s.ans = x := ⟨_, rfl⟩
  obtain ⟨m, hm⟩ : ∃ x, (o && !an) = x := ⟨_, rfl⟩
  unfold answerS at hso hlo hec
  rw [ho, han, hm] at hso hlo hec
  have DO := Lib.hid (fun W N P Lb (hN : New w W) (rN : W.heap[N]? = some (.cells #[.int .i64 n] 3 (0, 0))) (rP : W.heap[P]? = some (.cells #[.slice la L.length lc] 25 (0, 0))) (hPL : P ≠ Lb) (hwL : w.heap.size ≤ Lb) (rL : W.heap[Lb]? = some (.cells #[.slice none 0 0] 25 (0, 0))) =>
    (does_S (S0 := fun b => b = Lb) (J0 := fun W => W.heap[Lb]? = some (.cells #[.slice none 0 0] 25 (0, 0))) (J1 := AnsJ n L Lb) m 52 #[.pointer (some ⟨N, 0, none⟩), .pointer (some ⟨P, 0, none⟩), .pointer (some ⟨Lb, 0, none⟩)] (if (answerL n L).isSome then 0 else 2) s { s with ans := true } (.agg (s.cs ov).toArray) W ⟨ov, rfl, hr.new hN⟩ hl (enters_of Tryd.func52 (by kernel_rfl) rfl)
      (fun b hb => by rw [hb]; exact (Array.getElem?_eq_some_iff.1 rL).1) (fun W' hM => ⟨ov, rfl, (hr.new hN).kept0 hM (fun hp g hg e => by have := hr.lt hp g hg; omega)⟩) rL
      ⟨fun V V' hv hk => hk.heap hv id, fun V C c c' hv hC hle => (mods_setRow hC c').heap hv (fun e => by have := (Array.getElem?_eq_some_iff.1 rL).1; omega)⟩
      (fun C hC => ⟨fun V V' ⟨l, r, ho, hcap⟩ hk => ⟨l, hk.heap r id, ho.kept hk (fun b hb => hb.elim) (Nat.le_refl _), hcap⟩, fun V c c' ⟨l, r, ho, hcap⟩ hv => ⟨l, (mods_setRow hv c').heap r (fun e => by have := (Array.getElem?_eq_some_iff.1 rL).1; omega), ho.kept (mods_setRow hv c') (fun b hb => by omega) (Nat.le_refl _), hcap⟩⟩)
      (fun _ => answer_deed s n L _ N P Lb W h0 h1 (hR.new hN) hSm hc (hT.new hN) hL rN rP hPL (Array.getElem?_eq_some_iff.1 rL).1)).mono fun e w' h => show ∃ ox, e = .returned (.tuple #[.agg (so.cs ox).toArray, .int .i64 ec]) ∧ OwB w.heap.size w' ox so.out ∧ Mods (fun b => b = Lb) W w' ∧ ∃ l9, w'.heap[Lb]? = some (.cells #[l9] 25 (0, 0)) ∧ OwnL W.heap.size w' l9 lo ∧ CapOk l9 from by
    obtain ⟨v', rfl, hO, hM, hJ⟩ := h
    cases m with
    | false =>
      obtain ⟨ox, rfl, hO⟩ := hO
      subst hso hlo hec
      exact ⟨ox, rfl, hO.mono hN.size, hM, _, hJ, (nilL _ _).1, (nilL W.heap.size W).2⟩
    | true =>
      obtain ⟨C, hC, l, r, ho, hcap⟩ := hJ
      cases hres : answerL n L with
      | none =>
        rw [hres] at hso hlo hec hO ho
        obtain ⟨ox, rfl, hO⟩ := hO
        subst hso hlo hec
        exact ⟨ox, rfl, hO.mono hN.size, hM, l, r, ⟨ho.1, fun g hg => by have := ho.2 g hg; omega⟩, hcap⟩
      | some l5 =>
        rw [hres] at hso hlo hec hO ho
        obtain ⟨ox, rfl, hO⟩ := hO
        subst hso hlo hec
        exact ⟨ox, rfl, hO.mono hN.size, hM, l, r, ⟨ho.1, fun g hg => by have := ho.2 g hg; omega⟩, hcap⟩)
  have HOU := Lib.hid (fun W => ours_any s ov W)
  rw [ho] at HOU
  clear hR hSm hc hT hso hlo hec hr
  unfold St.cs at DO HOU
  unfold St.cs
  rw [han] at DO HOU ⊢
  obtain ⟨W1, B, N, P, C, Lb, hW, hB, hNB, hPB, hCB, hLB, rB, rN, rP, rC, rL, hN1⟩ := five_rows w #[.int .i64 s.id, .int .u8 s.state, .int .i64 s.send, .int .i64 s.recv, .int .i64 s.owed, .bool an, .bool s.ends, ov, .int .u8 s.urg, .bool s.inc, .int .i64 s.slot] #[.int .i64 n] #[.slice la L.length lc] #[.int .i64 0, .int .u8 0, .int .i64 0, .int .i64 0, .int .i64 0, .bool false, .bool false, .slice none 0 0, .int .u8 0, .bool false, .int .i64 0] #[.slice none 0 0] 24 3 25 24 25
  have DO := Lib.hid (fun W hN rN rP rL => DO.out W N P Lb hN rN rP (by omega) (by omega) rL)
  go_enter Tryd.func15, Tryd.ntmps15
  go_upto_region 1 with fail
  have hBl : w.heap.size ≤ B := Nat.le_of_eq hB
  clear hW hB
  have hBn : ¬ (B = C ∨ B = Lb) := by omega
  have hNn : ¬ (N = C ∨ N = Lb) := by omega
  have hPn : ¬ (P = C ∨ P = Lb) := by omega
  have kB5 : W1.cell? ⟨B, 5, none⟩ = some (.bool an) := cell_of_row _ _ 5 _ _ _ rB
  refine piece (fun _ a' W' => (a'.tmps.size = 25 ∧ a'.defers = [] ∧ a'.tmps.getD 6 undef = .pointer (some ⟨C, 0, none⟩) ∧ a'.tmps.getD 7 undef = .pointer (some ⟨Lb, 0, none⟩) ∧ a'.tmps.getD 8 undef = .int .i64 ec) ∧ (∃ ox, W'.heap[C]? = some (.cells (so.cs ox).toArray 24 (0, 0)) ∧ OwB w.heap.size W' ox so.out) ∧ (∃ l9 N9, W'.heap[Lb]? = some (.cells #[l9] 25 (0, 0)) ∧ OwnL N9 W' l9 lo ∧ C < N9 ∧ Lb < N9 ∧ w.heap.size ≤ N9 ∧ CapOk l9) ∧ Mods (fun b => b = C ∨ b = Lb) W1 W') ?reg ?rest
  case rest =>
    rintro ⟨z, dfs⟩ W3 ⟨⟨hs, hd, hq6, hq7, hq8⟩, ⟨ox, rC3, hO3⟩, ⟨l9, N9, rL3, hL3, hC9, hLb9, hN3, hc9⟩, hM3⟩
    simp only at hs hd hq6 hq7 hq8
    subst hd
    obtain ⟨u, rfl⟩ : ∃ u : Nat → Value, z = (u 0 :: u 1 :: u 2 :: u 3 :: u 4 :: u 5 :: u 6 :: u 7 :: u 8 :: u 9 :: u 10 :: u 11 :: u 12 :: u 13 :: u 14 :: u 15 :: u 16 :: u 17 :: u 18 :: u 19 :: u 20 :: u 21 :: u 22 :: u 23 :: u 24 :: ([] : List Value)).toArray := ⟨fun i => z.getD i undef, range_lit z 25 hs⟩
    have hp6 : u 6 = _ := hq6
    have hp7 : u 7 = _ := hq7
    have hp8 : u 8 = _ := hq8
    rw [hp6, hp7, hp8]
    clear hp6 hp7 hp8 hq6 hq7 hq8 hs
    obtain ⟨la9, lc9, rfl⟩ := hL3.1.slice
    obtain ⟨ln9, hln9⟩ : ∃ x, lo.length = x := ⟨_, rfl⟩
    rw [hln9] at rL3 hL3 hc9
    have hone := cs_one so hO3.one
    have HC9 := Lib.hid hc9
    clear rB rN rP rC rL hc9
    go_upto_region 2 with fail
    refine piece (fun _ a' W' => (a'.tmps.size = 25 ∧ a'.defers = [] ∧ a'.tmps.getD 6 undef = .pointer (some ⟨C, 0, none⟩) ∧ a'.tmps.getD 7 undef = .pointer (some ⟨Lb, 0, none⟩) ∧ a'.tmps.getD 8 undef = .int .i64 ec) ∧ (W'.heap[C]? = some (.cells (so.cs ox).toArray 24 (0, 0)) ∧ W'.heap[Lb]? = some (.cells #[.slice la9 ln9 lc9] 25 (0, 0))) ∧ OwB w.heap.size W' ox so.out ∧ OwnL w.heap.size W' (.slice la9 ln9 lc9) lo ∧ Mods (fun b => b = C ∨ b = Lb) W1 W') ?reg2 ?rest2
    case rest2 =>
      rintro ⟨z, dfs⟩ W4 ⟨⟨hs, hd, hq6, hq7, hq8⟩, ⟨rC4, rL4⟩, hO4, hL4, hM4⟩
      simp only at hs hd hq6 hq7 hq8
      subst hd
      obtain ⟨u, rfl⟩ : ∃ u : Nat → Value, z = (u 0 :: u 1 :: u 2 :: u 3 :: u 4 :: u 5 :: u 6 :: u 7 :: u 8 :: u 9 :: u 10 :: u 11 :: u 12 :: u 13 :: u 14 :: u 15 :: u 16 :: u 17 :: u 18 :: u 19 :: u 20 :: u 21 :: u 22 :: u 23 :: u 24 :: ([] : List Value)).toArray := ⟨fun i => z.getD i undef, range_lit z 25 hs⟩
      have hp6 : u 6 = _ := hq6
      have hp7 : u 7 = _ := hq7
      have hp8 : u 8 = _ := hq8
      rw [hp6, hp7, hp8]
      clear hp6 hp7 hp8 hq6 hq7 hq8 hs
      go_wp2_with fail
      have hlv : (loadVar 25 ⟨Lb, 0, none⟩).run Tryd.prog W4 = .ok (.slice la9 ln9 lc9) W4 := by
        have c' : W4.cell? ⟨Lb, 0, none⟩ = some (.slice la9 ln9 lc9) := cell_of_row _ _ 0 _ _ _ rL4
        go_simp
      refine bodyPost_ret (v := .tuple #[.agg (so.cs ox).toArray, .slice la9 ln9 lc9, .int .i64 ec]) (results_cct rfl _ _ C 24 _ (0, 0) _ rfl rC4 Tryd.underlying24 rfl info24 Lb rfl hlv rfl) rfl ?_
      exact ⟨_, _, rfl, ⟨ox, rfl, hO4⟩, hL4, HC9.out, ((Mods.ofNew hN1).trans hM4).new (fun k hk => by omega)⟩
    case reg2 =>
      have hN0 : New W3 W3.drew := (Mods.refl _ _).drew
      refine wp_region_held (by kernel_rfl) (S := fun V => V.heap[C]? = some (.cells (so.cs ox).toArray 24 (0, 0)) ∧ V.heap[Lb]? = some (.cells #[.slice la9 ln9 lc9] 25 (0, 0))) ?_
      show wpAnyH _ _ _ _ _ _ _ _ W3.drew
      have hS := And.intro (hN0.heap rC3 id) (hN0.heap rL3 id)
      have HO3 := Lib.hid (hO3.new hN0)
      have HL3 := Lib.hid (show OwnL N9 W3.drew _ _ from hL3.kept hN0 (fun b h => h.elim) (Nat.le_refl _))
      have hT := hM3.trans (Mods.ofNew hN0)
      obtain ⟨Wd, hWd⟩ : ∃ V, W3.drew = V := ⟨_, rfl⟩
      rw [hWd] at hS HO3 HL3 hT ⊢
      clear hWd hN0 hO3 hL3 rC3 rL3 hM3
      refine anyH_take 0 (some 22) (.agg (so.cs ox).toArray) rfl rfl (by kernel_rfl) (by kernel_rfl) (by kernel_rfl) (fun _ _ _ h => h.elim) (.inl ⟨by rfl, fun W hW => run_load_row 24 (.tmp 6) rfl C rfl 24 _ (0, 0) _ hW.1 Tryd.underlying24 rfl info24⟩) hS ?_
      simp only [Act.put, List.setIfInBounds_toArray, List.set_cons_succ, List.set_cons_zero]
      refine anyH_take 1 (some 23) (.slice la9 ln9 lc9) rfl rfl (by kernel_rfl) (by kernel_rfl) (by kernel_rfl) (fun _ _ _ h => h.elim) (.inl ⟨by rfl, fun W hW => by have c := cell_of_row _ _ 0 _ _ _ hW.2; have c' : W.cell? ⟨Lb, 0, none⟩ = some (.slice la9 ln9 lc9) := c; go_simp⟩) hS ?_
      simp only [Act.put, List.setIfInBounds_toArray, List.set_cons_succ, List.set_cons_zero]
      refine anyH_take 2 (some 24) (.int .i64 ec) rfl rfl (by kernel_rfl) (by kernel_rfl) (by kernel_rfl) (fun _ _ _ h => h.elim) (.inl ⟨by rfl, fun W hW => by go_simp⟩) hS ?_
      simp only [Act.put, List.setIfInBounds_toArray, List.set_cons_succ, List.set_cons_zero]
      refine wpAnyH_all (rs := [3]) (by kernel_rfl) (by simp) ?_
      simp only [List.mem_cons, List.not_mem_nil, or_false, forall_eq_or_imp, forall_eq]
      refine opH_skip none rfl (by rfl) rfl (run_store_row 24 (.tmp 6) (.tmp 22) rfl C rfl 24 (so.cs ox) (so.cs ox) rfl hS.1 info24 rfl hone) ?_
      rw [setRow_same hS.1]
      refine ⟨hS, ?_⟩
      simp only [Act.put, List.setIfInBounds_toArray, List.set_cons_succ, List.set_cons_zero]
      refine wpAnyH_all (rs := [4]) (by kernel_rfl) (by simp) ?_
      simp only [List.mem_cons, List.not_mem_nil, or_false, forall_eq_or_imp, forall_eq]
      refine opH_skip none rfl (by rfl) rfl (w' := Wd.setCell ⟨Lb, 0, none⟩ (.slice la9 ln9 lc9)) (by have c := cell_of_row _ _ 0 _ _ _ hS.2; have c' : Wd.cell? ⟨Lb, 0, none⟩ = some (.slice la9 ln9 lc9) := c; have f := frozen_row (i := 0) hS.2; go_simp) ?_
      have hM9 : Mods (fun b => b = Lb) Wd (Wd.setCell ⟨Lb, 0, none⟩ (.slice la9 ln9 lc9)) := setMods' rfl
      have rC9 := hM9.heap hS.1 (show ¬ C = Lb by omega)
      have rL9 : (Wd.setCell ⟨Lb, 0, none⟩ (.slice la9 ln9 lc9)).heap[Lb]? = some (.cells #[.slice la9 ln9 lc9] 25 (0, 0)) := setCell_heap hS.2 _
      have hO9 : OwB w.heap.size (Wd.setCell ⟨Lb, 0, none⟩ (.slice la9 ln9 lc9)) ox so.out := Mods.ownsRow hM9 HO3.out fun g hg e => owB_ne HO3.out hS.2 (by decide) (by rw [hg, e])
      have hL9 := HL3.out.kept hM9 (fun b hb => by omega) hN3
      have hZ := hT.trans (hM9.mono fun _ h => .inr h)
      replace hS := And.intro rC9 rL9
      refine ⟨hS, ?_⟩
      simp only [Act.put, List.setIfInBounds_toArray, List.set_cons_succ, List.set_cons_zero]
      refine anyH_take 5 (some 8) (.int .i64 ec) rfl rfl (by kernel_rfl) (by kernel_rfl) (by kernel_rfl) (fun _ _ _ h => h.elim) (.inl ⟨by rfl, fun W hW => by go_simp⟩) hS ?_
      simp only [Act.put, List.setIfInBounds_toArray, List.set_cons_succ, List.set_cons_zero]
      refine wpAnyH_done (by kernel_rfl) ?_ _
      exact ⟨⟨rfl, rfl, rfl, rfl, rfl⟩, hS, hO9, hL9, hZ⟩
  case reg =>
    have hN0 : New W1 W1.drew := (Mods.refl _ _).drew
    refine wp_region_held (by kernel_rfl) (S := fun V => Mods (fun b => b = C ∨ b = Lb) W1 V) ?_
    show wpAnyH _ _ _ _ _ _ _ _ W1.drew
    have hS : Mods (fun b => b = C ∨ b = Lb) W1 W1.drew := Mods.ofNew hN0
    have hNw := hN1.trans hN0
    replace rC := hN0.heap rC id
    replace rL := hN0.heap rL id
    obtain ⟨Wd, hWd⟩ : ∃ V, W1.drew = V := ⟨_, rfl⟩
    rw [hWd] at hS rC rL hNw ⊢
    clear hWd hN0
    cases o with
    | true =>
      obtain rfl : (!an) = m := by rw [← hm]; rfl
      refine anyH_take 0 (some 10) (.agg #[.int .i64 s.id, .int .u8 s.state, .int .i64 s.send, .int .i64 s.recv, .int .i64 s.owed, .bool an, .bool s.ends, ov, .int .u8 s.urg, .bool s.inc, .int .i64 s.slot]) rfl rfl (by kernel_rfl) (by kernel_rfl) (by kernel_rfl) (fun _ _ _ h => h.elim) (.inl ⟨by rfl, fun W hW => run_load_row 24 (.tmp 3) rfl B rfl 24 _ (0, 0) _ (hW.heap rB hBn) Tryd.underlying24 rfl info24⟩) hS ?_
      simp only [Act.put, List.setIfInBounds_toArray, List.set_cons_succ, List.set_cons_zero]
      refine anyH_take 1 (some 11) (.agg #[.int .i64 s.id, .int .u8 s.state, .int .i64 s.send, .int .i64 s.recv, .int .i64 s.owed, .bool an, .bool s.ends, ov, .int .u8 s.urg, .bool s.inc, .int .i64 s.slot]) rfl rfl (by kernel_rfl) (by kernel_rfl) (by kernel_rfl) (fun _ _ _ h => h.elim) (.inl ⟨by rfl, fun W hW => run_load_row 24 (.tmp 3) rfl B rfl 24 _ (0, 0) _ (hW.heap rB hBn) Tryd.underlying24 rfl info24⟩) hS ?_
      simp only [Act.put, List.setIfInBounds_toArray, List.set_cons_succ, List.set_cons_zero]
      refine anyH_take 8 (some 18) (.func (.func 52) #[] #[.pointer (some ⟨N, 0, none⟩), .pointer (some ⟨P, 0, none⟩), .pointer (some ⟨Lb, 0, none⟩)]) rfl rfl (by kernel_rfl) (by kernel_rfl) (by kernel_rfl) (fun _ _ _ h => h.elim) (.inl ⟨by rfl, fun W hW => by go_simp⟩) hS ?_
      simp only [Act.put, List.setIfInBounds_toArray, List.set_cons_succ, List.set_cons_zero]
      refine wpAnyH_all (rs := [2]) (by kernel_rfl) (by simp) ?_
      simp only [List.mem_cons, List.not_mem_nil, or_false, forall_eq_or_imp, forall_eq]
      refine opH_call (some 12) rfl (by rfl) rfl 27 #[.agg #[.int .i64 s.id, .int .u8 s.state, .int .i64 s.send, .int .i64 s.recv, .int .i64 s.owed, .bool an, .bool s.ends, ov, .int .u8 s.urg, .bool s.inc, .int .i64 s.slot]] (by go_simp) ((HOU.out Wd).mono ?_)
      rintro e Wo ⟨rfl, hk⟩
      replace rC := hk.heap rC id
      replace rL := hk.heap rL id
      replace hS := hS.trans (Mods.ofNew hk)
      replace hNw := hNw.trans hk
      clear hk
      refine ⟨_, rfl, hS, ?_⟩
      simp only [Act.put, List.setIfInBounds_toArray, List.set_cons_succ, List.set_cons_zero]
      refine anyH_take 3 (some 13) (.bool true) rfl rfl (by kernel_rfl) (by kernel_rfl) (by kernel_rfl) (fun _ _ _ h => h.elim) (.inl ⟨by rfl, fun W hW => by go_simp⟩) hS ?_
      simp only [Act.put, List.setIfInBounds_toArray, List.set_cons_succ, List.set_cons_zero]
      refine anyH_take 4 (some 14) (.pointer (some ⟨B, 5, none⟩)) rfl rfl (by kernel_rfl) (by kernel_rfl) (by kernel_rfl) (fun _ _ _ h => h.elim) (.inl ⟨by rfl, fun W hW => by go_simp⟩) hS ?_
      simp only [Act.put, List.setIfInBounds_toArray, List.set_cons_succ, List.set_cons_zero]
      refine anyH_take 5 (some 15) (.bool an) rfl rfl (by kernel_rfl) (by kernel_rfl) (by kernel_rfl) (fun _ _ _ h => h.elim) (.inl ⟨by rfl, fun W hW => by have c := hW.cell kB5 hBn; go_simp⟩) hS ?_
      simp only [Act.put, List.setIfInBounds_toArray, List.set_cons_succ, List.set_cons_zero]
      refine anyH_take 6 (some 16) (.bool (!an)) rfl rfl (by kernel_rfl) (by kernel_rfl) (by kernel_rfl) (fun _ _ _ h => h.elim) (.inl ⟨by rfl, fun W hW => by go_simp⟩) hS ?_
      simp only [Act.put, List.setIfInBounds_toArray, List.set_cons_succ, List.set_cons_zero]
      refine anyH_take 7 (some 17) (.bool (!an)) rfl rfl (by kernel_rfl) (by kernel_rfl) (by kernel_rfl) (fun _ _ _ h => h.elim) (.inl ⟨by rfl, fun W hW => by go_simp⟩) hS ?_
      simp only [Act.put, List.setIfInBounds_toArray, List.set_cons_succ, List.set_cons_zero]
      refine wpAnyH_all (rs := [9]) (by kernel_rfl) (by simp) ?_
      simp only [List.mem_cons, List.not_mem_nil, or_false, forall_eq_or_imp, forall_eq]
      have rCo := rC
      refine opH_call (some 19) rfl (by rfl) rfl 51 #[.agg #[.int .i64 s.id, .int .u8 s.state, .int .i64 s.send, .int .i64 s.recv, .int .i64 s.owed, .bool an, .bool s.ends, ov, .int .u8 s.urg, .bool s.inc, .int .i64 s.slot], .bool (!an), .func (.func 52) #[] #[.pointer (some ⟨N, 0, none⟩), .pointer (some ⟨P, 0, none⟩), .pointer (some ⟨Lb, 0, none⟩)]] (by go_simp) ((DO.out Wo hNw (hS.heap rN hNn) (hS.heap rP hPn) rL).mono ?_)
      rintro e Wx ⟨ox, rfl, hO, hk, l9, rL9, hL9, hc9⟩
      replace rC := hk.heap rC (show ¬ C = Lb by omega)
      replace hS := hS.trans (hk.mono fun _ h => .inr h)
      have hWl : C < Wo.heap.size ∧ Lb < Wo.heap.size := ⟨(Array.getElem?_eq_some_iff.1 (show Wo.heap[C]? = _ from rCo)).1, (Array.getElem?_eq_some_iff.1 rL).1⟩
      refine ⟨_, rfl, hS, ?_⟩
      simp only [Act.put, List.setIfInBounds_toArray, List.set_cons_succ, List.set_cons_zero]
      refine anyH_take 10 (some 9) (.tuple #[.agg (so.cs ox).toArray, .int .i64 ec]) rfl rfl (by kernel_rfl) (by kernel_rfl) (by kernel_rfl) (fun _ _ _ h => h.elim) (.inl ⟨by rfl, fun W hW => by go_simp; try rfl⟩) hS ?_
      simp only [Act.put, List.setIfInBounds_toArray, List.set_cons_succ, List.set_cons_zero]
      refine anyH_take 11 (some 20) (.agg (so.cs ox).toArray) rfl rfl (by kernel_rfl) (by kernel_rfl) (by kernel_rfl) (fun _ _ _ h => h.elim) (.inl ⟨by rfl, fun W hW => by go_simp; try rfl⟩) hS ?_
      simp only [Act.put, List.setIfInBounds_toArray, List.set_cons_succ, List.set_cons_zero]
      refine anyH_take 12 (some 21) (.int .i64 ec) rfl rfl (by kernel_rfl) (by kernel_rfl) (by kernel_rfl) (fun _ _ _ h => h.elim) (.inl ⟨by rfl, fun W hW => by go_simp⟩) hS ?_
      simp only [Act.put, List.setIfInBounds_toArray, List.set_cons_succ, List.set_cons_zero]
      refine wpAnyH_all (rs := [13]) (by kernel_rfl) (by simp) ?_
      simp only [List.mem_cons, List.not_mem_nil, or_false, forall_eq_or_imp, forall_eq]
      have hone := cs_one so hO.one
      refine opH_skip none rfl (by rfl) rfl (run_store_row 24 (.tmp 6) (.tmp 20) rfl C rfl 24 [.int .i64 0, .int .u8 0, .int .i64 0, .int .i64 0, .int .i64 0, .bool false, .bool false, .slice none 0 0, .int .u8 0, .bool false, .int .i64 0] (so.cs ox) rfl rC info24 rfl hone) ?_
      have rCy := setRow_heap _ C _ (so.cs ox).toArray 24 (0, 0) rC
      have hOy := hO.setRow (c' := (so.cs ox).toArray) rC (by decide)
      have rLy := (mods_setRow rC (so.cs ox).toArray).heap rL9 (show ¬ Lb = C by omega)
      have hLy := hL9.kept (mods_setRow rC (so.cs ox).toArray) (fun b hb => by omega) (Nat.le_refl _)
      replace hS := hS.trans ((mods_setRow rC (so.cs ox).toArray).mono fun _ h => .inl h)
      refine ⟨hS, ?_⟩
      simp only [Act.put, List.setIfInBounds_toArray, List.set_cons_succ, List.set_cons_zero]
      refine anyH_take 14 (some 8) (.int .i64 ec) rfl rfl (by kernel_rfl) (by kernel_rfl) (by kernel_rfl) (fun _ _ _ h => h.elim) (.inl ⟨by rfl, fun W hW => by go_simp⟩) hS ?_
      simp only [Act.put, List.setIfInBounds_toArray, List.set_cons_succ, List.set_cons_zero]
      refine wpAnyH_done (by kernel_rfl) ?_ _
      exact ⟨⟨rfl, rfl, rfl, rfl, rfl⟩, ⟨ox, rCy, hOy⟩, ⟨l9, _, rLy, hLy, by omega, by omega, hNw.size, hc9⟩, hS⟩
    | false =>
      obtain rfl : false = m := by rw [← hm]; rfl
      refine anyH_take 0 (some 10) (.agg #[.int .i64 s.id, .int .u8 s.state, .int .i64 s.send, .int .i64 s.recv, .int .i64 s.owed, .bool an, .bool s.ends, ov, .int .u8 s.urg, .bool s.inc, .int .i64 s.slot]) rfl rfl (by kernel_rfl) (by kernel_rfl) (by kernel_rfl) (fun _ _ _ h => h.elim) (.inl ⟨by rfl, fun W hW => run_load_row 24 (.tmp 3) rfl B rfl 24 _ (0, 0) _ (hW.heap rB hBn) Tryd.underlying24 rfl info24⟩) hS ?_
      simp only [Act.put, List.setIfInBounds_toArray, List.set_cons_succ, List.set_cons_zero]
      refine anyH_take 1 (some 11) (.agg #[.int .i64 s.id, .int .u8 s.state, .int .i64 s.send, .int .i64 s.recv, .int .i64 s.owed, .bool an, .bool s.ends, ov, .int .u8 s.urg, .bool s.inc, .int .i64 s.slot]) rfl rfl (by kernel_rfl) (by kernel_rfl) (by kernel_rfl) (fun _ _ _ h => h.elim) (.inl ⟨by rfl, fun W hW => run_load_row 24 (.tmp 3) rfl B rfl 24 _ (0, 0) _ (hW.heap rB hBn) Tryd.underlying24 rfl info24⟩) hS ?_
      simp only [Act.put, List.setIfInBounds_toArray, List.set_cons_succ, List.set_cons_zero]
      refine anyH_take 8 (some 18) (.func (.func 52) #[] #[.pointer (some ⟨N, 0, none⟩), .pointer (some ⟨P, 0, none⟩), .pointer (some ⟨Lb, 0, none⟩)]) rfl rfl (by kernel_rfl) (by kernel_rfl) (by kernel_rfl) (fun _ _ _ h => h.elim) (.inl ⟨by rfl, fun W hW => by go_simp⟩) hS ?_
      simp only [Act.put, List.setIfInBounds_toArray, List.set_cons_succ, List.set_cons_zero]
      refine wpAnyH_all (rs := [2]) (by kernel_rfl) (by simp) ?_
      simp only [List.mem_cons, List.not_mem_nil, or_false, forall_eq_or_imp, forall_eq]
      refine opH_call (some 12) rfl (by rfl) rfl 27 #[.agg #[.int .i64 s.id, .int .u8 s.state, .int .i64 s.send, .int .i64 s.recv, .int .i64 s.owed, .bool an, .bool s.ends, ov, .int .u8 s.urg, .bool s.inc, .int .i64 s.slot]] (by go_simp) ((HOU.out Wd).mono ?_)
      rintro e Wo ⟨rfl, hk⟩
      replace rC := hk.heap rC id
      replace rL := hk.heap rL id
      replace hS := hS.trans (Mods.ofNew hk)
      replace hNw := hNw.trans hk
      clear hk
      refine ⟨_, rfl, hS, ?_⟩
      simp only [Act.put, List.setIfInBounds_toArray, List.set_cons_succ, List.set_cons_zero]
      refine anyH_take 3 (some 13) (.bool false) rfl rfl (by kernel_rfl) (by kernel_rfl) (by kernel_rfl) (fun _ _ _ h => h.elim) (.inl ⟨by rfl, fun W hW => by go_simp⟩) hS ?_
      simp only [Act.put, List.setIfInBounds_toArray, List.set_cons_succ, List.set_cons_zero]
      refine anyH_take 4 (some 14) undef rfl rfl (by kernel_rfl) (by kernel_rfl) (by kernel_rfl) (fun _ _ _ h => h.elim) (.inr ⟨by rfl, rfl⟩) hS ?_
      simp only [Act.put, List.setIfInBounds_toArray, List.set_cons_succ, List.set_cons_zero]
      refine anyH_take 5 (some 15) undef rfl rfl (by kernel_rfl) (by kernel_rfl) (by kernel_rfl) (fun _ _ _ h => h.elim) (.inr ⟨by rfl, rfl⟩) hS ?_
      simp only [Act.put, List.setIfInBounds_toArray, List.set_cons_succ, List.set_cons_zero]
      refine anyH_take 6 (some 16) undef rfl rfl (by kernel_rfl) (by kernel_rfl) (by kernel_rfl) (fun _ _ _ h => h.elim) (.inr ⟨by rfl, rfl⟩) hS ?_
      simp only [Act.put, List.setIfInBounds_toArray, List.set_cons_succ, List.set_cons_zero]
      refine anyH_take 7 (some 17) (.bool false) rfl rfl (by kernel_rfl) (by kernel_rfl) (by kernel_rfl) (fun _ _ _ h => h.elim) (.inl ⟨by rfl, fun W hW => by go_simp⟩) hS ?_
      simp only [Act.put, List.setIfInBounds_toArray, List.set_cons_succ, List.set_cons_zero]
      refine wpAnyH_all (rs := [9]) (by kernel_rfl) (by simp) ?_
      simp only [List.mem_cons, List.not_mem_nil, or_false, forall_eq_or_imp, forall_eq]
      have rCo := rC
      refine opH_call (some 19) rfl (by rfl) rfl 51 #[.agg #[.int .i64 s.id, .int .u8 s.state, .int .i64 s.send, .int .i64 s.recv, .int .i64 s.owed, .bool an, .bool s.ends, ov, .int .u8 s.urg, .bool s.inc, .int .i64 s.slot], .bool false, .func (.func 52) #[] #[.pointer (some ⟨N, 0, none⟩), .pointer (some ⟨P, 0, none⟩), .pointer (some ⟨Lb, 0, none⟩)]] (by go_simp) ((DO.out Wo hNw (hS.heap rN hNn) (hS.heap rP hPn) rL).mono ?_)
      rintro e Wx ⟨ox, rfl, hO, hk, l9, rL9, hL9, hc9⟩
      replace rC := hk.heap rC (show ¬ C = Lb by omega)
      replace hS := hS.trans (hk.mono fun _ h => .inr h)
      have hWl : C < Wo.heap.size ∧ Lb < Wo.heap.size := ⟨(Array.getElem?_eq_some_iff.1 (show Wo.heap[C]? = _ from rCo)).1, (Array.getElem?_eq_some_iff.1 rL).1⟩
      refine ⟨_, rfl, hS, ?_⟩
      simp only [Act.put, List.setIfInBounds_toArray, List.set_cons_succ, List.set_cons_zero]
      refine anyH_take 10 (some 9) (.tuple #[.agg (so.cs ox).toArray, .int .i64 ec]) rfl rfl (by kernel_rfl) (by kernel_rfl) (by kernel_rfl) (fun _ _ _ h => h.elim) (.inl ⟨by rfl, fun W hW => by go_simp; try rfl⟩) hS ?_
      simp only [Act.put, List.setIfInBounds_toArray, List.set_cons_succ, List.set_cons_zero]
      refine anyH_take 11 (some 20) (.agg (so.cs ox).toArray) rfl rfl (by kernel_rfl) (by kernel_rfl) (by kernel_rfl) (fun _ _ _ h => h.elim) (.inl ⟨by rfl, fun W hW => by go_simp; try rfl⟩) hS ?_
      simp only [Act.put, List.setIfInBounds_toArray, List.set_cons_succ, List.set_cons_zero]
      refine anyH_take 12 (some 21) (.int .i64 ec) rfl rfl (by kernel_rfl) (by kernel_rfl) (by kernel_rfl) (fun _ _ _ h => h.elim) (.inl ⟨by rfl, fun W hW => by go_simp⟩) hS ?_
      simp only [Act.put, List.setIfInBounds_toArray, List.set_cons_succ, List.set_cons_zero]
      refine wpAnyH_all (rs := [13]) (by kernel_rfl) (by simp) ?_
      simp only [List.mem_cons, List.not_mem_nil, or_false, forall_eq_or_imp, forall_eq]
      have hone := cs_one so hO.one
      refine opH_skip none rfl (by rfl) rfl (run_store_row 24 (.tmp 6) (.tmp 20) rfl C rfl 24 [.int .i64 0, .int .u8 0, .int .i64 0, .int .i64 0, .int .i64 0, .bool false, .bool false, .slice none 0 0, .int .u8 0, .bool false, .int .i64 0] (so.cs ox) rfl rC info24 rfl hone) ?_
      have rCy := setRow_heap _ C _ (so.cs ox).toArray 24 (0, 0) rC
      have hOy := hO.setRow (c' := (so.cs ox).toArray) rC (by decide)
      have rLy := (mods_setRow rC (so.cs ox).toArray).heap rL9 (show ¬ Lb = C by omega)
      have hLy := hL9.kept (mods_setRow rC (so.cs ox).toArray) (fun b hb => by omega) (Nat.le_refl _)
      replace hS := hS.trans ((mods_setRow rC (so.cs ox).toArray).mono fun _ h => .inl h)
      refine ⟨hS, ?_⟩
      simp only [Act.put, List.setIfInBounds_toArray, List.set_cons_succ, List.set_cons_zero]
      refine anyH_take 14 (some 8) (.int .i64 ec) rfl rfl (by kernel_rfl) (by kernel_rfl) (by kernel_rfl) (fun _ _ _ h => h.elim) (.inl ⟨by rfl, fun W hW => by go_simp⟩) hS ?_
      simp only [Act.put, List.setIfInBounds_toArray, List.set_cons_succ, List.set_cons_zero]
      refine wpAnyH_done (by kernel_rfl) ?_ _
      exact ⟨⟨rfl, rfl, rfl, rfl, rfl⟩, ⟨ox, rCy, hOy⟩, ⟨l9, _, rLy, hLy, by omega, by omega, hNw.size, hc9⟩, hS⟩
end Go.Proofs.YtkjghojdfjhhkaaDoor
