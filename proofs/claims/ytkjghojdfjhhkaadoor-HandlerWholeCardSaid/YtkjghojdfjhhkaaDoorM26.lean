/- Streams: what goes out at once: the program. -/
import Derived.Test.YtkjghojdfjhhkaaDoorM24
import Derived.Test.YtkjghojdfjhhkaaDoorM25
set_option linter.unusedSimpArgs false
set_option linter.unusedVariables false
namespace Go.Proofs.YtkjghojdfjhhkaaDoor
open Go.RowKit Go.Shelf Go.Cs
attribute [local go_sem] Oper.semAt_some
set_option linter.unusedSimpArgs false
set_option linter.unusedVariables false
theorem three_rows (w : World) (c1 c2 c3 : Array Value) (t1 t2 t3 : TypeId) : ∃ W B C D, ((w.alloc (.cells c1 t1)).alloc (.cells c2 t2)).alloc (.cells c3 t3) = W ∧ w.heap.size = B ∧ B + 1 = C ∧ C + 1 = D ∧
    W.heap[B]? = some (.cells c1 t1 (0, 0)) ∧ W.heap[C]? = some (.cells c2 t2 (0, 0)) ∧ W.heap[D]? = some (.cells c3 t3 (0, 0)) ∧ New w W ∧ W.heap.size = D + 1 := by
  obtain ⟨W1, B, C, hW, hB, hC, rB, rC, hN1, hz⟩ := pair_rows w c1 c2 t1 t2
  have hk : New W1 (W1.alloc (.cells c3 t3)) := (Mods.refl _ _).alloc _
  have h3 := World.alloc_heap_new W1 (.cells c3 t3)
  rw [hz] at h3
  rw [hW]
  exact ⟨_, B, C, C + 1, rfl, hB, hC, rfl, hk.heap rB id, hk.heap rC id, h3, hN1.trans hk, by simp [hz]⟩
theorem results_cctt {P : Program} {fn : Func} {p q r r2 : Tmp} {ty ty2 : TypeId} (h : fn.results = #[.cell p ty, .cell q ty2, .tmp r, .tmp r2]) (tmps : Array Value) (w : World) (g : Nat) (t : TypeId) (cs : Array Value) (fr : Nat × Nat) (d : TypeDesc)
    (hp : tmps.getD p undef = .pointer (some ⟨g, 0, none⟩)) (hg : w.heap[g]? = some (.cells cs t fr))
    (hu : P.underlying ty = some d) (hd : (match d with | .struct _ | .array _ _ => true | _ => false) = true) (hi : (P.info? ty).map (·.size) = some cs.size) (c : Nat) (hq : tmps.getD q undef = .pointer (some ⟨c, 0, none⟩)) {v v2 v3 : Value} (hl : (loadVar ty2 ⟨c, 0, none⟩).run P w = .ok v w) (hr : tmps.getD r undef = v2) (hr2 : tmps.getD r2 undef = v3) :
    (results fn tmps).run P w = .ok (.tuple #[.agg cs, v, v2, v3]) w := by
  subst hr hr2
  have hp' : tmps[p]?.getD undef = .pointer (some ⟨g, 0, none⟩) := by simpa using hp
  have hq' : tmps[q]?.getD undef = .pointer (some ⟨c, 0, none⟩) := by simpa using hq
  simp [results, h, hp', hq', asAddr, run_loadVar_row w g t ty cs fr d hg hu hd hi, hl]
def encU (x : Int) : Value := .int .u8 x
theorem keyU8 : KeyLike Tryd.prog 5 encU := .now Tryd.underlying5 (fun _ => rfl) (fun a b h => by cases h; rfl)
theorem Stab.owB {b : Nat} (base : Nat) (v : Value) (xs : List Int) : Stab b (fun W => OwB base W v xs) := Stab.ownsRow _ _ _ _ _ _
theorem owB_set {base g i : Nat} {W : World} {v u : Value} {xs : List Int} {t : TypeId} {c : Array Value} {fr : Nat × Nat} (h : OwB base W v xs) (hg : W.heap[g]? = some (.cells c t fr)) (ht : t ≠ 5) : OwB base (W.setCell ⟨g, i, none⟩ u) v xs :=
  Mods.ownsRow (S := fun b => b = g) (setMods' rfl) h fun k hk e => owB_ne h hg ht (by rw [hk, e])
/-- The states behind an end. -/
def overF (q : Int) : Option Value := if q = 2 then some (.int .u8 4) else if q = 1 then some (.int .u8 3) else none
theorem over_state (q : Int) (h : q = 1 ∨ q = 2) : (overF q).getD (.int .u8 0) = .int .u8 (if q = 1 then 3 else 4) := by
  rcases h with rfl | rfl <;> rfl
theorem und80 : ∃ e, Tryd.prog.underlying 80 = some (.map 5 e) ∧ ∀ w, (zeroValue e).run Tryd.prog w = .ok (.int .u8 0) w := ⟨5, Tryd.underlying80, fun w => by go_simp⟩
/-- A frame, what it holds when the end is known. -/
def TakeEnd (w W : World) (C D : Nat) (so : St) (dd : List Int) : Prop :=
  ∃ ox dv, W.heap[C]? = some (.cells (so.cs ox).toArray 24 (0, 0)) ∧ W.heap[D]? = some (.cells #[dv] 22 (0, 0)) ∧ OwB w.heap.size W ox so.out ∧ OwB w.heap.size W dv dd ∧ New w W
theorem owB_put {base : Nat} {W : World} {v : Value} {xs : List Int} {D : Nat} {l : Option (List Deferred)} (h : OwB base W v xs) (hg : W.heap[D]? = some (.deferred l)) (o : Obj) : OwB base (W.putObj D o) v xs := by
  refine ⟨h.1, h.2.imp id ?_⟩
  rintro ⟨g, cap, cur, rfl, hb, hh, r⟩
  exact ⟨g, cap, cur, rfl, hb, (World.putObj_heap_other (by rintro rfl; rw [hg] at hh; cases hh)).trans hh, r⟩
theorem row_put {W : World} {g D : Nat} {c : Array Value} {t : TypeId} {fr : Nat × Nat} {l : Option (List Deferred)} (h : W.heap[g]? = some (.cells c t fr)) (hg : W.heap[D]? = some (.deferred l)) (o : Obj) : (W.putObj D o).heap[g]? = some (.cells c t fr) :=
  (World.putObj_heap_other (by rintro rfl; rw [hg] at h; cases h)).trans h
theorem zero5 (w : World) : (zeroValue 5).run Tryd.prog w = .ok (.int .u8 0) w := by go_simp
theorem lit78 (t : Array Value) (h : t.size = 78) : ∃ u : Nat → Value, t = (u 0 :: u 1 :: u 2 :: u 3 :: u 4 :: u 5 :: u 6 :: u 7 :: u 8 :: u 9 :: u 10 :: u 11 :: u 12 :: u 13 :: u 14 :: u 15 :: u 16 :: u 17 :: u 18 :: u 19 :: u 20 :: u 21 :: u 22 :: u 23 :: u 24 :: u 25 :: u 26 :: u 27 :: u 28 :: u 29 :: u 30 :: u 31 :: u 32 :: u 33 :: u 34 :: u 35 :: u 36 :: u 37 :: u 38 :: u 39 :: u 40 :: u 41 :: u 42 :: u 43 :: u 44 :: u 45 :: u 46 :: u 47 :: u 48 :: u 49 :: u 50 :: u 51 :: u 52 :: u 53 :: u 54 :: u 55 :: u 56 :: u 57 :: u 58 :: u 59 :: u 60 :: u 61 :: u 62 :: u 63 :: u 64 :: u 65 :: u 66 :: u 67 :: u 68 :: u 69 :: u 70 :: u 71 :: u 72 :: u 73 :: u 74 :: u 75 :: u 76 :: u 77 :: ([] : List Value)).toArray := ⟨fun i => t.getD i undef, range_lit t 78 h⟩
noncomputable def reg25_16 : Code := ((Tryd.f25.body.bind (regionOf 16)).getD .skip)
set_option maxHeartbeats 4000000 in
set_option maxRecDepth 100000 in
theorem fin25 (t : Array Value) (hs : t.size = 78) (dfs : List Deferred) (W : World) {base C D Dm : Nat} {b : Bool} {so : St} {dd : List Int} {ox dv : Value}
    (hq8 : t.getD 8 undef = .pointer (some ⟨C, 0, none⟩)) (hq9 : t.getD 9 undef = .pointer (some ⟨D, 0, none⟩)) (hq10 : t.getD 10 undef = .bool b)
    (rC : W.heap[C]? = some (.cells (so.cs ox).toArray 24 (0, 0))) (rD : W.heap[D]? = some (.cells #[dv] 22 (0, 0))) (hO : OwB base W ox so.out) (hP : OwB base W dv dd) (hDm : W.heap[Dm]? = some (.deferred (some []))) (hCD : C < D) (hbD : base ≤ D) :
    reg25_16.wp Tryd.prog (Only fun a' W' => (a'.tmps.size = 78 ∧ a'.defers = dfs ∧ a'.tmps.getD 8 undef = .pointer (some ⟨C, 0, none⟩) ∧ a'.tmps.getD 9 undef = .pointer (some ⟨D, 0, none⟩) ∧ a'.tmps.getD 10 undef = .bool b ∧ a'.tmps.getD 11 undef = .bool true) ∧
      (W'.heap[C]? = some (.cells (so.cs ox).toArray 24 (0, 0)) ∧ W'.heap[D]? = some (.cells #[dv] 22 (0, 0))) ∧ OwB base W' ox so.out ∧ OwB base W' dv dd ∧ W'.heap[Dm]? = some (.deferred (some [])) ∧ Mods (fun b => b = D) W W') ⟨t, dfs⟩ W := by
  conv => arg 2; whnf
  obtain ⟨u, rfl⟩ := lit78 t hs
  have hq8 : u 8 = _ := hq8
  have hq9 : u 9 = _ := hq9
  have hq10 : u 10 = _ := hq10
  rw [hq8, hq9, hq10]
  clear hq8 hq9 hq10 hs
  obtain ⟨da, dc, rfl⟩ := hP.slice
  obtain ⟨dn, hdn⟩ : ∃ x, dd.length = x := ⟨_, rfl⟩
  rw [hdn] at hP rD ⊢
  clear hdn
  have hone := cs_one so hO.one
  have hN0 : New W W.drew := (Mods.refl _ _).drew
  refine wp_region_held (by kernel_rfl) (S := fun V => V.heap[C]? = some (.cells (so.cs ox).toArray 24 (0, 0)) ∧ V.heap[D]? = some (.cells #[.slice da dn dc] 22 (0, 0))) ?_
  show wpAnyH _ _ _ _ _ _ _ _ W.drew
  have hS := And.intro (hN0.heap rC id) (hN0.heap rD id)
  have HO3 := Lib.hid (hO.new hN0)
  have HP3 := Lib.hid (hP.new hN0)
  have hDm := hN0.heap hDm id
  have hT : Mods (fun b => b = D) W W.drew := Mods.ofNew hN0
  obtain ⟨Wd, hWd⟩ : ∃ V, W.drew = V := ⟨_, rfl⟩
  rw [hWd] at hS HO3 HP3 hDm hT ⊢
  clear hWd hN0 hO hP rC rD
  refine anyH_take 0 (some 75) (.agg (so.cs ox).toArray) rfl rfl (by kernel_rfl) (by kernel_rfl) (by kernel_rfl) (fun _ _ _ h => h.elim) (.inl ⟨by rfl, fun W hW => run_load_row 24 (.tmp 8) rfl C rfl 24 _ (0, 0) _ hW.1 Tryd.underlying24 rfl info24⟩) hS ?_
  simp only [Act.put, List.setIfInBounds_toArray, List.set_cons_succ, List.set_cons_zero]
  refine anyH_take 1 (some 76) (.slice da dn dc) rfl rfl (by kernel_rfl) (by kernel_rfl) (by kernel_rfl) (fun _ _ _ h => h.elim) (.inl ⟨by rfl, fun W hW => by have c := cell_of_row _ _ 0 _ _ _ hW.2; have c' : W.cell? ⟨D, 0, none⟩ = some (.slice da dn dc) := c; go_simp⟩) hS ?_
  simp only [Act.put, List.setIfInBounds_toArray, List.set_cons_succ, List.set_cons_zero]
  refine anyH_take 2 (some 77) (.bool b) rfl rfl (by kernel_rfl) (by kernel_rfl) (by kernel_rfl) (fun _ _ _ h => h.elim) (.inl ⟨by rfl, fun W hW => by go_simp⟩) hS ?_
  simp only [Act.put, List.setIfInBounds_toArray, List.set_cons_succ, List.set_cons_zero]
  refine wpAnyH_all (rs := [3]) (by kernel_rfl) (by simp) ?_
  simp only [List.mem_cons, List.not_mem_nil, or_false, forall_eq_or_imp, forall_eq]
  refine opH_skip none rfl (by rfl) rfl (run_store_row 24 (.tmp 8) (.tmp 75) rfl C rfl 24 (so.cs ox) (so.cs ox) rfl hS.1 info24 rfl hone) ?_
  rw [setRow_same hS.1]
  refine ⟨hS, ?_⟩
  simp only [Act.put, List.setIfInBounds_toArray, List.set_cons_succ, List.set_cons_zero]
  refine wpAnyH_all (rs := [4]) (by kernel_rfl) (by simp) ?_
  simp only [List.mem_cons, List.not_mem_nil, or_false, forall_eq_or_imp, forall_eq]
  refine opH_skip none rfl (by rfl) rfl (w' := Wd.setCell ⟨D, 0, none⟩ (.slice da dn dc)) (by have c := cell_of_row _ _ 0 _ _ _ hS.2; have c' : Wd.cell? ⟨D, 0, none⟩ = some (.slice da dn dc) := c; have f := frozen_row (i := 0) hS.2; go_simp) ?_
  have hO9 := owB_set (i := 0) (u := .slice da dn dc) HO3.out hS.2 (by decide)
  have hP9 := owB_set (i := 0) (u := .slice da dn dc) HP3.out hS.2 (by decide)
  have rC9 := cell_other (T := D) (i := 0) (v := .slice da dn dc) hS.1 (show C ≠ D by omega)
  have rD9 : (Wd.setCell ⟨D, 0, none⟩ (.slice da dn dc)).heap[D]? = some (.cells #[.slice da dn dc] 22 (0, 0)) := setCell_heap hS.2 _
  have hZ := hT.setCell (p := ⟨D, 0, none⟩) (.inr rfl) (.slice da dn dc)
  have hDm9 := cell_other (T := D) (i := 0) (v := .slice da dn dc) hDm (by rintro rfl; rw [hS.2] at hDm; cases hDm)
  replace hS := And.intro rC9 rD9
  refine ⟨hS, ?_⟩
  simp only [Act.put, List.setIfInBounds_toArray, List.set_cons_succ, List.set_cons_zero]
  refine anyH_take 5 (some 10) (.bool b) rfl rfl (by kernel_rfl) (by kernel_rfl) (by kernel_rfl) (fun _ _ _ h => h.elim) (.inl ⟨by rfl, fun W hW => by go_simp⟩) hS ?_
  simp only [Act.put, List.setIfInBounds_toArray, List.set_cons_succ, List.set_cons_zero]
  refine anyH_take 6 (some 11) (.bool true) rfl rfl (by kernel_rfl) (by kernel_rfl) (by kernel_rfl) (fun _ _ _ h => h.elim) (.inl ⟨by rfl, fun W hW => by go_simp⟩) hS ?_
  simp only [Act.put, List.setIfInBounds_toArray, List.set_cons_succ, List.set_cons_zero]
  refine wpAnyH_done (by kernel_rfl) ?_ _
  exact ⟨⟨rfl, rfl, rfl, rfl, rfl, rfl⟩, hS, hO9, hP9, hDm9, hZ⟩
set_option maxHeartbeats 4000000 in
set_option maxRecDepth 100000 in
theorem take_S (v : Value) (s : St) (c f k : Int) (w : World) (h : RdS w v s) (hl : s.out.length ≤ 1000000) (hs : I64 s.send) (hc : I64 c) (hf : I64 f) (hk : I64 k) :
    Calls Tryd.prog 25 #[v, .int .i64 c, .int .i64 f, .int .i64 k] w (TakeP w (takeS s c f k)) := by
  obtain ⟨ov, rfl, hr⟩ := h
  obtain ⟨⟨so, dd, ben, bok⟩, hT⟩ : ∃ r, takeS s c f k = r := ⟨_, rfl⟩
  rw [hT]
  unfold TakeP
  unfold takeS at hT
  dsimp only at hT
  have hcut := cutZ_le s.send c f k (s.out.length : Int)
  have HCU := Lib.hid (fun W => cut_S s.send c f k (s.out.length : Int) W hs hc)
  have HSE := Lib.hid (fun W (hN : New w W) => send_S _ s c W ⟨ov, rfl, hr.new hN⟩ hs hc)
  obtain ⟨nn, hnn⟩ : ∃ nn : Nat, cutZ s.send c f k (s.out.length : Int) = nn := ⟨(cutZ s.send c f k (s.out.length : Int)).toNat, by have := hcut.1; omega⟩
  have hI := sent_64 hnn hs
  rw [hnn] at hcut HCU hT
  have hnl : nn ≤ s.out.length := by have := hcut.2.1 (by omega); omega
  have hsn : nn ≤ 2147483647 := by have := hcut.2.2; omega
  obtain ⟨b1, hb1⟩ : ∃ x, sendB s c = x := ⟨_, rfl⟩
  have hst12 : b1 = true → s.state = 1 ∨ s.state = 2 := by
    intro hb
    rw [← hb1] at hb
    unfold sendB oursB at hb
    simp only [Bool.and_eq_true, Bool.or_eq_true, decide_eq_true_eq] at hb
    exact hb.1
  rw [hb1] at HSE hT
  rw [Int.toNat_natCast] at hT
  have HT := Lib.hid hT
  clear hT
  have HO := Lib.hid (fun W (hN : New w W) => own_S _ s W ⟨ov, rfl, hr.new hN⟩ (by omega))
  obtain ⟨oa, oc, rfl⟩ := hr.slice
  have HR := Lib.hid hr
  obtain ⟨on, hon⟩ : ∃ x, s.out.length = x := ⟨_, rfl⟩
  rw [hon] at HR HO HSE HCU HT hl hnl ⊢
  have HON := Lib.hid hon
  obtain ⟨W1, B, C, D, hW, hB, hC, hD, rB, rC, rD, hN1, hz⟩ := three_rows w (s.cs (.slice oa on oc)).toArray #[.int .i64 0, .int .u8 0, .int .i64 0, .int .i64 0, .int .i64 0, .bool false, .bool false, .slice none 0 0, .int .u8 0, .bool false, .int .i64 0] #[.slice none 0 0] 24 24 22
  unfold St.cs at HO HSE hW rB
  unfold St.cs
  refine calls_of_marks Tryd.func25 rfl ?_
  simp only [Tryd.ntmps25, List.size_toArray, List.length_cons, List.length_nil, Nat.reduceAdd, Nat.reduceSub, Array.replicate_succ, Array.replicate_zero, List.push_toArray, List.append_toArray, List.nil_append, List.cons_append]
  go_upto_region 1 with fail
  have hBl : w.heap.size ≤ B := Nat.le_of_eq hB
  have hBCD : B < C ∧ C < D := by omega
  clear hW hB hr hs hc hf hk hcut hnn hon
  go_wp2_with (refine op_value rfl (run_load_row 24 (.tmp 4) rfl B rfl 24 _ (0, 0) _ rB Tryd.underlying24 rfl info24) ?_)
  refine (HO.out _ hN1).mono ?_
  rintro e W2 ⟨v1, rfl, ⟨ov1, rfl, hO1⟩, hk1⟩
  have rB2 := hk1.heap rB id
  have rC2 := hk1.heap rC id
  have rD2 := hk1.heap rD id
  have hone1 := cs_one s hO1.one
  have rC3 := setRow_heap W2 C _ (s.cs ov1).toArray 24 (0, 0) rC2
  have rB3 := (mods_setRow rC2 (s.cs ov1).toArray).heap rB2 (show B ≠ C by omega)
  have rD3 := (mods_setRow rC2 (s.cs ov1).toArray).heap rD2 (show D ≠ C by omega)
  have hN3 := (hN1.trans hk1).setRow (show w.heap.size ≤ C by omega) (s.cs ov1).toArray
  have hO3 : OwB w.heap.size (W2.setRow C (s.cs ov1).toArray) ov1 s.out := (hO1.mono hN1.size).setRow rC2 (by decide)
  have HO3 := Lib.hid hO3
  clear hO3 hO1
  go_upto_region 2 with (refine op_skip rfl (run_store_row 24 (.tmp 8) (.tmp 17) rfl C rfl 24 [.int .i64 0, .int .u8 0, .int .i64 0, .int .i64 0, .int .i64 0, .bool false, .bool false, .slice none 0 0, .int .u8 0, .bool false, .int .i64 0] (s.cs ov1) rfl rC2 info24 rfl hone1) ?_)
  obtain ⟨W3, hW3⟩ : ∃ V, W2.setRow C (s.cs ov1).toArray = V := ⟨_, rfl⟩
  rw [hW3] at rB3 rC3 rD3 hN3 HO3 ⊢
  clear hW3 rB2 rC2 rD2 hk1 rB rC rD
  obtain ⟨xa, xc, rfl⟩ := HO3.out.slice
  rw [HON.out] at rC3 HO3 hone1
  have k2 : W3.cell? ⟨B, 2, none⟩ = some (.int .i64 s.send) := cell_of_row _ _ 2 _ _ _ rB3
  have k7 : W3.cell? ⟨B, 7, none⟩ = some (.slice oa on oc) := cell_of_row _ _ 7 _ _ _ rB3
  clear HO hone1
  go_wp2_with fail
  refine (HCU.out _).mono ?_
  rintro e W3' ⟨rfl, hk3⟩
  have rB3 := hk3.heap rB3 id
  have rC3 := hk3.heap rC3 id
  have rD3 := hk3.heap rD3 id
  have hN3 := hN3.trans hk3
  have HO3 := Lib.hid (HO3.out.new hk3)
  have k7 : W3'.cell? ⟨B, 7, none⟩ = some (.slice oa on oc) := cell_of_row _ _ 7 _ _ _ rB3
  clear HCU k2 hk3
  obtain ⟨p0, e0⟩ : ∃ x, decide ((0 : Int) < (on : Int)) = x := ⟨_, rfl⟩
  obtain ⟨n0, en⟩ : ∃ x, decide ((nn : Int) = 0) = x := ⟨_, rfl⟩
  have en' : ((nn : Int) == 0) = n0 := en
  have e0x : decide (0 < on) = p0 := by rw [← e0]; exact decide_eq_decide.2 (by omega)
  have enx : decide (nn = 0) = n0 := by rw [← en]; exact decide_eq_decide.2 (by omega)
  rw [e0x, enx] at HT
  have E0x := Lib.hid e0x
  have Enx := Lib.hid enx
  clear e0x enx
  obtain ⟨sb, hsb⟩ : ∃ x, (b1 && !(p0 && n0)) = x := ⟨_, rfl⟩
  rw [hsb] at HT
  have Hsb := Lib.hid hsb
  clear hsb
  have HSY := Lib.hid (HSE.out _ hN3)
  go_upto_region 3 with fail
  refine piece (fun _ a' W' => (a'.tmps.size = 78 ∧ a'.defers = [] ∧ a'.tmps.getD 4 undef = .pointer (some ⟨B, 0, none⟩) ∧ a'.tmps.getD 8 undef = .pointer (some ⟨C, 0, none⟩) ∧ a'.tmps.getD 9 undef = .pointer (some ⟨D, 0, none⟩) ∧ a'.tmps.getD 12 undef = .int .i64 (nn : Int) ∧ a'.tmps.getD 40 undef = .bool (!sb)) ∧ New W3' W') ?r3 ?rest
  case r3 =>
    clear HT
    go_wp2_with (refine op_value rfl (run_load_row 24 (.tmp 4) rfl B rfl 24 _ (0, 0) _ rB3 Tryd.underlying24 rfl info24) ?_)
    refine HSY.out.mono ?_
    rintro e W4 ⟨rfl, hk4⟩
    have rB4 := hk4.heap rB3 id
    have k7 : W4.cell? ⟨B, 7, none⟩ = some (.slice oa on oc) := cell_of_row _ _ 7 _ _ _ rB4
    have hways : b1 = false ∨ (b1 = true ∧ n0 = false) ∨ (b1 = true ∧ p0 = false ∧ n0 = true) ∨ (b1 = true ∧ p0 = true ∧ n0 = true) := by cases b1 <;> cases p0 <;> cases n0 <;> simp
    clear rB4 rB3 HSY
    rcases hways with rfl | ⟨rfl, rfl⟩ | ⟨rfl, rfl, rfl⟩ | ⟨rfl, rfl, rfl⟩
    · go_wp2_with fail
      exact ⟨⟨rfl, rfl, rfl, rfl, rfl, rfl, by rw [← Hsb.out]; rfl⟩, hk4⟩
    · have q2 : ¬ nn = 0 := of_decide_eq_false Enx.out
      go_wp2_with fail
      exact ⟨⟨rfl, rfl, rfl, rfl, rfl, rfl, by rw [← Hsb.out]; cases p0 <;> rfl⟩, hk4⟩
    · have q1 : on = 0 := by have := of_decide_eq_false E0x.out; omega
      have q2 : nn = 0 := of_decide_eq_true Enx.out
      subst q1 q2
      go_wp2_with fail
      exact ⟨⟨rfl, rfl, rfl, rfl, rfl, rfl, by rw [← Hsb.out]; rfl⟩, hk4⟩
    · have q1 : 0 < on := of_decide_eq_true E0x.out
      have q2 : nn = 0 := of_decide_eq_true Enx.out
      subst q2
      go_wp2_with fail
      exact ⟨⟨rfl, rfl, rfl, rfl, rfl, rfl, by rw [← Hsb.out]; rfl⟩, hk4⟩
  case rest =>
  rintro ⟨z, dfs⟩ W4 ⟨⟨hs, hd, hq4, hq8, hq9, hq12, hq40⟩, hk4⟩
  simp only at hs hd hq4 hq8 hq9 hq12 hq40
  subst hd
  obtain ⟨u, rfl⟩ : ∃ u : Nat → Value, z = (u 0 :: u 1 :: u 2 :: u 3 :: u 4 :: u 5 :: u 6 :: u 7 :: u 8 :: u 9 :: u 10 :: u 11 :: u 12 :: u 13 :: u 14 :: u 15 :: u 16 :: u 17 :: u 18 :: u 19 :: u 20 :: u 21 :: u 22 :: u 23 :: u 24 :: u 25 :: u 26 :: u 27 :: u 28 :: u 29 :: u 30 :: u 31 :: u 32 :: u 33 :: u 34 :: u 35 :: u 36 :: u 37 :: u 38 :: u 39 :: u 40 :: u 41 :: u 42 :: u 43 :: u 44 :: u 45 :: u 46 :: u 47 :: u 48 :: u 49 :: u 50 :: u 51 :: u 52 :: u 53 :: u 54 :: u 55 :: u 56 :: u 57 :: u 58 :: u 59 :: u 60 :: u 61 :: u 62 :: u 63 :: u 64 :: u 65 :: u 66 :: u 67 :: u 68 :: u 69 :: u 70 :: u 71 :: u 72 :: u 73 :: u 74 :: u 75 :: u 76 :: u 77 :: ([] : List Value)).toArray := ⟨fun i => z.getD i undef, range_lit z 78 hs⟩
  have hp4 : u 4 = _ := hq4
  have hp8 : u 8 = _ := hq8
  have hp9 : u 9 = _ := hq9
  have hp12 : u 12 = _ := hq12
  have hp40 : u 40 = _ := hq40
  rw [hp4, hp8, hp9, hp12, hp40]
  clear hp4 hq4 hp8 hq8 hp9 hq9 hp12 hq12 hp40 hq40 hs
  have rB4 := hk4.heap rB3 id
  have rC4 := hk4.heap rC3 id
  have rD4 := hk4.heap rD3 id
  have hN4 := hN3.trans hk4
  have hO4 := HO3.out.new hk4
  have hone4 := cs_one s hO4.one
  clear HO3 HSY HSE rB3 rC3 rD3 hN3 k7 hk4 en' e0 en
  cases sb with
  | false =>
    have hT := HT.out
    rw [if_neg (by simp)] at hT
    cases hT
    simp only [Bool.not_false]
    have kD : W4.cell? ⟨D, 0, none⟩ = some (.slice none 0 0) := cell_of_row _ _ 0 _ _ _ rD4
    have fD := frozen_row (i := 0) rD4
    have hsame : W4.setRow C (s.cs (.slice xa on xc)).toArray = W4 := setRow_same rC4
    go_wp2_with (first | (refine op_value rfl (run_load_row 24 (.tmp 8) rfl C rfl 24 _ (0, 0) _ rC4 Tryd.underlying24 rfl info24) ?_) | (refine op_skip rfl (run_store_row 24 (.tmp 8) (.tmp 41) rfl C rfl 24 (s.cs (.slice xa on xc)) (s.cs (.slice xa on xc)) rfl rC4 info24 rfl hone4) ?_; rw [hsame]))
    have rD5 : (W4.setCell ⟨D, 0, none⟩ (.slice none 0 0)).heap[D]? = some (.cells #[.slice none 0 0] 22 (0, 0)) := setCell_heap rD4 _
    have rC5 := cell_other (T := D) (i := 0) (v := .slice none 0 0) rC4 (show C ≠ D by omega)
    have hlv : (loadVar 22 ⟨D, 0, none⟩).run Tryd.prog (W4.setCell ⟨D, 0, none⟩ (.slice none 0 0)) = .ok (.slice none 0 0) (W4.setCell ⟨D, 0, none⟩ (.slice none 0 0)) := by
      have c' : (W4.setCell ⟨D, 0, none⟩ (.slice none 0 0)).cell? ⟨D, 0, none⟩ = some (.slice none 0 0) := cell_of_row _ _ 0 _ _ _ rD5
      go_simp
    refine marks_none rfl (v := .tuple #[.agg (s.cs (.slice xa on xc)).toArray, .slice none 0 0, .bool false, .bool false]) (results_cctt rfl _ _ C 24 _ (0, 0) _ rfl rC5 Tryd.underlying24 rfl info24 D rfl hlv rfl rfl) ?_
    exact ⟨_, _, rfl, ⟨_, rfl, owB_set hO4 rD4 (by decide)⟩, OwB.none _ _, hN4.setCell (p := ⟨D, 0, none⟩) (.inl (show w.heap.size ≤ D by omega)) _⟩
  | true =>
    have hT := HT.out
    rw [if_pos rfl] at hT
    have HT := Lib.hid hT
    have h12 : s.state = 1 ∨ s.state = 2 := hst12 (by have := Hsb.out; cases b1 <;> simp_all)
    clear hT hone4 Hsb Enx E0x
    simp only [Bool.not_true]
    go_upto_region 5 with fail
    have k7 : W4.cell? ⟨B, 7, none⟩ = some (.slice oa on oc) := cell_of_row _ _ 7 _ _ _ rB4
    go_wp2_with fail
    refine (parted_any oa on oc nn _).mono ?_
    rintro e W5 ⟨rfl, hW5⟩
    obtain ⟨W5', X, N, hW5', hX, hN, rX, rN, hN5, hz5⟩ := pair_rows W4 #[.slice oa on oc] #[.int .i64 nn] 22 3
    rw [hW5'] at hW5
    subst hW5
    rw [hX, hN]
    have hN5w := hN4.trans hN5
    have rB5 := hN5.heap rB4 id
    have rC5 := hN5.heap rC4 id
    have rD5 := hN5.heap rD4 id
    have hO5 := hO4.new hN5
    have hXD : D < X := by have := (Array.getElem?_eq_some_iff.1 rD4).1; omega
    clear hW5' hX hz5 k7 rB4 rC4 rD4 hO4 hN5
    have HR5 := fun W' (hM : Mods (fun b => b = C ∨ b = D) W5' W') => show RdB W' (.slice oa on oc) s.out from RdB.kept0 HR.out ((Mods.ofNew hN5w).trans hM) (fun h0 g hg => by have := RdB.lt HR.out h0 g hg; omega)
    have HR5 := Lib.hid HR5
    have HNL := Lib.hid (show nn ≤ s.out.length by rw [HON.out]; exact hnl)
    have HXL := Lib.hid (show s.out.length ≤ 1000000 by rw [HON.out]; exact hl)
    go_wp2_with fail
    refine wp_rangeE (gf := 86) (lb := #[.pointer (some ⟨X, 0, none⟩), .pointer (some ⟨N, 0, none⟩)]) rfl (enters_of Tryd.func86 (by kernel_rfl) rfl) 2 (ElP w.heap.size s.out nn) (fun b => b = C ∨ b = D)
      (fun W hW => parted1_iter X N w.heap.size s.out nn (.slice oa on oc) HNL.out HXL.out _ (by omega) (by omega) W (cell_of_row _ _ 0 _ _ _ (hW.heap rX id)) (cell_of_row _ _ 0 _ _ _ (hW.heap rN id)) (fun W' hM => HR5.out W' ((Mods.ofNew hW).trans hM)) (Nat.le_trans hN5w.size hW.size))
      (fun k x W hx => by obtain ⟨v, rfl, _⟩ := hx; rfl)
      (fun k x => .ex fun v => .and (.pure _) (Stab.owB _ _ _))
      (fun k W => ((∃ dv, W.heap[D]? = some (.cells #[dv] 22 (0, 0)) ∧ OwB w.heap.size W dv (if k = 0 then [] else s.out.take nn)) ∧ (∃ ox, W.heap[C]? = some (.cells (St.cs { s with out := if k = 2 then s.out.drop nn else s.out } ox).toArray 24 (0, 0)) ∧ OwB w.heap.size W ox (if k = 2 then s.out.drop nn else s.out))) ∧ Mods (fun b => b = C ∨ b = D) W5' W)
      (fun c k W => False)
      (fun k => .and (.and (.ex fun dv => .and (fun _ _ h q => q.block D _ h (.inr rfl)) (Stab.owB _ _ _)) (.ex fun ox => .and (fun _ _ h q => q.block C _ h (.inr rfl)) (Stab.owB _ _ _))) (.mods (Nat.le_refl _)))
      (fun c k => .pure _)
      ⟨⟨⟨_, rD5, OwB.none _ _⟩, ⟨_, rC5, hO5⟩⟩, Mods.refl _ _⟩
      (fun x t => (((t.setIfInBounds 46 (x.getD 0 undef)).setIfInBounds 47 (x.getD 1 undef)).setIfInBounds 13 (x.getD 0 undef)).setIfInBounds 14 (x.getD 1 undef)) ?assign ?body ?done ?stop
    case assign =>
      rintro l k x W K ⟨v, rfl, _⟩ hK
      gi_wp2
      exact hK
    case body =>
      rintro l k x W hk ⟨v, rfl, hOv⟩ _ _ ⟨⟨⟨dv, rDk, hOd⟩, ⟨ox, rCk, hOx⟩⟩, hM⟩
      have hk2 : k = 0 ∨ k = 1 := by omega
      rcases hk2 with rfl | rfl
      · obtain ⟨va, vc, rfl⟩ := hOv.slice
        obtain ⟨vn, hvn⟩ : ∃ x, (partOf s.out nn 0).length = x := ⟨_, rfl⟩
        rw [hvn] at hOv ⊢
        have kD : W.cell? ⟨D, 0, none⟩ = some dv := cell_of_row _ _ 0 _ _ _ rDk
        have fD := frozen_row (i := 0) rDk
        have rD6 : (W.setCell ⟨D, 0, none⟩ (.slice va vn vc)).heap[D]? = some (.cells #[.slice va vn vc] 22 (0, 0)) := setCell_heap rDk _
        have rC6 := cell_other (T := D) (i := 0) (v := .slice va vn vc) rCk (show C ≠ D by omega)
        have hO6 := owB_set (i := 0) (u := .slice va vn vc) hOx rDk (by decide)
        have hO7 := owB_set (i := 0) (u := .slice va vn vc) hOv rDk (by decide)
        have hM6 := hM.setCell (p := ⟨D, 0, none⟩) (.inr (.inr rfl)) (.slice va vn vc)
        have hM7 : Mods (fun b => b = C ∨ b = D) W (W.setCell ⟨D, 0, none⟩ (.slice va vn vc)) := setMods' (.inr rfl)
        clear rCk hOx hOv hOd rDk hM rC5 rD5 rB5 rX rN hO5 hvn
        gi_wp2
        exact ⟨hM7, ⟨⟨_, rD6, hO7⟩, ⟨_, rC6, hO6⟩⟩, hM6⟩
      · obtain ⟨va, vc, rfl⟩ := hOv.slice
        obtain ⟨vn, hvn⟩ : ∃ x, (partOf s.out nn 1).length = x := ⟨_, rfl⟩
        rw [hvn] at hOv ⊢
        have rCk : W.heap[C]? = some (.cells (St.cs s ox).toArray 24 (0, 0)) := rCk
        have kC : W.cell? ⟨C, 7, none⟩ = some ox := cell_of_row _ _ 7 _ _ _ rCk
        have fC := frozen_row (i := 7) rCk
        have rC6 := cell_stored (i := 7) (v := .slice va vn vc) (s' := { s with out := s.out.drop nn }) (ov' := .slice va vn vc) rCk rfl
        have rD6 := cell_other (T := C) (i := 7) (v := .slice va vn vc) rDk (show D ≠ C by omega)
        have hO6 := owB_set (i := 7) (u := .slice va vn vc) hOd rCk (by decide)
        have hO7 := owB_set (i := 7) (u := .slice va vn vc) hOv rCk (by decide)
        have hM6 := hM.setCell (p := ⟨C, 7, none⟩) (.inr (.inl rfl)) (.slice va vn vc)
        have hM7 : Mods (fun b => b = C ∨ b = D) W (W.setCell ⟨C, 7, none⟩ (.slice va vn vc)) := setMods' (.inl rfl)
        clear rCk hOx hOv hOd rDk hM rC5 rD5 rB5 rX rN hO5 hvn
        gi_wp2
        exact ⟨hM7, ⟨⟨_, rD6, hO6⟩, ⟨_, rC6, hO7⟩⟩, hM6⟩
    case stop =>
      rintro c k W hk h
      exact h.elim
    case done =>
      rintro W ⟨⟨⟨dv, rD, hOd⟩, ⟨ox, rC, hOx⟩⟩, hM⟩ hD0
      have hOd : OwB w.heap.size W dv (s.out.take nn) := hOd
      have hOx : OwB w.heap.size W ox (s.out.drop nn) := hOx
      have rC : W.heap[C]? = some (.cells (St.cs { s with out := s.out.drop nn } ox).toArray 24 (0, 0)) := rC
      have rB := hM.heap rB5 (show ¬ (B = C ∨ B = D) by omega)
      have hN6 : New w W := ((Mods.ofNew hN5w).trans hM).new (fun k hk => by omega)
      clear rB5 rC5 rD5 rX rN hO5 hM
      obtain ⟨ta, tc, rfl⟩ := hOx.slice
      obtain ⟨tn, htn⟩ : ∃ x, (s.out.drop nn).length = x := ⟨_, rfl⟩
      rw [htn] at hOx rC HT
      have k2 : W.cell? ⟨C, 2, none⟩ = some (.int .i64 s.send) := cell_of_row _ _ 2 _ _ _ rC
      have f2 := frozen_row (i := 2) rC
      have hwr : IntKind.i64.wrap (s.send - (nn : Int)) = s.send - (nn : Int) := wrap_small hI.1 hI.2
      obtain ⟨Dm, hDm⟩ : ∃ x, W5'.heap.size = x := ⟨_, rfl⟩
      rw [hDm] at hD0 ⊢
      have hwDm : w.heap.size ≤ Dm := by rw [← hDm]; exact hN5w.size
      clear hDm HR5 HNL HXL HR
      have hDmC : Dm ≠ C := by rintro rfl; rw [rC] at hD0; cases hD0
      have rC7 := cell_stored (i := 2) (v := .int .i64 (s.send - (nn : Int))) (s' := { s with out := s.out.drop nn, send := s.send - (nn : Int) }) (ov' := .slice ta tn tc) rC rfl
      have rB7 := cell_other (T := C) (i := 2) (v := .int .i64 (s.send - (nn : Int))) rB (show B ≠ C by omega)
      have rD7 := cell_other (T := C) (i := 2) (v := .int .i64 (s.send - (nn : Int))) rD (show D ≠ C by omega)
      have hD7 := cell_other (T := C) (i := 2) (v := .int .i64 (s.send - (nn : Int))) hD0 hDmC
      have hO7 := owB_set (i := 2) (u := .int .i64 (s.send - (nn : Int))) hOx rC (by decide)
      have hP7 := owB_set (i := 2) (u := .int .i64 (s.send - (nn : Int))) hOd rC (by decide)
      have hN7 := hN6.setCell (p := ⟨C, 2, none⟩) (.inl (show w.heap.size ≤ C by omega)) (.int .i64 (s.send - (nn : Int)))
      go_upto_region 12 with fail
      obtain ⟨W7, hW7⟩ : ∃ V, W.setCell ⟨C, 2, none⟩ (.int .i64 (s.send - (nn : Int))) = V := ⟨_, rfl⟩
      rw [hW7] at rC7 rB7 rD7 hD7 hO7 hP7 hN7 ⊢
      clear hW7 rC rB rD hD0 hOx hOd hN6 k2 f2 hwr hI
      obtain ⟨en6, hen⟩ : ∃ x, s.ends = x := ⟨_, rfl⟩
      have k6 : W7.cell? ⟨B, 6, none⟩ = some (.bool en6) := by rw [← hen]; exact cell_of_row _ _ 6 _ _ _ rB7
      have k78 : W7.cell? ⟨C, 7, none⟩ = some (.slice ta tn tc) := cell_of_row _ _ 7 _ _ _ rC7
      have hT := HT.out
      have Hen := Lib.hid hen
      clear HT hen
      have finish : ∀ {so' : St} {b' : Bool} (t : Array Value), True := fun _ => trivial
      have hways : (en6 = false ∨ (en6 = true ∧ ¬ tn = 0)) ∨ (en6 = true ∧ tn = 0) := by
        by_cases h : tn = 0 <;> cases en6 <;> simp [h]
      rcases hways with hno | ⟨rfl, h0⟩
      · have hq : (s.ends && decide (tn = 0)) = false := by
          rw [Hen.out]
          rcases hno with rfl | ⟨rfl, h⟩
          · rfl
          · rw [decide_eq_false h]; rfl
        rw [hq] at hT
        cases hT
        clear hq
        rcases hno with rfl | ⟨rfl, h0⟩
        · go_upto_region 16 with fail
          refine piece (fun _ a' W' => (a'.tmps.size = 78 ∧ a'.defers = [{ target := .collected Dm, args := #[] }] ∧ a'.tmps.getD 8 undef = .pointer (some ⟨C, 0, none⟩) ∧ a'.tmps.getD 9 undef = .pointer (some ⟨D, 0, none⟩) ∧ a'.tmps.getD 10 undef = .bool false ∧ a'.tmps.getD 11 undef = .bool true) ∧
            (W'.heap[C]? = some (.cells (St.cs { s with out := s.out.drop nn, send := s.send - (nn : Int) } (.slice ta tn tc)).toArray 24 (0, 0)) ∧ W'.heap[D]? = some (.cells #[dv] 22 (0, 0))) ∧ OwB w.heap.size W' (.slice ta tn tc) (s.out.drop nn) ∧ OwB w.heap.size W' dv (s.out.take nn) ∧ W'.heap[Dm]? = some (.deferred (some [])) ∧ Mods (fun b => b = D) W7 W') (fin25 _ rfl _ W7 (so := { s with out := s.out.drop nn, send := s.send - (nn : Int) }) rfl rfl rfl rC7 rD7 hO7 hP7 hD7 (by omega) (by omega)) ?_
          rintro ⟨z, dfs⟩ W8 ⟨⟨hs, hd, hq8, hq9, hq10, hq11⟩, ⟨rC8, rD8⟩, hO8, hP8, hD8, hM8⟩
          simp only at hs hd hq8 hq9 hq10 hq11
          subst hd
          obtain ⟨u', rfl⟩ := lit78 z hs
          have hp8 : u' 8 = _ := hq8
          have hp9 : u' 9 = _ := hq9
          have hp10 : u' 10 = _ := hq10
          have hp11 : u' 11 = _ := hq11
          rw [hp8, hp9, hp10, hp11]
          clear hp8 hp9 hp10 hp11 hq8 hq9 hq10 hq11 hs rC7 rB7 rD7 hO7 hP7 hD7 k6 k78
          go_wp2_with fail
          obtain ⟨da, dc, rfl⟩ := hP8.slice
          obtain ⟨dn, hdn⟩ : ∃ x, (s.out.take nn).length = x := ⟨_, rfl⟩
          rw [hdn] at hP8 rD8
          have rC9 := row_put rC8 hD8 (.deferred none)
          have rD9 := row_put rD8 hD8 (.deferred none)
          have hO9 : OwB w.heap.size (W8.putObj Dm (.deferred none)) (.slice ta tn tc) (s.out.drop nn) := owB_put hO8 hD8 _
          have hP9 : OwB w.heap.size (W8.putObj Dm (.deferred none)) (.slice da dn dc) (s.out.take nn) := owB_put hP8 hD8 _
          have hlv : (loadVar 22 ⟨D, 0, none⟩).run Tryd.prog (W8.putObj Dm (.deferred none)) = .ok (.slice da dn dc) (W8.putObj Dm (.deferred none)) := by
            have c' : (W8.putObj Dm (.deferred none)).cell? ⟨D, 0, none⟩ = some (.slice da dn dc) := cell_of_row _ _ 0 _ _ _ rD9
            go_simp
          refine marks_one rfl hD8 (v := .tuple #[.agg (St.cs ({ s with out := s.out.drop nn, send := s.send - (nn : Int) }) (.slice ta tn tc)).toArray, .slice da dn dc, .bool false, .bool true]) (results_cctt rfl _ _ C 24 _ (0, 0) _ rfl rC9 Tryd.underlying24 rfl info24 D rfl hlv rfl rfl) ?_
          exact ⟨_, _, rfl, ⟨_, rfl, hO9⟩, hP9, (((Mods.ofNew hN7).trans hM8).new (fun k hk => by omega)).putObj hwDm _⟩
        · have h1 : ((tn : Int) == 0) = false := by rw [beq_eq_false_iff_ne]; omega
          go_upto_region 16 with fail
          refine piece (fun _ a' W' => (a'.tmps.size = 78 ∧ a'.defers = [{ target := .collected Dm, args := #[] }] ∧ a'.tmps.getD 8 undef = .pointer (some ⟨C, 0, none⟩) ∧ a'.tmps.getD 9 undef = .pointer (some ⟨D, 0, none⟩) ∧ a'.tmps.getD 10 undef = .bool false ∧ a'.tmps.getD 11 undef = .bool true) ∧
            (W'.heap[C]? = some (.cells (St.cs { s with out := s.out.drop nn, send := s.send - (nn : Int) } (.slice ta tn tc)).toArray 24 (0, 0)) ∧ W'.heap[D]? = some (.cells #[dv] 22 (0, 0))) ∧ OwB w.heap.size W' (.slice ta tn tc) (s.out.drop nn) ∧ OwB w.heap.size W' dv (s.out.take nn) ∧ W'.heap[Dm]? = some (.deferred (some [])) ∧ Mods (fun b => b = D) W7 W') (fin25 _ rfl _ W7 (so := { s with out := s.out.drop nn, send := s.send - (nn : Int) }) rfl rfl rfl rC7 rD7 hO7 hP7 hD7 (by omega) (by omega)) ?_
          rintro ⟨z, dfs⟩ W8 ⟨⟨hs, hd, hq8, hq9, hq10, hq11⟩, ⟨rC8, rD8⟩, hO8, hP8, hD8, hM8⟩
          simp only at hs hd hq8 hq9 hq10 hq11
          subst hd
          obtain ⟨u', rfl⟩ := lit78 z hs
          have hp8 : u' 8 = _ := hq8
          have hp9 : u' 9 = _ := hq9
          have hp10 : u' 10 = _ := hq10
          have hp11 : u' 11 = _ := hq11
          rw [hp8, hp9, hp10, hp11]
          clear hp8 hp9 hp10 hp11 hq8 hq9 hq10 hq11 hs rC7 rB7 rD7 hO7 hP7 hD7 k6 k78
          go_wp2_with fail
          obtain ⟨da, dc, rfl⟩ := hP8.slice
          obtain ⟨dn, hdn⟩ : ∃ x, (s.out.take nn).length = x := ⟨_, rfl⟩
          rw [hdn] at hP8 rD8
          have rC9 := row_put rC8 hD8 (.deferred none)
          have rD9 := row_put rD8 hD8 (.deferred none)
          have hO9 : OwB w.heap.size (W8.putObj Dm (.deferred none)) (.slice ta tn tc) (s.out.drop nn) := owB_put hO8 hD8 _
          have hP9 : OwB w.heap.size (W8.putObj Dm (.deferred none)) (.slice da dn dc) (s.out.take nn) := owB_put hP8 hD8 _
          have hlv : (loadVar 22 ⟨D, 0, none⟩).run Tryd.prog (W8.putObj Dm (.deferred none)) = .ok (.slice da dn dc) (W8.putObj Dm (.deferred none)) := by
            have c' : (W8.putObj Dm (.deferred none)).cell? ⟨D, 0, none⟩ = some (.slice da dn dc) := cell_of_row _ _ 0 _ _ _ rD9
            go_simp
          refine marks_one rfl hD8 (v := .tuple #[.agg (St.cs ({ s with out := s.out.drop nn, send := s.send - (nn : Int) }) (.slice ta tn tc)).toArray, .slice da dn dc, .bool false, .bool true]) (results_cctt rfl _ _ C 24 _ (0, 0) _ rfl rC9 Tryd.underlying24 rfl info24 D rfl hlv rfl rfl) ?_
          exact ⟨_, _, rfl, ⟨_, rfl, hO9⟩, hP9, (((Mods.ofNew hN7).trans hM8).new (fun k hk => by omega)).putObj hwDm _⟩
      · rw [show (s.ends && decide (tn = 0)) = true by rw [Hen.out, decide_eq_true h0]; rfl] at hT
        subst h0
        cases hT
        go_upto_region 14 with fail
        have hm0 := World.alloc_heap_new W7 (.map #[] 0)
        have hNm : New W7 (W7.alloc (.map #[] 0)) := (Mods.refl _ _).alloc _
        obtain ⟨o1, hput1, ho1, hMap1⟩ := (MapFn.made (enc := encU) hm0).put keyU8 Tryd.underlying80 1 (.int .u8 3) rfl
        obtain ⟨o2, hput2, ho2, hMap2⟩ := hMap1.put keyU8 Tryd.underlying80 2 (.int .u8 4) (by simp)
        have hNm2 := (hNm.putObj (Nat.le_refl _) o1).putObj (Nat.le_refl _) o2
        have hmm := @run_makeMap Tryd.prog 80 W7
        obtain ⟨M, hM⟩ : ∃ x, W7.heap.size = x := ⟨_, rfl⟩
        rw [hM] at hput1 hput2 hMap2 hNm2 hmm
        have hput1 : (Instr.mapUpdate 80 (.map (some M)) (.int .u8 1) (.int .u8 3)).run Tryd.prog (W7.alloc (.map #[] 0)) = _ := hput1
        have hput2 : (Instr.mapUpdate 80 (.map (some M)) (.int .u8 2) (.int .u8 4)).run Tryd.prog _ = _ := hput2
        obtain ⟨Wa, hWa⟩ : ∃ V, W7.alloc (.map #[] 0) = V := ⟨_, rfl⟩
        rw [hWa] at hput1 hput2 hMap2 hNm2 hmm
        obtain ⟨Wb, hWb⟩ : ∃ V, Wa.putObj M o1 = V := ⟨_, rfl⟩
        rw [hWb] at hput1 hput2 hMap2 hNm2
        obtain ⟨Wc, hWc⟩ : ∃ V, Wb.putObj M o2 = V := ⟨_, rfl⟩
        rw [hWc] at hput2 hMap2 hNm2
        clear hMap1 hm0 hNm ho1 ho2 hWa hWb hWc
        go_upto_region 15 with fail
        have hMF : MapFn encU Wc M 2 overF := hMap2.congr fun q => by
          unfold overF
          by_cases h2 : q = 2
          · simp [h2]
          · by_cases h1 : q = 1 <;> simp [h1, h2]
        have rC8 := hNm2.heap rC7 id
        have rB8 := hNm2.heap rB7 id
        have rD8 := hNm2.heap rD7 id
        have hD8 := hNm2.heap hD7 id
        have hO8 := hO7.new hNm2
        have hP8 := hP7.new hNm2
        have hN8 := hN7.trans hNm2
        have k1 : Wc.cell? ⟨B, 1, none⟩ = some (.int .u8 s.state) := cell_of_row _ _ 1 _ _ _ rB8
        obtain ⟨st', hst'⟩ : ∃ x : Int, (if s.state = 1 then 3 else 4) = x := ⟨_, rfl⟩
        have hlk0 : ∀ V, MapFn encU V M 2 overF → (Instr.lookup 80 (.map (some M)) (.int .u8 s.state) false).run Tryd.prog V = .ok (.int .u8 st') V := fun V hV => by
          have hlk := hV.look keyU8 Tryd.underlying80 (zero5 V) s.state false
          rw [if_neg (by simp), over_state _ h12, hst'] at hlk
          exact hlk
        clear hput1 hput2 hmm hMap2 rC7 rB7 rD7 hD7 hO7 hP7 hN7 k6 k78
        refine piece (fun _ a' W' => (a'.tmps.size = 78 ∧ a'.defers = [{ target := .collected Dm, args := #[] }] ∧ a'.tmps.getD 8 undef = .pointer (some ⟨C, 0, none⟩) ∧ a'.tmps.getD 9 undef = .pointer (some ⟨D, 0, none⟩) ∧ a'.tmps.getD 10 undef = .bool true) ∧
          W'.heap[C]? = some (.cells (St.cs { s with out := s.out.drop nn, send := s.send - (nn : Int), ends := false, state := st' } (.slice ta 0 tc)).toArray 24 (0, 0)) ∧ W'.heap[D]? = some (.cells #[dv] 22 (0, 0)) ∧ OwB w.heap.size W' (.slice ta 0 tc) (s.out.drop nn) ∧ OwB w.heap.size W' dv (s.out.take nn) ∧ W'.heap[Dm]? = some (.deferred (some [])) ∧ Mods (fun b => b = C) Wc W') ?r15 ?rest15
        case r15 =>
          have hN0 : New Wc Wc.drew := (Mods.refl _ _).drew
          refine wp_region_held (by kernel_rfl) (S := fun V => V.cell? ⟨B, 1, none⟩ = some (.int .u8 s.state) ∧ MapFn encU V M 2 overF) ?_
          show wpAnyH _ _ _ _ _ _ _ _ Wc.drew
          have hS := And.intro (hN0.cell k1 id) (hMF.new hN0)
          have rC8 := hN0.heap rC8 id
          have rD8 := hN0.heap rD8 id
          have hD8 := hN0.heap hD8 id
          have HO8 := Lib.hid (hO8.new hN0)
          have HP8 := Lib.hid (hP8.new hN0)
          have hM8 : Mods (fun b => b = C) Wc Wc.drew := Mods.ofNew hN0
          obtain ⟨Wd, hWd⟩ : ∃ V, Wc.drew = V := ⟨_, rfl⟩
          rw [hWd] at hS rC8 rD8 hD8 HO8 HP8 hM8 ⊢
          clear hWd hN0 hO8 hP8 k1 hMF
          refine anyH_take 0 (some 69) (.map (some M)) rfl rfl (by kernel_rfl) (by kernel_rfl) (by kernel_rfl) (fun _ _ _ h => h.elim) (.inl ⟨by rfl, fun W hW => by go_simp⟩) hS ?_
          simp only [Act.put, List.setIfInBounds_toArray, List.set_cons_succ, List.set_cons_zero]
          refine anyH_take 1 (some 70) (.pointer (some ⟨B, 1, none⟩)) rfl rfl (by kernel_rfl) (by kernel_rfl) (by kernel_rfl) (fun _ _ _ h => h.elim) (.inl ⟨by rfl, fun W hW => by go_simp⟩) hS ?_
          simp only [Act.put, List.setIfInBounds_toArray, List.set_cons_succ, List.set_cons_zero]
          refine anyH_take 2 (some 71) (.int .u8 s.state) rfl rfl (by kernel_rfl) (by kernel_rfl) (by kernel_rfl) (fun _ _ _ h => h.elim) (.inl ⟨by rfl, fun W hW => by have c := hW.1; go_simp⟩) hS ?_
          simp only [Act.put, List.setIfInBounds_toArray, List.set_cons_succ, List.set_cons_zero]
          refine anyH_take 3 (some 72) (.int .u8 st') rfl rfl (by kernel_rfl) (by kernel_rfl) (by kernel_rfl) (fun _ _ _ h => h.elim) (.inl ⟨by rfl, fun W hW => by have c := hlk0 W hW.2; go_simp⟩) hS ?_
          simp only [Act.put, List.setIfInBounds_toArray, List.set_cons_succ, List.set_cons_zero]
          refine anyH_take 4 (some 73) (.pointer (some ⟨C, 6, none⟩)) rfl rfl (by kernel_rfl) (by kernel_rfl) (by kernel_rfl) (fun _ _ _ h => h.elim) (.inl ⟨by rfl, fun W hW => by go_simp⟩) hS ?_
          simp only [Act.put, List.setIfInBounds_toArray, List.set_cons_succ, List.set_cons_zero]
          refine wpAnyH_all (rs := [5]) (by kernel_rfl) (by simp) ?_
          simp only [List.mem_cons, List.not_mem_nil, or_false, forall_eq_or_imp, forall_eq]
          refine opH_skip none rfl (by rfl) rfl (w' := Wd.setCell ⟨C, 6, none⟩ (.bool false)) (by have c : Wd.cell? ⟨C, 6, none⟩ = some (.bool s.ends) := cell_of_row _ _ 6 _ _ _ rC8; have f := frozen_row (i := 6) rC8; go_simp) ?_
          have rC9 := cell_stored (i := 6) (v := .bool false) (s' := { s with out := s.out.drop nn, send := s.send - (nn : Int), ends := false }) (ov' := .slice ta 0 tc) rC8 rfl
          have rD9 := cell_other (T := C) (i := 6) (v := .bool false) rD8 (show D ≠ C by omega)
          have hD9 := cell_other (T := C) (i := 6) (v := .bool false) hD8 hDmC
          have HO9 := Lib.hid (owB_set (i := 6) (u := .bool false) HO8.out rC8 (by decide))
          have HP9 := Lib.hid (owB_set (i := 6) (u := .bool false) HP8.out rC8 (by decide))
          have hM9 := hM8.setCell (p := ⟨C, 6, none⟩) (.inr rfl) (.bool false)
          replace hS := And.intro (Mods.cell (p := ⟨B, 1, none⟩) (setMods' (S := fun b => b = C) (W := Wd) (O := C) (i := 6) (v := .bool false) rfl) hS.1 (show ¬ B = C by omega)) (hS.2.keep fun o ho => cell_other (T := C) (i := 6) (v := .bool false) ho (show M ≠ C by rintro rfl; obtain ⟨es, cc, hmm, _⟩ := hS.2; rw [hmm] at rC8; cases rC8))
          refine ⟨hS, ?_⟩
          simp only [Act.put, List.setIfInBounds_toArray, List.set_cons_succ, List.set_cons_zero]
          refine anyH_take 6 (some 74) (.pointer (some ⟨C, 1, none⟩)) rfl rfl (by kernel_rfl) (by kernel_rfl) (by kernel_rfl) (fun _ _ _ h => h.elim) (.inl ⟨by rfl, fun W hW => by go_simp⟩) hS ?_
          simp only [Act.put, List.setIfInBounds_toArray, List.set_cons_succ, List.set_cons_zero]
          refine wpAnyH_all (rs := [7]) (by kernel_rfl) (by simp) ?_
          simp only [List.mem_cons, List.not_mem_nil, or_false, forall_eq_or_imp, forall_eq]
          refine opH_skip none rfl (by rfl) rfl (w' := (Wd.setCell ⟨C, 6, none⟩ (.bool false)).setCell ⟨C, 1, none⟩ (.int .u8 st')) (by have c : (Wd.setCell ⟨C, 6, none⟩ (.bool false)).cell? ⟨C, 1, none⟩ = some (.int .u8 s.state) := cell_of_row _ _ 1 _ _ _ rC9; have f := frozen_row (i := 1) rC9; go_simp) ?_
          have rC10 := cell_stored (i := 1) (v := .int .u8 st') (s' := { s with out := s.out.drop nn, send := s.send - (nn : Int), ends := false, state := st' }) (ov' := .slice ta 0 tc) rC9 rfl
          have rD10 := cell_other (T := C) (i := 1) (v := .int .u8 st') rD9 (show D ≠ C by omega)
          have hD10 := cell_other (T := C) (i := 1) (v := .int .u8 st') hD9 hDmC
          have HO10 := Lib.hid (owB_set (i := 1) (u := .int .u8 st') HO9.out rC9 (by decide))
          have HP10 := Lib.hid (owB_set (i := 1) (u := .int .u8 st') HP9.out rC9 (by decide))
          have hM10 := hM9.setCell (p := ⟨C, 1, none⟩) (.inr rfl) (.int .u8 st')
          replace hS := And.intro (Mods.cell (p := ⟨B, 1, none⟩) (setMods' (S := fun b => b = C) (W := (Wd.setCell ⟨C, 6, none⟩ (.bool false))) (O := C) (i := 1) (v := .int .u8 st') rfl) hS.1 (show ¬ B = C by omega)) (hS.2.keep fun o ho => cell_other (T := C) (i := 1) (v := .int .u8 st') ho (show M ≠ C by rintro rfl; obtain ⟨es, cc, hmm, _⟩ := hS.2; rw [hmm] at rC9; cases rC9))
          refine ⟨hS, ?_⟩
          simp only [Act.put, List.setIfInBounds_toArray, List.set_cons_succ, List.set_cons_zero]
          refine wpAnyH_done (by kernel_rfl) ?_ _
          exact ⟨⟨rfl, rfl, rfl, rfl, rfl⟩, rC10, rD10, HO10.out, HP10.out, hD10, hM10⟩
        case rest15 =>
          rintro ⟨z, dfs⟩ W9 ⟨⟨hs, hd, hq8, hq9, hq10⟩, rC9, rD9, hO9, hP9, hD9, hM9⟩
          simp only at hs hd hq8 hq9 hq10
          subst hd
          obtain ⟨u', rfl⟩ := lit78 z hs
          have hp8 : u' 8 = _ := hq8
          have hp9 : u' 9 = _ := hq9
          have hp10 : u' 10 = _ := hq10
          rw [hp8, hp9, hp10]
          clear hp8 hp9 hp10 hq8 hq9 hq10 hs rC8 rB8 rD8 hO8 hP8 hD8 k1 hMF hlk0
          have hN9 : New w W9 := ((Mods.ofNew hN8).trans hM9).new (fun k hk => by omega)
          go_upto_region 16 with fail
          refine piece (fun _ a' W' => (a'.tmps.size = 78 ∧ a'.defers = [{ target := .collected Dm, args := #[] }] ∧ a'.tmps.getD 8 undef = .pointer (some ⟨C, 0, none⟩) ∧ a'.tmps.getD 9 undef = .pointer (some ⟨D, 0, none⟩) ∧ a'.tmps.getD 10 undef = .bool true ∧ a'.tmps.getD 11 undef = .bool true) ∧
            (W'.heap[C]? = some (.cells (St.cs { s with out := s.out.drop nn, send := s.send - (nn : Int), ends := false, state := st' } (.slice ta 0 tc)).toArray 24 (0, 0)) ∧ W'.heap[D]? = some (.cells #[dv] 22 (0, 0))) ∧ OwB w.heap.size W' (.slice ta 0 tc) (s.out.drop nn) ∧ OwB w.heap.size W' dv (s.out.take nn) ∧ W'.heap[Dm]? = some (.deferred (some [])) ∧ Mods (fun b => b = D) W9 W') (fin25 _ rfl _ W9 (so := { s with out := s.out.drop nn, send := s.send - (nn : Int), ends := false, state := st' }) rfl rfl rfl rC9 rD9 hO9 hP9 hD9 (by omega) (by omega)) ?_
          rintro ⟨z, dfs⟩ W8 ⟨⟨hs, hd, hq8, hq9, hq10, hq11⟩, ⟨rC8, rD8⟩, hO8, hP8, hD8, hM8⟩
          simp only at hs hd hq8 hq9 hq10 hq11
          subst hd
          obtain ⟨u2, rfl⟩ := lit78 z hs
          have hp8 : u2 8 = _ := hq8
          have hp9 : u2 9 = _ := hq9
          have hp10 : u2 10 = _ := hq10
          have hp11 : u2 11 = _ := hq11
          rw [hp8, hp9, hp10, hp11]
          clear hp8 hp9 hp10 hp11 hq8 hq9 hq10 hq11 hs rC9 rD9 hO9 hP9 hD9
          go_wp2_with fail
          obtain ⟨da, dc, rfl⟩ := hP8.slice
          obtain ⟨dn, hdn⟩ : ∃ x, (s.out.take nn).length = x := ⟨_, rfl⟩
          rw [hdn] at hP8 rD8
          have rC9 := row_put rC8 hD8 (.deferred none)
          have rD9 := row_put rD8 hD8 (.deferred none)
          have hO9 : OwB w.heap.size (W8.putObj Dm (.deferred none)) (.slice ta 0 tc) (s.out.drop nn) := owB_put hO8 hD8 _
          have hP9 : OwB w.heap.size (W8.putObj Dm (.deferred none)) (.slice da dn dc) (s.out.take nn) := owB_put hP8 hD8 _
          have hlv : (loadVar 22 ⟨D, 0, none⟩).run Tryd.prog (W8.putObj Dm (.deferred none)) = .ok (.slice da dn dc) (W8.putObj Dm (.deferred none)) := by
            have c' : (W8.putObj Dm (.deferred none)).cell? ⟨D, 0, none⟩ = some (.slice da dn dc) := cell_of_row _ _ 0 _ _ _ rD9
            go_simp
          subst hst'
          refine marks_one rfl hD8 (v := .tuple #[.agg (St.cs ({ s with out := s.out.drop nn, send := s.send - (nn : Int), ends := false, state := (if s.state = 1 then 3 else 4) }) (.slice ta 0 tc)).toArray, .slice da dn dc, .bool true, .bool true]) (results_cctt rfl _ _ C 24 _ (0, 0) _ rfl rC9 Tryd.underlying24 rfl info24 D rfl hlv rfl rfl) ?_
          exact ⟨_, _, rfl, ⟨_, rfl, hO9⟩, hP9, (((Mods.ofNew hN9).trans hM8).new (fun k hk => by omega)).putObj hwDm _⟩
end Go.Proofs.YtkjghojdfjhhkaaDoor
