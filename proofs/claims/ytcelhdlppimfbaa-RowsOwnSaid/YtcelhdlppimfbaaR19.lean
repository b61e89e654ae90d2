/- The document's own Copy. -/
import Derived.Test.YtcelhdlppimfbaaR16
namespace Go.Proofs.Ytcelhdlppimfbaa
open Go.RowKit Go.Shelf Go.Cs
attribute [local go_sem] Oper.semAt_some
/-- What is appended to an empty row of the call's own. -/
theorem append_to (base : Nat) (v : Value) (L : List Int) (W : World) (h : ReadsI .i64 W v L) (hL : L.length ≤ 1000000) {v0 : Value} {L0 : List Int} (hown : W.ownsRow base 3 1 v0 L0.length (L0.map (Value.int .i64))) (hL0 : L0.length ≤ 1000000) (hb : base ≤ W.heap.size) :
    ∃ v' W', (Builtin.append_ #[22, 22] 22 #[v0, v]).run Try.prog W = .ok v' W' ∧ W'.ownsRow base 3 1 v' (L0.length + L.length) ((L0 ++ L).map (Value.int .i64)) ∧ W.grownBy W' v0.ownBlock := by
  obtain ⟨i0, hi, hz0, hz1, hz2⟩ := info_parts info3
  obtain ⟨_, ao, cap, rfl, hc⟩ := h
  cases ao with
  | none =>
    obtain rfl : L = [] := by
      cases L with
      | nil => rfl
      | cons a l => obtain ⟨b, o, e, _⟩ := hc 0 (by simp); cases e
    refine ⟨v0, W, ?_, by simpa using hown, World.grownBy.refl W _⟩
    rcases hown.2 with ⟨rfl, h0⟩ | ⟨g, cap', cur, rfl, _, _, hnc, _⟩
    · simp [Builtin.append_, run_underlying Try.underlying22, sizeOf, typeInfo, hi, Builtin.lenOf, Builtin.firstCells]
    · simp [Builtin.append_, run_underlying Try.underlying22, sizeOf, typeInfo, hi, Builtin.lenOf, Builtin.firstCells, hnc, storeCells]
  | some a =>
    have c1 : ∀ j u, (L.map (Value.int .i64))[j]? = some u → W.cell? (a.add j) = some u := fun j u hu => by
      have hj : j < L.length := by have := (List.getElem?_eq_some_iff.1 hu).1; simpa using this
      obtain ⟨b, o, e, hcell⟩ := hc j hj
      simp only [Option.some.injEq] at e
      subst e
      rw [Addr.add_lit, hcell]
      rw [← hu]
      simp [List.getD, hj]
    have c2 : ∀ u ∈ L.map (Value.int .i64), u.oneCell' = true := fun u hu => by
      obtain ⟨n, _, rfl⟩ := List.mem_map.1 hu
      simp [Value.oneCell']
    obtain ⟨v', w', hr, h2, h3, _⟩ := run_append_own (P := Try.prog) W base 22 22 3 i0 _ 1 8 Try.underlying22 hi hz0 hz1 hz2 rfl (by decide) v0 L0.length _ hown a L.length cap (L.map (Value.int .i64)) (by simp) c1 c2 (by unfold maxLen; omega) (by omega) hb
    exact ⟨v', w', hr, by rw [List.map_append]; exact h2, h3⟩
theorem run_op_append {o : Oper} {a : Act} {w w' : World} {s x : Operand} {v0 v v' : Value} (ho : o.op = .call { callee := .builtin .append, args := #[s, x], argTypes := #[22, 22] }) (ht : o.type = 22) (hs : a.eval s = v0) (hx : a.eval x = v)
    (hr : (Builtin.append_ #[22, 22] 22 #[v0, v]).run Try.prog w = .ok v' w') : (execOp a.eval o).run Try.prog w = .ok (.value v') w' := by
  unfold execOp
  simp only [ho, ht, resolve, invoke, builtin, Sem.run_bind, Sem.run_pure, Result.andThen_ok, List.map_toArray, List.map_cons, List.map_nil, hs, hx, hr]
set_option maxHeartbeats 1000000 in
theorem copy_any (vs : List Value) (hl : vs.length = 8) (X : Nat → List Int) (w : World) (hr : Rd w vs X) (hX : ∀ u, u < 8 → (X u).length ≤ 1000000) :
    Calls Try.prog 17 #[.agg vs.toArray] w fun e w' => ∃ ws, e = .returned (.agg ws.toArray) ∧ ws.length = 8 ∧ OwnTo w.heap.size ws X 8 w' ∧ New w w' := by
  have Hl := Lib.hid hl
  have HX := Lib.hid hX
  clear hl hX
  obtain ⟨i0, hi, hz0, hz1, hz2⟩ := info_parts info3
  have hh0 : ((w.alloc (.cells vs.toArray 23)).alloc (.cells nil8.toArray 23)).heap[w.heap.size]? = some (.cells vs.toArray 23 (0, 0)) := ((Mods.refl (fun _ => False) _).alloc _).heap (World.alloc_heap_new w _) id
  go_enter Try.func17, Try.ntmps17
  go_wp2_with fail
  obtain ⟨W0, hW0⟩ : ∃ W0, (w.alloc (.cells vs.toArray 23)).alloc (.cells nil8.toArray 23) = W0 := ⟨_, rfl⟩
  have hN0 : New w W0 := by rw [← hW0]; exact ((Mods.refl _ _).alloc _).alloc _
  have hsz : W0.heap.size = w.heap.size + 2 := by rw [← hW0]; simp
  have hb1 : W0.heap[w.heap.size + 1]? = some (.cells nil8.toArray 23 (0, 0)) := by rw [← hW0]; have := World.alloc_heap_new (w.alloc (.cells vs.toArray 23)) (.cells nil8.toArray 23); rwa [World.size_alloc] at this
  unfold nil8 at hW0
  rw [hW0] at ⊢
  rw [show ((w.alloc (.cells vs.toArray 23)).alloc (.cells nil8.toArray 23)) = W0 from hW0] at hh0
  have hr0 := hr.new hN0
  have HN0 := Lib.hid hN0
  have Hb1 := Lib.hid hb1
  have Hh0 := Lib.hid hh0
  have HS : Hid (W0.heap.size = w.heap.size + 2) := Lib.hid hsz
  have Hr0 := Lib.hid hr0
  clear hW0 hN0 hb1 hh0 hsz hr0
  go_loopw [3] (fun c wr => ∃ u : Nat, u ≤ 8 ∧ c = .int .i64 u ∧ ∃ ws : List Value, ws.length = 8 ∧ wr.heap[w.heap.size]? = some (.cells ws.toArray 23 (0, 0)) ∧ OwnTo W0.heap.size ws X u wr ∧ Mods (fun b => b = w.heap.size) W0 wr ∧ ∀ i, u ≤ i → ws.getD i undef = vs.getD i undef) (fun c _ => 8 - (intOf c).toNat)
  case atStart => exact ⟨0, by omega, rfl, vs, Hl.out, Hh0.out, ⟨fun i hi => by omega, fun i j g hi => by omega⟩, Mods.refl _ _, fun _ _ => rfl⟩
  case round =>
    obtain ⟨u, hu, rfl, ws, hwl, hh, hO, hM, hsame⟩ := hrel
    have Hwl := Lib.hid hwl
    have HO := Lib.hid hO
    have Hsame := Lib.hid hsame
    clear hwl hO hsame
    by_cases hu8 : u < 8
    · have hrd := Rd.kept Hr0.out hM (fun i hi hx g hg e => by have := hr.block hi hx hg; omega) u hu8
      have hce : wr.cell? ⟨w.heap.size, u, none⟩ = some (vs.getD u undef) := by rw [cell_of_row wr w.heap.size u ws.toArray 23 (0, 0) hh, ← Hsame.out u (Nat.le_refl _)]; have := Hwl.out; simp [List.getD, show u < ws.length by omega]
      obtain ⟨v, hv⟩ : ∃ v, vs.getD u undef = v := ⟨_, rfl⟩
      rw [hv] at hce hrd
      have hud : decide ((u : Int) < 8) = true := by simp; omega
      obtain ⟨W1, hW1⟩ : ∃ W1, wr.alloc (.cells #[] 3) = W1 := ⟨_, rfl⟩
      have hN1 : New wr W1 := by rw [← hW1]; exact (Mods.refl _ _).alloc _
      have hown1 : W1.ownsRow wr.heap.size 3 1 (.slice (some ⟨wr.heap.size, 0, none⟩) 0 0) 0 [] := by rw [← hW1]; exact World.ownsRow_lit wr #[] 0 (Nat.le_refl _) (by unfold maxLen; omega) rfl
      have hrd1 := hrd.new hN1
      have HA := Lib.hid (append_to _ v (X u) W1 hrd1 (HX.out u hu8) (L0 := []) hown1 (by simp) (by have := hN1.size; omega))
      have hce1 := hN1.cell hce id
      have hN1 := Lib.hid hN1
      have hlt1 : wr.heap.size < W1.heap.size := by rw [← hW1]; simp
      rw [← hW1] at hce1
      have HW1 := Lib.hid hW1
      clear hv hrd hrd1 hown1 hW1
      obtain ⟨v', W2, hrun, hown, hg⟩ := HA.out
      rw [← HW1.out] at hrun
      have hN2 : New wr W2 := hN1.out.grown hg (fun k hk => by simp [Value.ownBlock] at hk; exact .inl (by omega))
      have hown : W2.ownsRow wr.heap.size 3 1 v' (X u).length ((X u).map (Value.int .i64)) := by simpa using hown
      have hh1 := hN2.heap hh id
      have hcell := cell_of_row W2 w.heap.size u ws.toArray 23 (0, 0) hh1
      have hce2 : W2.cell? ⟨w.heap.size, u, none⟩ = some (ws.getD u undef) := by rw [hcell]; have := Hwl.out; simp [List.getD, show u < ws.length by omega]
      have hfr : W2.frozen? ⟨w.heap.size, u, none⟩ = false := by simp [World.frozen?, hh1]
      have hsz := hM.size
      have HO2 := Lib.hid (HO.out.push (B := w.heap.size) Hwl.out hu8 hN2 hown hsz (by have := HS.out; omega))
      have HH2 := Lib.hid (heap_setCell_same W2 w.heap.size u ws.toArray 23 v' hh1)
      have HM2 : Hid (Mods (fun b => b = w.heap.size) W0 (W2.setCell ⟨w.heap.size, u, none⟩ v')) := Lib.hid (mset (hM.trans (Mods.ofNew hN2)) v')
      have HS2 : Hid (∀ i, u + 1 ≤ i → (ws.set u v').getD i undef = vs.getD i undef) := Lib.hid (fun i hi => by rw [← Hsame.out i (by omega)]; simp [List.getD, show u ≠ i by omega])
      obtain ⟨ao, cap, rfl⟩ := owns_slice hown
      obtain ⟨oldv, hold⟩ : ∃ o, ws.getD u undef = o := ⟨_, rfl⟩
      rw [hold] at hce2
      have Hrun := Lib.hid hrun
      clear hrun hg hown HA hcell hold hN2 hh1 hsz hM hh HO Hsame
      go_wp2_with (refine op_value rfl (run_op_append rfl rfl rfl rfl Hrun.out) ?_)
      go_roundw
      case rel => exact ⟨u + 1, by omega, by go_num, ws.set u _, by rw [List.length_set]; exact Hwl.out, by rw [HH2.out]; simp, HO2.out, HM2.out, HS2.out⟩
      case measure => simp [intOf]; omega
    · obtain rfl : u = 8 := by omega
      have hi' : Hid ((Try.prog.info? 23).map (·.size) = some ws.toArray.size) := Lib.hid (by rw [List.size_toArray, Hwl.out]; exact info23)
      have hb1 := hM.heap Hb1.out (by omega)
      have hM2 : Mods (fun b => b = w.heap.size) W0 wr := hM
      go_wp2_with (first | (refine op_value rfl (run_load_row 23 (.tmp 1) rfl w.heap.size rfl 23 ws.toArray (0, 0) _ hh Try.underlying23 rfl hi'.out) ?_) | (refine op_skip rfl (run_store_row 23 (.tmp 2) (.tmp 15) rfl (w.heap.size + 1) rfl 23 nil8 ws rfl hb1 (by rw [Hwl.out]; exact info23) (by rw [Hwl.out]; rfl) (HO.out.one Hwl.out)) ?_))
      have hres := setRow_heap wr (w.heap.size + 1) nil8.toArray ws.toArray 23 (0, 0) hb1
      have hMr : Mods (fun b => b = w.heap.size ∨ b = w.heap.size + 1) W0 (wr.setRow (w.heap.size + 1) ws.toArray) := mrow (hM2.mono fun _ h => .inl h) (.inr (.inr rfl)) _ (fun o ho => by rw [hb1] at ho; cases ho; rfl)
      have hMo : Mods (fun b => b = w.heap.size + 1) wr (wr.setRow (w.heap.size + 1) ws.toArray) := mrow (S := fun b => b = w.heap.size + 1) (Mods.refl _ _) (.inr rfl) _ (fun o ho => by rw [hb1] at ho; cases ho; rfl)
      refine bodyPost_ret (v := .agg ws.toArray) (results_cell_row rfl _ _ (w.heap.size + 1) 23 ws.toArray (0, 0) _ rfl hres Try.underlying23 rfl hi'.out) rfl ⟨ws, rfl, Hwl.out, ?_, ((Mods.ofNew HN0.out).trans hMr).new (by omega)⟩
      have hS := HS.out
      exact ((HO.out.kept hMo (fun g hg e => by omega)).base_le (by omega))
end Go.Proofs.Ytcelhdlppimfbaa
