/- The items that count, one by one (the program). -/
import Derived.Test.YtkiiameibdhdfaaGreatDoorM07
import Derived.Test.YtkiiameibdhdfaaGreatDoorM15
import Derived.Test.YtkiiameibdhdfaaGreatDoorM12
import Derived.ScopeJumps
import Derived.Lib.SlBytesRow
set_option linter.unusedSimpArgs false
set_option linter.unusedVariables false
namespace Go.Proofs.YtkiiameibdhdfaaGreatDoor
open Go.RowKit Go.Shelf Go.Cs
attribute [local go_sem] Oper.semAt_some
set_option linter.unusedVariables false
set_option linter.unusedSimpArgs false
def kc (i : Nat) : Nat := if i = 0 then 117 else 105
def kb (i : Nat) : Bare.Bs := if i = 0 then [117] else [105]
def heardG (d : List Bare.Mem) (i : Nat) : Option (Array Value) := (Bare.heard d (kb i)).map fun b => #[k1 .u8 (kc i), bv b]
def heardL (d : List Bare.Mem) (n : Nat) : List (Array Value) := (List.range n).filterMap (heardG d)
theorem heardL_succ (d : List Bare.Mem) (n : Nat) : heardL d (n + 1) = heardL d n ++ (heardG d n).toList := by
  unfold heardL
  rw [List.range_succ, List.filterMap_append]
  cases h : heardG d n <;> simp [h]
theorem heardL_len (d : List Bare.Mem) {i j : Nat} (h : i ≤ j) : (heardL d i).length ≤ (heardL d j).length := by
  obtain ⟨k, rfl⟩ : ∃ k, j = i + k := ⟨j - i, by omega⟩
  clear h
  induction k with
  | zero => exact Nat.le_refl _
  | succ k ih =>
    rw [show i + (k + 1) = (i + k) + 1 by omega, heardL_succ, List.length_append]
    omega
theorem heardL_get (d : List Bare.Mem) {i j : Nat} {x : Array Value} (h : i < j) (hx : heardG d i = some x) : (heardL d j)[(heardL d i).length]? = some x := by
  obtain ⟨k, rfl⟩ : ∃ k, j = (i + 1) + k := ⟨j - (i + 1), by omega⟩
  clear h
  induction k with
  | zero => rw [Nat.add_zero, heardL_succ, hx]; simp
  | succ k ih =>
    rw [show i + 1 + (k + 1) = (i + 1 + k) + 1 by omega, heardL_succ, List.getElem?_append_left (List.getElem?_eq_some_iff.1 ih).1]
    exact ih
theorem heard_any (v : Value) (hv : ∃ a n c, v = .slice a n c) (w : World) : Calls Tryz.prog 87 #[v] w fun e w' => e = .returned (.func (.func 135) #[] #[.pointer (some ⟨w.heap.size, 0, none⟩)]) ∧ w.alloc (.cells #[v] 51) = w' := by
  obtain ⟨a, n, c, rfl⟩ := hv
  go_enter Tryz.func87, Tryz.ntmps87
  go_wp2
  go_ret
  exact ⟨rfl, rfl⟩
theorem run_conv1 (W : World) (C : Nat) (c : UInt8) (cap : Nat) (h : W.cell? ⟨C, 0, none⟩ = some (.int .u8 (c.toNat : Nat))) :
    (convert 113 9 (.slice (some ⟨C, 0, none⟩) 1 cap)).run Tryz.prog W = .ok (.string (tx [c])) W :=
  Lib.run_convert_whole (P := Tryz.prog) W 113 5 9 (by kernel_rfl) (by kernel_rfl) (by kernel_rfl) C 0 (tx [c]) (fun i hi => by
    rw [tx_size] at hi
    have hi : i < 1 := hi
    obtain rfl : i = 0 := by omega
    exact h) cap
theorem OwnM.new {base : Nat} {W W' : World} {v : Value} {m : Bare.Mem} (h : OwnM base W v m) (hN : New W W') : OwnM base W' v m := h.mods hN fun _ h => h.elim
theorem sizeK1 : (Tryz.prog.info? 128).map (·.size) = some 1 := by kernel_rfl
theorem lit44 (t : Array Value) (h : t.size = 44) : ∃ u : Nat → Value, t = (u 0 :: u 1 :: u 2 :: u 3 :: u 4 :: u 5 :: u 6 :: u 7 :: u 8 :: u 9 :: u 10 :: u 11 :: u 12 :: u 13 :: u 14 :: u 15 :: u 16 :: u 17 :: u 18 :: u 19 :: u 20 :: u 21 :: u 22 :: u 23 :: u 24 :: u 25 :: u 26 :: u 27 :: u 28 :: u 29 :: u 30 :: u 31 :: u 32 :: u 33 :: u 34 :: u 35 :: u 36 :: u 37 :: u 38 :: u 39 :: u 40 :: u 41 :: u 42 :: u 43 :: ([] : List Value)).toArray := ⟨fun i => t.getD i undef, range_lit t 44 h⟩
noncomputable def reg_urgent_heard_1_3 : Code := ((Tryz.f135.body.bind (regionOf 3)).getD .skip)
set_option maxHeartbeats 4000000 in
set_option maxRecDepth 100000 in
theorem heard3 (t : Array Value) (hs : t.size = 44) (w : World) {B C : Nat} {c : UInt8} {b : Bool} {v : Value} {m : Bare.Mem} {x0 x2 x3 x7 x8 x9 x10 x11 : Value}
    (hq1 : t.getD 1 undef = .pointer (some ⟨B, 0, none⟩))
    (hq4 : t.getD 4 undef = .pointer (some ⟨C, 0, none⟩))
    (hq0 : t.getD 0 undef = x0)
    (hq2 : t.getD 2 undef = x2)
    (hq3 : t.getD 3 undef = x3)
    (hq7 : t.getD 7 undef = x7)
    (hq8 : t.getD 8 undef = x8)
    (hq9 : t.getD 9 undef = x9)
    (hq10 : t.getD 10 undef = x10)
    (hq11 : t.getD 11 undef = x11)
    (hB : Boxed w B 51 v) (hc : w.cell? ⟨C, 0, none⟩ = some (.int .u8 (c.toNat : Nat)))
    (HF : Hid (∀ W, New w W → Calls Tryz.prog 35 #[v, .string (tx [c])] W fun e w' => ∃ v', e = .returned (.tuple #[v', .bool b]) ∧ OwnM W.heap.size w' v' m ∧ New W w')) :
    reg_urgent_heard_1_3.wp Tryz.prog (Only fun a' W' => ∃ b5 iv pv, (a'.tmps.size = 44 ∧ a'.defers = [] ∧ a'.tmps.getD 1 undef = .pointer (some ⟨B, 0, none⟩) ∧ a'.tmps.getD 4 undef = .pointer (some ⟨C, 0, none⟩) ∧ a'.tmps.getD 0 undef = x0 ∧ a'.tmps.getD 2 undef = x2 ∧ a'.tmps.getD 3 undef = x3 ∧ a'.tmps.getD 7 undef = x7 ∧ a'.tmps.getD 8 undef = x8 ∧ a'.tmps.getD 9 undef = x9 ∧ a'.tmps.getD 10 undef = x10 ∧ a'.tmps.getD 11 undef = x11 ∧ a'.tmps.getD 5 undef = .pointer (some ⟨b5, 0, none⟩) ∧ a'.tmps.getD 6 undef = .bool b) ∧ W'.heap[b5]? = some (.cells (mcs m iv pv).toArray 64 (0, 0)) ∧ w.heap.size ≤ b5 ∧ OwnM w.heap.size W' (.agg (mcs m iv pv).toArray) m ∧ New w W') ⟨t, []⟩ w := by
  conv => arg 2; whnf
  obtain ⟨u, rfl⟩ := lit44 t hs
  have hq1 : u 1 = .pointer (some ⟨B, 0, none⟩) := hq1
  have hq4 : u 4 = .pointer (some ⟨C, 0, none⟩) := hq4
  have hq0 : u 0 = x0 := hq0
  have hq2 : u 2 = x2 := hq2
  have hq3 : u 3 = x3 := hq3
  have hq7 : u 7 = x7 := hq7
  have hq8 : u 8 = x8 := hq8
  have hq9 : u 9 = x9 := hq9
  have hq10 : u 10 = x10 := hq10
  have hq11 : u 11 = x11 := hq11
  rw [hq1, hq4, hq0, hq2, hq3, hq7, hq8, hq9, hq10, hq11]
  clear hq1 hq4 hq0 hq2 hq3 hq7 hq8 hq9 hq10 hq11 hs
  have hN : New w w.drew := (Mods.refl _ _).drew
  have hS : New w w.drew := hN
  refine wp_region_held (S := fun W => New w W) (by kernel_rfl) ?_
  show wpAnyH _ _ _ _ _ 10 _ _ w.drew
  refine anyH_take 0 (some 16) (v) rfl rfl (by kernel_rfl) (by kernel_rfl) (by kernel_rfl) (fun _ _ _ h => h.elim) (.inl ⟨by rfl, fun W hW => by have q := ((show New w W from hW).boxed hB id).cell; go_simp⟩) hS ?_
  simp only [Act.put, List.setIfInBounds_toArray, List.set_cons_succ, List.set_cons_zero]
  refine anyH_take 1 (some 17) (.slice (some ⟨C, 0, none⟩) 1 1) rfl rfl (by kernel_rfl) (by kernel_rfl) (by kernel_rfl) (fun _ _ _ h => h.elim) (.inl ⟨by rfl, fun W hW => by go_simp⟩) hS ?_
  simp only [Act.put, List.setIfInBounds_toArray, List.set_cons_succ, List.set_cons_zero]
  refine anyH_take 2 (some 18) (.string (tx [c])) rfl rfl (by kernel_rfl) (by kernel_rfl) (by kernel_rfl) (fun _ _ _ h => h.elim) (.inl ⟨by rfl, fun W hW => by have q := (show New w W from hW).cell hc id; have q2 := run_conv1 W C c 1 q; go_simp⟩) hS ?_
  simp only [Act.put, List.setIfInBounds_toArray, List.set_cons_succ, List.set_cons_zero]
  refine wpAnyH_all (rs := [3, 7]) (by kernel_rfl) (by simp) ?_
  intro i hi
  simp only [List.mem_cons, List.not_mem_nil, or_false] at hi
  rcases hi with rfl | rfl
  · refine opH_call (some 19) rfl (by rfl) rfl 35 #[v, .string (tx [c])] (by go_simp) ((HF.out _ hN).mono ?_)
    rintro e w2 ⟨v', rfl, hov, hk⟩
    obtain ⟨ja, qa, jc, qc, ip', rfl, hov1, hov2, hov3⟩ := hov
    have hone := mcs_one (tx m.key) m.inner ja qa m.items.length jc m.params.length qc
    have hN := hN.trans hk
    have hS : New w w2 := hN
    refine ⟨_, rfl, hS, ?_⟩
    simp only [Act.put, List.setIfInBounds_toArray, List.set_cons_succ, List.set_cons_zero]
    refine anyH_take 4 (some 15) (.tuple #[.agg (mcs m (.slice ja m.items.length jc) (.slice qa m.params.length qc)).toArray, .bool b]) rfl rfl (by kernel_rfl) (by kernel_rfl) (by kernel_rfl) (fun _ _ _ h => h.elim) (.inl ⟨by rfl, fun W hW => by go_simp⟩) hS ?_
    simp only [Act.put, List.setIfInBounds_toArray, List.set_cons_succ, List.set_cons_zero]
    refine anyH_take 5 (some 20) (.agg (mcs m (.slice ja m.items.length jc) (.slice qa m.params.length qc)).toArray) rfl rfl (by kernel_rfl) (by kernel_rfl) (by kernel_rfl) (fun _ _ _ h => h.elim) (.inl ⟨by rfl, fun W hW => by go_simp⟩) hS ?_
    simp only [Act.put, List.setIfInBounds_toArray, List.set_cons_succ, List.set_cons_zero]
    refine anyH_take 6 (some 21) (.bool b) rfl rfl (by kernel_rfl) (by kernel_rfl) (by kernel_rfl) (fun _ _ _ h => h.elim) (.inl ⟨by rfl, fun W hW => by go_simp⟩) hS ?_
    simp only [Act.put, List.setIfInBounds_toArray, List.set_cons_succ, List.set_cons_zero]
    refine wpAnyH_all (rs := [7]) (by kernel_rfl) (by simp) ?_
    simp only [List.mem_cons, List.not_mem_nil, or_false, forall_eq]
    have hs2 : w.heap.size ≤ w2.heap.size := hN.size
    refine opH_value (some 5) (v := .pointer (some ⟨w2.heap.size, 0, none⟩)) (w' := w2.alloc (.cells #[.string ⟨#[]⟩, .bool false, .slice none 0 0, .slice none 0 0] 64)) rfl (by rfl) rfl (by go_simp) ?_
    have r5 := World.alloc_heap_new w2 (.cells #[.string ⟨#[]⟩, .bool false, .slice none 0 0, .slice none 0 0] 64)
    have hA : New w2 (w2.alloc (.cells #[.string ⟨#[]⟩, .bool false, .slice none 0 0, .slice none 0 0] 64)) := (Mods.refl _ _).alloc _
    obtain ⟨w3, hw3⟩ : ∃ W, w2.alloc (.cells #[.string ⟨#[]⟩, .bool false, .slice none 0 0, .slice none 0 0] 64) = W := ⟨_, rfl⟩
    rw [hw3] at r5 hA ⊢
    obtain ⟨b5, hb5⟩ : ∃ b, w2.heap.size = b := ⟨_, rfl⟩
    have hbz : w.heap.size ≤ b5 := by rw [← hb5]; exact hs2
    have hb2 : w2.heap.size ≤ b5 := by omega
    rw [hb5] at r5 ⊢
    clear hw3 hb5
    have hN := hN.trans hA
    have hS : New w w3 := hN
    refine ⟨hS, ?_⟩
    simp only [Act.put, List.setIfInBounds_toArray, List.set_cons_succ, List.set_cons_zero]
    refine wpAnyH_all (rs := [8]) (by kernel_rfl) (by simp) ?_
    simp only [List.mem_cons, List.not_mem_nil, or_false, forall_eq]
    refine opH_skip none (w' := w3.setRow b5 (mcs m (.slice ja m.items.length jc) (.slice qa m.params.length qc)).toArray) rfl (by rfl) rfl (run_store_row 64 (.tmp 5) (.tmp 20) rfl b5 rfl 64 [.string ⟨#[]⟩, .bool false, .slice none 0 0, .slice none 0 0] (mcs m (.slice ja m.items.length jc) (.slice qa m.params.length qc)) rfl r5 sizeM rfl hone) ?_
    have r5' := setRow_heap w3 b5 _ (mcs m (.slice ja m.items.length jc) (.slice qa m.params.length qc)).toArray _ _ r5
    have hmR := mods_setRow r5 (mcs m (.slice ja m.items.length jc) (.slice qa m.params.length qc)).toArray
    have hS := hS.setRow hbz (mcs m (.slice ja m.items.length jc) (.slice qa m.params.length qc)).toArray
    refine ⟨hS, ?_⟩
    simp only [Act.put, List.setIfInBounds_toArray, List.set_cons_succ, List.set_cons_zero]
    refine anyH_take 9 (some 6) (.bool b) rfl rfl (by kernel_rfl) (by kernel_rfl) (by kernel_rfl) (fun _ _ _ h => h.elim) (.inl ⟨by rfl, fun W hW => by go_simp⟩) hS ?_
    simp only [Act.put, List.setIfInBounds_toArray, List.set_cons_succ, List.set_cons_zero]
    refine wpAnyH_done (by kernel_rfl) ?_ _
    have hov := OwnM.new (⟨ja, qa, jc, qc, ip', rfl, hov1, hov2, hov3⟩ : OwnM w.drew.heap.size w2 (.agg (mcs m (.slice ja m.items.length jc) (.slice qa m.params.length qc)).toArray) m) (((Mods.ofNew hA).trans hmR).new (by intro g hg; omega))
    exact ⟨b5, .slice ja m.items.length jc, .slice qa m.params.length qc, ⟨rfl, rfl, rfl, rfl, rfl, rfl, rfl, rfl, rfl, rfl, rfl, rfl, rfl, rfl⟩, r5', hbz, hov, hS⟩
  · refine opH_value (some 5) (v := .pointer (some ⟨w.drew.heap.size, 0, none⟩)) (w' := w.drew.alloc (.cells #[.string ⟨#[]⟩, .bool false, .slice none 0 0, .slice none 0 0] 64)) rfl (by rfl) rfl (by go_simp) ?_
    have r5 := World.alloc_heap_new w.drew (.cells #[.string ⟨#[]⟩, .bool false, .slice none 0 0, .slice none 0 0] 64)
    have hA : New w.drew (w.drew.alloc (.cells #[.string ⟨#[]⟩, .bool false, .slice none 0 0, .slice none 0 0] 64)) := (Mods.refl _ _).alloc _
    have hbz := hN.size
    obtain ⟨w2, hw2⟩ : ∃ W, w.drew.alloc (.cells #[.string ⟨#[]⟩, .bool false, .slice none 0 0, .slice none 0 0] 64) = W := ⟨_, rfl⟩
    rw [hw2] at r5 hA ⊢
    obtain ⟨b5, hb5⟩ : ∃ b, w.drew.heap.size = b := ⟨_, rfl⟩
    rw [hb5] at r5 hbz ⊢
    clear hw2 hb5
    have hN := hN.trans hA
    have hS : New w w2 := hN
    refine ⟨hS, ?_⟩
    simp only [Act.put, List.setIfInBounds_toArray, List.set_cons_succ, List.set_cons_zero]
    have hlt : b5 < w2.heap.size := (Array.getElem?_eq_some_iff.1 r5).1
    have hs2 : w.heap.size ≤ w2.heap.size := hN.size
    refine wpAnyH_all (rs := [3]) (by kernel_rfl) (by simp) ?_
    simp only [List.mem_cons, List.not_mem_nil, or_false, forall_eq]
    refine opH_call (some 19) rfl (by rfl) rfl 35 #[v, .string (tx [c])] (by go_simp) ((HF.out _ hN).mono ?_)
    rintro e w3 ⟨v', rfl, hov, hk⟩
    obtain ⟨ja, qa, jc, qc, ip', rfl, hov1, hov2, hov3⟩ := hov
    have hone := mcs_one (tx m.key) m.inner ja qa m.items.length jc m.params.length qc
    have hN := hN.trans hk
    have hS : New w w3 := hN
    have r5 := hk.heap r5 id
    refine ⟨_, rfl, hS, ?_⟩
    simp only [Act.put, List.setIfInBounds_toArray, List.set_cons_succ, List.set_cons_zero]
    refine anyH_take 4 (some 15) (.tuple #[.agg (mcs m (.slice ja m.items.length jc) (.slice qa m.params.length qc)).toArray, .bool b]) rfl rfl (by kernel_rfl) (by kernel_rfl) (by kernel_rfl) (fun _ _ _ h => h.elim) (.inl ⟨by rfl, fun W hW => by go_simp⟩) hS ?_
    simp only [Act.put, List.setIfInBounds_toArray, List.set_cons_succ, List.set_cons_zero]
    refine anyH_take 5 (some 20) (.agg (mcs m (.slice ja m.items.length jc) (.slice qa m.params.length qc)).toArray) rfl rfl (by kernel_rfl) (by kernel_rfl) (by kernel_rfl) (fun _ _ _ h => h.elim) (.inl ⟨by rfl, fun W hW => by go_simp⟩) hS ?_
    simp only [Act.put, List.setIfInBounds_toArray, List.set_cons_succ, List.set_cons_zero]
    refine anyH_take 6 (some 21) (.bool b) rfl rfl (by kernel_rfl) (by kernel_rfl) (by kernel_rfl) (fun _ _ _ h => h.elim) (.inl ⟨by rfl, fun W hW => by go_simp⟩) hS ?_
    simp only [Act.put, List.setIfInBounds_toArray, List.set_cons_succ, List.set_cons_zero]
    refine wpAnyH_all (rs := [8]) (by kernel_rfl) (by simp) ?_
    simp only [List.mem_cons, List.not_mem_nil, or_false, forall_eq]
    refine opH_skip none (w' := w3.setRow b5 (mcs m (.slice ja m.items.length jc) (.slice qa m.params.length qc)).toArray) rfl (by rfl) rfl (run_store_row 64 (.tmp 5) (.tmp 20) rfl b5 rfl 64 [.string ⟨#[]⟩, .bool false, .slice none 0 0, .slice none 0 0] (mcs m (.slice ja m.items.length jc) (.slice qa m.params.length qc)) rfl r5 sizeM rfl hone) ?_
    have r5' := setRow_heap w3 b5 _ (mcs m (.slice ja m.items.length jc) (.slice qa m.params.length qc)).toArray _ _ r5
    have hmR := mods_setRow r5 (mcs m (.slice ja m.items.length jc) (.slice qa m.params.length qc)).toArray
    have hS := hS.setRow hbz (mcs m (.slice ja m.items.length jc) (.slice qa m.params.length qc)).toArray
    refine ⟨hS, ?_⟩
    simp only [Act.put, List.setIfInBounds_toArray, List.set_cons_succ, List.set_cons_zero]
    refine anyH_take 9 (some 6) (.bool b) rfl rfl (by kernel_rfl) (by kernel_rfl) (by kernel_rfl) (fun _ _ _ h => h.elim) (.inl ⟨by rfl, fun W hW => by go_simp⟩) hS ?_
    simp only [Act.put, List.setIfInBounds_toArray, List.set_cons_succ, List.set_cons_zero]
    refine wpAnyH_done (by kernel_rfl) ?_ _
    have hov := OwnM.mono (OwnM.mods (⟨ja, qa, jc, qc, ip', rfl, hov1, hov2, hov3⟩ : OwnM w2.heap.size w3 (.agg (mcs m (.slice ja m.items.length jc) (.slice qa m.params.length qc)).toArray) m) hmR (by intro g hg; omega)) hs2
    exact ⟨b5, .slice ja m.items.length jc, .slice qa m.params.length qc, ⟨rfl, rfl, rfl, rfl, rfl, rfl, rfl, rfl, rfl, rfl, rfl, rfl, rfl, rfl⟩, r5', hbz, hov, hS⟩
noncomputable def reg_urgent_heard_1_5 : Code := ((Tryz.f135.body.bind (regionOf 5)).getD .skip)
set_option maxHeartbeats 4000000 in
set_option maxRecDepth 100000 in
theorem heard5 (t : Array Value) (hs : t.size = 44) (w : World) {l C b5 g jc : Nat} {c : UInt8} {k n : Int} {s : ByteArray} {y : Bool} {R : Ending → World → Prop} {x1 x2 x3 x7 x8 x9 x10 x11 : Value}
    (hq0 : t.getD 0 undef = .func (.yield l) #[] #[])
    (hq4 : t.getD 4 undef = .pointer (some ⟨C, 0, none⟩))
    (hq5 : t.getD 5 undef = .pointer (some ⟨b5, 0, none⟩))
    (hq1 : t.getD 1 undef = x1)
    (hq2 : t.getD 2 undef = x2)
    (hq3 : t.getD 3 undef = x3)
    (hq7 : t.getD 7 undef = x7)
    (hq8 : t.getD 8 undef = x8)
    (hq9 : t.getD 9 undef = x9)
    (hq10 : t.getD 10 undef = x10)
    (hq11 : t.getD 11 undef = x11)
    (hc : w.cell? ⟨C, 0, none⟩ = some (.int .u8 (c.toNat : Nat))) (h2 : w.cell? ⟨b5, 2, none⟩ = some (.slice (some ⟨g, 0, none⟩) 1 jc))
    (g0 : w.cell? ⟨g, 0, none⟩ = some (.int .u8 k)) (g1 : w.cell? ⟨g, 1, none⟩ = some (.int .i64 n)) (g2 : w.cell? ⟨g, 2, none⟩ = some (.string s)) (g3 : w.cell? ⟨g, 3, none⟩ = some (.bool y))
    (hY : Hid (YieldAt Fence.wide 0 Tryz.prog l #[.agg #[.int .u8 (c.toNat : Nat)], .agg #[.int .u8 k, .int .i64 n, .string s, .bool y]] w.drew R)) (hz : ∀ e w', R e w' → ∃ z, e = .returned (.bool z)) :
    reg_urgent_heard_1_5.wp Tryz.prog (Only fun a' W' => ∃ z, (a'.tmps.size = 44 ∧ a'.defers = [] ∧ a'.tmps.getD 0 undef = .func (.yield l) #[] #[] ∧ a'.tmps.getD 1 undef = x1 ∧ a'.tmps.getD 2 undef = x2 ∧ a'.tmps.getD 3 undef = x3 ∧ a'.tmps.getD 7 undef = x7 ∧ a'.tmps.getD 8 undef = x8 ∧ a'.tmps.getD 9 undef = x9 ∧ a'.tmps.getD 10 undef = x10 ∧ a'.tmps.getD 11 undef = x11 ∧ a'.tmps.getD 42 undef = .bool (!z)) ∧ R (.returned (.bool z)) W') ⟨t, []⟩ w := by
  conv => arg 2; whnf
  obtain ⟨u, rfl⟩ := lit44 t hs
  have hq0 : u 0 = .func (.yield l) #[] #[] := hq0
  have hq4 : u 4 = .pointer (some ⟨C, 0, none⟩) := hq4
  have hq5 : u 5 = .pointer (some ⟨b5, 0, none⟩) := hq5
  have hq1 : u 1 = x1 := hq1
  have hq2 : u 2 = x2 := hq2
  have hq3 : u 3 = x3 := hq3
  have hq7 : u 7 = x7 := hq7
  have hq8 : u 8 = x8 := hq8
  have hq9 : u 9 = x9 := hq9
  have hq10 : u 10 = x10 := hq10
  have hq11 : u 11 = x11 := hq11
  rw [hq0, hq4, hq5, hq1, hq2, hq3, hq7, hq8, hq9, hq10, hq11]
  clear hq0 hq4 hq5 hq1 hq2 hq3 hq7 hq8 hq9 hq10 hq11 hs
  refine (wpIn_wide (n := 0)).1 ?_
  refine wpIn_region_any (by kernel_rfl) ?_
  show wpAnyIn _ _ _ _ _ _ 9 _ _ w.drew
  have c1 : w.drew.cell? ⟨C, 0, none⟩ = _ := hc
  have c2 : w.drew.cell? ⟨b5, 2, none⟩ = _ := h2
  have d0 : w.drew.cell? ⟨g, 0, none⟩ = _ := g0
  have d1 : w.drew.cell? ⟨g, 1, none⟩ = _ := g1
  have d2 : w.drew.cell? ⟨g, 2, none⟩ = _ := g2
  have d3 : w.drew.cell? ⟨g, 3, none⟩ = _ := g3
  refine any_take 0 (some 34) (.func (.yield l) #[] #[]) rfl rfl (by kernel_rfl) (by kernel_rfl) (by kernel_rfl) (fun _ _ _ h => h.elim) (.value rfl fun w => by go_simp) ?_
  simp only [Act.put, List.setIfInBounds_toArray, List.set_cons_succ, List.set_cons_zero]
  refine any_take 2 (some 36) (.pointer (some ⟨b5, 2, none⟩)) rfl rfl (by kernel_rfl) (by kernel_rfl) (by kernel_rfl) (fun _ _ _ h => h.elim) (.value rfl fun w => by go_simp) ?_
  simp only [Act.put, List.setIfInBounds_toArray, List.set_cons_succ, List.set_cons_zero]
  refine wpAnyIn_all (rs := [1, 3]) (by kernel_rfl) (by simp) ?_
  intro i hi
  simp only [List.mem_cons, List.not_mem_nil, or_false] at hi
  rcases hi with rfl | rfl
  · refine opIn_value (some 35) (v := .agg #[.int .u8 (c.toNat : Nat)]) (w' := w.drew) rfl rfl rfl rfl (by go_simp) ?_
    simp only [Act.put, List.setIfInBounds_toArray, List.set_cons_succ, List.set_cons_zero]
    refine wpAnyIn_all (rs := [3]) (by kernel_rfl) (by simp) ?_
    simp only [List.mem_cons, List.not_mem_nil, or_false, forall_eq]
    refine opIn_value (some 37) (v := .slice (some ⟨g, 0, none⟩) 1 jc) (w' := w.drew) rfl rfl rfl rfl (by go_simp) ?_
    simp only [Act.put, List.setIfInBounds_toArray, List.set_cons_succ, List.set_cons_zero]
    refine any_take 4 (some 38) (.pointer (some ⟨g, 0, none⟩)) rfl rfl (by kernel_rfl) (by kernel_rfl) (by kernel_rfl) (fun _ _ _ h => h.elim) (.value rfl fun w => by go_simp) ?_
    simp only [Act.put, List.setIfInBounds_toArray, List.set_cons_succ, List.set_cons_zero]
    refine any_take 5 (some 39) (.pointer (some ⟨g, 0, none⟩)) rfl rfl (by kernel_rfl) (by kernel_rfl) (by kernel_rfl) (fun _ _ _ h => h.elim) (.value rfl fun w => by go_simp) ?_
    simp only [Act.put, List.setIfInBounds_toArray, List.set_cons_succ, List.set_cons_zero]
    refine wpAnyIn_all (rs := [6]) (by kernel_rfl) (by simp) ?_
    simp only [List.mem_cons, List.not_mem_nil, or_false, forall_eq]
    refine opIn_value (some 40) (v := .agg #[.int .u8 k, .int .i64 n, .string s, .bool y]) (w' := w.drew) rfl rfl rfl rfl (by go_simp) ?_
    simp only [Act.put, List.setIfInBounds_toArray, List.set_cons_succ, List.set_cons_zero]
    refine wpAnyIn_all (rs := [7]) (by kernel_rfl) (by simp) ?_
    simp only [List.mem_cons, List.not_mem_nil, or_false, forall_eq]
    obtain ⟨fn, tt, asg, bd, hy, hR⟩ := hY.out
    refine opIn_yield (some 41) rfl rfl rfl rfl (by go_simp) hR ?_
    rintro e w2 hh
    obtain ⟨z, rfl⟩ := hz e w2 hh
    refine ⟨_, rfl, ?_⟩
    simp only [Act.put, List.setIfInBounds_toArray, List.set_cons_succ, List.set_cons_zero]
    refine wpAnyIn_all (rs := [8]) (by kernel_rfl) (by simp) ?_
    simp only [List.mem_cons, List.not_mem_nil, or_false, forall_eq]
    refine opIn_value (some 42) (v := .bool (!z)) (w' := w2) rfl rfl rfl rfl (by go_simp) ?_
    simp only [Act.put, List.setIfInBounds_toArray, List.set_cons_succ, List.set_cons_zero]
    refine wpAnyIn_done (by kernel_rfl) ?_ _
    exact ⟨z, ⟨rfl, rfl, rfl, rfl, rfl, rfl, rfl, rfl, rfl, rfl, rfl, rfl⟩, hh⟩
  · refine opIn_value (some 37) (v := .slice (some ⟨g, 0, none⟩) 1 jc) (w' := w.drew) rfl rfl rfl rfl (by go_simp) ?_
    simp only [Act.put, List.setIfInBounds_toArray, List.set_cons_succ, List.set_cons_zero]
    refine any_take 4 (some 38) (.pointer (some ⟨g, 0, none⟩)) rfl rfl (by kernel_rfl) (by kernel_rfl) (by kernel_rfl) (fun _ _ _ h => h.elim) (.value rfl fun w => by go_simp) ?_
    simp only [Act.put, List.setIfInBounds_toArray, List.set_cons_succ, List.set_cons_zero]
    refine any_take 5 (some 39) (.pointer (some ⟨g, 0, none⟩)) rfl rfl (by kernel_rfl) (by kernel_rfl) (by kernel_rfl) (fun _ _ _ h => h.elim) (.value rfl fun w => by go_simp) ?_
    simp only [Act.put, List.setIfInBounds_toArray, List.set_cons_succ, List.set_cons_zero]
    refine wpAnyIn_all (rs := [1, 6]) (by kernel_rfl) (by simp) ?_
    intro i hi
    simp only [List.mem_cons, List.not_mem_nil, or_false] at hi
    rcases hi with rfl | rfl
    · refine opIn_value (some 35) (v := .agg #[.int .u8 (c.toNat : Nat)]) (w' := w.drew) rfl rfl rfl rfl (by go_simp) ?_
      simp only [Act.put, List.setIfInBounds_toArray, List.set_cons_succ, List.set_cons_zero]
      refine wpAnyIn_all (rs := [6]) (by kernel_rfl) (by simp) ?_
      simp only [List.mem_cons, List.not_mem_nil, or_false, forall_eq]
      refine opIn_value (some 40) (v := .agg #[.int .u8 k, .int .i64 n, .string s, .bool y]) (w' := w.drew) rfl rfl rfl rfl (by go_simp) ?_
      simp only [Act.put, List.setIfInBounds_toArray, List.set_cons_succ, List.set_cons_zero]
      refine wpAnyIn_all (rs := [7]) (by kernel_rfl) (by simp) ?_
      simp only [List.mem_cons, List.not_mem_nil, or_false, forall_eq]
      obtain ⟨fn, tt, asg, bd, hy, hR⟩ := hY.out
      refine opIn_yield (some 41) rfl rfl rfl rfl (by go_simp) hR ?_
      rintro e w2 hh
      obtain ⟨z, rfl⟩ := hz e w2 hh
      refine ⟨_, rfl, ?_⟩
      simp only [Act.put, List.setIfInBounds_toArray, List.set_cons_succ, List.set_cons_zero]
      refine wpAnyIn_all (rs := [8]) (by kernel_rfl) (by simp) ?_
      simp only [List.mem_cons, List.not_mem_nil, or_false, forall_eq]
      refine opIn_value (some 42) (v := .bool (!z)) (w' := w2) rfl rfl rfl rfl (by go_simp) ?_
      simp only [Act.put, List.setIfInBounds_toArray, List.set_cons_succ, List.set_cons_zero]
      refine wpAnyIn_done (by kernel_rfl) ?_ _
      exact ⟨z, ⟨rfl, rfl, rfl, rfl, rfl, rfl, rfl, rfl, rfl, rfl, rfl, rfl⟩, hh⟩
    · refine opIn_value (some 40) (v := .agg #[.int .u8 k, .int .i64 n, .string s, .bool y]) (w' := w.drew) rfl rfl rfl rfl (by go_simp) ?_
      simp only [Act.put, List.setIfInBounds_toArray, List.set_cons_succ, List.set_cons_zero]
      refine wpAnyIn_all (rs := [1]) (by kernel_rfl) (by simp) ?_
      simp only [List.mem_cons, List.not_mem_nil, or_false, forall_eq]
      refine opIn_value (some 35) (v := .agg #[.int .u8 (c.toNat : Nat)]) (w' := w.drew) rfl rfl rfl rfl (by go_simp) ?_
      simp only [Act.put, List.setIfInBounds_toArray, List.set_cons_succ, List.set_cons_zero]
      refine wpAnyIn_all (rs := [7]) (by kernel_rfl) (by simp) ?_
      simp only [List.mem_cons, List.not_mem_nil, or_false, forall_eq]
      obtain ⟨fn, tt, asg, bd, hy, hR⟩ := hY.out
      refine opIn_yield (some 41) rfl rfl rfl rfl (by go_simp) hR ?_
      rintro e w2 hh
      obtain ⟨z, rfl⟩ := hz e w2 hh
      refine ⟨_, rfl, ?_⟩
      simp only [Act.put, List.setIfInBounds_toArray, List.set_cons_succ, List.set_cons_zero]
      refine wpAnyIn_all (rs := [8]) (by kernel_rfl) (by simp) ?_
      simp only [List.mem_cons, List.not_mem_nil, or_false, forall_eq]
      refine opIn_value (some 42) (v := .bool (!z)) (w' := w2) rfl rfl rfl rfl (by go_simp) ?_
      simp only [Act.put, List.setIfInBounds_toArray, List.set_cons_succ, List.set_cons_zero]
      refine wpAnyIn_done (by kernel_rfl) ?_ _
      exact ⟨z, ⟨rfl, rfl, rfl, rfl, rfl, rfl, rfl, rfl, rfl, rfl, rfl, rfl⟩, hh⟩
theorem heardG_none {d : List Bare.Mem} {i : Nat} (h : findM d (kb i) = none) : heardG d i = none := by
  unfold findM at h
  unfold heardG Bare.heard
  rw [h]; rfl
theorem heardG_no {d : List Bare.Mem} {i : Nat} {m : Bare.Mem} (h : findM d (kb i) = some m) (hm : ¬ (m.inner = false ∧ m.items.length = 1)) : heardG d i = none := by
  unfold findM at h
  unfold heardG Bare.heard
  rw [h]
  simp only
  rw [if_neg hm]; rfl
theorem heardG_yes {d : List Bare.Mem} {i : Nat} {m : Bare.Mem} (h : findM d (kb i) = some m) (hm : m.inner = false ∧ m.items.length = 1) : heardG d i = some #[k1 .u8 (kc i), bv (m.items.getD 0 Bare.noI).bare] := by
  unfold findM at h
  unfold heardG Bare.heard
  rw [h]
  simp only
  rw [if_pos hm]
  cases m.items <;> rfl
set_option maxHeartbeats 4000000 in
set_option maxRecDepth 100000 in
theorem heard_iter {τ : Bool} (B : Nat) (v : Value) (d : List Bare.Mem) (w : World) (hd : RdD τ w v d) (hf : ∀ m ∈ d, Fits m) (S : Nat → Prop) (W : World) (hN : New w W) (hB : Boxed W B 51 v) (hSB : ¬ S B) (hS : ∀ b, S b → w.heap.size ≤ b ∧ b < W.heap.size) :
    IterAt Tryz.prog 135 #[.pointer (some ⟨B, 0, none⟩)] (heardL d 2) S W := by
  intro l J Jx hJ hJx hY h0
  refine (callsIn_wide (n := 0)).1 (callsIn_of_wp Tryz.func135 rfl trivial ?_ rfl)
  simp only [Tryz.ntmps135, List.size_toArray, List.length_cons, List.length_nil, Nat.reduceAdd, Nat.reduceSub, Array.replicate_succ, Array.replicate_zero, List.push_toArray, List.append_toArray, List.nil_append, List.cons_append]
  refine wpIn_wide.2 ?_
  have HF := Lib.hid (fun (c : UInt8) (W : World) (hW : New w W) => find_any v (tx [c]) d W (hd.new hW) hf)
  have HB := Lib.hid hB
  have hA : New W (W.alloc (.cells #[.int .u8 117, .int .u8 105] 128)) := (Mods.refl _ _).alloc _
  have rA := World.alloc_heap_new W (.cells #[.int .u8 117, .int .u8 105] 128)
  have hJ0 := hJ _ _ _ h0 hA
  clear hd hf hB h0
  have HY := Lib.hid hY
  have HJ := Lib.hid hJ
  have HN := Lib.hid hN
  have HS := Lib.hid hS
  clear hY hJ hN hS
  go_wp2_with fail
  obtain ⟨W1, hW1⟩ : ∃ W1, W.alloc (.cells #[.int .u8 117, .int .u8 105] 128) = W1 := ⟨_, rfl⟩
  obtain ⟨A, hA'⟩ : ∃ b, W.heap.size = b := ⟨_, rfl⟩
  rw [hW1] at hA rA hJ0 ⊢
  rw [hA'] at rA ⊢
  have HA := Lib.hid hA
  have HA' := Lib.hid hA'
  clear hW1 hA hA'
  go_loopw [11] (fun t wr => ∃ i : Nat, i ≤ 2 ∧ t = .int .i64 i ∧ J (heardL d i).length wr ∧ Mods S W1 wr) (fun t _ => 2 - (intOf t).toNat)
  case atStart => exact ⟨0, Nat.zero_le _, rfl, hJ0, .refl _ _⟩
  case round =>
    clear hJ0
    obtain ⟨i, hi, rfl, hJi, hm⟩ := hrel
    replace hm := Lib.hid hm
    replace hJi := Lib.hid hJi
    have rAr := hm.out.heap rA (fun h => by have := (HS.out _ h).2; have := HA'.out; omega)
    by_cases hlt : i < 2
    · have hkd : decide ((i : Int) < 2) = true := decide_eq_true (by omega)
      have hk : wr.cell? ⟨A, i, none⟩ = some (.int .u8 (kc i : Nat)) := by
        obtain rfl | rfl : i = 0 ∨ i = 1 := by omega
        · exact cell_of_row _ _ 0 _ _ _ rAr
        · exact cell_of_row _ _ 1 _ _ _ rAr
      clear rAr
      have hkr : wr.rangeAt A i [.int .u8 (kc i : Nat)] := by
        intro j v hj
        match j with
        | 0 => cases hj; exact hk
        | j + 1 => cases hj
      go_upto_region 3 with (first | (refine op_value rfl (run_load_mid 128 (.tmp 13) rfl A i rfl [.int .u8 (kc i : Nat)] _ hkr Tryz.underlying128 rfl sizeK1) ?_))
      obtain ⟨V, hV⟩ : ∃ V, wr.alloc (.cells #[.int .u8 (kc i : Nat)] 128) = V := ⟨_, rfl⟩
      obtain ⟨C, hC⟩ : ∃ b, wr.heap.size = b := ⟨_, rfl⟩
      have hNV : New wr V := by rw [← hV]; exact (Mods.refl _ _).alloc _
      have rC : V.heap[C]? = some (.cells #[.int .u8 (kc i : Nat)] 128 (0, 0)) := by rw [← hV, ← hC]; exact World.alloc_heap_new wr _
      rw [hV, hC]
      have hcC : V.cell? ⟨C, 0, none⟩ = some (.int .u8 (kc i : Nat)) := cell_of_row _ _ 0 _ _ _ rC
      obtain ⟨c, hc⟩ : ∃ c : UInt8, (c.toNat : Nat) = kc i ∧ [c] = kb i := by
        obtain rfl | rfl : i = 0 ∨ i = 1 := by omega
        · exact ⟨117, rfl, rfl⟩
        · exact ⟨105, rfl, rfl⟩
      have HC := Lib.hid hc
      rw [← HC.out.1] at hcC
      clear hC hV hk hkr hc
      replace hNV := Lib.hid hNV
      have hWV : New w V := ((Mods.ofNew (HN.out.trans HA.out)).trans hm.out).trans (Mods.ofNew hNV.out) |>.new (fun b hb => (HS.out b hb).1)
      have hBV := hNV.out.boxed (hm.out.boxed (HA.out.boxed HB.out id) hSB) id
      replace hWV := Lib.hid hWV
      refine wp_scope_fwd 0 (fun a Wx => (a.tmps.size = 44 ∧ a.defers = [] ∧ a.tmps.getD 0 undef = .func (.yield l) #[] #[] ∧ a.tmps.getD 1 undef = .pointer (some ⟨B, 0, none⟩) ∧ a.tmps.getD 2 undef = undef ∧ a.tmps.getD 3 undef = undef ∧ a.tmps.getD 7 undef = .agg #[.int .u8 117] ∧ a.tmps.getD 8 undef = .agg #[.int .u8 105] ∧ a.tmps.getD 9 undef = .slice (some ⟨A, 0, none⟩) 2 2 ∧ a.tmps.getD 10 undef = .int .i64 2 ∧ a.tmps.getD 11 undef = .int .i64 i) ∧ J (heardL d (i + 1)).length Wx ∧ Mods S W1 Wx) rfl ?first ?pass
      case pass =>
        rintro ⟨z, dfs⟩ W5 ⟨⟨hs, hd, hq0, hq1, hq2, hq3, hq7, hq8, hq9, hq10, hq11⟩, hJ5, hm5⟩
        simp only at hs hd hq0 hq1 hq2 hq3 hq7 hq8 hq9 hq10 hq11
        subst hd
        obtain ⟨u, rfl⟩ := lit44 z hs
        have hp0 : u 0 = .func (.yield l) #[] #[] := hq0
        have hp1 : u 1 = .pointer (some ⟨B, 0, none⟩) := hq1
        have hp2 : u 2 = undef := hq2
        have hp3 : u 3 = undef := hq3
        have hp7 : u 7 = .agg #[.int .u8 117] := hq7
        have hp8 : u 8 = .agg #[.int .u8 105] := hq8
        have hp9 : u 9 = .slice (some ⟨A, 0, none⟩) 2 2 := hq9
        have hp10 : u 10 = .int .i64 2 := hq10
        have hp11 : u 11 = .int .i64 i := hq11
        rw [hp0, hp1, hp2, hp3, hp7, hp8, hp9, hp10, hp11]
        clear hp0 hq0 hp1 hq1 hp2 hq2 hp3 hq3 hp7 hq7 hp8 hq8 hp9 hq9 hp10 hq10 hp11 hq11 hs

        go_wp2_with fail
        simp only [Exit.noGoto, Exit.inBlock, Exit.then]
        go_wp2_with fail
        go_roundw
        case rel => exact ⟨i + 1, by omega, by go_num, hJ5, hm5⟩
        case measure => simp [intOf]; omega
      case first =>
        cases hfm : findM d [c] with
        | none =>
          have HFc := Lib.hid (fun Wz (hz : New V Wz) => by have := HF.out c Wz (hWV.out.trans hz); rw [bl_tx, hfm] at this; exact this)
          go_upto_region 3 with fail
          refine piece (fun _ => _) (heard3 _ rfl V rfl rfl rfl rfl rfl rfl rfl rfl rfl rfl hBV hcC HFc) ?_
          rintro ⟨z, dfs⟩ W3 ⟨b5, iv, pv, ⟨hs, hd, hq1, hq4, hq0, hq2, hq3, hq7, hq8, hq9, hq10, hq11, hq5, hq6⟩, r5, hb5, hov, hN3⟩
          simp only at hs hd hq1 hq4 hq0 hq2 hq3 hq7 hq8 hq9 hq10 hq11 hq5 hq6
          subst hd
          obtain ⟨u, rfl⟩ := lit44 z hs
          have hp1 : u 1 = .pointer (some ⟨B, 0, none⟩) := hq1
          have hp4 : u 4 = .pointer (some ⟨C, 0, none⟩) := hq4
          have hp0 : u 0 = .func (.yield l) #[] #[] := hq0
          have hp2 : u 2 = undef := hq2
          have hp3 : u 3 = undef := hq3
          have hp7 : u 7 = .agg #[.int .u8 117] := hq7
          have hp8 : u 8 = .agg #[.int .u8 105] := hq8
          have hp9 : u 9 = .slice (some ⟨A, 0, none⟩) 2 2 := hq9
          have hp10 : u 10 = .int .i64 2 := hq10
          have hp11 : u 11 = .int .i64 i := hq11
          have hp5 : u 5 = .pointer (some ⟨b5, 0, none⟩) := hq5
          have hp6 : u 6 = .bool false := hq6
          rw [hp1, hp4, hp0, hp2, hp3, hp7, hp8, hp9, hp10, hp11, hp5, hp6]
          clear hp1 hq1 hp4 hq4 hp0 hq0 hp2 hq2 hp3 hq3 hp7 hq7 hp8 hq8 hp9 hq9 hp10 hq10 hp11 hq11 hp5 hq5 hp6 hq6 hs

          have hG := heardG_none (d := d) (i := i) (by rw [← HC.out.2]; exact hfm)
          have hlen : (heardL d (i + 1)).length = (heardL d i).length := by rw [heardL_succ, hG]; simp
          have hJ3 := HJ.out _ _ _ (HJ.out _ _ _ hJi.out hNV.out) hN3
          rw [← hlen] at hJ3
          have hm3 := (hm.out.trans (Mods.ofNew hNV.out)).trans (Mods.ofNew hN3)
          clear r5 hov hG hlen hN3
          go_wp2_with fail
          exact wp_goto (And.intro rfl ⟨⟨rfl, rfl, rfl, rfl, rfl, rfl, rfl, rfl, rfl, rfl, rfl⟩, hJ3, hm3⟩)
        | some m =>
          have HFc := Lib.hid (fun Wz (hz : New V Wz) => by have := HF.out c Wz (hWV.out.trans hz); rw [bl_tx, hfm] at this; exact this)
          go_upto_region 3 with fail
          refine piece (fun _ => _) (heard3 _ rfl V rfl rfl rfl rfl rfl rfl rfl rfl rfl rfl hBV hcC HFc) ?_
          rintro ⟨z, dfs⟩ W3 ⟨b5, iv, pv, ⟨hs, hd, hq1, hq4, hq0, hq2, hq3, hq7, hq8, hq9, hq10, hq11, hq5, hq6⟩, r5, hb5, hov, hN3⟩
          simp only at hs hd hq1 hq4 hq0 hq2 hq3 hq7 hq8 hq9 hq10 hq11 hq5 hq6
          subst hd
          obtain ⟨u, rfl⟩ := lit44 z hs
          have hp1 : u 1 = .pointer (some ⟨B, 0, none⟩) := hq1
          have hp4 : u 4 = .pointer (some ⟨C, 0, none⟩) := hq4
          have hp0 : u 0 = .func (.yield l) #[] #[] := hq0
          have hp2 : u 2 = undef := hq2
          have hp3 : u 3 = undef := hq3
          have hp7 : u 7 = .agg #[.int .u8 117] := hq7
          have hp8 : u 8 = .agg #[.int .u8 105] := hq8
          have hp9 : u 9 = .slice (some ⟨A, 0, none⟩) 2 2 := hq9
          have hp10 : u 10 = .int .i64 2 := hq10
          have hp11 : u 11 = .int .i64 i := hq11
          have hp5 : u 5 = .pointer (some ⟨b5, 0, none⟩) := hq5
          have hp6 : u 6 = .bool true := hq6
          rw [hp1, hp4, hp0, hp2, hp3, hp7, hp8, hp9, hp10, hp11, hp5, hp6]
          clear hp1 hq1 hp4 hq4 hp0 hq0 hp2 hq2 hp3 hq3 hp7 hq7 hp8 hq8 hp9 hq9 hp10 hq10 hp11 hq11 hp5 hq5 hp6 hq6 hs

          have hJ3 := HJ.out _ _ _ (HJ.out _ _ _ hJi.out hNV.out) hN3
          have hm3 := (hm.out.trans (Mods.ofNew hNV.out)).trans (Mods.ofNew hN3)
          obtain ⟨ja, qa, jc, qc, ip', heq, ho1, ho2, -⟩ := hov
          obtain ⟨rfl, rfl⟩ : iv = .slice ja m.items.length jc ∧ pv = .slice qa m.params.length qc := by
            have := Value.agg.inj heq
            simp [mcs] at this
            exact this
          have rC3 := hN3.cell hcC id
          clear heq
          have k1 := cell_of_row _ _ 1 _ _ _ r5
          have k2 := cell_of_row _ _ 2 _ _ _ r5
          simp only [Option.getD_some, mcs, List.getElem?_toArray, List.getElem?_cons_succ, List.getElem?_cons_zero] at k1 k2
          simp only [Option.getD_some] at ho1 ho2
          clear r5
          by_cases hin : m.inner = true
          · rw [hin] at k1
            have hG := heardG_no (d := d) (i := i) (m := m) (by rw [← HC.out.2]; exact hfm) (by rw [hin]; simp)
            have hlen : (heardL d (i + 1)).length = (heardL d i).length := by rw [heardL_succ, hG]; simp
            rw [← hlen] at hJ3
            clear ho1 ho2 hG hlen hN3 hin
            go_wp2_with fail
            exact wp_goto (And.intro rfl ⟨⟨rfl, rfl, rfl, rfl, rfl, rfl, rfl, rfl, rfl, rfl, rfl⟩, hJ3, hm3⟩)
          · have hin : m.inner = false := by simpa using hin
            rw [hin] at k1
            by_cases hl1 : m.items.length = 1
            · have hG := heardG_yes (d := d) (i := i) (m := m) (by rw [← HC.out.2]; exact hfm) ⟨hin, hl1⟩
              rw [hl1] at k2 ho1 ho2
              obtain ⟨b, o, e, hrow⟩ := (ho1.row (by omega)).at.2.2 0 (by omega)
              subst e
              obtain ⟨g, hgg⟩ : ∃ g, (some ⟨b, o, none⟩ : Option Addr) = some ⟨g, 0, none⟩ := by
                rcases ho1.2.2.2 with ⟨h, h'⟩ | ⟨b', cap', cur, h, _⟩
                · simp only [Value.slice.injEq] at h; omega
                · simp only [Value.slice.injEq] at h; exact ⟨b', h.1⟩
              obtain ⟨rfl, rfl⟩ : b = g ∧ o = 0 := by cases hgg; exact ⟨rfl, rfl⟩
              clear hgg
              obtain ⟨g0, g1, g2, g3, -⟩ := cells5 hrow
              simp only [Nat.zero_mul, Nat.zero_add, Nat.add_zero] at g0 g1 g2 g3
              have hxg := heardL_get d hlt hG
              rw [← HC.out.1] at hxg
              have hDr : New W3 W3.drew := (Mods.refl _ _).drew
              have HYY := Lib.hid (HY.out _ _ W3.drew hxg (HJ.out _ _ _ hJ3 hDr) (((Mods.ofNew HA.out).trans hm3).trans (Mods.ofNew hDr)))
              have hlen : (heardL d (i + 1)).length = (heardL d i).length + 1 := by rw [heardL_succ, hG]; simp
              rw [← hlen] at HYY
              have hlt2 : (heardL d (i + 1)).length ≤ (heardL d 2).length := heardL_len d (by omega)
              clear ho1 ho2 hG hlen hN3 hin hl1 hrow hxg
              go_upto_region 5 with fail
              refine piece (fun _ => _) (heard5 (R := _) _ rfl W3 rfl rfl rfl rfl rfl rfl rfl rfl rfl rfl rfl rC3 k2 g0 g1 g2 g3 HYY ?hz) ?_
              case hz =>
                rintro e w' (⟨rfl, -⟩ | ⟨rfl, -⟩)
                · exact ⟨_, rfl⟩
                · exact ⟨_, rfl⟩
              rintro ⟨z, dfs⟩ W5 ⟨z5, ⟨hs, hd, hq0, hq1, hq2, hq3, hq7, hq8, hq9, hq10, hq11, hq42⟩, hR5⟩
              simp only at hs hd hq0 hq1 hq2 hq3 hq7 hq8 hq9 hq10 hq11 hq42
              subst hd
              obtain ⟨u, rfl⟩ := lit44 z hs
              have hp0 : u 0 = .func (.yield l) #[] #[] := hq0
              have hp1 : u 1 = .pointer (some ⟨B, 0, none⟩) := hq1
              have hp2 : u 2 = undef := hq2
              have hp3 : u 3 = undef := hq3
              have hp7 : u 7 = .agg #[.int .u8 117] := hq7
              have hp8 : u 8 = .agg #[.int .u8 105] := hq8
              have hp9 : u 9 = .slice (some ⟨A, 0, none⟩) 2 2 := hq9
              have hp10 : u 10 = .int .i64 2 := hq10
              have hp11 : u 11 = .int .i64 i := hq11
              have hp42 : u 42 = .bool (!z5) := hq42
              rw [hp0, hp1, hp2, hp3, hp7, hp8, hp9, hp10, hp11, hp42]
              clear hp0 hq0 hp1 hq1 hp2 hq2 hp3 hq3 hp7 hq7 hp8 hq8 hp9 hq9 hp10 hq10 hp11 hq11 hp42 hq42 hs

              rcases hR5 with ⟨hz5, hJ5, hm5⟩ | ⟨hz5, hJ5⟩
              · obtain rfl : z5 = true := by cases hz5; rfl
                have hm6 := (hm3.trans (Mods.ofNew hDr)).trans hm5
                clear hz5 HYY
                go_wp2_with fail
                refine wp_label ?_
                go_wp2_with fail
                simp only [Exit.jump, Exit.inBlock, Exit.then]
                go_wp2_with fail
                go_roundw
                case rel => exact ⟨i + 1, by omega, by go_num, hJ5, hm6⟩
                case measure => simp [intOf]; omega
              · obtain rfl : z5 = false := by cases hz5; rfl
                clear hz5 HYY
                go_wp2_with fail
                simp only [Exit.jump, Exit.inBlock, Exit.then]
                go_wp2_with fail
                refine bodyPost_ret (results_none rfl _ _ _) rfl ?_
                exact ⟨⟨_, rfl⟩, .inr ⟨_, hlt2, hJ5⟩⟩
            · have hG := heardG_no (d := d) (i := i) (m := m) (by rw [← HC.out.2]; exact hfm) (fun h => hl1 h.2)
              have hlen : (heardL d (i + 1)).length = (heardL d i).length := by rw [heardL_succ, hG]; simp
              rw [← hlen] at hJ3
              have hne : ((m.items.length : Int) == 1) = false := by rw [beq_eq_false_iff_ne]; omega
              have hne2 : ((m.items.length : Int) != 1) = true := by rw [bne_iff_ne]; omega
              obtain ⟨q, hq⟩ : ∃ q, m.items.length = q := ⟨_, rfl⟩
              rw [hq] at k2 hne hne2
              clear ho1 ho2 hG hlen hN3 hin hl1 hq
              go_wp2_with fail
              exact wp_goto (And.intro rfl ⟨⟨rfl, rfl, rfl, rfl, rfl, rfl, rfl, rfl, rfl, rfl, rfl⟩, hJ3, hm3⟩)
    · obtain rfl : i = 2 := by omega
      have hkd : decide (((2 : Nat) : Int) < 2) = false := by decide
      go_wp2_with fail
      go_end0
      exact ⟨⟨_, rfl⟩, .inl hJi.out⟩
end Go.Proofs.YtkiiameibdhdfaaGreatDoor
