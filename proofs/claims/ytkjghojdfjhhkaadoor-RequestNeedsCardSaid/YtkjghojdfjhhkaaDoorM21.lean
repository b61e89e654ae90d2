/- RequestNeeds: a list without one, with a field and that one behind it. -/
import Derived.Test.YtkjghojdfjhhkaaDoorM20
set_option linter.unusedSimpArgs false
set_option linter.unusedVariables false
namespace Go.Proofs.YtkjghojdfjhhkaaDoor
open Go.RowKit Go.Shelf Go.Cs
attribute [local go_sem] Oper.semAt_some
theorem own_row_ne {base : Nat} {W : World} {v : Value} {L : List Fd} {g t : Nat} {c : Array Value} {fr : Nat × Nat} (h : OwR base W v L) (hg : W.heap[g]? = some (.cells c t fr)) (ht : t ≠ 54) : v.ownBlock ≠ some g := by
  intro hv
  rcases h.2 with ⟨rfl, _⟩ | ⟨g', cap, cur, rfl, _, hh, _⟩
  · cases hv
  · simp only [Value.ownBlock, Option.some.injEq] at hv
    subst hv
    rw [hg] at hh
    simp only [Option.some.injEq, Obj.cells.injEq] at hh
    exact ht hh.2.1
theorem pair_reads {W : World} {B : Nat} {f : Fd} (h : W.heap[B]? = some (.cells #[.string ⟨#[97]⟩, .string ⟨#[]⟩, .string f.name, .string f.val] 54 (0, 0))) : ReadsL W (.slice (some ⟨B, 0, none⟩) 2 2) [fA, f] := by
  have ho : W.ownsRow B 54 2 (.slice (some ⟨B, 0, none⟩) 2 2) ([fA, f] : List Fd).length (flat [fA, f]) := ⟨rfl, .inr ⟨B, 2, _, rfl, Nat.le_refl _, h, Nat.le_refl _, by unfold maxLen; omega, rfl, rfl⟩⟩
  exact (own_reads ho (by simp)).1.1
theorem pair_cap {B : Nat} : CapOk (.slice (some ⟨B, 0, none⟩) 2 2) := fun ao n cap e => by cases e; exact ⟨Nat.le_refl _, fun h => by cases h⟩
theorem row5_one (r : Rq) (ao : Option Addr) (n c : Nat) : ∀ x ∈ ([.string r.meth, .string r.scheme, .string r.path, .string r.host, .slice ao n c] : List Value), x.oneCell' = true := by
  intro x hx
  simp at hx
  rcases hx with rfl | rfl | rfl | rfl | rfl <;> rfl
noncomputable def reg9_12 : Code := ((Tryd.f9.body.bind (regionOf 12)).getD .skip)
set_option maxHeartbeats 8000000 in
set_option maxRecDepth 100000 in
theorem three9 (t : Array Value) (hs : t.size = 102) (w : World) {F : Nat} {f : Fd} {M : List Fd} {v x0 x11 x13 : Value} {b : Bool}
    (hq8 : t.getD 8 undef = .pointer (some ⟨F, 0, none⟩)) (hq9 : t.getD 9 undef = v) (hq11 : t.getD 11 undef = x11) (hq13 : t.getD 13 undef = x13)
    (hF0 : w.cell? ⟨F, 0, none⟩ = some (.string f.name)) (hF1 : w.cell? ⟨F, 1, none⟩ = some (.string f.val)) (hM : ReadsL w v M) (hMc : CapOk v) (hMl : M.length ≤ 140)
    (hC : Hid (∀ W u, ReadsL W u (M ++ [fA, f]) → CapOk u → Calls Tryd.prog 36 #[u] W fun e w' => ∃ (r : Rq) (ao : Option Addr) (n c : Nat), e = .returned (.tuple #[.agg #[.string r.meth, .string r.scheme, .string r.path, .string r.host, .slice ao n c], .bool b]) ∧ New W w')) :
    reg9_12.wp Tryd.prog (Only fun a' W' => (a'.tmps.size = 102 ∧ a'.defers = [] ∧ a'.tmps.getD 8 undef = .pointer (some ⟨F, 0, none⟩) ∧ a'.tmps.getD 11 undef = x11 ∧ a'.tmps.getD 13 undef = x13 ∧ a'.tmps.getD 15 undef = .bool b) ∧ New w W') ⟨t, []⟩ w := by
  conv => arg 2; whnf
  obtain ⟨u, rfl⟩ := lit102 t hs
  have hq8 : u 8 = .pointer (some ⟨F, 0, none⟩) := hq8
  have hq9 : u 9 = v := hq9
  have hq11 : u 11 = x11 := hq11
  have hq13 : u 13 = x13 := hq13
  rw [hq8, hq9, hq11, hq13]
  clear hq8 hq9 hq11 hq13 hs
  have hN0 : New w w.drew := (Mods.refl _ _).drew
  refine wp_region_held (by kernel_rfl) (S := fun W => Mods (fun _ => False) w W) ?_
  show wpAnyH _ _ _ _ _ _ _ _ w.drew
  have hS : Mods (fun _ => False) w w.drew := hN0
  obtain ⟨Wd, hWd⟩ : ∃ Wd, w.drew = Wd := ⟨_, rfl⟩
  rw [hWd] at hS ⊢
  clear hWd hN0
  refine anyH_take 1 (some 77) (v) rfl rfl (by kernel_rfl) (by kernel_rfl) (by kernel_rfl) (fun _ _ _ h => h.elim) (.inl ⟨by rfl, fun W hW => by go_simp⟩) hS ?_
  simp only [Act.put, List.setIfInBounds_toArray, List.set_cons_succ, List.set_cons_zero]
  refine anyH_take 3 (some 79) (.agg #[.string ⟨#[97]⟩, .string ⟨#[]⟩]) rfl rfl (by kernel_rfl) (by kernel_rfl) (by kernel_rfl) (fun _ _ _ h => h.elim) (.inl ⟨by rfl, fun W hW => by go_simp⟩) hS ?_
  simp only [Act.put, List.setIfInBounds_toArray, List.set_cons_succ, List.set_cons_zero]
  refine anyH_take 4 (some 80) (.agg #[.string f.name, .string f.val]) rfl rfl (by kernel_rfl) (by kernel_rfl) (by kernel_rfl) (fun _ _ _ h => h.elim) (.inl ⟨by rfl, fun W hW => by have c0 := hW.cell hF0 id; have c1 := hW.cell hF1 id; go_simp⟩) hS ?_
  simp only [Act.put, List.setIfInBounds_toArray, List.set_cons_succ, List.set_cons_zero]
  refine wpAnyH_all (rs := [0, 5, 11]) (by kernel_rfl) (by simp) ?_
  simp only [List.mem_cons, List.not_mem_nil, or_false, forall_eq_or_imp, forall_eq]
  refine ⟨?_, ?_, ?_⟩
  · refine opH_value (some 76) rfl (by rfl) rfl (v := .slice (some ⟨Wd.heap.size, 0, none⟩) 0 0) (w' := Wd.alloc (.cells #[] 54)) (by go_simp) ?_
    have hSold := hS
    have hk : New Wd (Wd.alloc (.cells #[] 54)) := (Mods.refl _ _).alloc _
    replace hS := hS.trans hk
    have hO := OwR.nil Wd
    have hbO : w.heap.size ≤ Wd.heap.size := hSold.size
    refine ⟨hS, ?_⟩
    simp only [Act.put, List.setIfInBounds_toArray, List.set_cons_succ, List.set_cons_zero]
    clear hk
    obtain ⟨W1, hwW1⟩ : ∃ W, Wd.alloc (.cells #[] 54) = W := ⟨_, rfl⟩
    rw [hwW1] at hS hO ⊢
    clear hwW1
    obtain ⟨B76, hb⟩ : ∃ x, Wd.heap.size = x := ⟨_, rfl⟩
    rw [hb] at hO hbO ⊢
    clear hb
    refine wpAnyH_all (rs := [2, 5, 11]) (by kernel_rfl) (by simp) ?_
    simp only [List.mem_cons, List.not_mem_nil, or_false, forall_eq_or_imp, forall_eq]
    refine ⟨?_, ?_, ?_⟩
    · refine wpOp_append_L (some 78) rfl (by rfl) rfl (.tmp 76) (.tmp 77) rfl rfl rfl hO (hM.new hS) hMc (by rw [List.length_nil]; omega) (Nat.le_of_lt (hO.lt B76 rfl).2) ?_
      intro v78 W2 hO1 hg
      replace hS : Mods (fun _ => False) w W2 := hS.grown hg (fun k hk => by cases hk; exact .inl hbO)
      replace hO : OwR w.heap.size W2 v78 M := owns_mono hO1 hbO
      clear hO1 hg
      refine ⟨hS, ?_⟩
      simp only [Act.put, List.setIfInBounds_toArray, List.set_cons_succ, List.set_cons_zero]
      refine wpAnyH_all (rs := [5, 11]) (by kernel_rfl) (by simp) ?_
      simp only [List.mem_cons, List.not_mem_nil, or_false, forall_eq_or_imp, forall_eq]
      refine ⟨?_, ?_⟩
      · refine opH_value (some 81) rfl (by rfl) rfl (v := .slice (some ⟨W2.heap.size, 0, none⟩) 2 2) (w' := W2.alloc (.cells #[.string ⟨#[97]⟩, .string ⟨#[]⟩, .string f.name, .string f.val] 54)) (by go_simp) ?_
        have hk : New W2 (W2.alloc (.cells #[.string ⟨#[97]⟩, .string ⟨#[]⟩, .string f.name, .string f.val] 54)) := (Mods.refl _ _).alloc _
        replace hO := hO.new hk
        replace hS := hS.trans hk
        have h81 := World.alloc_heap_new W2 (.cells #[.string ⟨#[97]⟩, .string ⟨#[]⟩, .string f.name, .string f.val] 54)
        refine ⟨hS, ?_⟩
        simp only [Act.put, List.setIfInBounds_toArray, List.set_cons_succ, List.set_cons_zero]
        clear hk
        obtain ⟨W3, hwW3⟩ : ∃ W, W2.alloc (.cells #[.string ⟨#[97]⟩, .string ⟨#[]⟩, .string f.name, .string f.val] 54) = W := ⟨_, rfl⟩
        rw [hwW3] at hS hO h81 ⊢
        clear hwW3
        obtain ⟨B81, hb⟩ : ∃ x, W2.heap.size = x := ⟨_, rfl⟩
        rw [hb] at h81 ⊢
        clear hb
        refine wpAnyH_all (rs := [6, 11]) (by kernel_rfl) (by simp) ?_
        simp only [List.mem_cons, List.not_mem_nil, or_false, forall_eq_or_imp, forall_eq]
        refine ⟨?_, ?_⟩
        · refine wpOp_append_L (some 82) rfl (by rfl) rfl (.tmp 78) (.tmp 81) rfl rfl rfl hO (pair_reads h81) pair_cap (by simp; omega) hS.size ?_
          intro v82 W4 hO1 hg
          replace hS : Mods (fun _ => False) w W4 := hS.grown hg (fun k hk => .inl (hO.lt k hk).1)
          replace hO := hO1
          clear hO1 hg h81
          refine ⟨hS, ?_⟩
          simp only [Act.put, List.setIfInBounds_toArray, List.set_cons_succ, List.set_cons_zero]
          refine wpAnyH_all (rs := [7, 11]) (by kernel_rfl) (by simp) ?_
          simp only [List.mem_cons, List.not_mem_nil, or_false, forall_eq_or_imp, forall_eq]
          refine ⟨?_, ?_⟩
          · have hrd := hO.reads (by simp; omega)
            refine opH_call (some 83) rfl (by rfl) rfl 36 #[v82] (by go_simp) ((hC.out W4 v82 hrd.1.1 hrd.2).mono ?_)
            rintro e W5 ⟨r, ao, n, c, rfl, hk⟩
            clear hrd
            replace hS := hS.trans hk
            refine ⟨_, rfl, hS, ?_⟩
            clear hk hO
            simp only [Act.put, List.setIfInBounds_toArray, List.set_cons_succ, List.set_cons_zero]
            refine anyH_take 8 (some 75) (.tuple #[.agg #[.string r.meth, .string r.scheme, .string r.path, .string r.host, .slice ao n c], .bool b]) rfl rfl (by kernel_rfl) (by kernel_rfl) (by kernel_rfl) (fun _ _ _ h => h.elim) (.inl ⟨by rfl, fun W hW => by go_simp⟩) hS ?_
            simp only [Act.put, List.setIfInBounds_toArray, List.set_cons_succ, List.set_cons_zero]
            refine anyH_take 9 (some 84) (.agg #[.string r.meth, .string r.scheme, .string r.path, .string r.host, .slice ao n c]) rfl rfl (by kernel_rfl) (by kernel_rfl) (by kernel_rfl) (fun _ _ _ h => h.elim) (.inl ⟨by rfl, fun W hW => by go_simp⟩) hS ?_
            simp only [Act.put, List.setIfInBounds_toArray, List.set_cons_succ, List.set_cons_zero]
            refine anyH_take 10 (some 85) (.bool b) rfl rfl (by kernel_rfl) (by kernel_rfl) (by kernel_rfl) (fun _ _ _ h => h.elim) (.inl ⟨by rfl, fun W hW => by go_simp⟩) hS ?_
            simp only [Act.put, List.setIfInBounds_toArray, List.set_cons_succ, List.set_cons_zero]
            refine wpAnyH_all (rs := [11]) (by kernel_rfl) (by simp) ?_
            simp only [List.mem_cons, List.not_mem_nil, or_false, forall_eq_or_imp, forall_eq]
            refine opH_value (some 14) rfl (by rfl) rfl (v := .pointer (some ⟨W5.heap.size, 0, none⟩)) (w' := W5.alloc (.cells #[.string ⟨#[]⟩, .string ⟨#[]⟩, .string ⟨#[]⟩, .string ⟨#[]⟩, .slice none 0 0] 56)) (by go_simp) ?_
            have hSold := hS
            have hk : New W5 (W5.alloc (.cells #[.string ⟨#[]⟩, .string ⟨#[]⟩, .string ⟨#[]⟩, .string ⟨#[]⟩, .slice none 0 0] 56)) := (Mods.refl _ _).alloc _
            replace hS := hS.trans hk
            have h14 := World.alloc_heap_new W5 (.cells #[.string ⟨#[]⟩, .string ⟨#[]⟩, .string ⟨#[]⟩, .string ⟨#[]⟩, .slice none 0 0] 56)
            have hTl : w.heap.size ≤ W5.heap.size := hSold.size
            refine ⟨hS, ?_⟩
            simp only [Act.put, List.setIfInBounds_toArray, List.set_cons_succ, List.set_cons_zero]
            clear hk
            obtain ⟨W6, hwW6⟩ : ∃ W, W5.alloc (.cells #[.string ⟨#[]⟩, .string ⟨#[]⟩, .string ⟨#[]⟩, .string ⟨#[]⟩, .slice none 0 0] 56) = W := ⟨_, rfl⟩
            rw [hwW6] at hS h14 ⊢
            clear hwW6
            obtain ⟨BT, hb⟩ : ∃ x, W5.heap.size = x := ⟨_, rfl⟩
            rw [hb] at h14 hTl ⊢
            clear hb
            refine wpAnyH_all (rs := [12]) (by kernel_rfl) (by simp) ?_
            simp only [List.mem_cons, List.not_mem_nil, or_false, forall_eq_or_imp, forall_eq]
            refine opH_skip none rfl (by rfl) rfl (run_store_row 56 (.tmp 14) (.tmp 84) rfl BT rfl 56 [.string ⟨#[]⟩, .string ⟨#[]⟩, .string ⟨#[]⟩, .string ⟨#[]⟩, .slice none 0 0] [.string r.meth, .string r.scheme, .string r.path, .string r.host, .slice ao n c] rfl h14 info56 rfl (row5_one r ao n c)) ?_
            replace hS := hS.setRow hTl #[.string r.meth, .string r.scheme, .string r.path, .string r.host, .slice ao n c]
            refine ⟨hS, ?_⟩
            simp only [Act.put, List.setIfInBounds_toArray, List.set_cons_succ, List.set_cons_zero]
            refine anyH_take 13 (some 15) (.bool b) rfl rfl (by kernel_rfl) (by kernel_rfl) (by kernel_rfl) (fun _ _ _ h => h.elim) (.inl ⟨by rfl, fun W hW => by go_simp⟩) hS ?_
            simp only [Act.put, List.setIfInBounds_toArray, List.set_cons_succ, List.set_cons_zero]
            refine wpAnyH_done (by kernel_rfl) ?_ _
            exact ⟨⟨rfl, rfl, rfl, rfl, rfl, rfl⟩, hS⟩
          · refine opH_value (some 14) rfl (by rfl) rfl (v := .pointer (some ⟨W4.heap.size, 0, none⟩)) (w' := W4.alloc (.cells #[.string ⟨#[]⟩, .string ⟨#[]⟩, .string ⟨#[]⟩, .string ⟨#[]⟩, .slice none 0 0] 56)) (by go_simp) ?_
            have hSold := hS
            have hk : New W4 (W4.alloc (.cells #[.string ⟨#[]⟩, .string ⟨#[]⟩, .string ⟨#[]⟩, .string ⟨#[]⟩, .slice none 0 0] 56)) := (Mods.refl _ _).alloc _
            replace hO := hO.new hk
            replace hS := hS.trans hk
            have h14 := World.alloc_heap_new W4 (.cells #[.string ⟨#[]⟩, .string ⟨#[]⟩, .string ⟨#[]⟩, .string ⟨#[]⟩, .slice none 0 0] 56)
            have hTl : w.heap.size ≤ W4.heap.size := hSold.size
            refine ⟨hS, ?_⟩
            simp only [Act.put, List.setIfInBounds_toArray, List.set_cons_succ, List.set_cons_zero]
            clear hk
            obtain ⟨W7, hwW7⟩ : ∃ W, W4.alloc (.cells #[.string ⟨#[]⟩, .string ⟨#[]⟩, .string ⟨#[]⟩, .string ⟨#[]⟩, .slice none 0 0] 56) = W := ⟨_, rfl⟩
            rw [hwW7] at hS hO h14 ⊢
            clear hwW7
            obtain ⟨BT, hb⟩ : ∃ x, W4.heap.size = x := ⟨_, rfl⟩
            rw [hb] at h14 hTl ⊢
            clear hb
            refine wpAnyH_all (rs := [7]) (by kernel_rfl) (by simp) ?_
            simp only [List.mem_cons, List.not_mem_nil, or_false, forall_eq_or_imp, forall_eq]
            have hrd := hO.reads (by simp; omega)
            refine opH_call (some 83) rfl (by rfl) rfl 36 #[v82] (by go_simp) ((hC.out W7 v82 hrd.1.1 hrd.2).mono ?_)
            rintro e W8 ⟨r, ao, n, c, rfl, hk⟩
            clear hrd
            replace h14 := hk.heap h14 id
            replace hS := hS.trans hk
            refine ⟨_, rfl, hS, ?_⟩
            clear hk hO
            simp only [Act.put, List.setIfInBounds_toArray, List.set_cons_succ, List.set_cons_zero]
            refine anyH_take 8 (some 75) (.tuple #[.agg #[.string r.meth, .string r.scheme, .string r.path, .string r.host, .slice ao n c], .bool b]) rfl rfl (by kernel_rfl) (by kernel_rfl) (by kernel_rfl) (fun _ _ _ h => h.elim) (.inl ⟨by rfl, fun W hW => by go_simp⟩) hS ?_
            simp only [Act.put, List.setIfInBounds_toArray, List.set_cons_succ, List.set_cons_zero]
            refine anyH_take 9 (some 84) (.agg #[.string r.meth, .string r.scheme, .string r.path, .string r.host, .slice ao n c]) rfl rfl (by kernel_rfl) (by kernel_rfl) (by kernel_rfl) (fun _ _ _ h => h.elim) (.inl ⟨by rfl, fun W hW => by go_simp⟩) hS ?_
            simp only [Act.put, List.setIfInBounds_toArray, List.set_cons_succ, List.set_cons_zero]
            refine anyH_take 10 (some 85) (.bool b) rfl rfl (by kernel_rfl) (by kernel_rfl) (by kernel_rfl) (fun _ _ _ h => h.elim) (.inl ⟨by rfl, fun W hW => by go_simp⟩) hS ?_
            simp only [Act.put, List.setIfInBounds_toArray, List.set_cons_succ, List.set_cons_zero]
            refine wpAnyH_all (rs := [12]) (by kernel_rfl) (by simp) ?_
            simp only [List.mem_cons, List.not_mem_nil, or_false, forall_eq_or_imp, forall_eq]
            refine opH_skip none rfl (by rfl) rfl (run_store_row 56 (.tmp 14) (.tmp 84) rfl BT rfl 56 [.string ⟨#[]⟩, .string ⟨#[]⟩, .string ⟨#[]⟩, .string ⟨#[]⟩, .slice none 0 0] [.string r.meth, .string r.scheme, .string r.path, .string r.host, .slice ao n c] rfl h14 info56 rfl (row5_one r ao n c)) ?_
            replace hS := hS.setRow hTl #[.string r.meth, .string r.scheme, .string r.path, .string r.host, .slice ao n c]
            refine ⟨hS, ?_⟩
            simp only [Act.put, List.setIfInBounds_toArray, List.set_cons_succ, List.set_cons_zero]
            refine anyH_take 13 (some 15) (.bool b) rfl rfl (by kernel_rfl) (by kernel_rfl) (by kernel_rfl) (fun _ _ _ h => h.elim) (.inl ⟨by rfl, fun W hW => by go_simp⟩) hS ?_
            simp only [Act.put, List.setIfInBounds_toArray, List.set_cons_succ, List.set_cons_zero]
            refine wpAnyH_done (by kernel_rfl) ?_ _
            exact ⟨⟨rfl, rfl, rfl, rfl, rfl, rfl⟩, hS⟩
        · refine opH_value (some 14) rfl (by rfl) rfl (v := .pointer (some ⟨W3.heap.size, 0, none⟩)) (w' := W3.alloc (.cells #[.string ⟨#[]⟩, .string ⟨#[]⟩, .string ⟨#[]⟩, .string ⟨#[]⟩, .slice none 0 0] 56)) (by go_simp) ?_
          have hSold := hS
          have hk : New W3 (W3.alloc (.cells #[.string ⟨#[]⟩, .string ⟨#[]⟩, .string ⟨#[]⟩, .string ⟨#[]⟩, .slice none 0 0] 56)) := (Mods.refl _ _).alloc _
          replace hO := hO.new hk
          replace h81 := hk.heap h81 id
          replace hS := hS.trans hk
          have h14 := World.alloc_heap_new W3 (.cells #[.string ⟨#[]⟩, .string ⟨#[]⟩, .string ⟨#[]⟩, .string ⟨#[]⟩, .slice none 0 0] 56)
          have hTl : w.heap.size ≤ W3.heap.size := hSold.size
          refine ⟨hS, ?_⟩
          simp only [Act.put, List.setIfInBounds_toArray, List.set_cons_succ, List.set_cons_zero]
          clear hk
          obtain ⟨W9, hwW9⟩ : ∃ W, W3.alloc (.cells #[.string ⟨#[]⟩, .string ⟨#[]⟩, .string ⟨#[]⟩, .string ⟨#[]⟩, .slice none 0 0] 56) = W := ⟨_, rfl⟩
          rw [hwW9] at hS hO h81 h14 ⊢
          clear hwW9
          obtain ⟨BT, hb⟩ : ∃ x, W3.heap.size = x := ⟨_, rfl⟩
          rw [hb] at h14 hTl ⊢
          clear hb
          refine wpAnyH_all (rs := [6]) (by kernel_rfl) (by simp) ?_
          simp only [List.mem_cons, List.not_mem_nil, or_false, forall_eq_or_imp, forall_eq]
          refine wpOp_append_L (some 82) rfl (by rfl) rfl (.tmp 78) (.tmp 81) rfl rfl rfl hO (pair_reads h81) pair_cap (by simp; omega) hS.size ?_
          intro v82 W10 hO1 hg
          replace hS : Mods (fun _ => False) w W10 := hS.grown hg (fun k hk => .inl (hO.lt k hk).1)
          replace h14 := (hg.block BT (Array.getElem?_eq_some_iff.1 h14).1 (fun e => own_row_ne hO h14 (by decide) e.symm)).trans h14
          replace hO := hO1
          clear hO1 hg h81
          refine ⟨hS, ?_⟩
          simp only [Act.put, List.setIfInBounds_toArray, List.set_cons_succ, List.set_cons_zero]
          refine wpAnyH_all (rs := [7]) (by kernel_rfl) (by simp) ?_
          simp only [List.mem_cons, List.not_mem_nil, or_false, forall_eq_or_imp, forall_eq]
          have hrd := hO.reads (by simp; omega)
          refine opH_call (some 83) rfl (by rfl) rfl 36 #[v82] (by go_simp) ((hC.out W10 v82 hrd.1.1 hrd.2).mono ?_)
          rintro e W11 ⟨r, ao, n, c, rfl, hk⟩
          clear hrd
          replace h14 := hk.heap h14 id
          replace hS := hS.trans hk
          refine ⟨_, rfl, hS, ?_⟩
          clear hk hO
          simp only [Act.put, List.setIfInBounds_toArray, List.set_cons_succ, List.set_cons_zero]
          refine anyH_take 8 (some 75) (.tuple #[.agg #[.string r.meth, .string r.scheme, .string r.path, .string r.host, .slice ao n c], .bool b]) rfl rfl (by kernel_rfl) (by kernel_rfl) (by kernel_rfl) (fun _ _ _ h => h.elim) (.inl ⟨by rfl, fun W hW => by go_simp⟩) hS ?_
          simp only [Act.put, List.setIfInBounds_toArray, List.set_cons_succ, List.set_cons_zero]
          refine anyH_take 9 (some 84) (.agg #[.string r.meth, .string r.scheme, .string r.path, .string r.host, .slice ao n c]) rfl rfl (by kernel_rfl) (by kernel_rfl) (by kernel_rfl) (fun _ _ _ h => h.elim) (.inl ⟨by rfl, fun W hW => by go_simp⟩) hS ?_
          simp only [Act.put, List.setIfInBounds_toArray, List.set_cons_succ, List.set_cons_zero]
          refine anyH_take 10 (some 85) (.bool b) rfl rfl (by kernel_rfl) (by kernel_rfl) (by kernel_rfl) (fun _ _ _ h => h.elim) (.inl ⟨by rfl, fun W hW => by go_simp⟩) hS ?_
          simp only [Act.put, List.setIfInBounds_toArray, List.set_cons_succ, List.set_cons_zero]
          refine wpAnyH_all (rs := [12]) (by kernel_rfl) (by simp) ?_
          simp only [List.mem_cons, List.not_mem_nil, or_false, forall_eq_or_imp, forall_eq]
          refine opH_skip none rfl (by rfl) rfl (run_store_row 56 (.tmp 14) (.tmp 84) rfl BT rfl 56 [.string ⟨#[]⟩, .string ⟨#[]⟩, .string ⟨#[]⟩, .string ⟨#[]⟩, .slice none 0 0] [.string r.meth, .string r.scheme, .string r.path, .string r.host, .slice ao n c] rfl h14 info56 rfl (row5_one r ao n c)) ?_
          replace hS := hS.setRow hTl #[.string r.meth, .string r.scheme, .string r.path, .string r.host, .slice ao n c]
          refine ⟨hS, ?_⟩
          simp only [Act.put, List.setIfInBounds_toArray, List.set_cons_succ, List.set_cons_zero]
          refine anyH_take 13 (some 15) (.bool b) rfl rfl (by kernel_rfl) (by kernel_rfl) (by kernel_rfl) (fun _ _ _ h => h.elim) (.inl ⟨by rfl, fun W hW => by go_simp⟩) hS ?_
          simp only [Act.put, List.setIfInBounds_toArray, List.set_cons_succ, List.set_cons_zero]
          refine wpAnyH_done (by kernel_rfl) ?_ _
          exact ⟨⟨rfl, rfl, rfl, rfl, rfl, rfl⟩, hS⟩
      · refine opH_value (some 14) rfl (by rfl) rfl (v := .pointer (some ⟨W2.heap.size, 0, none⟩)) (w' := W2.alloc (.cells #[.string ⟨#[]⟩, .string ⟨#[]⟩, .string ⟨#[]⟩, .string ⟨#[]⟩, .slice none 0 0] 56)) (by go_simp) ?_
        have hSold := hS
        have hk : New W2 (W2.alloc (.cells #[.string ⟨#[]⟩, .string ⟨#[]⟩, .string ⟨#[]⟩, .string ⟨#[]⟩, .slice none 0 0] 56)) := (Mods.refl _ _).alloc _
        replace hO := hO.new hk
        replace hS := hS.trans hk
        have h14 := World.alloc_heap_new W2 (.cells #[.string ⟨#[]⟩, .string ⟨#[]⟩, .string ⟨#[]⟩, .string ⟨#[]⟩, .slice none 0 0] 56)
        have hTl : w.heap.size ≤ W2.heap.size := hSold.size
        refine ⟨hS, ?_⟩
        simp only [Act.put, List.setIfInBounds_toArray, List.set_cons_succ, List.set_cons_zero]
        clear hk
        obtain ⟨W12, hwW12⟩ : ∃ W, W2.alloc (.cells #[.string ⟨#[]⟩, .string ⟨#[]⟩, .string ⟨#[]⟩, .string ⟨#[]⟩, .slice none 0 0] 56) = W := ⟨_, rfl⟩
        rw [hwW12] at hS hO h14 ⊢
        clear hwW12
        obtain ⟨BT, hb⟩ : ∃ x, W2.heap.size = x := ⟨_, rfl⟩
        rw [hb] at h14 hTl ⊢
        clear hb
        refine wpAnyH_all (rs := [5]) (by kernel_rfl) (by simp) ?_
        simp only [List.mem_cons, List.not_mem_nil, or_false, forall_eq_or_imp, forall_eq]
        refine opH_value (some 81) rfl (by rfl) rfl (v := .slice (some ⟨W12.heap.size, 0, none⟩) 2 2) (w' := W12.alloc (.cells #[.string ⟨#[97]⟩, .string ⟨#[]⟩, .string f.name, .string f.val] 54)) (by go_simp) ?_
        have hk : New W12 (W12.alloc (.cells #[.string ⟨#[97]⟩, .string ⟨#[]⟩, .string f.name, .string f.val] 54)) := (Mods.refl _ _).alloc _
        replace hO := hO.new hk
        replace h14 := hk.heap h14 id
        replace hS := hS.trans hk
        have h81 := World.alloc_heap_new W12 (.cells #[.string ⟨#[97]⟩, .string ⟨#[]⟩, .string f.name, .string f.val] 54)
        refine ⟨hS, ?_⟩
        simp only [Act.put, List.setIfInBounds_toArray, List.set_cons_succ, List.set_cons_zero]
        clear hk
        obtain ⟨W13, hwW13⟩ : ∃ W, W12.alloc (.cells #[.string ⟨#[97]⟩, .string ⟨#[]⟩, .string f.name, .string f.val] 54) = W := ⟨_, rfl⟩
        rw [hwW13] at hS hO h81 h14 ⊢
        clear hwW13
        obtain ⟨B81, hb⟩ : ∃ x, W12.heap.size = x := ⟨_, rfl⟩
        rw [hb] at h81 ⊢
        clear hb
        refine wpAnyH_all (rs := [6]) (by kernel_rfl) (by simp) ?_
        simp only [List.mem_cons, List.not_mem_nil, or_false, forall_eq_or_imp, forall_eq]
        refine wpOp_append_L (some 82) rfl (by rfl) rfl (.tmp 78) (.tmp 81) rfl rfl rfl hO (pair_reads h81) pair_cap (by simp; omega) hS.size ?_
        intro v82 W14 hO1 hg
        replace hS : Mods (fun _ => False) w W14 := hS.grown hg (fun k hk => .inl (hO.lt k hk).1)
        replace h14 := (hg.block BT (Array.getElem?_eq_some_iff.1 h14).1 (fun e => own_row_ne hO h14 (by decide) e.symm)).trans h14
        replace hO := hO1
        clear hO1 hg h81
        refine ⟨hS, ?_⟩
        simp only [Act.put, List.setIfInBounds_toArray, List.set_cons_succ, List.set_cons_zero]
        refine wpAnyH_all (rs := [7]) (by kernel_rfl) (by simp) ?_
        simp only [List.mem_cons, List.not_mem_nil, or_false, forall_eq_or_imp, forall_eq]
        have hrd := hO.reads (by simp; omega)
        refine opH_call (some 83) rfl (by rfl) rfl 36 #[v82] (by go_simp) ((hC.out W14 v82 hrd.1.1 hrd.2).mono ?_)
        rintro e W15 ⟨r, ao, n, c, rfl, hk⟩
        clear hrd
        replace h14 := hk.heap h14 id
        replace hS := hS.trans hk
        refine ⟨_, rfl, hS, ?_⟩
        clear hk hO
        simp only [Act.put, List.setIfInBounds_toArray, List.set_cons_succ, List.set_cons_zero]
        refine anyH_take 8 (some 75) (.tuple #[.agg #[.string r.meth, .string r.scheme, .string r.path, .string r.host, .slice ao n c], .bool b]) rfl rfl (by kernel_rfl) (by kernel_rfl) (by kernel_rfl) (fun _ _ _ h => h.elim) (.inl ⟨by rfl, fun W hW => by go_simp⟩) hS ?_
        simp only [Act.put, List.setIfInBounds_toArray, List.set_cons_succ, List.set_cons_zero]
        refine anyH_take 9 (some 84) (.agg #[.string r.meth, .string r.scheme, .string r.path, .string r.host, .slice ao n c]) rfl rfl (by kernel_rfl) (by kernel_rfl) (by kernel_rfl) (fun _ _ _ h => h.elim) (.inl ⟨by rfl, fun W hW => by go_simp⟩) hS ?_
        simp only [Act.put, List.setIfInBounds_toArray, List.set_cons_succ, List.set_cons_zero]
        refine anyH_take 10 (some 85) (.bool b) rfl rfl (by kernel_rfl) (by kernel_rfl) (by kernel_rfl) (fun _ _ _ h => h.elim) (.inl ⟨by rfl, fun W hW => by go_simp⟩) hS ?_
        simp only [Act.put, List.setIfInBounds_toArray, List.set_cons_succ, List.set_cons_zero]
        refine wpAnyH_all (rs := [12]) (by kernel_rfl) (by simp) ?_
        simp only [List.mem_cons, List.not_mem_nil, or_false, forall_eq_or_imp, forall_eq]
        refine opH_skip none rfl (by rfl) rfl (run_store_row 56 (.tmp 14) (.tmp 84) rfl BT rfl 56 [.string ⟨#[]⟩, .string ⟨#[]⟩, .string ⟨#[]⟩, .string ⟨#[]⟩, .slice none 0 0] [.string r.meth, .string r.scheme, .string r.path, .string r.host, .slice ao n c] rfl h14 info56 rfl (row5_one r ao n c)) ?_
        replace hS := hS.setRow hTl #[.string r.meth, .string r.scheme, .string r.path, .string r.host, .slice ao n c]
        refine ⟨hS, ?_⟩
        simp only [Act.put, List.setIfInBounds_toArray, List.set_cons_succ, List.set_cons_zero]
        refine anyH_take 13 (some 15) (.bool b) rfl rfl (by kernel_rfl) (by kernel_rfl) (by kernel_rfl) (fun _ _ _ h => h.elim) (.inl ⟨by rfl, fun W hW => by go_simp⟩) hS ?_
        simp only [Act.put, List.setIfInBounds_toArray, List.set_cons_succ, List.set_cons_zero]
        refine wpAnyH_done (by kernel_rfl) ?_ _
        exact ⟨⟨rfl, rfl, rfl, rfl, rfl, rfl⟩, hS⟩
    · refine opH_value (some 81) rfl (by rfl) rfl (v := .slice (some ⟨W1.heap.size, 0, none⟩) 2 2) (w' := W1.alloc (.cells #[.string ⟨#[97]⟩, .string ⟨#[]⟩, .string f.name, .string f.val] 54)) (by go_simp) ?_
      have n81 : W1.heap.size ≠ B76 := by have := (hO.lt B76 rfl).2; omega
      have hk : New W1 (W1.alloc (.cells #[.string ⟨#[97]⟩, .string ⟨#[]⟩, .string f.name, .string f.val] 54)) := (Mods.refl _ _).alloc _
      replace hO := hO.new hk
      replace hS := hS.trans hk
      have h81 := World.alloc_heap_new W1 (.cells #[.string ⟨#[97]⟩, .string ⟨#[]⟩, .string f.name, .string f.val] 54)
      refine ⟨hS, ?_⟩
      simp only [Act.put, List.setIfInBounds_toArray, List.set_cons_succ, List.set_cons_zero]
      clear hk
      obtain ⟨W16, hwW16⟩ : ∃ W, W1.alloc (.cells #[.string ⟨#[97]⟩, .string ⟨#[]⟩, .string f.name, .string f.val] 54) = W := ⟨_, rfl⟩
      rw [hwW16] at hS hO h81 ⊢
      clear hwW16
      obtain ⟨B81, hb⟩ : ∃ x, W1.heap.size = x := ⟨_, rfl⟩
      rw [hb] at h81 n81 ⊢
      clear hb
      refine wpAnyH_all (rs := [2, 11]) (by kernel_rfl) (by simp) ?_
      simp only [List.mem_cons, List.not_mem_nil, or_false, forall_eq_or_imp, forall_eq]
      refine ⟨?_, ?_⟩
      · refine wpOp_append_L (some 78) rfl (by rfl) rfl (.tmp 76) (.tmp 77) rfl rfl rfl hO (hM.new hS) hMc (by rw [List.length_nil]; omega) (Nat.le_of_lt (hO.lt B76 rfl).2) ?_
        intro v78 W17 hO1 hg
        replace hS : Mods (fun _ => False) w W17 := hS.grown hg (fun k hk => by cases hk; exact .inl hbO)
        replace h81 := (hg.block B81 (Array.getElem?_eq_some_iff.1 h81).1 (fun e => n81 (Option.some.inj e))).trans h81
        replace hO : OwR w.heap.size W17 v78 M := owns_mono hO1 hbO
        clear hO1 hg
        refine ⟨hS, ?_⟩
        simp only [Act.put, List.setIfInBounds_toArray, List.set_cons_succ, List.set_cons_zero]
        refine wpAnyH_all (rs := [6, 11]) (by kernel_rfl) (by simp) ?_
        simp only [List.mem_cons, List.not_mem_nil, or_false, forall_eq_or_imp, forall_eq]
        refine ⟨?_, ?_⟩
        · refine wpOp_append_L (some 82) rfl (by rfl) rfl (.tmp 78) (.tmp 81) rfl rfl rfl hO (pair_reads h81) pair_cap (by simp; omega) hS.size ?_
          intro v82 W18 hO1 hg
          replace hS : Mods (fun _ => False) w W18 := hS.grown hg (fun k hk => .inl (hO.lt k hk).1)
          replace hO := hO1
          clear hO1 hg h81
          refine ⟨hS, ?_⟩
          simp only [Act.put, List.setIfInBounds_toArray, List.set_cons_succ, List.set_cons_zero]
          refine wpAnyH_all (rs := [7, 11]) (by kernel_rfl) (by simp) ?_
          simp only [List.mem_cons, List.not_mem_nil, or_false, forall_eq_or_imp, forall_eq]
          refine ⟨?_, ?_⟩
          · have hrd := hO.reads (by simp; omega)
            refine opH_call (some 83) rfl (by rfl) rfl 36 #[v82] (by go_simp) ((hC.out W18 v82 hrd.1.1 hrd.2).mono ?_)
            rintro e W19 ⟨r, ao, n, c, rfl, hk⟩
            clear hrd
            replace hS := hS.trans hk
            refine ⟨_, rfl, hS, ?_⟩
            clear hk hO
            simp only [Act.put, List.setIfInBounds_toArray, List.set_cons_succ, List.set_cons_zero]
            refine anyH_take 8 (some 75) (.tuple #[.agg #[.string r.meth, .string r.scheme, .string r.path, .string r.host, .slice ao n c], .bool b]) rfl rfl (by kernel_rfl) (by kernel_rfl) (by kernel_rfl) (fun _ _ _ h => h.elim) (.inl ⟨by rfl, fun W hW => by go_simp⟩) hS ?_
            simp only [Act.put, List.setIfInBounds_toArray, List.set_cons_succ, List.set_cons_zero]
            refine anyH_take 9 (some 84) (.agg #[.string r.meth, .string r.scheme, .string r.path, .string r.host, .slice ao n c]) rfl rfl (by kernel_rfl) (by kernel_rfl) (by kernel_rfl) (fun _ _ _ h => h.elim) (.inl ⟨by rfl, fun W hW => by go_simp⟩) hS ?_
            simp only [Act.put, List.setIfInBounds_toArray, List.set_cons_succ, List.set_cons_zero]
            refine anyH_take 10 (some 85) (.bool b) rfl rfl (by kernel_rfl) (by kernel_rfl) (by kernel_rfl) (fun _ _ _ h => h.elim) (.inl ⟨by rfl, fun W hW => by go_simp⟩) hS ?_
            simp only [Act.put, List.setIfInBounds_toArray, List.set_cons_succ, List.set_cons_zero]
            refine wpAnyH_all (rs := [11]) (by kernel_rfl) (by simp) ?_
            simp only [List.mem_cons, List.not_mem_nil, or_false, forall_eq_or_imp, forall_eq]
            refine opH_value (some 14) rfl (by rfl) rfl (v := .pointer (some ⟨W19.heap.size, 0, none⟩)) (w' := W19.alloc (.cells #[.string ⟨#[]⟩, .string ⟨#[]⟩, .string ⟨#[]⟩, .string ⟨#[]⟩, .slice none 0 0] 56)) (by go_simp) ?_
            have hSold := hS
            have hk : New W19 (W19.alloc (.cells #[.string ⟨#[]⟩, .string ⟨#[]⟩, .string ⟨#[]⟩, .string ⟨#[]⟩, .slice none 0 0] 56)) := (Mods.refl _ _).alloc _
            replace hS := hS.trans hk
            have h14 := World.alloc_heap_new W19 (.cells #[.string ⟨#[]⟩, .string ⟨#[]⟩, .string ⟨#[]⟩, .string ⟨#[]⟩, .slice none 0 0] 56)
            have hTl : w.heap.size ≤ W19.heap.size := hSold.size
            refine ⟨hS, ?_⟩
            simp only [Act.put, List.setIfInBounds_toArray, List.set_cons_succ, List.set_cons_zero]
            clear hk
            obtain ⟨W20, hwW20⟩ : ∃ W, W19.alloc (.cells #[.string ⟨#[]⟩, .string ⟨#[]⟩, .string ⟨#[]⟩, .string ⟨#[]⟩, .slice none 0 0] 56) = W := ⟨_, rfl⟩
            rw [hwW20] at hS h14 ⊢
            clear hwW20
            obtain ⟨BT, hb⟩ : ∃ x, W19.heap.size = x := ⟨_, rfl⟩
            rw [hb] at h14 hTl ⊢
            clear hb
            refine wpAnyH_all (rs := [12]) (by kernel_rfl) (by simp) ?_
            simp only [List.mem_cons, List.not_mem_nil, or_false, forall_eq_or_imp, forall_eq]
            refine opH_skip none rfl (by rfl) rfl (run_store_row 56 (.tmp 14) (.tmp 84) rfl BT rfl 56 [.string ⟨#[]⟩, .string ⟨#[]⟩, .string ⟨#[]⟩, .string ⟨#[]⟩, .slice none 0 0] [.string r.meth, .string r.scheme, .string r.path, .string r.host, .slice ao n c] rfl h14 info56 rfl (row5_one r ao n c)) ?_
            replace hS := hS.setRow hTl #[.string r.meth, .string r.scheme, .string r.path, .string r.host, .slice ao n c]
            refine ⟨hS, ?_⟩
            simp only [Act.put, List.setIfInBounds_toArray, List.set_cons_succ, List.set_cons_zero]
            refine anyH_take 13 (some 15) (.bool b) rfl rfl (by kernel_rfl) (by kernel_rfl) (by kernel_rfl) (fun _ _ _ h => h.elim) (.inl ⟨by rfl, fun W hW => by go_simp⟩) hS ?_
            simp only [Act.put, List.setIfInBounds_toArray, List.set_cons_succ, List.set_cons_zero]
            refine wpAnyH_done (by kernel_rfl) ?_ _
            exact ⟨⟨rfl, rfl, rfl, rfl, rfl, rfl⟩, hS⟩
          · refine opH_value (some 14) rfl (by rfl) rfl (v := .pointer (some ⟨W18.heap.size, 0, none⟩)) (w' := W18.alloc (.cells #[.string ⟨#[]⟩, .string ⟨#[]⟩, .string ⟨#[]⟩, .string ⟨#[]⟩, .slice none 0 0] 56)) (by go_simp) ?_
            have hSold := hS
            have hk : New W18 (W18.alloc (.cells #[.string ⟨#[]⟩, .string ⟨#[]⟩, .string ⟨#[]⟩, .string ⟨#[]⟩, .slice none 0 0] 56)) := (Mods.refl _ _).alloc _
            replace hO := hO.new hk
            replace hS := hS.trans hk
            have h14 := World.alloc_heap_new W18 (.cells #[.string ⟨#[]⟩, .string ⟨#[]⟩, .string ⟨#[]⟩, .string ⟨#[]⟩, .slice none 0 0] 56)
            have hTl : w.heap.size ≤ W18.heap.size := hSold.size
            refine ⟨hS, ?_⟩
            simp only [Act.put, List.setIfInBounds_toArray, List.set_cons_succ, List.set_cons_zero]
            clear hk
            obtain ⟨W21, hwW21⟩ : ∃ W, W18.alloc (.cells #[.string ⟨#[]⟩, .string ⟨#[]⟩, .string ⟨#[]⟩, .string ⟨#[]⟩, .slice none 0 0] 56) = W := ⟨_, rfl⟩
            rw [hwW21] at hS hO h14 ⊢
            clear hwW21
            obtain ⟨BT, hb⟩ : ∃ x, W18.heap.size = x := ⟨_, rfl⟩
            rw [hb] at h14 hTl ⊢
            clear hb
            refine wpAnyH_all (rs := [7]) (by kernel_rfl) (by simp) ?_
            simp only [List.mem_cons, List.not_mem_nil, or_false, forall_eq_or_imp, forall_eq]
            have hrd := hO.reads (by simp; omega)
            refine opH_call (some 83) rfl (by rfl) rfl 36 #[v82] (by go_simp) ((hC.out W21 v82 hrd.1.1 hrd.2).mono ?_)
            rintro e W22 ⟨r, ao, n, c, rfl, hk⟩
            clear hrd
            replace h14 := hk.heap h14 id
            replace hS := hS.trans hk
            refine ⟨_, rfl, hS, ?_⟩
            clear hk hO
            simp only [Act.put, List.setIfInBounds_toArray, List.set_cons_succ, List.set_cons_zero]
            refine anyH_take 8 (some 75) (.tuple #[.agg #[.string r.meth, .string r.scheme, .string r.path, .string r.host, .slice ao n c], .bool b]) rfl rfl (by kernel_rfl) (by kernel_rfl) (by kernel_rfl) (fun _ _ _ h => h.elim) (.inl ⟨by rfl, fun W hW => by go_simp⟩) hS ?_
            simp only [Act.put, List.setIfInBounds_toArray, List.set_cons_succ, List.set_cons_zero]
            refine anyH_take 9 (some 84) (.agg #[.string r.meth, .string r.scheme, .string r.path, .string r.host, .slice ao n c]) rfl rfl (by kernel_rfl) (by kernel_rfl) (by kernel_rfl) (fun _ _ _ h => h.elim) (.inl ⟨by rfl, fun W hW => by go_simp⟩) hS ?_
            simp only [Act.put, List.setIfInBounds_toArray, List.set_cons_succ, List.set_cons_zero]
            refine anyH_take 10 (some 85) (.bool b) rfl rfl (by kernel_rfl) (by kernel_rfl) (by kernel_rfl) (fun _ _ _ h => h.elim) (.inl ⟨by rfl, fun W hW => by go_simp⟩) hS ?_
            simp only [Act.put, List.setIfInBounds_toArray, List.set_cons_succ, List.set_cons_zero]
            refine wpAnyH_all (rs := [12]) (by kernel_rfl) (by simp) ?_
            simp only [List.mem_cons, List.not_mem_nil, or_false, forall_eq_or_imp, forall_eq]
            refine opH_skip none rfl (by rfl) rfl (run_store_row 56 (.tmp 14) (.tmp 84) rfl BT rfl 56 [.string ⟨#[]⟩, .string ⟨#[]⟩, .string ⟨#[]⟩, .string ⟨#[]⟩, .slice none 0 0] [.string r.meth, .string r.scheme, .string r.path, .string r.host, .slice ao n c] rfl h14 info56 rfl (row5_one r ao n c)) ?_
            replace hS := hS.setRow hTl #[.string r.meth, .string r.scheme, .string r.path, .string r.host, .slice ao n c]
            refine ⟨hS, ?_⟩
            simp only [Act.put, List.setIfInBounds_toArray, List.set_cons_succ, List.set_cons_zero]
            refine anyH_take 13 (some 15) (.bool b) rfl rfl (by kernel_rfl) (by kernel_rfl) (by kernel_rfl) (fun _ _ _ h => h.elim) (.inl ⟨by rfl, fun W hW => by go_simp⟩) hS ?_
            simp only [Act.put, List.setIfInBounds_toArray, List.set_cons_succ, List.set_cons_zero]
            refine wpAnyH_done (by kernel_rfl) ?_ _
            exact ⟨⟨rfl, rfl, rfl, rfl, rfl, rfl⟩, hS⟩
        · refine opH_value (some 14) rfl (by rfl) rfl (v := .pointer (some ⟨W17.heap.size, 0, none⟩)) (w' := W17.alloc (.cells #[.string ⟨#[]⟩, .string ⟨#[]⟩, .string ⟨#[]⟩, .string ⟨#[]⟩, .slice none 0 0] 56)) (by go_simp) ?_
          have hSold := hS
          have hk : New W17 (W17.alloc (.cells #[.string ⟨#[]⟩, .string ⟨#[]⟩, .string ⟨#[]⟩, .string ⟨#[]⟩, .slice none 0 0] 56)) := (Mods.refl _ _).alloc _
          replace hO := hO.new hk
          replace h81 := hk.heap h81 id
          replace hS := hS.trans hk
          have h14 := World.alloc_heap_new W17 (.cells #[.string ⟨#[]⟩, .string ⟨#[]⟩, .string ⟨#[]⟩, .string ⟨#[]⟩, .slice none 0 0] 56)
          have hTl : w.heap.size ≤ W17.heap.size := hSold.size
          refine ⟨hS, ?_⟩
          simp only [Act.put, List.setIfInBounds_toArray, List.set_cons_succ, List.set_cons_zero]
          clear hk
          obtain ⟨W23, hwW23⟩ : ∃ W, W17.alloc (.cells #[.string ⟨#[]⟩, .string ⟨#[]⟩, .string ⟨#[]⟩, .string ⟨#[]⟩, .slice none 0 0] 56) = W := ⟨_, rfl⟩
          rw [hwW23] at hS hO h81 h14 ⊢
          clear hwW23
          obtain ⟨BT, hb⟩ : ∃ x, W17.heap.size = x := ⟨_, rfl⟩
          rw [hb] at h14 hTl ⊢
          clear hb
          refine wpAnyH_all (rs := [6]) (by kernel_rfl) (by simp) ?_
          simp only [List.mem_cons, List.not_mem_nil, or_false, forall_eq_or_imp, forall_eq]
          refine wpOp_append_L (some 82) rfl (by rfl) rfl (.tmp 78) (.tmp 81) rfl rfl rfl hO (pair_reads h81) pair_cap (by simp; omega) hS.size ?_
          intro v82 W24 hO1 hg
          replace hS : Mods (fun _ => False) w W24 := hS.grown hg (fun k hk => .inl (hO.lt k hk).1)
          replace h14 := (hg.block BT (Array.getElem?_eq_some_iff.1 h14).1 (fun e => own_row_ne hO h14 (by decide) e.symm)).trans h14
          replace hO := hO1
          clear hO1 hg h81
          refine ⟨hS, ?_⟩
          simp only [Act.put, List.setIfInBounds_toArray, List.set_cons_succ, List.set_cons_zero]
          refine wpAnyH_all (rs := [7]) (by kernel_rfl) (by simp) ?_
          simp only [List.mem_cons, List.not_mem_nil, or_false, forall_eq_or_imp, forall_eq]
          have hrd := hO.reads (by simp; omega)
          refine opH_call (some 83) rfl (by rfl) rfl 36 #[v82] (by go_simp) ((hC.out W24 v82 hrd.1.1 hrd.2).mono ?_)
          rintro e W25 ⟨r, ao, n, c, rfl, hk⟩
          clear hrd
          replace h14 := hk.heap h14 id
          replace hS := hS.trans hk
          refine ⟨_, rfl, hS, ?_⟩
          clear hk hO
          simp only [Act.put, List.setIfInBounds_toArray, List.set_cons_succ, List.set_cons_zero]
          refine anyH_take 8 (some 75) (.tuple #[.agg #[.string r.meth, .string r.scheme, .string r.path, .string r.host, .slice ao n c], .bool b]) rfl rfl (by kernel_rfl) (by kernel_rfl) (by kernel_rfl) (fun _ _ _ h => h.elim) (.inl ⟨by rfl, fun W hW => by go_simp⟩) hS ?_
          simp only [Act.put, List.setIfInBounds_toArray, List.set_cons_succ, List.set_cons_zero]
          refine anyH_take 9 (some 84) (.agg #[.string r.meth, .string r.scheme, .string r.path, .string r.host, .slice ao n c]) rfl rfl (by kernel_rfl) (by kernel_rfl) (by kernel_rfl) (fun _ _ _ h => h.elim) (.inl ⟨by rfl, fun W hW => by go_simp⟩) hS ?_
          simp only [Act.put, List.setIfInBounds_toArray, List.set_cons_succ, List.set_cons_zero]
          refine anyH_take 10 (some 85) (.bool b) rfl rfl (by kernel_rfl) (by kernel_rfl) (by kernel_rfl) (fun _ _ _ h => h.elim) (.inl ⟨by rfl, fun W hW => by go_simp⟩) hS ?_
          simp only [Act.put, List.setIfInBounds_toArray, List.set_cons_succ, List.set_cons_zero]
          refine wpAnyH_all (rs := [12]) (by kernel_rfl) (by simp) ?_
          simp only [List.mem_cons, List.not_mem_nil, or_false, forall_eq_or_imp, forall_eq]
          refine opH_skip none rfl (by rfl) rfl (run_store_row 56 (.tmp 14) (.tmp 84) rfl BT rfl 56 [.string ⟨#[]⟩, .string ⟨#[]⟩, .string ⟨#[]⟩, .string ⟨#[]⟩, .slice none 0 0] [.string r.meth, .string r.scheme, .string r.path, .string r.host, .slice ao n c] rfl h14 info56 rfl (row5_one r ao n c)) ?_
          replace hS := hS.setRow hTl #[.string r.meth, .string r.scheme, .string r.path, .string r.host, .slice ao n c]
          refine ⟨hS, ?_⟩
          simp only [Act.put, List.setIfInBounds_toArray, List.set_cons_succ, List.set_cons_zero]
          refine anyH_take 13 (some 15) (.bool b) rfl rfl (by kernel_rfl) (by kernel_rfl) (by kernel_rfl) (fun _ _ _ h => h.elim) (.inl ⟨by rfl, fun W hW => by go_simp⟩) hS ?_
          simp only [Act.put, List.setIfInBounds_toArray, List.set_cons_succ, List.set_cons_zero]
          refine wpAnyH_done (by kernel_rfl) ?_ _
          exact ⟨⟨rfl, rfl, rfl, rfl, rfl, rfl⟩, hS⟩
      · refine opH_value (some 14) rfl (by rfl) rfl (v := .pointer (some ⟨W16.heap.size, 0, none⟩)) (w' := W16.alloc (.cells #[.string ⟨#[]⟩, .string ⟨#[]⟩, .string ⟨#[]⟩, .string ⟨#[]⟩, .slice none 0 0] 56)) (by go_simp) ?_
        have n14 : W16.heap.size ≠ B76 := by have := (hO.lt B76 rfl).2; omega
        have hSold := hS
        have hk : New W16 (W16.alloc (.cells #[.string ⟨#[]⟩, .string ⟨#[]⟩, .string ⟨#[]⟩, .string ⟨#[]⟩, .slice none 0 0] 56)) := (Mods.refl _ _).alloc _
        replace hO := hO.new hk
        replace h81 := hk.heap h81 id
        replace hS := hS.trans hk
        have h14 := World.alloc_heap_new W16 (.cells #[.string ⟨#[]⟩, .string ⟨#[]⟩, .string ⟨#[]⟩, .string ⟨#[]⟩, .slice none 0 0] 56)
        have hTl : w.heap.size ≤ W16.heap.size := hSold.size
        refine ⟨hS, ?_⟩
        simp only [Act.put, List.setIfInBounds_toArray, List.set_cons_succ, List.set_cons_zero]
        clear hk
        obtain ⟨W26, hwW26⟩ : ∃ W, W16.alloc (.cells #[.string ⟨#[]⟩, .string ⟨#[]⟩, .string ⟨#[]⟩, .string ⟨#[]⟩, .slice none 0 0] 56) = W := ⟨_, rfl⟩
        rw [hwW26] at hS hO h81 h14 ⊢
        clear hwW26
        obtain ⟨BT, hb⟩ : ∃ x, W16.heap.size = x := ⟨_, rfl⟩
        rw [hb] at h14 hTl n14 ⊢
        clear hb
        refine wpAnyH_all (rs := [2]) (by kernel_rfl) (by simp) ?_
        simp only [List.mem_cons, List.not_mem_nil, or_false, forall_eq_or_imp, forall_eq]
        refine wpOp_append_L (some 78) rfl (by rfl) rfl (.tmp 76) (.tmp 77) rfl rfl rfl hO (hM.new hS) hMc (by rw [List.length_nil]; omega) (Nat.le_of_lt (hO.lt B76 rfl).2) ?_
        intro v78 W27 hO1 hg
        replace hS : Mods (fun _ => False) w W27 := hS.grown hg (fun k hk => by cases hk; exact .inl hbO)
        replace h81 := (hg.block B81 (Array.getElem?_eq_some_iff.1 h81).1 (fun e => n81 (Option.some.inj e))).trans h81
        replace h14 := (hg.block BT (Array.getElem?_eq_some_iff.1 h14).1 (fun e => n14 (Option.some.inj e))).trans h14
        replace hO : OwR w.heap.size W27 v78 M := owns_mono hO1 hbO
        clear hO1 hg
        refine ⟨hS, ?_⟩
        simp only [Act.put, List.setIfInBounds_toArray, List.set_cons_succ, List.set_cons_zero]
        refine wpAnyH_all (rs := [6]) (by kernel_rfl) (by simp) ?_
        simp only [List.mem_cons, List.not_mem_nil, or_false, forall_eq_or_imp, forall_eq]
        refine wpOp_append_L (some 82) rfl (by rfl) rfl (.tmp 78) (.tmp 81) rfl rfl rfl hO (pair_reads h81) pair_cap (by simp; omega) hS.size ?_
        intro v82 W28 hO1 hg
        replace hS : Mods (fun _ => False) w W28 := hS.grown hg (fun k hk => .inl (hO.lt k hk).1)
        replace h14 := (hg.block BT (Array.getElem?_eq_some_iff.1 h14).1 (fun e => own_row_ne hO h14 (by decide) e.symm)).trans h14
        replace hO := hO1
        clear hO1 hg h81
        refine ⟨hS, ?_⟩
        simp only [Act.put, List.setIfInBounds_toArray, List.set_cons_succ, List.set_cons_zero]
        refine wpAnyH_all (rs := [7]) (by kernel_rfl) (by simp) ?_
        simp only [List.mem_cons, List.not_mem_nil, or_false, forall_eq_or_imp, forall_eq]
        have hrd := hO.reads (by simp; omega)
        refine opH_call (some 83) rfl (by rfl) rfl 36 #[v82] (by go_simp) ((hC.out W28 v82 hrd.1.1 hrd.2).mono ?_)
        rintro e W29 ⟨r, ao, n, c, rfl, hk⟩
        clear hrd
        replace h14 := hk.heap h14 id
        replace hS := hS.trans hk
        refine ⟨_, rfl, hS, ?_⟩
        clear hk hO
        simp only [Act.put, List.setIfInBounds_toArray, List.set_cons_succ, List.set_cons_zero]
        refine anyH_take 8 (some 75) (.tuple #[.agg #[.string r.meth, .string r.scheme, .string r.path, .string r.host, .slice ao n c], .bool b]) rfl rfl (by kernel_rfl) (by kernel_rfl) (by kernel_rfl) (fun _ _ _ h => h.elim) (.inl ⟨by rfl, fun W hW => by go_simp⟩) hS ?_
        simp only [Act.put, List.setIfInBounds_toArray, List.set_cons_succ, List.set_cons_zero]
        refine anyH_take 9 (some 84) (.agg #[.string r.meth, .string r.scheme, .string r.path, .string r.host, .slice ao n c]) rfl rfl (by kernel_rfl) (by kernel_rfl) (by kernel_rfl) (fun _ _ _ h => h.elim) (.inl ⟨by rfl, fun W hW => by go_simp⟩) hS ?_
        simp only [Act.put, List.setIfInBounds_toArray, List.set_cons_succ, List.set_cons_zero]
        refine anyH_take 10 (some 85) (.bool b) rfl rfl (by kernel_rfl) (by kernel_rfl) (by kernel_rfl) (fun _ _ _ h => h.elim) (.inl ⟨by rfl, fun W hW => by go_simp⟩) hS ?_
        simp only [Act.put, List.setIfInBounds_toArray, List.set_cons_succ, List.set_cons_zero]
        refine wpAnyH_all (rs := [12]) (by kernel_rfl) (by simp) ?_
        simp only [List.mem_cons, List.not_mem_nil, or_false, forall_eq_or_imp, forall_eq]
        refine opH_skip none rfl (by rfl) rfl (run_store_row 56 (.tmp 14) (.tmp 84) rfl BT rfl 56 [.string ⟨#[]⟩, .string ⟨#[]⟩, .string ⟨#[]⟩, .string ⟨#[]⟩, .slice none 0 0] [.string r.meth, .string r.scheme, .string r.path, .string r.host, .slice ao n c] rfl h14 info56 rfl (row5_one r ao n c)) ?_
        replace hS := hS.setRow hTl #[.string r.meth, .string r.scheme, .string r.path, .string r.host, .slice ao n c]
        refine ⟨hS, ?_⟩
        simp only [Act.put, List.setIfInBounds_toArray, List.set_cons_succ, List.set_cons_zero]
        refine anyH_take 13 (some 15) (.bool b) rfl rfl (by kernel_rfl) (by kernel_rfl) (by kernel_rfl) (fun _ _ _ h => h.elim) (.inl ⟨by rfl, fun W hW => by go_simp⟩) hS ?_
        simp only [Act.put, List.setIfInBounds_toArray, List.set_cons_succ, List.set_cons_zero]
        refine wpAnyH_done (by kernel_rfl) ?_ _
        exact ⟨⟨rfl, rfl, rfl, rfl, rfl, rfl⟩, hS⟩
    · refine opH_value (some 14) rfl (by rfl) rfl (v := .pointer (some ⟨W1.heap.size, 0, none⟩)) (w' := W1.alloc (.cells #[.string ⟨#[]⟩, .string ⟨#[]⟩, .string ⟨#[]⟩, .string ⟨#[]⟩, .slice none 0 0] 56)) (by go_simp) ?_
      have n14 : W1.heap.size ≠ B76 := by have := (hO.lt B76 rfl).2; omega
      have hSold := hS
      have hk : New W1 (W1.alloc (.cells #[.string ⟨#[]⟩, .string ⟨#[]⟩, .string ⟨#[]⟩, .string ⟨#[]⟩, .slice none 0 0] 56)) := (Mods.refl _ _).alloc _
      replace hO := hO.new hk
      replace hS := hS.trans hk
      have h14 := World.alloc_heap_new W1 (.cells #[.string ⟨#[]⟩, .string ⟨#[]⟩, .string ⟨#[]⟩, .string ⟨#[]⟩, .slice none 0 0] 56)
      have hTl : w.heap.size ≤ W1.heap.size := hSold.size
      refine ⟨hS, ?_⟩
      simp only [Act.put, List.setIfInBounds_toArray, List.set_cons_succ, List.set_cons_zero]
      clear hk
      obtain ⟨W30, hwW30⟩ : ∃ W, W1.alloc (.cells #[.string ⟨#[]⟩, .string ⟨#[]⟩, .string ⟨#[]⟩, .string ⟨#[]⟩, .slice none 0 0] 56) = W := ⟨_, rfl⟩
      rw [hwW30] at hS hO h14 ⊢
      clear hwW30
      obtain ⟨BT, hb⟩ : ∃ x, W1.heap.size = x := ⟨_, rfl⟩
      rw [hb] at h14 hTl n14 ⊢
      clear hb
      refine wpAnyH_all (rs := [2, 5]) (by kernel_rfl) (by simp) ?_
      simp only [List.mem_cons, List.not_mem_nil, or_false, forall_eq_or_imp, forall_eq]
      refine ⟨?_, ?_⟩
      · refine wpOp_append_L (some 78) rfl (by rfl) rfl (.tmp 76) (.tmp 77) rfl rfl rfl hO (hM.new hS) hMc (by rw [List.length_nil]; omega) (Nat.le_of_lt (hO.lt B76 rfl).2) ?_
        intro v78 W31 hO1 hg
        replace hS : Mods (fun _ => False) w W31 := hS.grown hg (fun k hk => by cases hk; exact .inl hbO)
        replace h14 := (hg.block BT (Array.getElem?_eq_some_iff.1 h14).1 (fun e => n14 (Option.some.inj e))).trans h14
        replace hO : OwR w.heap.size W31 v78 M := owns_mono hO1 hbO
        clear hO1 hg
        refine ⟨hS, ?_⟩
        simp only [Act.put, List.setIfInBounds_toArray, List.set_cons_succ, List.set_cons_zero]
        refine wpAnyH_all (rs := [5]) (by kernel_rfl) (by simp) ?_
        simp only [List.mem_cons, List.not_mem_nil, or_false, forall_eq_or_imp, forall_eq]
        refine opH_value (some 81) rfl (by rfl) rfl (v := .slice (some ⟨W31.heap.size, 0, none⟩) 2 2) (w' := W31.alloc (.cells #[.string ⟨#[97]⟩, .string ⟨#[]⟩, .string f.name, .string f.val] 54)) (by go_simp) ?_
        have hk : New W31 (W31.alloc (.cells #[.string ⟨#[97]⟩, .string ⟨#[]⟩, .string f.name, .string f.val] 54)) := (Mods.refl _ _).alloc _
        replace hO := hO.new hk
        replace h14 := hk.heap h14 id
        replace hS := hS.trans hk
        have h81 := World.alloc_heap_new W31 (.cells #[.string ⟨#[97]⟩, .string ⟨#[]⟩, .string f.name, .string f.val] 54)
        refine ⟨hS, ?_⟩
        simp only [Act.put, List.setIfInBounds_toArray, List.set_cons_succ, List.set_cons_zero]
        clear hk
        obtain ⟨W32, hwW32⟩ : ∃ W, W31.alloc (.cells #[.string ⟨#[97]⟩, .string ⟨#[]⟩, .string f.name, .string f.val] 54) = W := ⟨_, rfl⟩
        rw [hwW32] at hS hO h81 h14 ⊢
        clear hwW32
        obtain ⟨B81, hb⟩ : ∃ x, W31.heap.size = x := ⟨_, rfl⟩
        rw [hb] at h81 ⊢
        clear hb
        refine wpAnyH_all (rs := [6]) (by kernel_rfl) (by simp) ?_
        simp only [List.mem_cons, List.not_mem_nil, or_false, forall_eq_or_imp, forall_eq]
        refine wpOp_append_L (some 82) rfl (by rfl) rfl (.tmp 78) (.tmp 81) rfl rfl rfl hO (pair_reads h81) pair_cap (by simp; omega) hS.size ?_
        intro v82 W33 hO1 hg
        replace hS : Mods (fun _ => False) w W33 := hS.grown hg (fun k hk => .inl (hO.lt k hk).1)
        replace h14 := (hg.block BT (Array.getElem?_eq_some_iff.1 h14).1 (fun e => own_row_ne hO h14 (by decide) e.symm)).trans h14
        replace hO := hO1
        clear hO1 hg h81
        refine ⟨hS, ?_⟩
        simp only [Act.put, List.setIfInBounds_toArray, List.set_cons_succ, List.set_cons_zero]
        refine wpAnyH_all (rs := [7]) (by kernel_rfl) (by simp) ?_
        simp only [List.mem_cons, List.not_mem_nil, or_false, forall_eq_or_imp, forall_eq]
        have hrd := hO.reads (by simp; omega)
        refine opH_call (some 83) rfl (by rfl) rfl 36 #[v82] (by go_simp) ((hC.out W33 v82 hrd.1.1 hrd.2).mono ?_)
        rintro e W34 ⟨r, ao, n, c, rfl, hk⟩
        clear hrd
        replace h14 := hk.heap h14 id
        replace hS := hS.trans hk
        refine ⟨_, rfl, hS, ?_⟩
        clear hk hO
        simp only [Act.put, List.setIfInBounds_toArray, List.set_cons_succ, List.set_cons_zero]
        refine anyH_take 8 (some 75) (.tuple #[.agg #[.string r.meth, .string r.scheme, .string r.path, .string r.host, .slice ao n c], .bool b]) rfl rfl (by kernel_rfl) (by kernel_rfl) (by kernel_rfl) (fun _ _ _ h => h.elim) (.inl ⟨by rfl, fun W hW => by go_simp⟩) hS ?_
        simp only [Act.put, List.setIfInBounds_toArray, List.set_cons_succ, List.set_cons_zero]
        refine anyH_take 9 (some 84) (.agg #[.string r.meth, .string r.scheme, .string r.path, .string r.host, .slice ao n c]) rfl rfl (by kernel_rfl) (by kernel_rfl) (by kernel_rfl) (fun _ _ _ h => h.elim) (.inl ⟨by rfl, fun W hW => by go_simp⟩) hS ?_
        simp only [Act.put, List.setIfInBounds_toArray, List.set_cons_succ, List.set_cons_zero]
        refine anyH_take 10 (some 85) (.bool b) rfl rfl (by kernel_rfl) (by kernel_rfl) (by kernel_rfl) (fun _ _ _ h => h.elim) (.inl ⟨by rfl, fun W hW => by go_simp⟩) hS ?_
        simp only [Act.put, List.setIfInBounds_toArray, List.set_cons_succ, List.set_cons_zero]
        refine wpAnyH_all (rs := [12]) (by kernel_rfl) (by simp) ?_
        simp only [List.mem_cons, List.not_mem_nil, or_false, forall_eq_or_imp, forall_eq]
        refine opH_skip none rfl (by rfl) rfl (run_store_row 56 (.tmp 14) (.tmp 84) rfl BT rfl 56 [.string ⟨#[]⟩, .string ⟨#[]⟩, .string ⟨#[]⟩, .string ⟨#[]⟩, .slice none 0 0] [.string r.meth, .string r.scheme, .string r.path, .string r.host, .slice ao n c] rfl h14 info56 rfl (row5_one r ao n c)) ?_
        replace hS := hS.setRow hTl #[.string r.meth, .string r.scheme, .string r.path, .string r.host, .slice ao n c]
        refine ⟨hS, ?_⟩
        simp only [Act.put, List.setIfInBounds_toArray, List.set_cons_succ, List.set_cons_zero]
        refine anyH_take 13 (some 15) (.bool b) rfl rfl (by kernel_rfl) (by kernel_rfl) (by kernel_rfl) (fun _ _ _ h => h.elim) (.inl ⟨by rfl, fun W hW => by go_simp⟩) hS ?_
        simp only [Act.put, List.setIfInBounds_toArray, List.set_cons_succ, List.set_cons_zero]
        refine wpAnyH_done (by kernel_rfl) ?_ _
        exact ⟨⟨rfl, rfl, rfl, rfl, rfl, rfl⟩, hS⟩
      · refine opH_value (some 81) rfl (by rfl) rfl (v := .slice (some ⟨W30.heap.size, 0, none⟩) 2 2) (w' := W30.alloc (.cells #[.string ⟨#[97]⟩, .string ⟨#[]⟩, .string f.name, .string f.val] 54)) (by go_simp) ?_
        have n81 : W30.heap.size ≠ B76 := by have := (hO.lt B76 rfl).2; omega
        have hk : New W30 (W30.alloc (.cells #[.string ⟨#[97]⟩, .string ⟨#[]⟩, .string f.name, .string f.val] 54)) := (Mods.refl _ _).alloc _
        replace hO := hO.new hk
        replace h14 := hk.heap h14 id
        replace hS := hS.trans hk
        have h81 := World.alloc_heap_new W30 (.cells #[.string ⟨#[97]⟩, .string ⟨#[]⟩, .string f.name, .string f.val] 54)
        refine ⟨hS, ?_⟩
        simp only [Act.put, List.setIfInBounds_toArray, List.set_cons_succ, List.set_cons_zero]
        clear hk
        obtain ⟨W35, hwW35⟩ : ∃ W, W30.alloc (.cells #[.string ⟨#[97]⟩, .string ⟨#[]⟩, .string f.name, .string f.val] 54) = W := ⟨_, rfl⟩
        rw [hwW35] at hS hO h81 h14 ⊢
        clear hwW35
        obtain ⟨B81, hb⟩ : ∃ x, W30.heap.size = x := ⟨_, rfl⟩
        rw [hb] at h81 n81 ⊢
        clear hb
        refine wpAnyH_all (rs := [2]) (by kernel_rfl) (by simp) ?_
        simp only [List.mem_cons, List.not_mem_nil, or_false, forall_eq_or_imp, forall_eq]
        refine wpOp_append_L (some 78) rfl (by rfl) rfl (.tmp 76) (.tmp 77) rfl rfl rfl hO (hM.new hS) hMc (by rw [List.length_nil]; omega) (Nat.le_of_lt (hO.lt B76 rfl).2) ?_
        intro v78 W36 hO1 hg
        replace hS : Mods (fun _ => False) w W36 := hS.grown hg (fun k hk => by cases hk; exact .inl hbO)
        replace h81 := (hg.block B81 (Array.getElem?_eq_some_iff.1 h81).1 (fun e => n81 (Option.some.inj e))).trans h81
        replace h14 := (hg.block BT (Array.getElem?_eq_some_iff.1 h14).1 (fun e => n14 (Option.some.inj e))).trans h14
        replace hO : OwR w.heap.size W36 v78 M := owns_mono hO1 hbO
        clear hO1 hg
        refine ⟨hS, ?_⟩
        simp only [Act.put, List.setIfInBounds_toArray, List.set_cons_succ, List.set_cons_zero]
        refine wpAnyH_all (rs := [6]) (by kernel_rfl) (by simp) ?_
        simp only [List.mem_cons, List.not_mem_nil, or_false, forall_eq_or_imp, forall_eq]
        refine wpOp_append_L (some 82) rfl (by rfl) rfl (.tmp 78) (.tmp 81) rfl rfl rfl hO (pair_reads h81) pair_cap (by simp; omega) hS.size ?_
        intro v82 W37 hO1 hg
        replace hS : Mods (fun _ => False) w W37 := hS.grown hg (fun k hk => .inl (hO.lt k hk).1)
        replace h14 := (hg.block BT (Array.getElem?_eq_some_iff.1 h14).1 (fun e => own_row_ne hO h14 (by decide) e.symm)).trans h14
        replace hO := hO1
        clear hO1 hg h81
        refine ⟨hS, ?_⟩
        simp only [Act.put, List.setIfInBounds_toArray, List.set_cons_succ, List.set_cons_zero]
        refine wpAnyH_all (rs := [7]) (by kernel_rfl) (by simp) ?_
        simp only [List.mem_cons, List.not_mem_nil, or_false, forall_eq_or_imp, forall_eq]
        have hrd := hO.reads (by simp; omega)
        refine opH_call (some 83) rfl (by rfl) rfl 36 #[v82] (by go_simp) ((hC.out W37 v82 hrd.1.1 hrd.2).mono ?_)
        rintro e W38 ⟨r, ao, n, c, rfl, hk⟩
        clear hrd
        replace h14 := hk.heap h14 id
        replace hS := hS.trans hk
        refine ⟨_, rfl, hS, ?_⟩
        clear hk hO
        simp only [Act.put, List.setIfInBounds_toArray, List.set_cons_succ, List.set_cons_zero]
        refine anyH_take 8 (some 75) (.tuple #[.agg #[.string r.meth, .string r.scheme, .string r.path, .string r.host, .slice ao n c], .bool b]) rfl rfl (by kernel_rfl) (by kernel_rfl) (by kernel_rfl) (fun _ _ _ h => h.elim) (.inl ⟨by rfl, fun W hW => by go_simp⟩) hS ?_
        simp only [Act.put, List.setIfInBounds_toArray, List.set_cons_succ, List.set_cons_zero]
        refine anyH_take 9 (some 84) (.agg #[.string r.meth, .string r.scheme, .string r.path, .string r.host, .slice ao n c]) rfl rfl (by kernel_rfl) (by kernel_rfl) (by kernel_rfl) (fun _ _ _ h => h.elim) (.inl ⟨by rfl, fun W hW => by go_simp⟩) hS ?_
        simp only [Act.put, List.setIfInBounds_toArray, List.set_cons_succ, List.set_cons_zero]
        refine anyH_take 10 (some 85) (.bool b) rfl rfl (by kernel_rfl) (by kernel_rfl) (by kernel_rfl) (fun _ _ _ h => h.elim) (.inl ⟨by rfl, fun W hW => by go_simp⟩) hS ?_
        simp only [Act.put, List.setIfInBounds_toArray, List.set_cons_succ, List.set_cons_zero]
        refine wpAnyH_all (rs := [12]) (by kernel_rfl) (by simp) ?_
        simp only [List.mem_cons, List.not_mem_nil, or_false, forall_eq_or_imp, forall_eq]
        refine opH_skip none rfl (by rfl) rfl (run_store_row 56 (.tmp 14) (.tmp 84) rfl BT rfl 56 [.string ⟨#[]⟩, .string ⟨#[]⟩, .string ⟨#[]⟩, .string ⟨#[]⟩, .slice none 0 0] [.string r.meth, .string r.scheme, .string r.path, .string r.host, .slice ao n c] rfl h14 info56 rfl (row5_one r ao n c)) ?_
        replace hS := hS.setRow hTl #[.string r.meth, .string r.scheme, .string r.path, .string r.host, .slice ao n c]
        refine ⟨hS, ?_⟩
        simp only [Act.put, List.setIfInBounds_toArray, List.set_cons_succ, List.set_cons_zero]
        refine anyH_take 13 (some 15) (.bool b) rfl rfl (by kernel_rfl) (by kernel_rfl) (by kernel_rfl) (fun _ _ _ h => h.elim) (.inl ⟨by rfl, fun W hW => by go_simp⟩) hS ?_
        simp only [Act.put, List.setIfInBounds_toArray, List.set_cons_succ, List.set_cons_zero]
        refine wpAnyH_done (by kernel_rfl) ?_ _
        exact ⟨⟨rfl, rfl, rfl, rfl, rfl, rfl⟩, hS⟩
  · refine opH_value (some 81) rfl (by rfl) rfl (v := .slice (some ⟨Wd.heap.size, 0, none⟩) 2 2) (w' := Wd.alloc (.cells #[.string ⟨#[97]⟩, .string ⟨#[]⟩, .string f.name, .string f.val] 54)) (by go_simp) ?_
    have hk : New Wd (Wd.alloc (.cells #[.string ⟨#[97]⟩, .string ⟨#[]⟩, .string f.name, .string f.val] 54)) := (Mods.refl _ _).alloc _
    replace hS := hS.trans hk
    have h81 := World.alloc_heap_new Wd (.cells #[.string ⟨#[97]⟩, .string ⟨#[]⟩, .string f.name, .string f.val] 54)
    refine ⟨hS, ?_⟩
    simp only [Act.put, List.setIfInBounds_toArray, List.set_cons_succ, List.set_cons_zero]
    clear hk
    obtain ⟨W39, hwW39⟩ : ∃ W, Wd.alloc (.cells #[.string ⟨#[97]⟩, .string ⟨#[]⟩, .string f.name, .string f.val] 54) = W := ⟨_, rfl⟩
    rw [hwW39] at hS h81 ⊢
    clear hwW39
    obtain ⟨B81, hb⟩ : ∃ x, Wd.heap.size = x := ⟨_, rfl⟩
    rw [hb] at h81 ⊢
    clear hb
    refine wpAnyH_all (rs := [0, 11]) (by kernel_rfl) (by simp) ?_
    simp only [List.mem_cons, List.not_mem_nil, or_false, forall_eq_or_imp, forall_eq]
    refine ⟨?_, ?_⟩
    · refine opH_value (some 76) rfl (by rfl) rfl (v := .slice (some ⟨W39.heap.size, 0, none⟩) 0 0) (w' := W39.alloc (.cells #[] 54)) (by go_simp) ?_
      have n81 : B81 ≠ W39.heap.size := by have := (Array.getElem?_eq_some_iff.1 h81).1; omega
      have hSold := hS
      have hk : New W39 (W39.alloc (.cells #[] 54)) := (Mods.refl _ _).alloc _
      replace h81 := hk.heap h81 id
      replace hS := hS.trans hk
      have hO := OwR.nil W39
      have hbO : w.heap.size ≤ W39.heap.size := hSold.size
      refine ⟨hS, ?_⟩
      simp only [Act.put, List.setIfInBounds_toArray, List.set_cons_succ, List.set_cons_zero]
      clear hk
      obtain ⟨W40, hwW40⟩ : ∃ W, W39.alloc (.cells #[] 54) = W := ⟨_, rfl⟩
      rw [hwW40] at hS hO h81 ⊢
      clear hwW40
      obtain ⟨B76, hb⟩ : ∃ x, W39.heap.size = x := ⟨_, rfl⟩
      rw [hb] at hO hbO n81 ⊢
      clear hb
      refine wpAnyH_all (rs := [2, 11]) (by kernel_rfl) (by simp) ?_
      simp only [List.mem_cons, List.not_mem_nil, or_false, forall_eq_or_imp, forall_eq]
      refine ⟨?_, ?_⟩
      · refine wpOp_append_L (some 78) rfl (by rfl) rfl (.tmp 76) (.tmp 77) rfl rfl rfl hO (hM.new hS) hMc (by rw [List.length_nil]; omega) (Nat.le_of_lt (hO.lt B76 rfl).2) ?_
        intro v78 W41 hO1 hg
        replace hS : Mods (fun _ => False) w W41 := hS.grown hg (fun k hk => by cases hk; exact .inl hbO)
        replace h81 := (hg.block B81 (Array.getElem?_eq_some_iff.1 h81).1 (fun e => n81 (Option.some.inj e))).trans h81
        replace hO : OwR w.heap.size W41 v78 M := owns_mono hO1 hbO
        clear hO1 hg
        refine ⟨hS, ?_⟩
        simp only [Act.put, List.setIfInBounds_toArray, List.set_cons_succ, List.set_cons_zero]
        refine wpAnyH_all (rs := [6, 11]) (by kernel_rfl) (by simp) ?_
        simp only [List.mem_cons, List.not_mem_nil, or_false, forall_eq_or_imp, forall_eq]
        refine ⟨?_, ?_⟩
        · refine wpOp_append_L (some 82) rfl (by rfl) rfl (.tmp 78) (.tmp 81) rfl rfl rfl hO (pair_reads h81) pair_cap (by simp; omega) hS.size ?_
          intro v82 W42 hO1 hg
          replace hS : Mods (fun _ => False) w W42 := hS.grown hg (fun k hk => .inl (hO.lt k hk).1)
          replace hO := hO1
          clear hO1 hg h81
          refine ⟨hS, ?_⟩
          simp only [Act.put, List.setIfInBounds_toArray, List.set_cons_succ, List.set_cons_zero]
          refine wpAnyH_all (rs := [7, 11]) (by kernel_rfl) (by simp) ?_
          simp only [List.mem_cons, List.not_mem_nil, or_false, forall_eq_or_imp, forall_eq]
          refine ⟨?_, ?_⟩
          · have hrd := hO.reads (by simp; omega)
            refine opH_call (some 83) rfl (by rfl) rfl 36 #[v82] (by go_simp) ((hC.out W42 v82 hrd.1.1 hrd.2).mono ?_)
            rintro e W43 ⟨r, ao, n, c, rfl, hk⟩
            clear hrd
            replace hS := hS.trans hk
            refine ⟨_, rfl, hS, ?_⟩
            clear hk hO
            simp only [Act.put, List.setIfInBounds_toArray, List.set_cons_succ, List.set_cons_zero]
            refine anyH_take 8 (some 75) (.tuple #[.agg #[.string r.meth, .string r.scheme, .string r.path, .string r.host, .slice ao n c], .bool b]) rfl rfl (by kernel_rfl) (by kernel_rfl) (by kernel_rfl) (fun _ _ _ h => h.elim) (.inl ⟨by rfl, fun W hW => by go_simp⟩) hS ?_
            simp only [Act.put, List.setIfInBounds_toArray, List.set_cons_succ, List.set_cons_zero]
            refine anyH_take 9 (some 84) (.agg #[.string r.meth, .string r.scheme, .string r.path, .string r.host, .slice ao n c]) rfl rfl (by kernel_rfl) (by kernel_rfl) (by kernel_rfl) (fun _ _ _ h => h.elim) (.inl ⟨by rfl, fun W hW => by go_simp⟩) hS ?_
            simp only [Act.put, List.setIfInBounds_toArray, List.set_cons_succ, List.set_cons_zero]
            refine anyH_take 10 (some 85) (.bool b) rfl rfl (by kernel_rfl) (by kernel_rfl) (by kernel_rfl) (fun _ _ _ h => h.elim) (.inl ⟨by rfl, fun W hW => by go_simp⟩) hS ?_
            simp only [Act.put, List.setIfInBounds_toArray, List.set_cons_succ, List.set_cons_zero]
            refine wpAnyH_all (rs := [11]) (by kernel_rfl) (by simp) ?_
            simp only [List.mem_cons, List.not_mem_nil, or_false, forall_eq_or_imp, forall_eq]
            refine opH_value (some 14) rfl (by rfl) rfl (v := .pointer (some ⟨W43.heap.size, 0, none⟩)) (w' := W43.alloc (.cells #[.string ⟨#[]⟩, .string ⟨#[]⟩, .string ⟨#[]⟩, .string ⟨#[]⟩, .slice none 0 0] 56)) (by go_simp) ?_
            have hSold := hS
            have hk : New W43 (W43.alloc (.cells #[.string ⟨#[]⟩, .string ⟨#[]⟩, .string ⟨#[]⟩, .string ⟨#[]⟩, .slice none 0 0] 56)) := (Mods.refl _ _).alloc _
            replace hS := hS.trans hk
            have h14 := World.alloc_heap_new W43 (.cells #[.string ⟨#[]⟩, .string ⟨#[]⟩, .string ⟨#[]⟩, .string ⟨#[]⟩, .slice none 0 0] 56)
            have hTl : w.heap.size ≤ W43.heap.size := hSold.size
            refine ⟨hS, ?_⟩
            simp only [Act.put, List.setIfInBounds_toArray, List.set_cons_succ, List.set_cons_zero]
            clear hk
            obtain ⟨W44, hwW44⟩ : ∃ W, W43.alloc (.cells #[.string ⟨#[]⟩, .string ⟨#[]⟩, .string ⟨#[]⟩, .string ⟨#[]⟩, .slice none 0 0] 56) = W := ⟨_, rfl⟩
            rw [hwW44] at hS h14 ⊢
            clear hwW44
            obtain ⟨BT, hb⟩ : ∃ x, W43.heap.size = x := ⟨_, rfl⟩
            rw [hb] at h14 hTl ⊢
            clear hb
            refine wpAnyH_all (rs := [12]) (by kernel_rfl) (by simp) ?_
            simp only [List.mem_cons, List.not_mem_nil, or_false, forall_eq_or_imp, forall_eq]
            refine opH_skip none rfl (by rfl) rfl (run_store_row 56 (.tmp 14) (.tmp 84) rfl BT rfl 56 [.string ⟨#[]⟩, .string ⟨#[]⟩, .string ⟨#[]⟩, .string ⟨#[]⟩, .slice none 0 0] [.string r.meth, .string r.scheme, .string r.path, .string r.host, .slice ao n c] rfl h14 info56 rfl (row5_one r ao n c)) ?_
            replace hS := hS.setRow hTl #[.string r.meth, .string r.scheme, .string r.path, .string r.host, .slice ao n c]
            refine ⟨hS, ?_⟩
            simp only [Act.put, List.setIfInBounds_toArray, List.set_cons_succ, List.set_cons_zero]
            refine anyH_take 13 (some 15) (.bool b) rfl rfl (by kernel_rfl) (by kernel_rfl) (by kernel_rfl) (fun _ _ _ h => h.elim) (.inl ⟨by rfl, fun W hW => by go_simp⟩) hS ?_
            simp only [Act.put, List.setIfInBounds_toArray, List.set_cons_succ, List.set_cons_zero]
            refine wpAnyH_done (by kernel_rfl) ?_ _
            exact ⟨⟨rfl, rfl, rfl, rfl, rfl, rfl⟩, hS⟩
          · refine opH_value (some 14) rfl (by rfl) rfl (v := .pointer (some ⟨W42.heap.size, 0, none⟩)) (w' := W42.alloc (.cells #[.string ⟨#[]⟩, .string ⟨#[]⟩, .string ⟨#[]⟩, .string ⟨#[]⟩, .slice none 0 0] 56)) (by go_simp) ?_
            have hSold := hS
            have hk : New W42 (W42.alloc (.cells #[.string ⟨#[]⟩, .string ⟨#[]⟩, .string ⟨#[]⟩, .string ⟨#[]⟩, .slice none 0 0] 56)) := (Mods.refl _ _).alloc _
            replace hO := hO.new hk
            replace hS := hS.trans hk
            have h14 := World.alloc_heap_new W42 (.cells #[.string ⟨#[]⟩, .string ⟨#[]⟩, .string ⟨#[]⟩, .string ⟨#[]⟩, .slice none 0 0] 56)
            have hTl : w.heap.size ≤ W42.heap.size := hSold.size
            refine ⟨hS, ?_⟩
            simp only [Act.put, List.setIfInBounds_toArray, List.set_cons_succ, List.set_cons_zero]
            clear hk
            obtain ⟨W45, hwW45⟩ : ∃ W, W42.alloc (.cells #[.string ⟨#[]⟩, .string ⟨#[]⟩, .string ⟨#[]⟩, .string ⟨#[]⟩, .slice none 0 0] 56) = W := ⟨_, rfl⟩
            rw [hwW45] at hS hO h14 ⊢
            clear hwW45
            obtain ⟨BT, hb⟩ : ∃ x, W42.heap.size = x := ⟨_, rfl⟩
            rw [hb] at h14 hTl ⊢
            clear hb
            refine wpAnyH_all (rs := [7]) (by kernel_rfl) (by simp) ?_
            simp only [List.mem_cons, List.not_mem_nil, or_false, forall_eq_or_imp, forall_eq]
            have hrd := hO.reads (by simp; omega)
            refine opH_call (some 83) rfl (by rfl) rfl 36 #[v82] (by go_simp) ((hC.out W45 v82 hrd.1.1 hrd.2).mono ?_)
            rintro e W46 ⟨r, ao, n, c, rfl, hk⟩
            clear hrd
            replace h14 := hk.heap h14 id
            replace hS := hS.trans hk
            refine ⟨_, rfl, hS, ?_⟩
            clear hk hO
            simp only [Act.put, List.setIfInBounds_toArray, List.set_cons_succ, List.set_cons_zero]
            refine anyH_take 8 (some 75) (.tuple #[.agg #[.string r.meth, .string r.scheme, .string r.path, .string r.host, .slice ao n c], .bool b]) rfl rfl (by kernel_rfl) (by kernel_rfl) (by kernel_rfl) (fun _ _ _ h => h.elim) (.inl ⟨by rfl, fun W hW => by go_simp⟩) hS ?_
            simp only [Act.put, List.setIfInBounds_toArray, List.set_cons_succ, List.set_cons_zero]
            refine anyH_take 9 (some 84) (.agg #[.string r.meth, .string r.scheme, .string r.path, .string r.host, .slice ao n c]) rfl rfl (by kernel_rfl) (by kernel_rfl) (by kernel_rfl) (fun _ _ _ h => h.elim) (.inl ⟨by rfl, fun W hW => by go_simp⟩) hS ?_
            simp only [Act.put, List.setIfInBounds_toArray, List.set_cons_succ, List.set_cons_zero]
            refine anyH_take 10 (some 85) (.bool b) rfl rfl (by kernel_rfl) (by kernel_rfl) (by kernel_rfl) (fun _ _ _ h => h.elim) (.inl ⟨by rfl, fun W hW => by go_simp⟩) hS ?_
            simp only [Act.put, List.setIfInBounds_toArray, List.set_cons_succ, List.set_cons_zero]
            refine wpAnyH_all (rs := [12]) (by kernel_rfl) (by simp) ?_
            simp only [List.mem_cons, List.not_mem_nil, or_false, forall_eq_or_imp, forall_eq]
            refine opH_skip none rfl (by rfl) rfl (run_store_row 56 (.tmp 14) (.tmp 84) rfl BT rfl 56 [.string ⟨#[]⟩, .string ⟨#[]⟩, .string ⟨#[]⟩, .string ⟨#[]⟩, .slice none 0 0] [.string r.meth, .string r.scheme, .string r.path, .string r.host, .slice ao n c] rfl h14 info56 rfl (row5_one r ao n c)) ?_
            replace hS := hS.setRow hTl #[.string r.meth, .string r.scheme, .string r.path, .string r.host, .slice ao n c]
            refine ⟨hS, ?_⟩
            simp only [Act.put, List.setIfInBounds_toArray, List.set_cons_succ, List.set_cons_zero]
            refine anyH_take 13 (some 15) (.bool b) rfl rfl (by kernel_rfl) (by kernel_rfl) (by kernel_rfl) (fun _ _ _ h => h.elim) (.inl ⟨by rfl, fun W hW => by go_simp⟩) hS ?_
            simp only [Act.put, List.setIfInBounds_toArray, List.set_cons_succ, List.set_cons_zero]
            refine wpAnyH_done (by kernel_rfl) ?_ _
            exact ⟨⟨rfl, rfl, rfl, rfl, rfl, rfl⟩, hS⟩
        · refine opH_value (some 14) rfl (by rfl) rfl (v := .pointer (some ⟨W41.heap.size, 0, none⟩)) (w' := W41.alloc (.cells #[.string ⟨#[]⟩, .string ⟨#[]⟩, .string ⟨#[]⟩, .string ⟨#[]⟩, .slice none 0 0] 56)) (by go_simp) ?_
          have hSold := hS
          have hk : New W41 (W41.alloc (.cells #[.string ⟨#[]⟩, .string ⟨#[]⟩, .string ⟨#[]⟩, .string ⟨#[]⟩, .slice none 0 0] 56)) := (Mods.refl _ _).alloc _
          replace hO := hO.new hk
          replace h81 := hk.heap h81 id
          replace hS := hS.trans hk
          have h14 := World.alloc_heap_new W41 (.cells #[.string ⟨#[]⟩, .string ⟨#[]⟩, .string ⟨#[]⟩, .string ⟨#[]⟩, .slice none 0 0] 56)
          have hTl : w.heap.size ≤ W41.heap.size := hSold.size
          refine ⟨hS, ?_⟩
          simp only [Act.put, List.setIfInBounds_toArray, List.set_cons_succ, List.set_cons_zero]
          clear hk
          obtain ⟨W47, hwW47⟩ : ∃ W, W41.alloc (.cells #[.string ⟨#[]⟩, .string ⟨#[]⟩, .string ⟨#[]⟩, .string ⟨#[]⟩, .slice none 0 0] 56) = W := ⟨_, rfl⟩
          rw [hwW47] at hS hO h81 h14 ⊢
          clear hwW47
          obtain ⟨BT, hb⟩ : ∃ x, W41.heap.size = x := ⟨_, rfl⟩
          rw [hb] at h14 hTl ⊢
          clear hb
          refine wpAnyH_all (rs := [6]) (by kernel_rfl) (by simp) ?_
          simp only [List.mem_cons, List.not_mem_nil, or_false, forall_eq_or_imp, forall_eq]
          refine wpOp_append_L (some 82) rfl (by rfl) rfl (.tmp 78) (.tmp 81) rfl rfl rfl hO (pair_reads h81) pair_cap (by simp; omega) hS.size ?_
          intro v82 W48 hO1 hg
          replace hS : Mods (fun _ => False) w W48 := hS.grown hg (fun k hk => .inl (hO.lt k hk).1)
          replace h14 := (hg.block BT (Array.getElem?_eq_some_iff.1 h14).1 (fun e => own_row_ne hO h14 (by decide) e.symm)).trans h14
          replace hO := hO1
          clear hO1 hg h81
          refine ⟨hS, ?_⟩
          simp only [Act.put, List.setIfInBounds_toArray, List.set_cons_succ, List.set_cons_zero]
          refine wpAnyH_all (rs := [7]) (by kernel_rfl) (by simp) ?_
          simp only [List.mem_cons, List.not_mem_nil, or_false, forall_eq_or_imp, forall_eq]
          have hrd := hO.reads (by simp; omega)
          refine opH_call (some 83) rfl (by rfl) rfl 36 #[v82] (by go_simp) ((hC.out W48 v82 hrd.1.1 hrd.2).mono ?_)
          rintro e W49 ⟨r, ao, n, c, rfl, hk⟩
          clear hrd
          replace h14 := hk.heap h14 id
          replace hS := hS.trans hk
          refine ⟨_, rfl, hS, ?_⟩
          clear hk hO
          simp only [Act.put, List.setIfInBounds_toArray, List.set_cons_succ, List.set_cons_zero]
          refine anyH_take 8 (some 75) (.tuple #[.agg #[.string r.meth, .string r.scheme, .string r.path, .string r.host, .slice ao n c], .bool b]) rfl rfl (by kernel_rfl) (by kernel_rfl) (by kernel_rfl) (fun _ _ _ h => h.elim) (.inl ⟨by rfl, fun W hW => by go_simp⟩) hS ?_
          simp only [Act.put, List.setIfInBounds_toArray, List.set_cons_succ, List.set_cons_zero]
          refine anyH_take 9 (some 84) (.agg #[.string r.meth, .string r.scheme, .string r.path, .string r.host, .slice ao n c]) rfl rfl (by kernel_rfl) (by kernel_rfl) (by kernel_rfl) (fun _ _ _ h => h.elim) (.inl ⟨by rfl, fun W hW => by go_simp⟩) hS ?_
          simp only [Act.put, List.setIfInBounds_toArray, List.set_cons_succ, List.set_cons_zero]
          refine anyH_take 10 (some 85) (.bool b) rfl rfl (by kernel_rfl) (by kernel_rfl) (by kernel_rfl) (fun _ _ _ h => h.elim) (.inl ⟨by rfl, fun W hW => by go_simp⟩) hS ?_
          simp only [Act.put, List.setIfInBounds_toArray, List.set_cons_succ, List.set_cons_zero]
          refine wpAnyH_all (rs := [12]) (by kernel_rfl) (by simp) ?_
          simp only [List.mem_cons, List.not_mem_nil, or_false, forall_eq_or_imp, forall_eq]
          refine opH_skip none rfl (by rfl) rfl (run_store_row 56 (.tmp 14) (.tmp 84) rfl BT rfl 56 [.string ⟨#[]⟩, .string ⟨#[]⟩, .string ⟨#[]⟩, .string ⟨#[]⟩, .slice none 0 0] [.string r.meth, .string r.scheme, .string r.path, .string r.host, .slice ao n c] rfl h14 info56 rfl (row5_one r ao n c)) ?_
          replace hS := hS.setRow hTl #[.string r.meth, .string r.scheme, .string r.path, .string r.host, .slice ao n c]
          refine ⟨hS, ?_⟩
          simp only [Act.put, List.setIfInBounds_toArray, List.set_cons_succ, List.set_cons_zero]
          refine anyH_take 13 (some 15) (.bool b) rfl rfl (by kernel_rfl) (by kernel_rfl) (by kernel_rfl) (fun _ _ _ h => h.elim) (.inl ⟨by rfl, fun W hW => by go_simp⟩) hS ?_
          simp only [Act.put, List.setIfInBounds_toArray, List.set_cons_succ, List.set_cons_zero]
          refine wpAnyH_done (by kernel_rfl) ?_ _
          exact ⟨⟨rfl, rfl, rfl, rfl, rfl, rfl⟩, hS⟩
      · refine opH_value (some 14) rfl (by rfl) rfl (v := .pointer (some ⟨W40.heap.size, 0, none⟩)) (w' := W40.alloc (.cells #[.string ⟨#[]⟩, .string ⟨#[]⟩, .string ⟨#[]⟩, .string ⟨#[]⟩, .slice none 0 0] 56)) (by go_simp) ?_
        have n14 : W40.heap.size ≠ B76 := by have := (hO.lt B76 rfl).2; omega
        have hSold := hS
        have hk : New W40 (W40.alloc (.cells #[.string ⟨#[]⟩, .string ⟨#[]⟩, .string ⟨#[]⟩, .string ⟨#[]⟩, .slice none 0 0] 56)) := (Mods.refl _ _).alloc _
        replace hO := hO.new hk
        replace h81 := hk.heap h81 id
        replace hS := hS.trans hk
        have h14 := World.alloc_heap_new W40 (.cells #[.string ⟨#[]⟩, .string ⟨#[]⟩, .string ⟨#[]⟩, .string ⟨#[]⟩, .slice none 0 0] 56)
        have hTl : w.heap.size ≤ W40.heap.size := hSold.size
        refine ⟨hS, ?_⟩
        simp only [Act.put, List.setIfInBounds_toArray, List.set_cons_succ, List.set_cons_zero]
        clear hk
        obtain ⟨W50, hwW50⟩ : ∃ W, W40.alloc (.cells #[.string ⟨#[]⟩, .string ⟨#[]⟩, .string ⟨#[]⟩, .string ⟨#[]⟩, .slice none 0 0] 56) = W := ⟨_, rfl⟩
        rw [hwW50] at hS hO h81 h14 ⊢
        clear hwW50
        obtain ⟨BT, hb⟩ : ∃ x, W40.heap.size = x := ⟨_, rfl⟩
        rw [hb] at h14 hTl n14 ⊢
        clear hb
        refine wpAnyH_all (rs := [2]) (by kernel_rfl) (by simp) ?_
        simp only [List.mem_cons, List.not_mem_nil, or_false, forall_eq_or_imp, forall_eq]
        refine wpOp_append_L (some 78) rfl (by rfl) rfl (.tmp 76) (.tmp 77) rfl rfl rfl hO (hM.new hS) hMc (by rw [List.length_nil]; omega) (Nat.le_of_lt (hO.lt B76 rfl).2) ?_
        intro v78 W51 hO1 hg
        replace hS : Mods (fun _ => False) w W51 := hS.grown hg (fun k hk => by cases hk; exact .inl hbO)
        replace h81 := (hg.block B81 (Array.getElem?_eq_some_iff.1 h81).1 (fun e => n81 (Option.some.inj e))).trans h81
        replace h14 := (hg.block BT (Array.getElem?_eq_some_iff.1 h14).1 (fun e => n14 (Option.some.inj e))).trans h14
        replace hO : OwR w.heap.size W51 v78 M := owns_mono hO1 hbO
        clear hO1 hg
        refine ⟨hS, ?_⟩
        simp only [Act.put, List.setIfInBounds_toArray, List.set_cons_succ, List.set_cons_zero]
        refine wpAnyH_all (rs := [6]) (by kernel_rfl) (by simp) ?_
        simp only [List.mem_cons, List.not_mem_nil, or_false, forall_eq_or_imp, forall_eq]
        refine wpOp_append_L (some 82) rfl (by rfl) rfl (.tmp 78) (.tmp 81) rfl rfl rfl hO (pair_reads h81) pair_cap (by simp; omega) hS.size ?_
        intro v82 W52 hO1 hg
        replace hS : Mods (fun _ => False) w W52 := hS.grown hg (fun k hk => .inl (hO.lt k hk).1)
        replace h14 := (hg.block BT (Array.getElem?_eq_some_iff.1 h14).1 (fun e => own_row_ne hO h14 (by decide) e.symm)).trans h14
        replace hO := hO1
        clear hO1 hg h81
        refine ⟨hS, ?_⟩
        simp only [Act.put, List.setIfInBounds_toArray, List.set_cons_succ, List.set_cons_zero]
        refine wpAnyH_all (rs := [7]) (by kernel_rfl) (by simp) ?_
        simp only [List.mem_cons, List.not_mem_nil, or_false, forall_eq_or_imp, forall_eq]
        have hrd := hO.reads (by simp; omega)
        refine opH_call (some 83) rfl (by rfl) rfl 36 #[v82] (by go_simp) ((hC.out W52 v82 hrd.1.1 hrd.2).mono ?_)
        rintro e W53 ⟨r, ao, n, c, rfl, hk⟩
        clear hrd
        replace h14 := hk.heap h14 id
        replace hS := hS.trans hk
        refine ⟨_, rfl, hS, ?_⟩
        clear hk hO
        simp only [Act.put, List.setIfInBounds_toArray, List.set_cons_succ, List.set_cons_zero]
        refine anyH_take 8 (some 75) (.tuple #[.agg #[.string r.meth, .string r.scheme, .string r.path, .string r.host, .slice ao n c], .bool b]) rfl rfl (by kernel_rfl) (by kernel_rfl) (by kernel_rfl) (fun _ _ _ h => h.elim) (.inl ⟨by rfl, fun W hW => by go_simp⟩) hS ?_
        simp only [Act.put, List.setIfInBounds_toArray, List.set_cons_succ, List.set_cons_zero]
        refine anyH_take 9 (some 84) (.agg #[.string r.meth, .string r.scheme, .string r.path, .string r.host, .slice ao n c]) rfl rfl (by kernel_rfl) (by kernel_rfl) (by kernel_rfl) (fun _ _ _ h => h.elim) (.inl ⟨by rfl, fun W hW => by go_simp⟩) hS ?_
        simp only [Act.put, List.setIfInBounds_toArray, List.set_cons_succ, List.set_cons_zero]
        refine anyH_take 10 (some 85) (.bool b) rfl rfl (by kernel_rfl) (by kernel_rfl) (by kernel_rfl) (fun _ _ _ h => h.elim) (.inl ⟨by rfl, fun W hW => by go_simp⟩) hS ?_
        simp only [Act.put, List.setIfInBounds_toArray, List.set_cons_succ, List.set_cons_zero]
        refine wpAnyH_all (rs := [12]) (by kernel_rfl) (by simp) ?_
        simp only [List.mem_cons, List.not_mem_nil, or_false, forall_eq_or_imp, forall_eq]
        refine opH_skip none rfl (by rfl) rfl (run_store_row 56 (.tmp 14) (.tmp 84) rfl BT rfl 56 [.string ⟨#[]⟩, .string ⟨#[]⟩, .string ⟨#[]⟩, .string ⟨#[]⟩, .slice none 0 0] [.string r.meth, .string r.scheme, .string r.path, .string r.host, .slice ao n c] rfl h14 info56 rfl (row5_one r ao n c)) ?_
        replace hS := hS.setRow hTl #[.string r.meth, .string r.scheme, .string r.path, .string r.host, .slice ao n c]
        refine ⟨hS, ?_⟩
        simp only [Act.put, List.setIfInBounds_toArray, List.set_cons_succ, List.set_cons_zero]
        refine anyH_take 13 (some 15) (.bool b) rfl rfl (by kernel_rfl) (by kernel_rfl) (by kernel_rfl) (fun _ _ _ h => h.elim) (.inl ⟨by rfl, fun W hW => by go_simp⟩) hS ?_
        simp only [Act.put, List.setIfInBounds_toArray, List.set_cons_succ, List.set_cons_zero]
        refine wpAnyH_done (by kernel_rfl) ?_ _
        exact ⟨⟨rfl, rfl, rfl, rfl, rfl, rfl⟩, hS⟩
    · refine opH_value (some 14) rfl (by rfl) rfl (v := .pointer (some ⟨W39.heap.size, 0, none⟩)) (w' := W39.alloc (.cells #[.string ⟨#[]⟩, .string ⟨#[]⟩, .string ⟨#[]⟩, .string ⟨#[]⟩, .slice none 0 0] 56)) (by go_simp) ?_
      have hSold := hS
      have hk : New W39 (W39.alloc (.cells #[.string ⟨#[]⟩, .string ⟨#[]⟩, .string ⟨#[]⟩, .string ⟨#[]⟩, .slice none 0 0] 56)) := (Mods.refl _ _).alloc _
      replace h81 := hk.heap h81 id
      replace hS := hS.trans hk
      have h14 := World.alloc_heap_new W39 (.cells #[.string ⟨#[]⟩, .string ⟨#[]⟩, .string ⟨#[]⟩, .string ⟨#[]⟩, .slice none 0 0] 56)
      have hTl : w.heap.size ≤ W39.heap.size := hSold.size
      refine ⟨hS, ?_⟩
      simp only [Act.put, List.setIfInBounds_toArray, List.set_cons_succ, List.set_cons_zero]
      clear hk
      obtain ⟨W54, hwW54⟩ : ∃ W, W39.alloc (.cells #[.string ⟨#[]⟩, .string ⟨#[]⟩, .string ⟨#[]⟩, .string ⟨#[]⟩, .slice none 0 0] 56) = W := ⟨_, rfl⟩
      rw [hwW54] at hS h81 h14 ⊢
      clear hwW54
      obtain ⟨BT, hb⟩ : ∃ x, W39.heap.size = x := ⟨_, rfl⟩
      rw [hb] at h14 hTl ⊢
      clear hb
      refine wpAnyH_all (rs := [0]) (by kernel_rfl) (by simp) ?_
      simp only [List.mem_cons, List.not_mem_nil, or_false, forall_eq_or_imp, forall_eq]
      refine opH_value (some 76) rfl (by rfl) rfl (v := .slice (some ⟨W54.heap.size, 0, none⟩) 0 0) (w' := W54.alloc (.cells #[] 54)) (by go_simp) ?_
      have n14 : BT ≠ W54.heap.size := by have := (Array.getElem?_eq_some_iff.1 h14).1; omega
      have n81 : B81 ≠ W54.heap.size := by have := (Array.getElem?_eq_some_iff.1 h81).1; omega
      have hSold := hS
      have hk : New W54 (W54.alloc (.cells #[] 54)) := (Mods.refl _ _).alloc _
      replace h81 := hk.heap h81 id
      replace h14 := hk.heap h14 id
      replace hS := hS.trans hk
      have hO := OwR.nil W54
      have hbO : w.heap.size ≤ W54.heap.size := hSold.size
      refine ⟨hS, ?_⟩
      simp only [Act.put, List.setIfInBounds_toArray, List.set_cons_succ, List.set_cons_zero]
      clear hk
      obtain ⟨W55, hwW55⟩ : ∃ W, W54.alloc (.cells #[] 54) = W := ⟨_, rfl⟩
      rw [hwW55] at hS hO h81 h14 ⊢
      clear hwW55
      obtain ⟨B76, hb⟩ : ∃ x, W54.heap.size = x := ⟨_, rfl⟩
      rw [hb] at hO hbO n81 n14 ⊢
      clear hb
      refine wpAnyH_all (rs := [2]) (by kernel_rfl) (by simp) ?_
      simp only [List.mem_cons, List.not_mem_nil, or_false, forall_eq_or_imp, forall_eq]
      refine wpOp_append_L (some 78) rfl (by rfl) rfl (.tmp 76) (.tmp 77) rfl rfl rfl hO (hM.new hS) hMc (by rw [List.length_nil]; omega) (Nat.le_of_lt (hO.lt B76 rfl).2) ?_
      intro v78 W56 hO1 hg
      replace hS : Mods (fun _ => False) w W56 := hS.grown hg (fun k hk => by cases hk; exact .inl hbO)
      replace h81 := (hg.block B81 (Array.getElem?_eq_some_iff.1 h81).1 (fun e => n81 (Option.some.inj e))).trans h81
      replace h14 := (hg.block BT (Array.getElem?_eq_some_iff.1 h14).1 (fun e => n14 (Option.some.inj e))).trans h14
      replace hO : OwR w.heap.size W56 v78 M := owns_mono hO1 hbO
      clear hO1 hg
      refine ⟨hS, ?_⟩
      simp only [Act.put, List.setIfInBounds_toArray, List.set_cons_succ, List.set_cons_zero]
      refine wpAnyH_all (rs := [6]) (by kernel_rfl) (by simp) ?_
      simp only [List.mem_cons, List.not_mem_nil, or_false, forall_eq_or_imp, forall_eq]
      refine wpOp_append_L (some 82) rfl (by rfl) rfl (.tmp 78) (.tmp 81) rfl rfl rfl hO (pair_reads h81) pair_cap (by simp; omega) hS.size ?_
      intro v82 W57 hO1 hg
      replace hS : Mods (fun _ => False) w W57 := hS.grown hg (fun k hk => .inl (hO.lt k hk).1)
      replace h14 := (hg.block BT (Array.getElem?_eq_some_iff.1 h14).1 (fun e => own_row_ne hO h14 (by decide) e.symm)).trans h14
      replace hO := hO1
      clear hO1 hg h81
      refine ⟨hS, ?_⟩
      simp only [Act.put, List.setIfInBounds_toArray, List.set_cons_succ, List.set_cons_zero]
      refine wpAnyH_all (rs := [7]) (by kernel_rfl) (by simp) ?_
      simp only [List.mem_cons, List.not_mem_nil, or_false, forall_eq_or_imp, forall_eq]
      have hrd := hO.reads (by simp; omega)
      refine opH_call (some 83) rfl (by rfl) rfl 36 #[v82] (by go_simp) ((hC.out W57 v82 hrd.1.1 hrd.2).mono ?_)
      rintro e W58 ⟨r, ao, n, c, rfl, hk⟩
      clear hrd
      replace h14 := hk.heap h14 id
      replace hS := hS.trans hk
      refine ⟨_, rfl, hS, ?_⟩
      clear hk hO
      simp only [Act.put, List.setIfInBounds_toArray, List.set_cons_succ, List.set_cons_zero]
      refine anyH_take 8 (some 75) (.tuple #[.agg #[.string r.meth, .string r.scheme, .string r.path, .string r.host, .slice ao n c], .bool b]) rfl rfl (by kernel_rfl) (by kernel_rfl) (by kernel_rfl) (fun _ _ _ h => h.elim) (.inl ⟨by rfl, fun W hW => by go_simp⟩) hS ?_
      simp only [Act.put, List.setIfInBounds_toArray, List.set_cons_succ, List.set_cons_zero]
      refine anyH_take 9 (some 84) (.agg #[.string r.meth, .string r.scheme, .string r.path, .string r.host, .slice ao n c]) rfl rfl (by kernel_rfl) (by kernel_rfl) (by kernel_rfl) (fun _ _ _ h => h.elim) (.inl ⟨by rfl, fun W hW => by go_simp⟩) hS ?_
      simp only [Act.put, List.setIfInBounds_toArray, List.set_cons_succ, List.set_cons_zero]
      refine anyH_take 10 (some 85) (.bool b) rfl rfl (by kernel_rfl) (by kernel_rfl) (by kernel_rfl) (fun _ _ _ h => h.elim) (.inl ⟨by rfl, fun W hW => by go_simp⟩) hS ?_
      simp only [Act.put, List.setIfInBounds_toArray, List.set_cons_succ, List.set_cons_zero]
      refine wpAnyH_all (rs := [12]) (by kernel_rfl) (by simp) ?_
      simp only [List.mem_cons, List.not_mem_nil, or_false, forall_eq_or_imp, forall_eq]
      refine opH_skip none rfl (by rfl) rfl (run_store_row 56 (.tmp 14) (.tmp 84) rfl BT rfl 56 [.string ⟨#[]⟩, .string ⟨#[]⟩, .string ⟨#[]⟩, .string ⟨#[]⟩, .slice none 0 0] [.string r.meth, .string r.scheme, .string r.path, .string r.host, .slice ao n c] rfl h14 info56 rfl (row5_one r ao n c)) ?_
      replace hS := hS.setRow hTl #[.string r.meth, .string r.scheme, .string r.path, .string r.host, .slice ao n c]
      refine ⟨hS, ?_⟩
      simp only [Act.put, List.setIfInBounds_toArray, List.set_cons_succ, List.set_cons_zero]
      refine anyH_take 13 (some 15) (.bool b) rfl rfl (by kernel_rfl) (by kernel_rfl) (by kernel_rfl) (fun _ _ _ h => h.elim) (.inl ⟨by rfl, fun W hW => by go_simp⟩) hS ?_
      simp only [Act.put, List.setIfInBounds_toArray, List.set_cons_succ, List.set_cons_zero]
      refine wpAnyH_done (by kernel_rfl) ?_ _
      exact ⟨⟨rfl, rfl, rfl, rfl, rfl, rfl⟩, hS⟩
  · refine opH_value (some 14) rfl (by rfl) rfl (v := .pointer (some ⟨Wd.heap.size, 0, none⟩)) (w' := Wd.alloc (.cells #[.string ⟨#[]⟩, .string ⟨#[]⟩, .string ⟨#[]⟩, .string ⟨#[]⟩, .slice none 0 0] 56)) (by go_simp) ?_
    have hSold := hS
    have hk : New Wd (Wd.alloc (.cells #[.string ⟨#[]⟩, .string ⟨#[]⟩, .string ⟨#[]⟩, .string ⟨#[]⟩, .slice none 0 0] 56)) := (Mods.refl _ _).alloc _
    replace hS := hS.trans hk
    have h14 := World.alloc_heap_new Wd (.cells #[.string ⟨#[]⟩, .string ⟨#[]⟩, .string ⟨#[]⟩, .string ⟨#[]⟩, .slice none 0 0] 56)
    have hTl : w.heap.size ≤ Wd.heap.size := hSold.size
    refine ⟨hS, ?_⟩
    simp only [Act.put, List.setIfInBounds_toArray, List.set_cons_succ, List.set_cons_zero]
    clear hk
    obtain ⟨W59, hwW59⟩ : ∃ W, Wd.alloc (.cells #[.string ⟨#[]⟩, .string ⟨#[]⟩, .string ⟨#[]⟩, .string ⟨#[]⟩, .slice none 0 0] 56) = W := ⟨_, rfl⟩
    rw [hwW59] at hS h14 ⊢
    clear hwW59
    obtain ⟨BT, hb⟩ : ∃ x, Wd.heap.size = x := ⟨_, rfl⟩
    rw [hb] at h14 hTl ⊢
    clear hb
    refine wpAnyH_all (rs := [0, 5]) (by kernel_rfl) (by simp) ?_
    simp only [List.mem_cons, List.not_mem_nil, or_false, forall_eq_or_imp, forall_eq]
    refine ⟨?_, ?_⟩
    · refine opH_value (some 76) rfl (by rfl) rfl (v := .slice (some ⟨W59.heap.size, 0, none⟩) 0 0) (w' := W59.alloc (.cells #[] 54)) (by go_simp) ?_
      have n14 : BT ≠ W59.heap.size := by have := (Array.getElem?_eq_some_iff.1 h14).1; omega
      have hSold := hS
      have hk : New W59 (W59.alloc (.cells #[] 54)) := (Mods.refl _ _).alloc _
      replace h14 := hk.heap h14 id
      replace hS := hS.trans hk
      have hO := OwR.nil W59
      have hbO : w.heap.size ≤ W59.heap.size := hSold.size
      refine ⟨hS, ?_⟩
      simp only [Act.put, List.setIfInBounds_toArray, List.set_cons_succ, List.set_cons_zero]
      clear hk
      obtain ⟨W60, hwW60⟩ : ∃ W, W59.alloc (.cells #[] 54) = W := ⟨_, rfl⟩
      rw [hwW60] at hS hO h14 ⊢
      clear hwW60
      obtain ⟨B76, hb⟩ : ∃ x, W59.heap.size = x := ⟨_, rfl⟩
      rw [hb] at hO hbO n14 ⊢
      clear hb
      refine wpAnyH_all (rs := [2, 5]) (by kernel_rfl) (by simp) ?_
      simp only [List.mem_cons, List.not_mem_nil, or_false, forall_eq_or_imp, forall_eq]
      refine ⟨?_, ?_⟩
      · refine wpOp_append_L (some 78) rfl (by rfl) rfl (.tmp 76) (.tmp 77) rfl rfl rfl hO (hM.new hS) hMc (by rw [List.length_nil]; omega) (Nat.le_of_lt (hO.lt B76 rfl).2) ?_
        intro v78 W61 hO1 hg
        replace hS : Mods (fun _ => False) w W61 := hS.grown hg (fun k hk => by cases hk; exact .inl hbO)
        replace h14 := (hg.block BT (Array.getElem?_eq_some_iff.1 h14).1 (fun e => n14 (Option.some.inj e))).trans h14
        replace hO : OwR w.heap.size W61 v78 M := owns_mono hO1 hbO
        clear hO1 hg
        refine ⟨hS, ?_⟩
        simp only [Act.put, List.setIfInBounds_toArray, List.set_cons_succ, List.set_cons_zero]
        refine wpAnyH_all (rs := [5]) (by kernel_rfl) (by simp) ?_
        simp only [List.mem_cons, List.not_mem_nil, or_false, forall_eq_or_imp, forall_eq]
        refine opH_value (some 81) rfl (by rfl) rfl (v := .slice (some ⟨W61.heap.size, 0, none⟩) 2 2) (w' := W61.alloc (.cells #[.string ⟨#[97]⟩, .string ⟨#[]⟩, .string f.name, .string f.val] 54)) (by go_simp) ?_
        have hk : New W61 (W61.alloc (.cells #[.string ⟨#[97]⟩, .string ⟨#[]⟩, .string f.name, .string f.val] 54)) := (Mods.refl _ _).alloc _
        replace hO := hO.new hk
        replace h14 := hk.heap h14 id
        replace hS := hS.trans hk
        have h81 := World.alloc_heap_new W61 (.cells #[.string ⟨#[97]⟩, .string ⟨#[]⟩, .string f.name, .string f.val] 54)
        refine ⟨hS, ?_⟩
        simp only [Act.put, List.setIfInBounds_toArray, List.set_cons_succ, List.set_cons_zero]
        clear hk
        obtain ⟨W62, hwW62⟩ : ∃ W, W61.alloc (.cells #[.string ⟨#[97]⟩, .string ⟨#[]⟩, .string f.name, .string f.val] 54) = W := ⟨_, rfl⟩
        rw [hwW62] at hS hO h81 h14 ⊢
        clear hwW62
        obtain ⟨B81, hb⟩ : ∃ x, W61.heap.size = x := ⟨_, rfl⟩
        rw [hb] at h81 ⊢
        clear hb
        refine wpAnyH_all (rs := [6]) (by kernel_rfl) (by simp) ?_
        simp only [List.mem_cons, List.not_mem_nil, or_false, forall_eq_or_imp, forall_eq]
        refine wpOp_append_L (some 82) rfl (by rfl) rfl (.tmp 78) (.tmp 81) rfl rfl rfl hO (pair_reads h81) pair_cap (by simp; omega) hS.size ?_
        intro v82 W63 hO1 hg
        replace hS : Mods (fun _ => False) w W63 := hS.grown hg (fun k hk => .inl (hO.lt k hk).1)
        replace h14 := (hg.block BT (Array.getElem?_eq_some_iff.1 h14).1 (fun e => own_row_ne hO h14 (by decide) e.symm)).trans h14
        replace hO := hO1
        clear hO1 hg h81
        refine ⟨hS, ?_⟩
        simp only [Act.put, List.setIfInBounds_toArray, List.set_cons_succ, List.set_cons_zero]
        refine wpAnyH_all (rs := [7]) (by kernel_rfl) (by simp) ?_
        simp only [List.mem_cons, List.not_mem_nil, or_false, forall_eq_or_imp, forall_eq]
        have hrd := hO.reads (by simp; omega)
        refine opH_call (some 83) rfl (by rfl) rfl 36 #[v82] (by go_simp) ((hC.out W63 v82 hrd.1.1 hrd.2).mono ?_)
        rintro e W64 ⟨r, ao, n, c, rfl, hk⟩
        clear hrd
        replace h14 := hk.heap h14 id
        replace hS := hS.trans hk
        refine ⟨_, rfl, hS, ?_⟩
        clear hk hO
        simp only [Act.put, List.setIfInBounds_toArray, List.set_cons_succ, List.set_cons_zero]
        refine anyH_take 8 (some 75) (.tuple #[.agg #[.string r.meth, .string r.scheme, .string r.path, .string r.host, .slice ao n c], .bool b]) rfl rfl (by kernel_rfl) (by kernel_rfl) (by kernel_rfl) (fun _ _ _ h => h.elim) (.inl ⟨by rfl, fun W hW => by go_simp⟩) hS ?_
        simp only [Act.put, List.setIfInBounds_toArray, List.set_cons_succ, List.set_cons_zero]
        refine anyH_take 9 (some 84) (.agg #[.string r.meth, .string r.scheme, .string r.path, .string r.host, .slice ao n c]) rfl rfl (by kernel_rfl) (by kernel_rfl) (by kernel_rfl) (fun _ _ _ h => h.elim) (.inl ⟨by rfl, fun W hW => by go_simp⟩) hS ?_
        simp only [Act.put, List.setIfInBounds_toArray, List.set_cons_succ, List.set_cons_zero]
        refine anyH_take 10 (some 85) (.bool b) rfl rfl (by kernel_rfl) (by kernel_rfl) (by kernel_rfl) (fun _ _ _ h => h.elim) (.inl ⟨by rfl, fun W hW => by go_simp⟩) hS ?_
        simp only [Act.put, List.setIfInBounds_toArray, List.set_cons_succ, List.set_cons_zero]
        refine wpAnyH_all (rs := [12]) (by kernel_rfl) (by simp) ?_
        simp only [List.mem_cons, List.not_mem_nil, or_false, forall_eq_or_imp, forall_eq]
        refine opH_skip none rfl (by rfl) rfl (run_store_row 56 (.tmp 14) (.tmp 84) rfl BT rfl 56 [.string ⟨#[]⟩, .string ⟨#[]⟩, .string ⟨#[]⟩, .string ⟨#[]⟩, .slice none 0 0] [.string r.meth, .string r.scheme, .string r.path, .string r.host, .slice ao n c] rfl h14 info56 rfl (row5_one r ao n c)) ?_
        replace hS := hS.setRow hTl #[.string r.meth, .string r.scheme, .string r.path, .string r.host, .slice ao n c]
        refine ⟨hS, ?_⟩
        simp only [Act.put, List.setIfInBounds_toArray, List.set_cons_succ, List.set_cons_zero]
        refine anyH_take 13 (some 15) (.bool b) rfl rfl (by kernel_rfl) (by kernel_rfl) (by kernel_rfl) (fun _ _ _ h => h.elim) (.inl ⟨by rfl, fun W hW => by go_simp⟩) hS ?_
        simp only [Act.put, List.setIfInBounds_toArray, List.set_cons_succ, List.set_cons_zero]
        refine wpAnyH_done (by kernel_rfl) ?_ _
        exact ⟨⟨rfl, rfl, rfl, rfl, rfl, rfl⟩, hS⟩
      · refine opH_value (some 81) rfl (by rfl) rfl (v := .slice (some ⟨W60.heap.size, 0, none⟩) 2 2) (w' := W60.alloc (.cells #[.string ⟨#[97]⟩, .string ⟨#[]⟩, .string f.name, .string f.val] 54)) (by go_simp) ?_
        have n81 : W60.heap.size ≠ B76 := by have := (hO.lt B76 rfl).2; omega
        have hk : New W60 (W60.alloc (.cells #[.string ⟨#[97]⟩, .string ⟨#[]⟩, .string f.name, .string f.val] 54)) := (Mods.refl _ _).alloc _
        replace hO := hO.new hk
        replace h14 := hk.heap h14 id
        replace hS := hS.trans hk
        have h81 := World.alloc_heap_new W60 (.cells #[.string ⟨#[97]⟩, .string ⟨#[]⟩, .string f.name, .string f.val] 54)
        refine ⟨hS, ?_⟩
        simp only [Act.put, List.setIfInBounds_toArray, List.set_cons_succ, List.set_cons_zero]
        clear hk
        obtain ⟨W65, hwW65⟩ : ∃ W, W60.alloc (.cells #[.string ⟨#[97]⟩, .string ⟨#[]⟩, .string f.name, .string f.val] 54) = W := ⟨_, rfl⟩
        rw [hwW65] at hS hO h81 h14 ⊢
        clear hwW65
        obtain ⟨B81, hb⟩ : ∃ x, W60.heap.size = x := ⟨_, rfl⟩
        rw [hb] at h81 n81 ⊢
        clear hb
        refine wpAnyH_all (rs := [2]) (by kernel_rfl) (by simp) ?_
        simp only [List.mem_cons, List.not_mem_nil, or_false, forall_eq_or_imp, forall_eq]
        refine wpOp_append_L (some 78) rfl (by rfl) rfl (.tmp 76) (.tmp 77) rfl rfl rfl hO (hM.new hS) hMc (by rw [List.length_nil]; omega) (Nat.le_of_lt (hO.lt B76 rfl).2) ?_
        intro v78 W66 hO1 hg
        replace hS : Mods (fun _ => False) w W66 := hS.grown hg (fun k hk => by cases hk; exact .inl hbO)
        replace h81 := (hg.block B81 (Array.getElem?_eq_some_iff.1 h81).1 (fun e => n81 (Option.some.inj e))).trans h81
        replace h14 := (hg.block BT (Array.getElem?_eq_some_iff.1 h14).1 (fun e => n14 (Option.some.inj e))).trans h14
        replace hO : OwR w.heap.size W66 v78 M := owns_mono hO1 hbO
        clear hO1 hg
        refine ⟨hS, ?_⟩
        simp only [Act.put, List.setIfInBounds_toArray, List.set_cons_succ, List.set_cons_zero]
        refine wpAnyH_all (rs := [6]) (by kernel_rfl) (by simp) ?_
        simp only [List.mem_cons, List.not_mem_nil, or_false, forall_eq_or_imp, forall_eq]
        refine wpOp_append_L (some 82) rfl (by rfl) rfl (.tmp 78) (.tmp 81) rfl rfl rfl hO (pair_reads h81) pair_cap (by simp; omega) hS.size ?_
        intro v82 W67 hO1 hg
        replace hS : Mods (fun _ => False) w W67 := hS.grown hg (fun k hk => .inl (hO.lt k hk).1)
        replace h14 := (hg.block BT (Array.getElem?_eq_some_iff.1 h14).1 (fun e => own_row_ne hO h14 (by decide) e.symm)).trans h14
        replace hO := hO1
        clear hO1 hg h81
        refine ⟨hS, ?_⟩
        simp only [Act.put, List.setIfInBounds_toArray, List.set_cons_succ, List.set_cons_zero]
        refine wpAnyH_all (rs := [7]) (by kernel_rfl) (by simp) ?_
        simp only [List.mem_cons, List.not_mem_nil, or_false, forall_eq_or_imp, forall_eq]
        have hrd := hO.reads (by simp; omega)
        refine opH_call (some 83) rfl (by rfl) rfl 36 #[v82] (by go_simp) ((hC.out W67 v82 hrd.1.1 hrd.2).mono ?_)
        rintro e W68 ⟨r, ao, n, c, rfl, hk⟩
        clear hrd
        replace h14 := hk.heap h14 id
        replace hS := hS.trans hk
        refine ⟨_, rfl, hS, ?_⟩
        clear hk hO
        simp only [Act.put, List.setIfInBounds_toArray, List.set_cons_succ, List.set_cons_zero]
        refine anyH_take 8 (some 75) (.tuple #[.agg #[.string r.meth, .string r.scheme, .string r.path, .string r.host, .slice ao n c], .bool b]) rfl rfl (by kernel_rfl) (by kernel_rfl) (by kernel_rfl) (fun _ _ _ h => h.elim) (.inl ⟨by rfl, fun W hW => by go_simp⟩) hS ?_
        simp only [Act.put, List.setIfInBounds_toArray, List.set_cons_succ, List.set_cons_zero]
        refine anyH_take 9 (some 84) (.agg #[.string r.meth, .string r.scheme, .string r.path, .string r.host, .slice ao n c]) rfl rfl (by kernel_rfl) (by kernel_rfl) (by kernel_rfl) (fun _ _ _ h => h.elim) (.inl ⟨by rfl, fun W hW => by go_simp⟩) hS ?_
        simp only [Act.put, List.setIfInBounds_toArray, List.set_cons_succ, List.set_cons_zero]
        refine anyH_take 10 (some 85) (.bool b) rfl rfl (by kernel_rfl) (by kernel_rfl) (by kernel_rfl) (fun _ _ _ h => h.elim) (.inl ⟨by rfl, fun W hW => by go_simp⟩) hS ?_
        simp only [Act.put, List.setIfInBounds_toArray, List.set_cons_succ, List.set_cons_zero]
        refine wpAnyH_all (rs := [12]) (by kernel_rfl) (by simp) ?_
        simp only [List.mem_cons, List.not_mem_nil, or_false, forall_eq_or_imp, forall_eq]
        refine opH_skip none rfl (by rfl) rfl (run_store_row 56 (.tmp 14) (.tmp 84) rfl BT rfl 56 [.string ⟨#[]⟩, .string ⟨#[]⟩, .string ⟨#[]⟩, .string ⟨#[]⟩, .slice none 0 0] [.string r.meth, .string r.scheme, .string r.path, .string r.host, .slice ao n c] rfl h14 info56 rfl (row5_one r ao n c)) ?_
        replace hS := hS.setRow hTl #[.string r.meth, .string r.scheme, .string r.path, .string r.host, .slice ao n c]
        refine ⟨hS, ?_⟩
        simp only [Act.put, List.setIfInBounds_toArray, List.set_cons_succ, List.set_cons_zero]
        refine anyH_take 13 (some 15) (.bool b) rfl rfl (by kernel_rfl) (by kernel_rfl) (by kernel_rfl) (fun _ _ _ h => h.elim) (.inl ⟨by rfl, fun W hW => by go_simp⟩) hS ?_
        simp only [Act.put, List.setIfInBounds_toArray, List.set_cons_succ, List.set_cons_zero]
        refine wpAnyH_done (by kernel_rfl) ?_ _
        exact ⟨⟨rfl, rfl, rfl, rfl, rfl, rfl⟩, hS⟩
    · refine opH_value (some 81) rfl (by rfl) rfl (v := .slice (some ⟨W59.heap.size, 0, none⟩) 2 2) (w' := W59.alloc (.cells #[.string ⟨#[97]⟩, .string ⟨#[]⟩, .string f.name, .string f.val] 54)) (by go_simp) ?_
      have hk : New W59 (W59.alloc (.cells #[.string ⟨#[97]⟩, .string ⟨#[]⟩, .string f.name, .string f.val] 54)) := (Mods.refl _ _).alloc _
      replace h14 := hk.heap h14 id
      replace hS := hS.trans hk
      have h81 := World.alloc_heap_new W59 (.cells #[.string ⟨#[97]⟩, .string ⟨#[]⟩, .string f.name, .string f.val] 54)
      refine ⟨hS, ?_⟩
      simp only [Act.put, List.setIfInBounds_toArray, List.set_cons_succ, List.set_cons_zero]
      clear hk
      obtain ⟨W69, hwW69⟩ : ∃ W, W59.alloc (.cells #[.string ⟨#[97]⟩, .string ⟨#[]⟩, .string f.name, .string f.val] 54) = W := ⟨_, rfl⟩
      rw [hwW69] at hS h81 h14 ⊢
      clear hwW69
      obtain ⟨B81, hb⟩ : ∃ x, W59.heap.size = x := ⟨_, rfl⟩
      rw [hb] at h81 ⊢
      clear hb
      refine wpAnyH_all (rs := [0]) (by kernel_rfl) (by simp) ?_
      simp only [List.mem_cons, List.not_mem_nil, or_false, forall_eq_or_imp, forall_eq]
      refine opH_value (some 76) rfl (by rfl) rfl (v := .slice (some ⟨W69.heap.size, 0, none⟩) 0 0) (w' := W69.alloc (.cells #[] 54)) (by go_simp) ?_
      have n14 : BT ≠ W69.heap.size := by have := (Array.getElem?_eq_some_iff.1 h14).1; omega
      have n81 : B81 ≠ W69.heap.size := by have := (Array.getElem?_eq_some_iff.1 h81).1; omega
      have hSold := hS
      have hk : New W69 (W69.alloc (.cells #[] 54)) := (Mods.refl _ _).alloc _
      replace h81 := hk.heap h81 id
      replace h14 := hk.heap h14 id
      replace hS := hS.trans hk
      have hO := OwR.nil W69
      have hbO : w.heap.size ≤ W69.heap.size := hSold.size
      refine ⟨hS, ?_⟩
      simp only [Act.put, List.setIfInBounds_toArray, List.set_cons_succ, List.set_cons_zero]
      clear hk
      obtain ⟨W70, hwW70⟩ : ∃ W, W69.alloc (.cells #[] 54) = W := ⟨_, rfl⟩
      rw [hwW70] at hS hO h81 h14 ⊢
      clear hwW70
      obtain ⟨B76, hb⟩ : ∃ x, W69.heap.size = x := ⟨_, rfl⟩
      rw [hb] at hO hbO n81 n14 ⊢
      clear hb
      refine wpAnyH_all (rs := [2]) (by kernel_rfl) (by simp) ?_
      simp only [List.mem_cons, List.not_mem_nil, or_false, forall_eq_or_imp, forall_eq]
      refine wpOp_append_L (some 78) rfl (by rfl) rfl (.tmp 76) (.tmp 77) rfl rfl rfl hO (hM.new hS) hMc (by rw [List.length_nil]; omega) (Nat.le_of_lt (hO.lt B76 rfl).2) ?_
      intro v78 W71 hO1 hg
      replace hS : Mods (fun _ => False) w W71 := hS.grown hg (fun k hk => by cases hk; exact .inl hbO)
      replace h81 := (hg.block B81 (Array.getElem?_eq_some_iff.1 h81).1 (fun e => n81 (Option.some.inj e))).trans h81
      replace h14 := (hg.block BT (Array.getElem?_eq_some_iff.1 h14).1 (fun e => n14 (Option.some.inj e))).trans h14
      replace hO : OwR w.heap.size W71 v78 M := owns_mono hO1 hbO
      clear hO1 hg
      refine ⟨hS, ?_⟩
      simp only [Act.put, List.setIfInBounds_toArray, List.set_cons_succ, List.set_cons_zero]
      refine wpAnyH_all (rs := [6]) (by kernel_rfl) (by simp) ?_
      simp only [List.mem_cons, List.not_mem_nil, or_false, forall_eq_or_imp, forall_eq]
      refine wpOp_append_L (some 82) rfl (by rfl) rfl (.tmp 78) (.tmp 81) rfl rfl rfl hO (pair_reads h81) pair_cap (by simp; omega) hS.size ?_
      intro v82 W72 hO1 hg
      replace hS : Mods (fun _ => False) w W72 := hS.grown hg (fun k hk => .inl (hO.lt k hk).1)
      replace h14 := (hg.block BT (Array.getElem?_eq_some_iff.1 h14).1 (fun e => own_row_ne hO h14 (by decide) e.symm)).trans h14
      replace hO := hO1
      clear hO1 hg h81
      refine ⟨hS, ?_⟩
      simp only [Act.put, List.setIfInBounds_toArray, List.set_cons_succ, List.set_cons_zero]
      refine wpAnyH_all (rs := [7]) (by kernel_rfl) (by simp) ?_
      simp only [List.mem_cons, List.not_mem_nil, or_false, forall_eq_or_imp, forall_eq]
      have hrd := hO.reads (by simp; omega)
      refine opH_call (some 83) rfl (by rfl) rfl 36 #[v82] (by go_simp) ((hC.out W72 v82 hrd.1.1 hrd.2).mono ?_)
      rintro e W73 ⟨r, ao, n, c, rfl, hk⟩
      clear hrd
      replace h14 := hk.heap h14 id
      replace hS := hS.trans hk
      refine ⟨_, rfl, hS, ?_⟩
      clear hk hO
      simp only [Act.put, List.setIfInBounds_toArray, List.set_cons_succ, List.set_cons_zero]
      refine anyH_take 8 (some 75) (.tuple #[.agg #[.string r.meth, .string r.scheme, .string r.path, .string r.host, .slice ao n c], .bool b]) rfl rfl (by kernel_rfl) (by kernel_rfl) (by kernel_rfl) (fun _ _ _ h => h.elim) (.inl ⟨by rfl, fun W hW => by go_simp⟩) hS ?_
      simp only [Act.put, List.setIfInBounds_toArray, List.set_cons_succ, List.set_cons_zero]
      refine anyH_take 9 (some 84) (.agg #[.string r.meth, .string r.scheme, .string r.path, .string r.host, .slice ao n c]) rfl rfl (by kernel_rfl) (by kernel_rfl) (by kernel_rfl) (fun _ _ _ h => h.elim) (.inl ⟨by rfl, fun W hW => by go_simp⟩) hS ?_
      simp only [Act.put, List.setIfInBounds_toArray, List.set_cons_succ, List.set_cons_zero]
      refine anyH_take 10 (some 85) (.bool b) rfl rfl (by kernel_rfl) (by kernel_rfl) (by kernel_rfl) (fun _ _ _ h => h.elim) (.inl ⟨by rfl, fun W hW => by go_simp⟩) hS ?_
      simp only [Act.put, List.setIfInBounds_toArray, List.set_cons_succ, List.set_cons_zero]
      refine wpAnyH_all (rs := [12]) (by kernel_rfl) (by simp) ?_
      simp only [List.mem_cons, List.not_mem_nil, or_false, forall_eq_or_imp, forall_eq]
      refine opH_skip none rfl (by rfl) rfl (run_store_row 56 (.tmp 14) (.tmp 84) rfl BT rfl 56 [.string ⟨#[]⟩, .string ⟨#[]⟩, .string ⟨#[]⟩, .string ⟨#[]⟩, .slice none 0 0] [.string r.meth, .string r.scheme, .string r.path, .string r.host, .slice ao n c] rfl h14 info56 rfl (row5_one r ao n c)) ?_
      replace hS := hS.setRow hTl #[.string r.meth, .string r.scheme, .string r.path, .string r.host, .slice ao n c]
      refine ⟨hS, ?_⟩
      simp only [Act.put, List.setIfInBounds_toArray, List.set_cons_succ, List.set_cons_zero]
      refine anyH_take 13 (some 15) (.bool b) rfl rfl (by kernel_rfl) (by kernel_rfl) (by kernel_rfl) (fun _ _ _ h => h.elim) (.inl ⟨by rfl, fun W hW => by go_simp⟩) hS ?_
      simp only [Act.put, List.setIfInBounds_toArray, List.set_cons_succ, List.set_cons_zero]
      refine wpAnyH_done (by kernel_rfl) ?_ _
      exact ⟨⟨rfl, rfl, rfl, rfl, rfl, rfl⟩, hS⟩
end Go.Proofs.YtkjghojdfjhhkaaDoor
