/- The rows of a word. -/
import Derived.Test.YtkjloeefcaadlaaP01
import Derived.Test.YtkjloeefcaadlaaP02
set_option linter.unusedSimpArgs false
set_option linter.unusedVariables false
namespace Go.Proofs.Ytkjloeefcaadlaa
open Go.RowKit Go.Shelf Go.Cs
attribute [local go_sem] Oper.semAt_some
theorem info3 : (Try.prog.info? 3).map (fun i => (i.zero, i.size, i.bytes)) = some (some (.int .i64 0), 1, 8) := by kernel_rfl
theorem info26 : (Try.prog.info? 62).map (·.size) = some 8 := by kernel_rfl
def rowsX (x k u : Nat) : List Int := ((List.range k).filter (fun j => place x j / 8 % 8 == u)).map (fun j => ((place x j % 8 : Nat) : Int))
def rowsF (x u : Nat) : List Int := if rightB x then rowsX x (x / 2 ^ 60) u else []
theorem rowsX_succ (x k u : Nat) : rowsX x (k + 1) u = if u = place x k / 8 % 8 then rowsX x k (place x k / 8 % 8) ++ [((place x k % 8 : Nat) : Int)] else rowsX x k u := by
  unfold rowsX
  rw [List.range_succ, List.filter_append, List.map_append]
  split
  · rename_i h; subst h; simp
  · rename_i h; simp [Ne.symm h]
theorem rowsX_len (x k u : Nat) : (rowsX x k u).length ≤ k := by
  unfold rowsX
  rw [List.length_map]
  exact Nat.le_trans (List.length_filter_le _ _) (by simp)
set_option maxRecDepth 100000 in
set_option maxHeartbeats 2000000 in
theorem rows_any (x : Nat) (hx : x < 18446744073709551616) (w : World) : Calls Try.prog 164 #[.int .u64 x] w (Ret8 w 3 (rowsF x)) := by
  have HR := Lib.hid (right_any x hx)
  obtain ⟨b, hb⟩ : ∃ b, rightB x = b := ⟨_, rfl⟩
  have h8 : b = true → x / 2 ^ 60 ≤ 8 := fun h => right_le (hb.trans h)
  have hX : rowsF x = if b = true then rowsX x (x / 2 ^ 60) else fun _ => [] := by unfold rowsF; rw [hb]; cases b <;> rfl
  rw [hb] at HR
  rw [hX]
  clear hb hX
  refine calls_of_marks Try.func164 rfl ?_
  simp only [Try.ntmps164, List.size_toArray, List.length_cons, List.length_nil, Nat.reduceAdd, Nat.reduceSub, Array.replicate_succ, Array.replicate_zero, List.push_toArray, List.append_toArray, List.nil_append, List.cons_append]
  go_wp2_with fail
  obtain ⟨W0, hW0⟩ : ∃ W0, w.alloc (.cells #[.slice none 0 0, .slice none 0 0, .slice none 0 0, .slice none 0 0, .slice none 0 0, .slice none 0 0, .slice none 0 0, .slice none 0 0] 62) = W0 := ⟨_, rfl⟩
  have hN0 : New w W0 := by rw [← hW0]; exact (Mods.refl _ _).alloc _
  have hsz : W0.heap.size = w.heap.size + 1 := by rw [← hW0]; simp
  have hb0 : W0.heap[w.heap.size]? = some (.cells #[.slice none 0 0, .slice none 0 0, .slice none 0 0, .slice none 0 0, .slice none 0 0, .slice none 0 0, .slice none 0 0, .slice none 0 0] 62 (0, 0)) := by rw [← hW0]; exact World.alloc_heap_new w _
  rw [hW0]
  clear hW0
  refine (HR.out _).mono ?_
  rintro e w1 ⟨rfl, hN1⟩
  have k0 := hN1.heap hb0 id
  have hsz1 : w.heap.size + 1 ≤ w1.heap.size := by have := hN1.size; omega
  have hNw := hN0.trans hN1
  clear hN0 hN1 hb0 hsz
  cases b with
  | false =>
    clear h8
    have hone := nil8_one
    go_wp2_with (first | (refine op_value rfl (run_load_row 62 (.tmp 2) rfl w.heap.size rfl 62 _ (0, 0) _ k0 Try.underlying62 rfl info26) ?_) | (refine op_skip rfl (run_store_same 62 (.tmp 2) (.tmp 8) rfl w.heap.size rfl 62 _ rfl k0 info26 hone) ?_))
    exact marks_none rfl (results_cell_row rfl _ _ w.heap.size 62 _ (0, 0) _ rfl k0 Try.underlying62 rfl info26) ⟨_, rfl, Told8.nil _ _ _, hNw⟩
  | true =>
    have h8' := h8 rfl
    clear h8
    go_wp2_with fail
    refine (places_any x _).mono ?_
    rintro e w2 ⟨rfl, hw2⟩
    have m0 : w2.heap[w.heap.size]? = some (.cells #[.slice none 0 0, .slice none 0 0, .slice none 0 0, .slice none 0 0, .slice none 0 0, .slice none 0 0, .slice none 0 0, .slice none 0 0] 62 (0, 0)) := by rw [← hw2]; exact (Below.heap_alloc w1 _ _ (by omega)).trans k0
    have mp := Boxed.new w1 22 (.int .u64 x)
    have hNv := hNw.alloc (.cells #[.int .u64 x] 22)
    have hsz2 : w2.heap.size = w1.heap.size + 1 := by rw [← hw2]; simp
    obtain ⟨B, hB, hB3⟩ : ∃ B, w1.heap.size = B ∧ w.heap.size + 1 ≤ B := ⟨_, rfl, hsz1⟩
    rw [hw2] at mp hNv
    rw [hB] at mp hsz2 ⊢
    clear k0 hNw hsz1 hw2 hB
    go_wp2_with fail
    refine wp_rangeList (gf := 161) (lb := #[.pointer (some ⟨B, 0, none⟩)]) rfl (enters_of Try.func161 (by kernel_rfl) rfl) (places x) encP (fun b => b = w.heap.size ∨ w2.heap.size ≤ b)
      (fun W hW => places1_iter _ x hx _ (by omega) W (hW.boxed mp id).cell) (fun _ => rfl)
      (fun k W => Own8 w2.heap.size w.heap.size 62 3 (rowsX x k) W ∧ Mods (fun b => b = w.heap.size ∨ w2.heap.size ≤ b) w2 W)
      (fun _ _ _ => False)
      (fun k => .and (.own8 _ _ _ _ _) (.mods (Nat.le_refl _)))
      (fun c k => .pure _)
      ⟨Own8.nil _ _ _ _ _ m0, Mods.refl _ _⟩
      (fun p t => ((t.setIfInBounds 11 (.int .i64 p.1)).setIfInBounds 12 (.int .u64 p.2)).setIfInBounds 4 (.int .u64 p.2)) ?assign ?body ?done ?stop
    case assign =>
      rintro l ⟨p1, p2⟩ W K hK
      simp only [encP] at hK ⊢
      gi_wp2
      exact hK
    case body =>
      rintro l k p W hp hl _ ⟨hO, hM⟩
      obtain ⟨hk, rfl⟩ := places_at hp
      clear hp m0 mp
      have hp128 := place_lt x k
      have hX : rowsX x (k + 1) = _ := funext fun u => rowsX_succ x k u
      obtain ⟨q, hq⟩ : ∃ q, place x k = q := ⟨_, rfl⟩
      rw [hq] at hp128 hX ⊢
      clear hq
      have H1 := Lib.hid (slot_any q)
      have H2 := Lib.hid (urgency_any q)
      obtain ⟨sl, hsl, hsl8⟩ : ∃ sl, q % 8 = sl ∧ sl < 8 := ⟨_, rfl, Nat.mod_lt _ (by decide)⟩
      obtain ⟨u, hu, hu8⟩ : ∃ u, q / 8 % 8 = u ∧ u < 8 := ⟨_, rfl, Nat.mod_lt _ (by decide)⟩
      rw [hsl] at H1 hX
      rw [hu] at H2 hX
      clear hsl hu
      obtain ⟨i0, hi, hz0, hz1, hz2⟩ := info_parts info3
      have hlen := rowsX_len x k u
      have hb1 : (rowsX x k u).length + 1 ≤ maxLen := by unfold maxLen; omega
      have hb2 : ((rowsX x k u).length + 1) * 8 ≤ 140737488355328 := by omega
      have hszW := hM.size
      gi_wp2
      refine wpIn_region_any (by kernel_rfl) ?_
      obtain ⟨Wd, hWd⟩ : ∃ Wd, W.drew = Wd := ⟨_, rfl⟩
      have hOd : Own8 w2.heap.size w.heap.size 62 3 (rowsX x k) Wd := by rw [← hWd]; exact hO
      have hMd : Mods (fun b => b = w.heap.size ∨ w2.heap.size ≤ b) W Wd := by rw [← hWd]; exact (Mods.refl _ _).drew
      show wpAnyIn _ _ _ _ _ _ _ _ _ W.drew
      rw [hWd]
      clear hO hWd
      have hM2 := hM.trans hMd
      have hszWd := hMd.size
      obtain ⟨v, hv, hf, hown, hstep⟩ := hOd.row u hu8
      refine any_take 0 (some 13) (.int .u64 q) rfl rfl (by kernel_rfl) (by kernel_rfl) (by kernel_rfl) (fun _ _ _ h => h) (.value rfl fun w => rfl) ?_
      refine any_take 1 (some 14) (.int .i64 u) rfl rfl (by kernel_rfl) (by kernel_rfl) (by kernel_rfl) (fun _ _ _ h => h) (.call rfl 130 #[.int .u64 q] (fun w => by go_simp) (fun w => H2.out w (by omega))) ?_
      refine any_take 2 (some 15) (.int .u64 q) rfl rfl (by kernel_rfl) (by kernel_rfl) (by kernel_rfl) (fun _ _ _ h => h) (.value rfl fun w => rfl) ?_
      refine any_take 3 (some 16) (.int .i64 u) rfl rfl (by kernel_rfl) (by kernel_rfl) (by kernel_rfl) (fun _ _ _ h => h) (.call rfl 130 #[.int .u64 q] (fun w => by go_simp) (fun w => H2.out w (by omega))) ?_
      refine any_take 4 (some 17) (.pointer (some ⟨w.heap.size, u, none⟩)) rfl rfl (by kernel_rfl) (by kernel_rfl) (by kernel_rfl) (fun _ _ _ h => h) (.value rfl fun w => by go_simp; intro h; exfalso; omega) ?_
      refine any_take 6 (some 19) (.int .u64 q) rfl rfl (by kernel_rfl) (by kernel_rfl) (by kernel_rfl) (fun _ _ _ h => h) (.value rfl fun w => rfl) ?_
      refine any_take 7 (some 20) (.int .i64 sl) rfl rfl (by kernel_rfl) (by kernel_rfl) (by kernel_rfl) (fun _ _ _ h => h) (.call rfl 125 #[.int .u64 q] (fun w => by go_simp) (fun w => H1.out w (by omega))) ?_
      simp only [Act.put, List.setIfInBounds_toArray, List.set_cons_succ, List.set_cons_zero]
      refine wpAnyIn_all (rs := [5, 8]) (by kernel_rfl) (by simp) ?_
      simp only [List.mem_cons, List.not_mem_nil, or_false, forall_eq_or_imp, forall_eq]
      refine ⟨?_, ?_⟩
      · refine opIn_value (some 18) (v := v) (w' := Wd) rfl rfl rfl rfl (by go_simp) ?_
        refine wpAnyIn_all (rs := [8]) (by kernel_rfl) (by simp) ?_
        simp only [List.mem_cons, List.not_mem_nil, or_false, forall_eq]
        refine opIn_value (some 21) (v := .slice (some ⟨Wd.heap.size, 0, none⟩) 1 1) (w' := Wd.alloc (.cells #[.int .i64 sl] 3)) rfl rfl rfl rfl (by go_simp) ?_
        simp only [Act.put, List.setIfInBounds_toArray, List.set_cons_succ, List.set_cons_zero]
        refine wpAnyIn_all (rs := [9]) (by kernel_rfl) (by simp) ?_
        simp only [List.mem_cons, List.not_mem_nil, or_false, forall_eq]
        refine opIn_append (some 22) (base := w2.heap.size) (e := 3) rfl rfl rfl rfl rfl Try.underlying44 hi hz0 hz1 hz2 rfl (by decide) v _ _ rfl (hown.alloc _) ⟨Wd.heap.size, 0, none⟩ 1 1 [.int .i64 sl] rfl rfl (cell_one_new _ _ _) (by simp [Value.oneCell']) hb1 hb2 (by simp; omega) (by decide) ?_
        intro v' W2 hown2 hg2 hblk
        obtain ⟨hO2, hc2, hf2⟩ := hstep (Wd.alloc (.cells #[.int .i64 sl] 3)) W2 v' sl (by simp) (fun k hk => Below.heap_alloc _ _ k hk) hg2 hblk hown2 (by decide) (by omega)
        have hl2 := hown2.lt
        obtain ⟨g', cap', rfl⟩ := ownsRow_succ hown2
        have hrow : ∀ b, v.ownBlock = some b → w2.heap.size ≤ b ∧ b < Wd.heap.size := fun b hb => hown.lt b hb
        have hM3 : Mods (fun b => b = w.heap.size ∨ w2.heap.size ≤ b) Wd W2 := ((Mods.refl _ _).alloc _).grown hg2 (fun b hb => .inr ⟨.inr (hrow b hb).1, fun o ho => by
          rcases hown.2 with ⟨rfl, _⟩ | ⟨g, cap, cur, rfl, _, hh, _⟩
          · cases hb
          · cases hb
            rw [Below.heap_alloc _ _ _ (hrow _ rfl).2, hh] at ho
            cases ho; rfl⟩)
        simp only [Act.put, List.setIfInBounds_toArray, List.set_cons_succ, List.set_cons_zero]
        refine any_take 10 (some 23) (.pointer (some ⟨w.heap.size, u, none⟩)) rfl rfl (by kernel_rfl) (by kernel_rfl) (by kernel_rfl) (fun _ _ _ h => h) (.value rfl fun w => by go_simp; intro h; exfalso; omega) ?_
        refine wpAnyIn_all (rs := [11]) (by kernel_rfl) (by simp) ?_
        simp only [List.mem_cons, List.not_mem_nil, or_false, forall_eq]
        refine opIn_skip none (w' := W2.setCell ⟨w.heap.size, u, none⟩ (.slice (some ⟨g', 0, none⟩) ((rowsX x k u).length + 1) cap')) rfl rfl rfl rfl (by go_simp) ?_
        refine wpAnyIn_done (by kernel_rfl) ?_ _
        refine ⟨(hMd.trans hM3).setCell (p := ⟨w.heap.size, u, none⟩) (.inr (.inl rfl)) _, ?_, (hM2.trans hM3).setCell (p := ⟨w.heap.size, u, none⟩) (.inr (.inl rfl)) _⟩
        rw [hX]
        exact hO2
      · refine opIn_value (some 21) (v := .slice (some ⟨Wd.heap.size, 0, none⟩) 1 1) (w' := Wd.alloc (.cells #[.int .i64 sl] 3)) rfl rfl rfl rfl (by go_simp) ?_
        refine wpAnyIn_all (rs := [5]) (by kernel_rfl) (by simp) ?_
        simp only [List.mem_cons, List.not_mem_nil, or_false, forall_eq]
        have hva := ((Mods.refl (fun _ => False) Wd).alloc (.cells #[.int .i64 sl] 3)).cell hv id
        refine opIn_value (some 18) (v := v) (w' := Wd.alloc (.cells #[.int .i64 sl] 3)) rfl rfl rfl rfl (by go_simp) ?_
        simp only [Act.put, List.setIfInBounds_toArray, List.set_cons_succ, List.set_cons_zero]
        refine wpAnyIn_all (rs := [9]) (by kernel_rfl) (by simp) ?_
        simp only [List.mem_cons, List.not_mem_nil, or_false, forall_eq]
        refine opIn_append (some 22) (base := w2.heap.size) (e := 3) rfl rfl rfl rfl rfl Try.underlying44 hi hz0 hz1 hz2 rfl (by decide) v _ _ rfl (hown.alloc _) ⟨Wd.heap.size, 0, none⟩ 1 1 [.int .i64 sl] rfl rfl (cell_one_new _ _ _) (by simp [Value.oneCell']) hb1 hb2 (by simp; omega) (by decide) ?_
        intro v' W2 hown2 hg2 hblk
        obtain ⟨hO2, hc2, hf2⟩ := hstep (Wd.alloc (.cells #[.int .i64 sl] 3)) W2 v' sl (by simp) (fun k hk => Below.heap_alloc _ _ k hk) hg2 hblk hown2 (by decide) (by omega)
        have hl2 := hown2.lt
        obtain ⟨g', cap', rfl⟩ := ownsRow_succ hown2
        have hrow : ∀ b, v.ownBlock = some b → w2.heap.size ≤ b ∧ b < Wd.heap.size := fun b hb => hown.lt b hb
        have hM3 : Mods (fun b => b = w.heap.size ∨ w2.heap.size ≤ b) Wd W2 := ((Mods.refl _ _).alloc _).grown hg2 (fun b hb => .inr ⟨.inr (hrow b hb).1, fun o ho => by
          rcases hown.2 with ⟨rfl, _⟩ | ⟨g, cap, cur, rfl, _, hh, _⟩
          · cases hb
          · cases hb
            rw [Below.heap_alloc _ _ _ (hrow _ rfl).2, hh] at ho
            cases ho; rfl⟩)
        simp only [Act.put, List.setIfInBounds_toArray, List.set_cons_succ, List.set_cons_zero]
        refine any_take 10 (some 23) (.pointer (some ⟨w.heap.size, u, none⟩)) rfl rfl (by kernel_rfl) (by kernel_rfl) (by kernel_rfl) (fun _ _ _ h => h) (.value rfl fun w => by go_simp; intro h; exfalso; omega) ?_
        refine wpAnyIn_all (rs := [11]) (by kernel_rfl) (by simp) ?_
        simp only [List.mem_cons, List.not_mem_nil, or_false, forall_eq]
        refine opIn_skip none (w' := W2.setCell ⟨w.heap.size, u, none⟩ (.slice (some ⟨g', 0, none⟩) ((rowsX x k u).length + 1) cap')) rfl rfl rfl rfl (by go_simp) ?_
        refine wpAnyIn_done (by kernel_rfl) ?_ _
        refine ⟨(hMd.trans hM3).setCell (p := ⟨w.heap.size, u, none⟩) (.inr (.inl rfl)) _, ?_, (hM2.trans hM3).setCell (p := ⟨w.heap.size, u, none⟩) (.inr (.inl rfl)) _⟩
        rw [hX]
        exact hO2
    case done =>
      rintro W ⟨hO, hM⟩ hD
      rw [places_len] at hO
      obtain ⟨vs, hh, hvl, htold, hone⟩ := hO.told
      have hi' : (Try.prog.info? 62).map (·.size) = some vs.length := by rw [hvl]; exact info26
      have hDl : w.heap.size ≠ w2.heap.size := by omega
      have hDl' : w.heap.size ≤ w2.heap.size := by omega
      clear hsz2
      go_wp2_with (first | (refine op_value rfl (run_load_row 62 (.tmp 2) rfl w.heap.size rfl 62 _ (0, 0) _ hh Try.underlying62 rfl hi') ?_) | (refine op_skip rfl (run_store_same 62 (.tmp 2) (.tmp 24) rfl w.heap.size rfl 62 _ rfl hh hi' hone) ?_))
      exact marks_one rfl hD (results_cell_row rfl _ _ w.heap.size 62 _ (0, 0) _ rfl ((World.putObj_heap_other hDl).trans hh) Try.underlying62 rfl hi')
        ⟨_, rfl, (told8_putObj htold hD rfl).mono (by omega), ((((Mods.ofNew hNv).trans hM).new (by omega)).putObj (by omega) _)⟩
    case stop =>
      rintro c k W hk h hD
      exact h.elim
end Go.Proofs.Ytkjloeefcaadlaa
