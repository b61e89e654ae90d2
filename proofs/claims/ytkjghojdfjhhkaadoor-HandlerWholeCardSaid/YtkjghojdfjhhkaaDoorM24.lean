/- What is done to a stream: the deeds. -/
import Derived.Test.YtkjghojdfjhhkaaDoorM23
import Derived.OwnWalkIn
import Derived.TacticsInMore
import Derived.LoopNIn
import Derived.LoopIn
import Derived.WalkLawsBesides
set_option linter.unusedSimpArgs false
set_option linter.unusedVariables false
namespace Go.Proofs.YtkjghojdfjhhkaaDoor
open Go.RowKit Go.Shelf Go.Cs
attribute [local go_sem] Oper.semAt_some
theorem setMods' {W : World} {O i : Nat} {v : Value} {S : Nat → Prop} (h : S O) : Mods S W (W.setCell ⟨O, i, none⟩ v) := (Mods.refl S W).setCell (.inr h) v
theorem end_deed (s : St) (w : World) : Deed1 (fun _ => False) (fun _ => True) (fun _ _ => True) 58 #[] 0 s { s with ends := true } w := by
  intro W O ov rO hO hw hN _
  show Calls Tryd.prog 58 #[.pointer (some ⟨O, 0, none⟩)] W _
  have k6 : W.cell? ⟨O, 6, none⟩ = some (.bool s.ends) := cell_of_row _ _ 6 _ _ _ rO
  have f6 := frozen_row (i := 6) rO
  have r1 : (W.setCell ⟨O, 6, none⟩ (.bool true)).heap[O]? = some (.cells (St.cs { s with ends := true } ov).toArray 24 (0, 0)) := setCell_heap rO (.bool true)
  have hO1 : OwB w.heap.size (W.setCell ⟨O, 6, none⟩ (.bool true)) ov s.out := Mods.ownsRow (setMods' (S := fun b => b = O) rfl) hO fun g hg e => owB_ne hO rO (by decide) (by rw [hg, e])
  go_enter Tryd.func58, Tryd.ntmps58
  go_wp2_with fail
  go_ret
  exact ⟨rfl, hN.setCell (.inl hw) _, setMods' (.inr (.inl rfl)), trivial, _, r1, rfl, fun _ => ⟨ov, rfl, hO1⟩⟩
theorem reset_deed (s : St) (w : World) : Deed1 (fun _ => False) (fun _ => True) (fun _ _ => True) 59 #[] 0 s { s with state := 5, out := [], ends := false } w := by
  intro W O ov rO hO hw hN _
  show Calls Tryd.prog 59 #[.pointer (some ⟨O, 0, none⟩)] W _
  obtain ⟨oa, oc, rfl⟩ := hO.slice
  obtain ⟨on, hon⟩ : ∃ x, s.out.length = x := ⟨_, rfl⟩
  rw [hon] at rO
  have k1 : W.cell? ⟨O, 1, none⟩ = some (.int .u8 s.state) := cell_of_row _ _ 1 _ _ _ rO
  have f1 := frozen_row (i := 1) rO
  have k6 : W.cell? ⟨O, 6, none⟩ = some (.bool s.ends) := cell_of_row _ _ 6 _ _ _ rO
  have f6 := frozen_row (i := 6) rO
  have k7 : W.cell? ⟨O, 7, none⟩ = some (.slice oa on oc) := cell_of_row _ _ 7 _ _ _ rO
  have f7 := frozen_row (i := 7) rO
  have r1 := setCell_heap (i := 1) rO (.int .u8 5)
  have r2 := setCell_heap (i := 7) r1 (.slice none 0 0)
  have r3 := setCell_heap (i := 6) r2 (.bool false)
  go_enter Tryd.func59, Tryd.ntmps59
  go_wp2_with fail
  go_ret
  exact ⟨rfl, ((hN.setCell (p := ⟨O, 1, none⟩) (.inl hw) _).setCell (p := ⟨O, 7, none⟩) (.inl hw) _).setCell (p := ⟨O, 6, none⟩) (.inl hw) _, ((setMods' (.inr (.inl rfl))).setCell (p := ⟨O, 7, none⟩) (.inr (.inr (.inl rfl))) _).setCell (p := ⟨O, 6, none⟩) (.inr (.inr (.inl rfl))) _, trivial, _, r3, rfl, fun _ => ⟨.slice none 0 0, rfl, OwB.none _ _⟩⟩
set_option maxHeartbeats 2000000 in
theorem write_deed (s : St) (b : List Int) (bv : Value) (X : Nat) (w : World) (hbR : RdB w bv b) (hX : w.heap[X]? = some (.cells #[bv] 22 (0, 0))) (hl : s.out.length ≤ 1000000) (hlb : b.length ≤ 1000000) :
    Deed1 (fun _ => False) (fun _ => True) (fun _ _ => True) 56 #[.pointer (some ⟨X, 0, none⟩)] (if 65535 < s.out.length + b.length then 271 else 0) s { s with out := s.out ++ b } w := by
  intro W O ov rO hO hw hN _
  show Calls Tryd.prog 56 #[.pointer (some ⟨O, 0, none⟩), .pointer (some ⟨X, 0, none⟩)] W _
  have hXl := (Array.getElem?_eq_some_iff.1 hX).1
  have hne : ¬ ov.ownBlock = some O := fun h => owB_ne hO rO (by decide) h
  have hnx : ¬ ov.ownBlock = some X := fun h => by have := (hO.lt X h).1; omega
  obtain ⟨oa, oc, rfl⟩ := hO.slice
  obtain ⟨on, hon⟩ : ∃ x, s.out.length = x := ⟨_, rfl⟩
  obtain ⟨ba, bc, hbv⟩ := hbR.slice
  obtain ⟨bn, hbn⟩ : ∃ x, b.length = x := ⟨_, rfl⟩
  rw [hon] at rO hO hne hnx hl
  rw [hbn] at hbv hlb
  subst hbv
  have k7 : W.cell? ⟨O, 7, none⟩ = some (.slice oa on oc) := cell_of_row _ _ 7 _ _ _ rO
  have kx : W.cell? ⟨X, 0, none⟩ = some (.slice ba bn bc) := cell_of_row _ _ 0 _ _ _ (hN.heap hX id)
  rw [hon, hbn]
  have d1 : decide ((65535 : Int) - (on : Int) < (bn : Int)) = decide (65535 < on + bn) := decide_eq_decide.2 (by omega)
  by_cases hbig : 65535 < on + bn
  · rw [if_pos hbig]
    rw [decide_eq_true hbig] at d1
    go_enter Tryd.func56, Tryd.ntmps56
    go_wp2_with fail
    go_quiet (fail)
    go_wp2_with fail
    go_ret
    exact ⟨rfl, hN.drewN _, (Mods.refl _ W).drewN _, trivial, _, ((Mods.refl (fun _ => False) W).drewN _).heap rO id, rfl, fun h => absurd h (by decide)⟩
  · rw [if_neg hbig]
    rw [decide_eq_false hbig] at d1
    go_enter Tryd.func56, Tryd.ntmps56
    go_wp2_with fail
    go_quiet (fail)
    go_wp2_with fail
    obtain ⟨Wq, hWq⟩ : ∃ V, W.drewN nq = V := ⟨_, rfl⟩
    have hk0 : New W Wq := by rw [← hWq]; exact (Mods.refl _ W).drewN _
    have rOq := hk0.heap rO id
    have hOq : OwB w.heap.size Wq (.slice oa on oc) s.out := hO.new hk0
    have hNq := hN.trans hk0
    have k7q := hk0.cell k7 id
    have kxq := hk0.cell kx id
    rw [hWq]
    refine piece (fun _ a' W' => (a'.tmps.size = 22 ∧ a'.defers = []) ∧ New w W' ∧ Mods (fun b => b = O ∨ (Value.slice oa on oc).ownBlock = some b) Wq W' ∧ ∃ ov2, W'.heap[O]? = some (.cells (St.cs { s with out := s.out ++ b } ov2).toArray 24 (0, 0)) ∧ OwB w.heap.size W' ov2 (s.out ++ b)) ?reg ?rest
    case rest =>
      rintro ⟨z, dfs⟩ W3 ⟨⟨hs, hd⟩, hN3, hK3, ov2, r3, hO3⟩
      simp only at hs hd
      subst hd
      obtain ⟨u, rfl⟩ : ∃ u : Nat → Value, z = (u 0 :: u 1 :: u 2 :: u 3 :: u 4 :: u 5 :: u 6 :: u 7 :: u 8 :: u 9 :: u 10 :: u 11 :: u 12 :: u 13 :: u 14 :: u 15 :: u 16 :: u 17 :: u 18 :: u 19 :: u 20 :: u 21 :: ([] : List Value)).toArray := ⟨fun i => z.getD i undef, range_lit z 22 hs⟩
      clear hs
      go_wp2_with fail
      go_ret
      exact ⟨rfl, hN3, (Mods.ofNew hk0).trans (hK3.mono fun _ h => .inr h), trivial, _, r3, rfl, fun _ => ⟨ov2, rfl, hO3⟩⟩
    case reg =>
    have hN0 : New Wq Wq.drew := (Mods.refl _ _).drew
    refine wp_region_held (by kernel_rfl) (S := fun V => V.cell? ⟨X, 0, none⟩ = some (.slice ba bn bc)) ?_
    show wpAnyH _ _ _ _ _ _ _ _ Wq.drew
    have hT : Mods (fun b => (Value.slice oa on oc).ownBlock = some b) Wq Wq.drew := Mods.ofNew hN0
    have hS := hN0.cell kxq id
    have k7d := hN0.cell k7q id
    have hOd : OwB w.heap.size Wq.drew (.slice oa on oc) s.out := hOq.new hN0
    have hNd : New w Wq.drew := hNq.trans hN0
    obtain ⟨Wd, hWd⟩ : ∃ V, Wq.drew = V := ⟨_, rfl⟩
    rw [hWd] at hS hOd hNd hT k7d ⊢
    clear hWd hN0 hWq
    refine anyH_take 0 (some 13) (.pointer (some ⟨O, 0, none⟩)) rfl rfl (by kernel_rfl) (by kernel_rfl) (by kernel_rfl) (fun _ _ _ h => h.elim) (.inl ⟨by rfl, fun W hW => by go_simp⟩) hS ?_
    simp only [Act.put, List.setIfInBounds_toArray, List.set_cons_succ, List.set_cons_zero]
    refine anyH_take 1 (some 14) (.pointer (some ⟨O, 0, none⟩)) rfl rfl (by kernel_rfl) (by kernel_rfl) (by kernel_rfl) (fun _ _ _ h => h.elim) (.inl ⟨by rfl, fun W hW => by go_simp⟩) hS ?_
    simp only [Act.put, List.setIfInBounds_toArray, List.set_cons_succ, List.set_cons_zero]
    refine anyH_take 2 (some 15) (.pointer (some ⟨O, 0, none⟩)) rfl rfl (by kernel_rfl) (by kernel_rfl) (by kernel_rfl) (fun _ _ _ h => h.elim) (.inl ⟨by rfl, fun W hW => by go_simp⟩) hS ?_
    simp only [Act.put, List.setIfInBounds_toArray, List.set_cons_succ, List.set_cons_zero]
    refine anyH_take 3 (some 16) (.pointer (some ⟨O, 7, none⟩)) rfl rfl (by kernel_rfl) (by kernel_rfl) (by kernel_rfl) (fun _ _ _ h => h.elim) (.inl ⟨by rfl, fun W hW => by go_simp⟩) hS ?_
    simp only [Act.put, List.setIfInBounds_toArray, List.set_cons_succ, List.set_cons_zero]
    refine anyH_take 5 (some 18) (.slice ba bn bc) rfl rfl (by kernel_rfl) (by kernel_rfl) (by kernel_rfl) (fun _ _ _ h => h.elim) (.inl ⟨by rfl, fun W hW => by go_simp⟩) hS ?_
    simp only [Act.put, List.setIfInBounds_toArray, List.set_cons_succ, List.set_cons_zero]
    refine wpAnyH_all (rs := [4]) (by kernel_rfl) (by simp) ?_
    simp only [List.mem_cons, List.not_mem_nil, or_false, forall_eq_or_imp, forall_eq]
    refine opH_value (some 17) rfl (by rfl) rfl (v := .slice oa on oc) (w' := Wd) (by go_simp) ?_
    refine ⟨hS, ?_⟩
    simp only [Act.put, List.setIfInBounds_toArray, List.set_cons_succ, List.set_cons_zero]
    refine wpAnyH_all (rs := [6]) (by kernel_rfl) (by simp) ?_
    simp only [List.mem_cons, List.not_mem_nil, or_false, forall_eq_or_imp, forall_eq]
    refine wpOp_append_B (some 19) rfl (by rfl) rfl (.tmp 17) (.tmp 18) rfl rfl rfl hOd (hbR.new hNd) (by omega) hNd.size ?_
    intro v2 W2 hO2 hg
    have hT2 : Mods (fun b => (Value.slice oa on oc).ownBlock = some b) Wq W2 := hT.grown hg (fun k hk => .inr ⟨hk, own_cells hOd hk⟩)
    have hN2 : New w W2 := hNd.grown hg (fun k hk => .inl (hO.lt k hk).1)
    obtain ⟨xa, xc, rfl⟩ := hO2.slice
    have rO2 := hT2.heap rOq hne
    have hS2 := hT2.cell kxq hnx
    have k72 : W2.cell? ⟨O, 7, none⟩ = some (.slice oa on oc) := cell_of_row _ _ 7 _ _ _ rO2
    have f72 := frozen_row (i := 7) rO2
    refine ⟨hS2, ?_⟩
    simp only [Act.put, List.setIfInBounds_toArray, List.set_cons_succ, List.set_cons_zero]
    replace hS := hS2
    refine anyH_take 7 (some 20) (.pointer (some ⟨O, 0, none⟩)) rfl rfl (by kernel_rfl) (by kernel_rfl) (by kernel_rfl) (fun _ _ _ h => h.elim) (.inl ⟨by rfl, fun W hW => by go_simp⟩) hS ?_
    simp only [Act.put, List.setIfInBounds_toArray, List.set_cons_succ, List.set_cons_zero]
    refine anyH_take 8 (some 21) (.pointer (some ⟨O, 7, none⟩)) rfl rfl (by kernel_rfl) (by kernel_rfl) (by kernel_rfl) (fun _ _ _ h => h.elim) (.inl ⟨by rfl, fun W hW => by go_simp⟩) hS ?_
    simp only [Act.put, List.setIfInBounds_toArray, List.set_cons_succ, List.set_cons_zero]
    refine wpAnyH_all (rs := [9]) (by kernel_rfl) (by simp) ?_
    simp only [List.mem_cons, List.not_mem_nil, or_false, forall_eq_or_imp, forall_eq]
    refine opH_skip none rfl (by rfl) rfl (w' := W2.setCell ⟨O, 7, none⟩ (.slice xa (s.out ++ b).length xc)) (by go_simp) ?_
    have hOX : O ≠ X := by omega
    have hS3 : (W2.setCell ⟨O, 7, none⟩ (.slice xa (s.out ++ b).length xc)).cell? ⟨X, 0, none⟩ = some (.slice ba bn bc) := (setMods' (S := fun b => b = O) rfl).cell hS2 (fun e => hOX e.symm)
    refine ⟨hS3, ?_⟩
    refine wpAnyH_done (by kernel_rfl) ?_ _
    have r9 := setCell_heap (i := 7) rO2 (.slice xa (s.out ++ b).length xc)
    have hO9 : OwB w.heap.size (W2.setCell ⟨O, 7, none⟩ (.slice xa (s.out ++ b).length xc)) (.slice xa (s.out ++ b).length xc) (s.out ++ b) := Mods.ownsRow (setMods' (S := fun b => b = O) rfl) hO2 fun g hg e => owB_ne hO2 rO2 (by decide) (by rw [hg, e])
    exact ⟨⟨rfl, rfl⟩, hN2.setCell (.inl hw) _, (hT2.mono fun _ h => .inr h).setCell (.inr (.inl rfl)) _, _, r9, hO9⟩
theorem OwnL.kept {N N' : Nat} {W W' : World} {v : Value} {L : List Fd} {S : Nat → Prop} (h : OwnL N W v L) (hM : Mods S W W') (hS : ∀ b, S b → b < N) (hN : N' ≤ N) : OwnL N' W' v L :=
  ⟨ReadsF.kept0 h.1 hM fun _ g hg hs => by have := h.2 g hg; have := hS g hs; omega, fun g hg => Nat.le_trans hN (h.2 g hg)⟩
def AnsJ (n : Int) (L : List Fd) (Lb : Nat) (O : Nat) (W : World) : Prop := ∃ lv, W.heap[Lb]? = some (.cells #[lv] 25 (0, 0)) ∧ OwnL (O + 1) W lv ((answerL n L).getD []) ∧ CapOk lv
set_option maxHeartbeats 2000000 in
theorem answer_deed (s : St) (n : Int) (L : List Fd) (lv : Value) (Nb Lp Lb : Nat) (w : World) (h0 : -9223372036854775808 ≤ n) (h1 : n ≤ 9223372036854775807) (hR : ReadsL w lv L) (hS : SmallL L) (hc : CapOk lv) (hT : Tab w) (hL : L.length ≤ 1000000)
    (hNb : w.heap[Nb]? = some (.cells #[.int .i64 n] 3 (0, 0))) (hLp : w.heap[Lp]? = some (.cells #[lv] 25 (0, 0))) (hne : Lp ≠ Lb) (hLb : Lb < w.heap.size) :
    Deed1 (fun b => b = Lb) (fun W => W.heap[Lb]? = some (.cells #[.slice none 0 0] 25 (0, 0))) (AnsJ n L Lb) 52 #[.pointer (some ⟨Nb, 0, none⟩), .pointer (some ⟨Lp, 0, none⟩), .pointer (some ⟨Lb, 0, none⟩)]
      (if (answerL n L).isSome then 0 else 2) s { s with ans := true } w := by
  intro W O ov rO hO hw hN hJ
  show Calls Tryd.prog 52 #[.pointer (some ⟨O, 0, none⟩), .pointer (some ⟨Nb, 0, none⟩), .pointer (some ⟨Lp, 0, none⟩), .pointer (some ⟨Lb, 0, none⟩)] W _
  have HA := Lib.hid (answer_any n h0 h1 lv L W (hR.new hN) hS hc (hT.new hN) hL)
  have kN : W.cell? ⟨Nb, 0, none⟩ = some (.int .i64 n) := cell_of_row _ _ 0 _ _ _ (hN.heap hNb id)
  have kL : W.cell? ⟨Lp, 0, none⟩ = some lv := cell_of_row _ _ 0 _ _ _ (hN.heap hLp id)
  have hOl := (Array.getElem?_eq_some_iff.1 rO).1
  obtain ⟨la, lc, rfl⟩ := hR.slice
  unfold AnsJ
  obtain ⟨res, hres⟩ : ∃ x, answerL n L = x := ⟨_, rfl⟩
  rw [hres] at HA ⊢
  have rO0 := rO
  have hO' := Lib.hid hO
  clear hR hS hc hT hO
  go_enter Tryd.func52, Tryd.ntmps52
  go_wp2_with fail
  refine HA.out.mono ?_
  rintro e w2 ⟨v2, rfl, hOL, hcap, hk⟩
  obtain ⟨va, vc, rfl⟩ := hOL.1.slice
  obtain ⟨vn, hvn⟩ : ∃ x, (res.getD []).length = x := ⟨_, rfl⟩
  rw [hvn] at hOL hcap ⊢
  have rL2 := hk.heap hJ id
  have kLb : w2.cell? ⟨Lb, 0, none⟩ = some (.slice none 0 0) := cell_of_row _ _ 0 _ _ _ rL2
  have fLb := frozen_row (i := 0) rL2
  have rL3 := setCell_heap (i := 0) rL2 (.slice va vn vc)
  have hM3 : Mods (fun b => b = Lb) w2 (w2.setCell ⟨Lb, 0, none⟩ (.slice va vn vc)) := setMods' rfl
  have rO3 := hM3.heap (hk.heap rO0 id) (show ¬ O = Lb by omega)
  have hOL3 := hOL.kept hM3 (fun b hb => by omega) (show O + 1 ≤ W.heap.size by omega)
  have hO3 : OwB w.heap.size (w2.setCell ⟨Lb, 0, none⟩ (.slice va vn vc)) ov s.out := Mods.ownsRow hM3 (hO'.out.new hk) fun g hg e => by have := (hO'.out.lt g hg).1; omega
  have HOL3 := Lib.hid hOL3
  have HO3 := Lib.hid hO3
  have Hc := Lib.hid hcap
  have hNM : Mods (fun b => b = Lb) w (w2.setCell ⟨Lb, 0, none⟩ (.slice va vn vc)) := Mods.setCell (S := fun b => b = Lb) (p := ⟨Lb, 0, none⟩) (Mods.ofNew (hN.trans hk)) (.inr rfl) _
  have hWM : Mods (fun b => b = Lb ∨ b = O ∨ ov.ownBlock = some b) W (w2.setCell ⟨Lb, 0, none⟩ (.slice va vn vc)) := Mods.setCell (S := fun b => b = Lb ∨ b = O ∨ ov.ownBlock = some b) (p := ⟨Lb, 0, none⟩) (Mods.ofNew hk) (.inr (.inl rfl)) _
  clear hOL hOL3 hO3 hcap hk
  cases res with
  | none =>
    simp only [Option.isSome_none, Option.getD_none]
    go_wp2_with fail
    go_ret
    exact ⟨rfl, hNM, hWM, ⟨_, rL3, HOL3.out, Hc.out⟩, _, rO3, rfl⟩
  | some l =>
    simp only [Option.isSome_some, Option.getD_some]
    obtain ⟨W4, hW4⟩ : ∃ V, w2.setCell ⟨Lb, 0, none⟩ (.slice va vn vc) = V := ⟨_, rfl⟩
    rw [hW4] at rL3 rO3 HOL3 HO3 hNM hWM
    have k5 : W4.cell? ⟨O, 5, none⟩ = some (.bool s.ans) := cell_of_row _ _ 5 _ _ _ rO3
    have f5 := frozen_row (i := 5) rO3
    have r5 := setCell_heap (i := 5) rO3 (.bool true)
    go_upto_region 5 with fail
    go_wp2_with fail
    go_ret
    have hM5 : Mods (fun b => b = O) W4 (W4.setCell ⟨O, 5, none⟩ (.bool true)) := setMods' rfl
    exact ⟨rfl, hNM.setCell (p := ⟨O, 5, none⟩) (.inl hw) _, hWM.setCell (p := ⟨O, 5, none⟩) (.inr (.inr (.inl rfl))) _, ⟨_, hM5.heap rL3 (show ¬ Lb = O by omega), HOL3.out.kept hM5 (fun b hb => by omega) (Nat.le_refl _), Hc.out⟩, _, r5, rfl, ov, rfl, Mods.ownsRow hM5 HO3.out fun g hg e => owB_ne HO3.out rO3 (by decide) (by rw [hg, e])⟩
end Go.Proofs.YtkjghojdfjhhkaaDoor
/- What goes out at once: how many bytes (the program). -/
namespace Go.Proofs.YtkjghojdfjhhkaaDoor
open Go.RowKit Go.Shelf Go.Cs
attribute [local go_sem] Oper.semAt_some
def encI (x : Int) : Array Value := #[.int .i64 x]
set_option maxHeartbeats 1000000 in
theorem each1_iter (B A : Nat) (xs : List Int) (n c : Nat) (hn : xs.length = n) (hn' : n ≤ 1000) (S : Nat → Prop) (hSB : ¬ S B) (hSA : ¬ S A) (W : World) (hB : W.cell? ⟨B, 0, none⟩ = some (.slice (some ⟨A, 0, none⟩) n c))
    (hA : ∀ i, i < n → W.cell? ⟨A, i, none⟩ = some (.int .i64 (xs.getD i 0))) :
    IterAt Tryd.prog 103 #[.pointer (some ⟨B, 0, none⟩)] (xs.map encI) S W := by
  intro l J Jx hJ hJx hY h0
  refine (callsIn_wide (n := 0)).1 (callsIn_of_wp Tryd.func103 rfl trivial ?_ rfl)
  simp only [Tryd.ntmps103, List.size_toArray, List.length_cons, List.length_nil, Nat.reduceAdd, Nat.reduceSub, Array.replicate_succ, Array.replicate_zero, List.push_toArray, List.append_toArray, List.nil_append, List.cons_append]
  gi_wp2
  gi_loopw [7] (fun c wr => ∃ k : Nat, k ≤ n ∧ c = .int .i64 k ∧ J k wr ∧ Mods S W wr) (fun c _ => n - (intOf c).toNat)
  case atStart => exact ⟨0, Nat.zero_le _, rfl, h0, Mods.refl _ _⟩
  case round =>
    obtain ⟨k, hk, rfl, hJk, hM⟩ := hrel
    by_cases hlt : k < n
    · obtain ⟨fn, tmps, assign, body, hy, hR⟩ := hY k (encI (xs.getD k 0)) wr (by
        rw [List.getElem?_map, List.getElem?_eq_getElem (by omega), List.getD_eq_getElem?_getD, List.getElem?_eq_getElem (by omega)]
        rfl) hJk hM
      clear hY
      dsimp only [encI] at hy
      have hc := hM.cell (hA k hlt) hSA
      have hkd : decide ((k : Int) < (n : Int)) = true := decide_eq_true (by omega)
      obtain ⟨x, hx⟩ : ∃ x, xs.getD k 0 = x := ⟨_, rfl⟩
      rw [hx] at hc hy
      gi_wp2
      refine ⟨rfl, hR.mono ?_⟩
      rintro e W3 (⟨rfl, hJ3, hm3⟩ | ⟨rfl, hJx3⟩)
      · gi_wp2
        go_roundw
        case rel => exact ⟨k + 1, by omega, by go_num, hJ3, hM.trans hm3⟩
        case measure => simp [intOf]; omega
      · gi_wp2
        refine bodyPost_ret (results_none rfl _ _ _) rfl ?_
        exact ⟨⟨_, rfl⟩, .inr ⟨k + 1, by simp [hn]; omega, hJx3⟩⟩
    · gi_wp2
      go_end0
      obtain rfl : k = n := by omega
      exact ⟨⟨_, rfl⟩, .inl (by simpa [hn] using hJk)⟩
theorem each_any (v : Value) (hv : ∃ a n c, v = .slice a n c) (w : World) : Calls Tryd.prog 85 #[v] w fun e w' => e = .returned (.func (.func 103) #[] #[.pointer (some ⟨w.heap.size, 0, none⟩)]) ∧ w.alloc (.cells #[v] 125) = w' := by
  obtain ⟨a, n, c, rfl⟩ := hv
  go_enter Tryd.func85, Tryd.ntmps85
  go_wp2
  go_ret
  exact ⟨rfl, rfl⟩
/-- The least so far. -/
def leastZ (z : Int) (xs : List Int) : Int := xs.foldl min z
set_option maxHeartbeats 4000000 in
set_option maxRecDepth 100000 in
theorem cut_S (a b c d e : Int) (w : World) (ha : I64 a) (hb : I64 b) :
    Calls Tryd.prog 60 #[.int .i64 a, .int .i64 b, .int .i64 c, .int .i64 d, .int .i64 e] w fun r w' => r = .returned (.int .i64 (cutZ a b c d e)) ∧ New w w' := by
  have H1 := Lib.hid (fun W => can_any a W ha)
  have H2 := Lib.hid (fun W => can_any b W hb)
  unfold cutZ
  obtain ⟨z1, hz1⟩ : ∃ x, canZ a = x := ⟨_, rfl⟩
  obtain ⟨z2, hz2⟩ : ∃ x, canZ b = x := ⟨_, rfl⟩
  rw [hz1] at H1 ⊢
  rw [hz2] at H2 ⊢
  clear hz1 hz2
  have hfold : Hid (min (min (min (min z1 z2) c) d) e = leastZ z1 [z2, c, d, e]) := Lib.hid rfl
  obtain ⟨mm, hmm⟩ : ∃ x, min (min (min (min z1 z2) c) d) e = x := ⟨_, rfl⟩
  rw [hmm] at hfold ⊢
  clear hmm
  have hmax := fun V => run_max2' mm 0 V #[3, 3] 3
  obtain ⟨mx, hmx⟩ : ∃ x, max mm 0 = x := ⟨_, rfl⟩
  simp only [hmx] at hmax
  rw [hmx]
  clear hmx
  refine calls_of_marks Tryd.func60 rfl ?_
  simp only [Tryd.ntmps60, List.size_toArray, List.length_cons, List.length_nil, Nat.reduceAdd, Nat.reduceSub, Array.replicate_succ, Array.replicate_zero, List.push_toArray, List.append_toArray, List.nil_append, List.cons_append]
  go_wp2_with fail
  refine (H1.out _).mono ?_
  rintro e1 w1 ⟨rfl, rfl⟩
  go_wp2_with fail
  refine (H2.out _).mono ?_
  rintro e1 w1 ⟨rfl, rfl⟩
  go_wp2_with fail
  obtain ⟨W2, Lc, A, hW, hL, hA, rL, rA, hN2, hz⟩ := pair_rows w1 #[.int .i64 z1] #[.int .i64 z2, .int .i64 c, .int .i64 d, .int .i64 e] 3 3
  rw [hW, hL, hA]
  refine (each_any _ ⟨_, _, _, rfl⟩ _).mono ?_
  rintro e2 W3 ⟨rfl, hw3⟩
  obtain ⟨B, hB⟩ : ∃ x, W2.heap.size = x := ⟨_, rfl⟩
  have rB : W3.heap[B]? = some (.cells #[.slice (some ⟨A, 0, none⟩) 4 4] 125 (0, 0)) := by rw [← hw3, ← hB]; exact World.alloc_heap_new W2 _
  have hN3 : New W2 W3 := by rw [← hw3]; exact (Mods.refl _ _).alloc _
  have rL3 := hN3.heap rL id
  have rA3 := hN3.heap rA id
  have hNw := hN2.trans hN3
  rw [hB]
  have hLl : w1.heap.size ≤ Lc := Nat.le_of_eq hL
  have hBA : A < B := by omega
  clear hw3 hN3 rL rA hW hN2 hB hz hL
  have hAc : ∀ W, New W3 W → ∀ i, i < 4 → W.cell? ⟨A, i, none⟩ = some (.int .i64 (([z2, c, d, e] : List Int).getD i 0)) := fun W hW i hi => by
    have h := cell_of_row W A i _ _ _ (hW.heap rA3 id)
    rw [h]
    match i, hi with
    | 0, _ => rfl
    | 1, _ => rfl
    | 2, _ => rfl
    | 3, _ => rfl
  go_wp2_with fail
  refine wp_rangeList (gf := 103) (lb := #[.pointer (some ⟨B, 0, none⟩)]) rfl (enters_of Tryd.func103 (by kernel_rfl) rfl) [z2, c, d, e] encI (fun b => b = Lc)
    (fun W hW => each1_iter B A [z2, c, d, e] 4 4 rfl (by omega) _ (by omega) (by omega) W (cell_of_row _ _ 0 _ _ _ (hW.heap rB id)) (hAc W hW)) (fun _ => rfl)
    (fun k W => Boxed W Lc 3 (.int .i64 (leastZ z1 (([z2, c, d, e] : List Int).take k))) ∧ Mods (fun b => b = Lc) W3 W)
    (fun c k W => False)
    (fun k => .and (.boxed _ _ _) (.mods (Nat.le_refl _)))
    (fun c k => .pure _)
    ⟨rL3, Mods.refl _ _⟩
    (fun p t => (t.setIfInBounds 22 (.int .i64 p)).setIfInBounds 12 (.int .i64 p)) ?assign ?body ?done ?stop
  case assign =>
    rintro l p W K hK
    simp only [encI] at hK ⊢
    gi_wp2
    exact hK
  case body =>
    rintro l k p W hp hl _ ⟨hbv, hM⟩
    obtain ⟨c1, f1⟩ := hbv.both
    have hstep : leastZ z1 (([z2, c, d, e] : List Int).take (k + 1)) = min (leastZ z1 (([z2, c, d, e] : List Int).take k)) p := by
      unfold leastZ
      rw [List.take_add_one, hp, List.foldl_append]
      rfl
    have HST := Lib.hid hstep
    obtain ⟨lz, hlz⟩ : ∃ x, leastZ z1 (([z2, c, d, e] : List Int).take k) = x := ⟨_, rfl⟩
    rw [hlz] at c1 HST hbv
    have hmin := fun V => run_min2' lz p V #[3, 3] 3
    obtain ⟨nz, hnz⟩ : ∃ x, min lz p = x := ⟨_, rfl⟩
    simp only [hnz] at hmin
    rw [hnz] at HST
    clear hstep hlz hp hnz
    gi_wp2
    refine ⟨setMods' rfl, ?_, Mods.setCell (S := fun b => b = Lc) (p := ⟨Lc, 0, none⟩) hM (.inr rfl) _⟩
    rw [HST.out]
    exact hbv.set _
  case done =>
    rintro W ⟨hbv, hM⟩ hD
    have hlast : leastZ z1 (([z2, c, d, e] : List Int).take ([z2, c, d, e] : List Int).length) = mm := by rw [hfold.out]; rfl
    rw [hlast] at hbv
    obtain ⟨c1, f1⟩ := hbv.both
    go_wp2_with fail
    have hMM : Mods (fun b => b = Lc) w1 W := (Mods.ofNew hNw).trans hM
    refine marks_one rfl hD (v := .int .i64 mx) ?_ ⟨rfl, (hMM.new (fun k hk => by omega)).putObj hNw.size _⟩
    simp [results, Tryd.f60, go_sem]
  case stop =>
    rintro c k W hk h
    exact h.elim
end Go.Proofs.YtkjghojdfjhhkaaDoor
/- Bytes in two parts. -/
namespace Go.Proofs.YtkjghojdfjhhkaaDoor
open Go.RowKit Go.Shelf Go.Cs
attribute [local go_sem] Oper.semAt_some
def partOf (xs : List Int) (n k : Nat) : List Int := if k = 0 then xs.take n else xs.drop n
def ElP (base : Nat) (xs : List Int) (n k : Nat) (x : Array Value) (W : World) : Prop := ∃ v, x = #[.int .i64 (k : Int), v] ∧ OwB base W v (partOf xs n k)
set_option maxHeartbeats 2000000 in
theorem parted1_iter (X N base : Nat) (xs : List Int) (n : Nat) (bv : Value) (hn : n ≤ xs.length) (hxl : xs.length ≤ 1000000) (S : Nat → Prop) (hSX : ¬ S X) (hSN : ¬ S N) (W : World) (hX : W.cell? ⟨X, 0, none⟩ = some bv) (hN : W.cell? ⟨N, 0, none⟩ = some (.int .i64 (n : Int)))
    (hR : ∀ W', Mods S W W' → RdB W' bv xs) (hb : base ≤ W.heap.size) :
    IterE Tryd.prog 86 #[.pointer (some ⟨X, 0, none⟩), .pointer (some ⟨N, 0, none⟩)] 2 (ElP base xs n) S W := by
  intro l J Jx hJ hJx hY h0
  have HR := Lib.hid hR
  obtain ⟨ba, bc, hbv⟩ := (hR W (Mods.refl _ _)).slice
  obtain ⟨bn, hbn⟩ : ∃ x, xs.length = x := ⟨_, rfl⟩
  have hcap := ((hR W (Mods.refl _ _)).2 _ _ _ hbv).1
  rw [hbn] at hbv hn hxl hcap
  subst hbv
  clear hR
  have hsl1 := fun W => run_prefix_B W ba bn bc n (by omega)
  refine (callsIn_wide (n := 0)).1 (callsIn_of_wp Tryd.func86 rfl trivial ?_ rfl)
  simp only [Tryd.ntmps86, List.size_toArray, List.length_cons, List.length_nil, Nat.reduceAdd, Nat.reduceSub, Array.replicate_succ, Array.replicate_zero, List.push_toArray, List.append_toArray, List.nil_append, List.cons_append]
  gi_wp2
  refine ⟨trivial, rfl, (callsIn_wide (n := 0)).2 ((clone_B _ (xs.take n) W ((HR.out W (Mods.refl _ _)).prefx hn) (by rw [List.length_take]; omega)).mono ?_)⟩
  rintro e W2 ⟨v1, rfl, hO1, hk1⟩
  have hM1 : Mods S W W2 := Mods.ofNew hk1
  obtain ⟨fn, tmps, assign, body, hy, hR1⟩ := hY 0 #[.int .i64 0, v1] W2 (by omega) ⟨v1, rfl, hO1.mono hb⟩ (hJ 0 _ _ h0 hk1) hM1
  gi_wp2
  refine ⟨rfl, hR1.mono ?_⟩
  rintro e W3 (⟨rfl, hJ3, hm3⟩ | ⟨rfl, hJx3⟩)
  · have hM3 := hM1.trans hm3
    have hX3 := hM3.cell hX hSX
    have hN3 := hM3.cell hN hSN
    have hsl2 := fun V => run_suffix_B V ba bn bc n hn
    have hsuf := (HR.out W3 hM3).suffx hn
    obtain ⟨y, hyy⟩ : ∃ y, (Value.slice (if bc = n then ba else ba.map (·.add (n * 1))) (bn - n) (bc - n)) = y := ⟨_, rfl⟩
    rw [hyy] at hsuf
    simp only [hyy] at hsl2
    clear hyy hy hR1
    gi_wp2
    refine ⟨trivial, rfl, (callsIn_wide (n := 0)).2 ((clone_B _ (xs.drop n) W3 hsuf (by rw [List.length_drop]; omega)).mono ?_)⟩
    rintro e W4 ⟨v2, rfl, hO2, hk2⟩
    have hM4 : Mods S W W4 := hM3.trans (Mods.ofNew hk2)
    obtain ⟨fn, tmps, assign, body, hy, hR2⟩ := hY 1 #[.int .i64 1, v2] W4 (by omega) ⟨v2, rfl, hO2.mono (Nat.le_trans hb hM3.size)⟩ (hJ 1 _ _ hJ3 hk2) hM4
    gi_wp2
    refine ⟨rfl, hR2.mono ?_⟩
    rintro e W5 (⟨rfl, hJ5, hm5⟩ | ⟨rfl, hJx5⟩)
    · gi_wp2
      go_end0
      exact ⟨⟨_, rfl⟩, .inl hJ5⟩
    · gi_wp2
      go_end0
      exact ⟨⟨_, rfl⟩, .inr ⟨2, Nat.le_refl _, hJx5⟩⟩
  · gi_wp2
    go_end0
    exact ⟨⟨_, rfl⟩, .inr ⟨1, by omega, hJx3⟩⟩
theorem parted_any (a : Option Addr) (m c : Nat) (n : Int) (w : World) : Calls Tryd.prog 61 #[.slice a m c, .int .i64 n] w fun e w' => e = .returned (.func (.func 86) #[] #[.pointer (some ⟨w.heap.size, 0, none⟩), .pointer (some ⟨w.heap.size + 1, 0, none⟩)]) ∧ (w.alloc (.cells #[.slice a m c] 22)).alloc (.cells #[.int .i64 n] 3) = w' := by
  go_enter Tryd.func61, Tryd.ntmps61
  go_wp2
  go_ret
  exact ⟨rfl, rfl⟩
end Go.Proofs.YtkjghojdfjhhkaaDoor
/- Streams: what handlers do: the document's answer. -/
namespace Go.Proofs.YtkjghojdfjhhkaaDoor
open Go.RowKit Go.Shelf Go.Cs
attribute [local go_sem] Oper.semAt_some
/-- A store of a cell of a row. -/
theorem cell_stored {W : World} {O i : Nat} {s s' : St} {ov ov' v : Value} (h : W.heap[O]? = some (.cells (s.cs ov).toArray 24 (0, 0))) (he : (s.cs ov).toArray.setIfInBounds i v = (s'.cs ov').toArray) : (W.setCell ⟨O, i, none⟩ v).heap[O]? = some (.cells (s'.cs ov').toArray 24 (0, 0)) := by
  rw [← he]
  exact setCell_heap h v
set_option maxHeartbeats 4000000 in
set_option maxRecDepth 100000 in
theorem end_R (v : Value) (s : St) (w : World) (h : RdS w v s) (hl : s.out.length ≤ 1000000) :
    Calls Tryd.prog 22 #[v] w fun e w' => ∃ v', e = .returned (.tuple #[v', .int .i64 (endS s).2]) ∧ OwS w.heap.size w' v' (endS s).1 ∧ New w w' := by
  obtain ⟨ov, rfl, hr⟩ := h
  have HO := Lib.hid (fun W (hN : New w W) => own_R _ s W ⟨ov, rfl, hr.new hN⟩ (by omega))
  have HP := Lib.hid (fun ov W => open_ref s ov W)
  unfold endS
  obtain ⟨ob, hob⟩ : ∃ x, openB s = x := ⟨_, rfl⟩
  rw [hob] at HP ⊢
  clear hob
  obtain ⟨W1, B, C, hW, hB, hC, rB, rC, hN1, hz⟩ := pair_rows w (s.cs ov).toArray #[.int .i64 0, .int .u8 0, .int .i64 0, .int .i64 0, .int .i64 0, .bool false, .bool false, .slice none 0 0, .int .u8 0, .bool false, .int .i64 0] 24 24
  unfold St.cs at HO hW rB
  unfold St.cs
  go_enter Tryd.func22, Tryd.ntmps22
  go_upto_region 1 with fail
  have hBl : w.heap.size ≤ B := Nat.le_of_eq hB
  clear hW hB
  go_wp2_with (refine op_value rfl (run_load_row 24 (.tmp 1) rfl B rfl 24 _ (0, 0) _ rB Tryd.underlying24 rfl info24) ?_)
  refine (HO.out _ hN1).mono ?_
  rintro e W2 ⟨v1, rfl, ⟨ov1, rfl, hO1⟩, hk1⟩
  have rB2 := hk1.heap rB id
  have rC2 := hk1.heap rC id
  have hone1 := cs_one s hO1.one
  have rB3 := setRow_heap W2 B _ (s.cs ov1).toArray 24 (0, 0) rB2
  have rC3 := (mods_setRow rB2 (s.cs ov1).toArray).heap rC2 (show C ≠ B by omega)
  have hN3 := (hN1.trans hk1).setRow (show w.heap.size ≤ B by omega) (s.cs ov1).toArray
  have hO3 : OwB w.heap.size (W2.setRow B (s.cs ov1).toArray) ov1 s.out := (hO1.mono hN1.size).setRow rB2 (by decide)
  have HO3 := Lib.hid hO3
  clear hO3 hO1
  go_upto_region 2 with (refine op_skip rfl (run_store_row 24 (.tmp 1) (.tmp 5) rfl B rfl 24 [.int .i64 s.id, .int .u8 s.state, .int .i64 s.send, .int .i64 s.recv, .int .i64 s.owed, .bool s.ans, .bool s.ends, ov, .int .u8 s.urg, .bool s.inc, .int .i64 s.slot] (s.cs ov1) rfl rB2 info24 rfl hone1) ?_)
  obtain ⟨W3, hW3⟩ : ∃ V, W2.setRow B (s.cs ov1).toArray = V := ⟨_, rfl⟩
  rw [hW3] at rB3 rC3 hN3 HO3 ⊢
  clear hW3 rB2 rC2 hk1 rB rC
  go_wp2_with (refine op_value rfl (run_load_row 24 (.tmp 1) rfl B rfl 24 _ (0, 0) _ rB3 Tryd.underlying24 rfl info24) ?_)
  refine (HP.out _ _).mono ?_
  rintro e W4 ⟨rfl, hk4⟩
  have rB4 := hk4.heap rB3 id
  have rC4 := hk4.heap rC3 id
  have hN4 := hN3.trans hk4
  have hO4 := HO3.out.new hk4
  cases ob with
  | false =>
    go_wp2_with (first | (refine op_value rfl (run_load_row 24 (.tmp 1) rfl B rfl 24 _ (0, 0) _ rB4 Tryd.underlying24 rfl info24) ?_) | (refine op_skip rfl (run_store_row 24 (.tmp 2) (.tmp 9) rfl C rfl 24 [.int .i64 0, .int .u8 0, .int .i64 0, .int .i64 0, .int .i64 0, .bool false, .bool false, .slice none 0 0, .int .u8 0, .bool false, .int .i64 0] (s.cs ov1) rfl rC4 info24 rfl hone1) ?_))
    have rC5 := setRow_heap _ C _ (s.cs ov1).toArray 24 (0, 0) rC4
    refine bodyPost_ret (v := .tuple #[.agg (s.cs ov1).toArray, .int .i64 270]) (results_row2 rfl _ _ C 24 _ (0, 0) _ rfl rC5 Tryd.underlying24 rfl info24 rfl) rfl ?_
    exact ⟨_, rfl, ⟨ov1, rfl, (hO4.setRow rC4 (by decide)).mono (by omega)⟩, hN4.setRow (by omega) _⟩
  | true =>
    have k6 : W4.cell? ⟨B, 6, none⟩ = some (.bool s.ends) := cell_of_row _ _ 6 _ _ _ rB4
    have f6 := frozen_row (i := 6) rB4
    have rB5 := cell_stored (i := 6) (v := .bool true) (s' := { s with ends := true }) (ov' := ov1) rB4 rfl
    have hM5 : Mods (fun b => b = B) W4 (W4.setCell ⟨B, 6, none⟩ (.bool true)) := setMods' rfl
    have rC5 := hM5.heap rC4 (show ¬ C = B by omega)
    have hO5 : OwB w.heap.size (W4.setCell ⟨B, 6, none⟩ (.bool true)) ov1 s.out := Mods.ownsRow hM5 hO4 fun g hg e => owB_ne hO4 rB4 (by decide) (by rw [hg, e])
    have hN5 : New w (W4.setCell ⟨B, 6, none⟩ (.bool true)) := hN4.setCell (p := ⟨B, 6, none⟩) (.inl (show w.heap.size ≤ B by omega)) _
    have hone5 := cs_one { s with ends := true } hO5.one
    have HO5 := Lib.hid hO5
    clear hO5 hO4
    go_upto_region 5 with fail
    go_wp2_with (first | (refine op_value rfl (run_load_row 24 (.tmp 1) rfl B rfl 24 _ (0, 0) _ rB5 Tryd.underlying24 rfl info24) ?_) | (refine op_skip rfl (run_store_row 24 (.tmp 2) (.tmp 11) rfl C rfl 24 [.int .i64 0, .int .u8 0, .int .i64 0, .int .i64 0, .int .i64 0, .bool false, .bool false, .slice none 0 0, .int .u8 0, .bool false, .int .i64 0] (St.cs { s with ends := true } ov1) rfl rC5 info24 rfl hone5) ?_))
    have rC6 := setRow_heap _ C _ (St.cs { s with ends := true } ov1).toArray 24 (0, 0) rC5
    refine bodyPost_ret (v := .tuple #[.agg (St.cs { s with ends := true } ov1).toArray, .int .i64 0]) (results_row2 rfl _ _ C 24 _ (0, 0) _ rfl rC6 Tryd.underlying24 rfl info24 rfl) rfl ?_
    exact ⟨_, rfl, ⟨ov1, rfl, (HO5.out.setRow rC5 (by decide)).mono (by omega)⟩, hN5.setRow (by omega) _⟩
set_option maxHeartbeats 4000000 in
set_option maxRecDepth 100000 in
theorem write_R (v bv : Value) (s : St) (b : List Int) (w : World) (h : RdS w v s) (hb : RdB w bv b) (hl : s.out.length ≤ 1000000) (hlb : b.length ≤ 1000000) :
    Calls Tryd.prog 20 #[v, bv] w fun e w' => ∃ v', e = .returned (.tuple #[v', .int .i64 (writeS s b).2]) ∧ OwS w.heap.size w' v' (writeS s b).1 ∧ New w w' := by
  obtain ⟨ov, rfl, hr⟩ := h
  obtain ⟨ba, bc, rfl⟩ := hb.slice
  obtain ⟨bn, hbn⟩ : ∃ x, b.length = x := ⟨_, rfl⟩
  unfold writeS
  obtain ⟨ob, hob⟩ : ∃ x, openB s = x := ⟨_, rfl⟩
  rw [hob, hbn]
  rw [hbn] at hb hlb
  have Hb := Lib.hid hb
  clear hb
  have HO := Lib.hid (fun W (hN : New w W) => own_R _ s W ⟨ov, rfl, hr.new hN⟩ (by omega))
  have HP := Lib.hid (fun ov W => open_ref s ov W)
  rw [hob] at HP
  clear hob
  obtain ⟨W1, B, C, hW, hB, hC, rB, rC, hN1, hz⟩ := pair_rows w (s.cs ov).toArray #[.int .i64 0, .int .u8 0, .int .i64 0, .int .i64 0, .int .i64 0, .bool false, .bool false, .slice none 0 0, .int .u8 0, .bool false, .int .i64 0] 24 24
  unfold St.cs at HO hW rB
  unfold St.cs
  go_enter Tryd.func20, Tryd.ntmps20
  go_upto_region 1 with fail
  have hBl : w.heap.size ≤ B := Nat.le_of_eq hB
  clear hW hB
  go_wp2_with (refine op_value rfl (run_load_row 24 (.tmp 2) rfl B rfl 24 _ (0, 0) _ rB Tryd.underlying24 rfl info24) ?_)
  refine (HO.out _ hN1).mono ?_
  rintro e W2 ⟨v1, rfl, ⟨ov1, rfl, hO1⟩, hk1⟩
  have rB2 := hk1.heap rB id
  have rC2 := hk1.heap rC id
  have hone1 := cs_one s hO1.one
  have rB3 := setRow_heap W2 B _ (s.cs ov1).toArray 24 (0, 0) rB2
  have rC3 := (mods_setRow rB2 (s.cs ov1).toArray).heap rC2 (show C ≠ B by omega)
  have hN3 := (hN1.trans hk1).setRow (show w.heap.size ≤ B by omega) (s.cs ov1).toArray
  have hO3 : OwB w.heap.size (W2.setRow B (s.cs ov1).toArray) ov1 s.out := (hO1.mono hN1.size).setRow rB2 (by decide)
  have HO3 := Lib.hid hO3
  clear hO3 hO1
  go_upto_region 2 with (refine op_skip rfl (run_store_row 24 (.tmp 2) (.tmp 7) rfl B rfl 24 [.int .i64 s.id, .int .u8 s.state, .int .i64 s.send, .int .i64 s.recv, .int .i64 s.owed, .bool s.ans, .bool s.ends, ov, .int .u8 s.urg, .bool s.inc, .int .i64 s.slot] (s.cs ov1) rfl rB2 info24 rfl hone1) ?_)
  obtain ⟨W3, hW3⟩ : ∃ V, W2.setRow B (s.cs ov1).toArray = V := ⟨_, rfl⟩
  rw [hW3] at rB3 rC3 hN3 HO3 ⊢
  clear hW3 rB2 rC2 hk1 rB rC
  go_wp2_with (refine op_value rfl (run_load_row 24 (.tmp 2) rfl B rfl 24 _ (0, 0) _ rB3 Tryd.underlying24 rfl info24) ?_)
  refine (HP.out _ _).mono ?_
  rintro e W4 ⟨rfl, hk4⟩
  have rB4 := hk4.heap rB3 id
  have rC4 := hk4.heap rC3 id
  have hN4 := hN3.trans hk4
  have hO4 := HO3.out.new hk4
  obtain ⟨oa, oc, rfl⟩ := hO4.slice
  obtain ⟨on, hon⟩ : ∃ x, s.out.length = x := ⟨_, rfl⟩
  rw [hon] at rB4 hO4 hone1 hl HO3 rB3 ⊢
  cases ob with
  | false =>
    go_wp2_with (first | (refine op_value rfl (run_load_row 24 (.tmp 2) rfl B rfl 24 _ (0, 0) _ rB4 Tryd.underlying24 rfl info24) ?_) | (refine op_skip rfl (run_store_row 24 (.tmp 4) (.tmp 11) rfl C rfl 24 [.int .i64 0, .int .u8 0, .int .i64 0, .int .i64 0, .int .i64 0, .bool false, .bool false, .slice none 0 0, .int .u8 0, .bool false, .int .i64 0] (s.cs (.slice oa on oc)) rfl rC4 info24 rfl hone1) ?_))
    have rCf := setRow_heap _ C _ (s.cs (.slice oa on oc)).toArray 24 (0, 0) rC4
    refine bodyPost_ret (v := .tuple #[.agg (s.cs (.slice oa on oc)).toArray, .int .i64 270]) (results_row2 rfl _ _ C 24 _ (0, 0) _ rfl rCf Tryd.underlying24 rfl info24 rfl) rfl ?_
    exact ⟨_, rfl, ⟨_, rfl, ((hO4).setRow rC4 (by decide)).mono (by omega)⟩, (hN4).setRow (by omega) _⟩
  | true =>
    have k7 : W4.cell? ⟨B, 7, none⟩ = some (.slice oa on oc) := cell_of_row _ _ 7 _ _ _ rB4
    have d1 : decide ((65535 : Int) < (on : Int) + (bn : Int)) = decide (65535 < on + bn) := decide_eq_decide.2 (by omega)
    by_cases hbig : 65535 < on + bn
    · rw [decide_eq_true hbig] at d1
      simp only [if_true, if_pos hbig]
      go_upto_region 5 with fail
      go_wp2_with (first | (refine op_value rfl (run_load_row 24 (.tmp 2) rfl B rfl 24 _ (0, 0) _ rB4 Tryd.underlying24 rfl info24) ?_) | (refine op_skip rfl (run_store_row 24 (.tmp 4) (.tmp 19) rfl C rfl 24 [.int .i64 0, .int .u8 0, .int .i64 0, .int .i64 0, .int .i64 0, .bool false, .bool false, .slice none 0 0, .int .u8 0, .bool false, .int .i64 0] (s.cs (.slice oa on oc)) rfl rC4 info24 rfl hone1) ?_))
      have rCf := setRow_heap _ C _ (s.cs (.slice oa on oc)).toArray 24 (0, 0) rC4
      refine bodyPost_ret (v := .tuple #[.agg (s.cs (.slice oa on oc)).toArray, .int .i64 271]) (results_row2 rfl _ _ C 24 _ (0, 0) _ rfl rCf Tryd.underlying24 rfl info24 rfl) rfl ?_
      exact ⟨_, rfl, ⟨_, rfl, ((hO4).setRow rC4 (by decide)).mono (by omega)⟩, (hN4).setRow (by omega) _⟩
    · rw [decide_eq_false hbig] at d1
      simp only [if_true, if_neg hbig]
      go_upto_region 6 with fail
      go_wp2_with (at_builtin; refine wpList_append_B _ _ rfl rfl rfl rfl hO4 (Hb.out.new hN4) (by omega) hN4.size ?_)
      intro v5 W5 hO5 hg
      have hne := owB_ne hO4 rB4 (by decide)
      have hneC := owB_ne hO4 rC4 (by decide)
      have rB5 := (hg.block B (Array.getElem?_eq_some_iff.1 rB4).1 (fun e => hne e.symm)).trans rB4
      have rC5 := (hg.block C (Array.getElem?_eq_some_iff.1 rC4).1 (fun e => hneC e.symm)).trans rC4
      have hN5 : New w W5 := hN4.grown hg (fun k hk => .inl (hO4.lt k hk).1)
      obtain ⟨xa, xc, rfl⟩ := hO5.slice
      obtain ⟨xn, hxn⟩ : ∃ x, (s.out ++ b).length = x := ⟨_, rfl⟩
      rw [hxn] at hO5 ⊢
      have k75 : W5.cell? ⟨B, 7, none⟩ = some (.slice oa on oc) := cell_of_row _ _ 7 _ _ _ rB5
      have f75 := frozen_row (i := 7) rB5
      have rB6 := cell_stored (i := 7) (v := .slice xa xn xc) (s' := { s with out := s.out ++ b }) (ov' := .slice xa xn xc) rB5 rfl
      have hM6 : Mods (fun b => b = B) W5 (W5.setCell ⟨B, 7, none⟩ (.slice xa xn xc)) := setMods' rfl
      have rC6 := hM6.heap rC5 (show ¬ C = B by omega)
      have hO6 : OwB w.heap.size (W5.setCell ⟨B, 7, none⟩ (.slice xa xn xc)) (.slice xa xn xc) (s.out ++ b) := Mods.ownsRow hM6 hO5 fun g hg e => owB_ne hO5 rB5 (by decide) (by rw [hg, e])
      have hN6 : New w (W5.setCell ⟨B, 7, none⟩ (.slice xa xn xc)) := hN5.setCell (p := ⟨B, 7, none⟩) (.inl (show w.heap.size ≤ B by omega)) _
      have hone6 := cs_one { s with out := s.out ++ b } hO6.one
      have HO6 := Lib.hid hO6
      clear hO6 hO5 hO4 hg hne hneC
      go_upto_region 7 with fail
      go_wp2_with (first | (refine op_value rfl (run_load_row 24 (.tmp 2) rfl B rfl 24 _ (0, 0) _ rB6 Tryd.underlying24 rfl info24) ?_) | (refine op_skip rfl (run_store_row 24 (.tmp 4) (.tmp 25) rfl C rfl 24 [.int .i64 0, .int .u8 0, .int .i64 0, .int .i64 0, .int .i64 0, .bool false, .bool false, .slice none 0 0, .int .u8 0, .bool false, .int .i64 0] (St.cs { s with out := s.out ++ b } (.slice xa xn xc)) rfl rC6 info24 rfl hone6) ?_))
      have rCf := setRow_heap _ C _ (St.cs { s with out := s.out ++ b } (.slice xa xn xc)).toArray 24 (0, 0) rC6
      refine bodyPost_ret (v := .tuple #[.agg (St.cs { s with out := s.out ++ b } (.slice xa xn xc)).toArray, .int .i64 0]) (results_row2 rfl _ _ C 24 _ (0, 0) _ rfl rCf Tryd.underlying24 rfl info24 rfl) rfl ?_
      exact ⟨_, rfl, ⟨_, rfl, ((HO6.out).setRow rC6 (by decide)).mono (by omega)⟩, (hN6).setRow (by omega) _⟩
set_option maxHeartbeats 4000000 in
set_option maxRecDepth 100000 in
theorem reset_R (v : Value) (s : St) (w : World) (h : RdS w v s) (hl : s.out.length ≤ 1000000) :
    Calls Tryd.prog 24 #[v] w fun e w' => ∃ v', e = .returned (.tuple #[v', .int .i64 (resetS s).2]) ∧ OwS w.heap.size w' v' (resetS s).1 ∧ New w w' := by
  obtain ⟨ov, rfl, hr⟩ := h
  unfold resetS
  obtain ⟨o, ho⟩ : ∃ x, oursB s = x := ⟨_, rfl⟩
  obtain ⟨b3, hb3⟩ : ∃ x, decide (s.state = 3) = x := ⟨_, rfl⟩
  have hb3' : (s.state == 3) = b3 := hb3
  have hb3n : (s.state != 3) = !b3 := by rw [bne, hb3']
  rw [ho, hb3]
  have HO := Lib.hid (fun W (hN : New w W) => own_R _ s W ⟨ov, rfl, hr.new hN⟩ (by omega))
  have HP := Lib.hid (fun ov W => ours_ref s ov W)
  rw [ho] at HP
  clear ho
  obtain ⟨W1, B, C, hW, hB, hC, rB, rC, hN1, hz⟩ := pair_rows w (s.cs ov).toArray #[.int .i64 0, .int .u8 0, .int .i64 0, .int .i64 0, .int .i64 0, .bool false, .bool false, .slice none 0 0, .int .u8 0, .bool false, .int .i64 0] 24 24
  unfold St.cs at HO hW rB
  unfold St.cs
  go_enter Tryd.func24, Tryd.ntmps24
  go_upto_region 1 with fail
  have hBl : w.heap.size ≤ B := Nat.le_of_eq hB
  clear hW hB
  go_wp2_with (refine op_value rfl (run_load_row 24 (.tmp 1) rfl B rfl 24 _ (0, 0) _ rB Tryd.underlying24 rfl info24) ?_)
  refine (HO.out _ hN1).mono ?_
  rintro e W2 ⟨v1, rfl, ⟨ov1, rfl, hO1⟩, hk1⟩
  have rB2 := hk1.heap rB id
  have rC2 := hk1.heap rC id
  have hone1 := cs_one s hO1.one
  have rB3 := setRow_heap W2 B _ (s.cs ov1).toArray 24 (0, 0) rB2
  have rC3 := (mods_setRow rB2 (s.cs ov1).toArray).heap rC2 (show C ≠ B by omega)
  have hN3 := (hN1.trans hk1).setRow (show w.heap.size ≤ B by omega) (s.cs ov1).toArray
  have hO3 : OwB w.heap.size (W2.setRow B (s.cs ov1).toArray) ov1 s.out := (hO1.mono hN1.size).setRow rB2 (by decide)
  have HO3 := Lib.hid hO3
  clear hO3 hO1
  go_upto_region 2 with (refine op_skip rfl (run_store_row 24 (.tmp 1) (.tmp 5) rfl B rfl 24 [.int .i64 s.id, .int .u8 s.state, .int .i64 s.send, .int .i64 s.recv, .int .i64 s.owed, .bool s.ans, .bool s.ends, ov, .int .u8 s.urg, .bool s.inc, .int .i64 s.slot] (s.cs ov1) rfl rB2 info24 rfl hone1) ?_)
  obtain ⟨W3, hW3⟩ : ∃ V, W2.setRow B (s.cs ov1).toArray = V := ⟨_, rfl⟩
  rw [hW3] at rB3 rC3 hN3 HO3 ⊢
  clear hW3 rB2 rC2 hk1 rB rC
  go_wp2_with (refine op_value rfl (run_load_row 24 (.tmp 1) rfl B rfl 24 _ (0, 0) _ rB3 Tryd.underlying24 rfl info24) ?_)
  refine (HP.out _ _).mono ?_
  rintro e W4 ⟨rfl, hk4⟩
  have rB4 := hk4.heap rB3 id
  have rC4 := hk4.heap rC3 id
  have hN4 := hN3.trans hk4
  have hO4 := HO3.out.new hk4
  have k1 : W4.cell? ⟨B, 1, none⟩ = some (.int .u8 s.state) := cell_of_row _ _ 1 _ _ _ rB4
  obtain ⟨oa, oc, rfl⟩ := hO4.slice
  obtain ⟨on, hon⟩ : ∃ x, s.out.length = x := ⟨_, rfl⟩
  rw [hon] at rB4 hO4 hone1 hl HO3 rB3 ⊢
  have k7 : W4.cell? ⟨B, 7, none⟩ = some (.slice oa on oc) := cell_of_row _ _ 7 _ _ _ rB4
  have k6 : W4.cell? ⟨B, 6, none⟩ = some (.bool s.ends) := cell_of_row _ _ 6 _ _ _ rB4
  have f1 := frozen_row (i := 1) rB4
  have f7 := frozen_row (i := 7) rB4
  have f6 := frozen_row (i := 6) rB4
  have hways : (o = false ∧ b3 = false) ∨ ((o = true ∨ (o = false ∧ b3 = true)) ∧ (o || b3) = true) := by cases o <;> cases b3 <;> simp
  rcases hways with ⟨rfl, rfl⟩ | ⟨hyes, hm⟩
  · simp only [Bool.not_false] at hb3n
    go_wp2_with (first | (refine op_value rfl (run_load_row 24 (.tmp 1) rfl B rfl 24 _ (0, 0) _ rB4 Tryd.underlying24 rfl info24) ?_) | (refine op_skip rfl (run_store_row 24 (.tmp 2) (.tmp 14) rfl C rfl 24 [.int .i64 0, .int .u8 0, .int .i64 0, .int .i64 0, .int .i64 0, .bool false, .bool false, .slice none 0 0, .int .u8 0, .bool false, .int .i64 0] (s.cs (.slice oa on oc)) rfl rC4 info24 rfl hone1) ?_))
    have rCf := setRow_heap _ C _ (s.cs (.slice oa on oc)).toArray 24 (0, 0) rC4
    refine bodyPost_ret (v := .tuple #[.agg (s.cs (.slice oa on oc)).toArray, .int .i64 270]) (results_row2 rfl _ _ C 24 _ (0, 0) _ rfl rCf Tryd.underlying24 rfl info24 rfl) rfl ?_
    exact ⟨_, rfl, ⟨_, rfl, ((hO4).setRow rC4 (by decide)).mono (by omega)⟩, (hN4).setRow (by omega) _⟩
  · have hm' := hm
    have rB5 := cell_stored (i := 1) (v := .int .u8 5) (s' := { s with state := 5 }) (ov' := .slice oa on oc) rB4 rfl
    have rB6 := cell_stored (i := 7) (v := .slice none 0 0) (s' := { s with state := 5, out := [] }) (ov' := .slice none 0 0) rB5 rfl
    have rB7 := cell_stored (i := 6) (v := .bool false) (s' := { s with state := 5, out := [], ends := false }) (ov' := .slice none 0 0) rB6 rfl
    have hM7 : Mods (fun b => b = B) W4 (((W4.setCell ⟨B, 1, none⟩ (.int .u8 5)).setCell ⟨B, 7, none⟩ (.slice none 0 0)).setCell ⟨B, 6, none⟩ (.bool false)) := ((setMods' (S := fun b => b = B) rfl).setCell (p := ⟨B, 7, none⟩) (.inr rfl) _).setCell (p := ⟨B, 6, none⟩) (.inr rfl) _
    have rC7 := hM7.heap rC4 (show ¬ C = B by omega)
    have hN7 : New w (((W4.setCell ⟨B, 1, none⟩ (.int .u8 5)).setCell ⟨B, 7, none⟩ (.slice none 0 0)).setCell ⟨B, 6, none⟩ (.bool false)) := ((Mods.ofNew hN4).trans hM7).new (fun k hk => by omega)
    have hone7 := cs_one { s with state := 5, out := [], ends := false } (ov := .slice none 0 0) rfl
    rcases hyes with rfl | ⟨rfl, rfl⟩
    all_goals
      try simp only [Bool.not_true] at hb3n
      go_upto_region 5 with fail
      go_wp2_with (first | (refine op_value rfl (run_load_row 24 (.tmp 1) rfl B rfl 24 _ (0, 0) _ rB7 Tryd.underlying24 rfl info24) ?_) | (refine op_skip rfl (run_store_row 24 (.tmp 2) (.tmp 18) rfl C rfl 24 [.int .i64 0, .int .u8 0, .int .i64 0, .int .i64 0, .int .i64 0, .bool false, .bool false, .slice none 0 0, .int .u8 0, .bool false, .int .i64 0] (St.cs { s with state := 5, out := [], ends := false } (.slice none 0 0)) rfl rC7 info24 rfl hone7) ?_))
      have rCf := setRow_heap _ C _ (St.cs { s with state := 5, out := [], ends := false } (.slice none 0 0)).toArray 24 (0, 0) rC7
      refine bodyPost_ret (v := .tuple #[.agg (St.cs { s with state := 5, out := [], ends := false } (.slice none 0 0)).toArray, .int .i64 0]) (results_row2 rfl _ _ C 24 _ (0, 0) _ rfl rCf Tryd.underlying24 rfl info24 rfl) rfl ?_
      exact ⟨_, rfl, ⟨_, rfl, ((OwB.none w.heap.size _).setRow rC7 (by decide)).mono (by omega)⟩, (hN7).setRow (by omega) _⟩
theorem results_row3 {P : Program} {fn : Func} {p q q2 : Tmp} {ty : TypeId} (h : fn.results = #[.cell p ty, .tmp q, .tmp q2]) (tmps : Array Value) (w : World) (g : Nat) (t : TypeId) (cs : Array Value) (fr : Nat × Nat) (d : TypeDesc)
    (hp : tmps.getD p undef = .pointer (some ⟨g, 0, none⟩)) (hg : w.heap[g]? = some (.cells cs t fr))
    (hu : P.underlying ty = some d) (hd : (match d with | .struct _ | .array _ _ => true | _ => false) = true) (hi : (P.info? ty).map (·.size) = some cs.size) {v v2 : Value} (hq : tmps.getD q undef = v) (hq2 : tmps.getD q2 undef = v2) :
    (results fn tmps).run P w = .ok (.tuple #[.agg cs, v, v2]) w := by
  subst hq hq2
  have hp' : tmps[p]?.getD undef = .pointer (some ⟨g, 0, none⟩) := by simpa using hp
  simp [results, h, hp', asAddr, run_loadVar_row w g t ty cs fr d hg hu hd hi]
/-- What Answer tells. -/
def AnsS (w : World) (r : St × List Fd × Int) (e : Ending) (w' : World) : Prop := ∃ v' l', e = .returned (.tuple #[v', l', .int .i64 r.2.2]) ∧ OwS w.heap.size w' v' r.1 ∧ OwnL w.heap.size w' l' r.2.1 ∧ CapOk l' ∧ New w w'
theorem nilL (N : Nat) (W : World) : OwnL N W (.slice none 0 0) [] ∧ CapOk (.slice none 0 0) := ⟨⟨ReadsL.nil _ _ _, fun g hg => by cases hg⟩, fun ao n cap h => by cases h; exact ⟨Nat.le_refl _, fun _ => rfl⟩⟩
set_option maxHeartbeats 4000000 in
set_option maxRecDepth 100000 in
theorem answer_R (v lv : Value) (s : St) (n : Int) (L : List Fd) (w : World) (h : RdS w v s) (hl : s.out.length ≤ 1000000) (h0 : -9223372036854775808 ≤ n) (h1 : n ≤ 9223372036854775807) (hR : ReadsL w lv L) (hS : SmallL L) (hc : CapOk lv) (hL : L.length ≤ 1000000) :
    Calls Tryd.prog 16 #[v, .int .i64 n, lv] w (AnsS w (answerS s n L)) := by
  obtain ⟨ov, rfl, hr⟩ := h
  unfold AnsS answerS
  have HA := Lib.hid (fun W (hN : New w W) => answer_ref n h0 h1 lv L W (hR.new hN) hS hc hL)
  obtain ⟨la, lc, rfl⟩ := hR.slice
  obtain ⟨o, ho⟩ : ∃ x, oursB s = x := ⟨_, rfl⟩
  obtain ⟨an, han⟩ : ∃ x, s.ans = x := ⟨_, rfl⟩
  obtain ⟨res, hres⟩ : ∃ x, answerL n L = x := ⟨_, rfl⟩
  rw [ho, han, hres]
  rw [hres] at HA
  have Han := Lib.hid han
  clear hR hS hc hres han
  have HO := Lib.hid (fun W (hN : New w W) => own_R _ s W ⟨ov, rfl, hr.new hN⟩ (by omega))
  have HP := Lib.hid (fun ov W => ours_ref s ov W)
  rw [ho] at HP
  clear ho
  obtain ⟨W1, B, C, hW, hB, hC, rB, rC, hN1, hz⟩ := pair_rows w (s.cs ov).toArray #[.int .i64 0, .int .u8 0, .int .i64 0, .int .i64 0, .int .i64 0, .bool false, .bool false, .slice none 0 0, .int .u8 0, .bool false, .int .i64 0] 24 24
  unfold St.cs at HO hW rB
  unfold St.cs
  go_enter Tryd.func16, Tryd.ntmps16
  go_upto_region 1 with fail
  have hBl : w.heap.size ≤ B := Nat.le_of_eq hB
  clear hW hB
  go_wp2_with (refine op_value rfl (run_load_row 24 (.tmp 3) rfl B rfl 24 _ (0, 0) _ rB Tryd.underlying24 rfl info24) ?_)
  refine (HO.out _ hN1).mono ?_
  rintro e W2 ⟨v1, rfl, ⟨ov1, rfl, hO1⟩, hk1⟩
  have rB2 := hk1.heap rB id
  have rC2 := hk1.heap rC id
  have hone1 := cs_one s hO1.one
  have rB3 := setRow_heap W2 B _ (s.cs ov1).toArray 24 (0, 0) rB2
  have rC3 := (mods_setRow rB2 (s.cs ov1).toArray).heap rC2 (show C ≠ B by omega)
  have hN3 := (hN1.trans hk1).setRow (show w.heap.size ≤ B by omega) (s.cs ov1).toArray
  have hO3 : OwB w.heap.size (W2.setRow B (s.cs ov1).toArray) ov1 s.out := (hO1.mono hN1.size).setRow rB2 (by decide)
  have HO3 := Lib.hid hO3
  clear hO3 hO1
  go_upto_region 2 with (refine op_skip rfl (run_store_row 24 (.tmp 3) (.tmp 12) rfl B rfl 24 [.int .i64 s.id, .int .u8 s.state, .int .i64 s.send, .int .i64 s.recv, .int .i64 s.owed, .bool s.ans, .bool s.ends, ov, .int .u8 s.urg, .bool s.inc, .int .i64 s.slot] (s.cs ov1) rfl rB2 info24 rfl hone1) ?_)
  obtain ⟨W3, hW3⟩ : ∃ V, W2.setRow B (s.cs ov1).toArray = V := ⟨_, rfl⟩
  rw [hW3] at rB3 rC3 hN3 HO3 ⊢
  clear hW3 rB2 rC2 hk1 rB rC
  go_wp2_with (refine op_value rfl (run_load_row 24 (.tmp 3) rfl B rfl 24 _ (0, 0) _ rB3 Tryd.underlying24 rfl info24) ?_)
  refine (HP.out _ _).mono ?_
  rintro e W4 ⟨rfl, hk4⟩
  have rB4 := hk4.heap rB3 id
  have rC4 := hk4.heap rC3 id
  have hN4 := hN3.trans hk4
  have hO4 := HO3.out.new hk4
  have k5 : W4.cell? ⟨B, 5, none⟩ = some (.bool an) := by rw [← Han.out]; exact cell_of_row _ _ 5 _ _ _ rB4
  have hways : ((o = false ∨ (o = true ∧ an = true)) ∧ (o && !an) = false) ∨ (o = true ∧ an = false) := by cases o <;> cases an <;> simp
  rcases hways with ⟨hno, hno2⟩ | ⟨rfl, rfl⟩
  · have hif : ∀ {α : Type} (x y : α), (if (o && !an) = true then x else y) = y := fun x y => by rw [hno2]; rfl
    clear hno2
    rcases hno with rfl | ⟨rfl, rfl⟩
    all_goals
      go_wp2_with (first | (refine op_value rfl (run_load_row 24 (.tmp 3) rfl B rfl 24 _ (0, 0) _ rB4 Tryd.underlying24 rfl info24) ?_) | (refine op_skip rfl (run_store_row 24 (.tmp 6) (.tmp 20) rfl C rfl 24 [.int .i64 0, .int .u8 0, .int .i64 0, .int .i64 0, .int .i64 0, .bool false, .bool false, .slice none 0 0, .int .u8 0, .bool false, .int .i64 0] (s.cs ov1) rfl rC4 info24 rfl hone1) ?_))
      have rCf := setRow_heap _ C _ (s.cs ov1).toArray 24 (0, 0) rC4
      refine bodyPost_ret (v := .tuple #[.agg (s.cs ov1).toArray, .slice none 0 0, .int .i64 270]) (results_row3 rfl _ _ C 24 _ (0, 0) _ rfl rCf Tryd.underlying24 rfl info24 rfl rfl) rfl ?_
      exact ⟨_, _, rfl, ⟨_, rfl, ((hO4).setRow rC4 (by decide)).mono (by omega)⟩, (nilL _ _).1, (nilL w.heap.size W4).2, (hN4).setRow (by omega) _⟩
  · go_upto_region 4 with fail
    go_wp2_with fail
    refine (HA.out _ hN4).mono ?_
    rintro e W5 ⟨lv5, rfl, hL5, hcap5, hk5⟩
    have rB5 := hk5.heap rB4 id
    have rC5 := hk5.heap rC4 id
    have hN5 := hN4.trans hk5
    have hO5 := hO4.new hk5
    have hL5' := hL5
    obtain ⟨xa, xc, rfl⟩ := hL5.1.slice
    cases res with
    | none =>
      simp only [Option.isSome_none, Option.getD_none] at hL5 hL5' ⊢
      go_wp2_with (first | (refine op_value rfl (run_load_row 24 (.tmp 3) rfl B rfl 24 _ (0, 0) _ rB5 Tryd.underlying24 rfl info24) ?_) | (refine op_skip rfl (run_store_row 24 (.tmp 6) (.tmp 29) rfl C rfl 24 [.int .i64 0, .int .u8 0, .int .i64 0, .int .i64 0, .int .i64 0, .bool false, .bool false, .slice none 0 0, .int .u8 0, .bool false, .int .i64 0] (s.cs ov1) rfl rC5 info24 rfl hone1) ?_))
      have rCf := setRow_heap _ C _ (s.cs ov1).toArray 24 (0, 0) rC5
      refine bodyPost_ret (v := .tuple #[.agg (s.cs ov1).toArray, .slice none 0 0, .int .i64 2]) (results_row3 rfl _ _ C 24 _ (0, 0) _ rfl rCf Tryd.underlying24 rfl info24 rfl rfl) rfl ?_
      exact ⟨_, _, rfl, ⟨_, rfl, ((hO5).setRow rC5 (by decide)).mono (by omega)⟩, (nilL _ _).1, (nilL w.heap.size W4).2, (hN5).setRow (by omega) _⟩
    | some l =>
      simp only [Option.isSome_some, Option.getD_some] at hL5 hL5' ⊢
      have k55 : W5.cell? ⟨B, 5, none⟩ = some (.bool false) := by rw [← Han.out]; exact cell_of_row _ _ 5 _ _ _ rB5
      have f5 := frozen_row (i := 5) rB5
      have rB6 := cell_stored (i := 5) (v := .bool true) (s' := { s with ans := true }) (ov' := ov1) rB5 rfl
      have hM6 : Mods (fun b => b = B) W5 (W5.setCell ⟨B, 5, none⟩ (.bool true)) := setMods' rfl
      have rC6 := hM6.heap rC5 (show ¬ C = B by omega)
      have hBl4 := (Array.getElem?_eq_some_iff.1 rB4).1
      have hCl4 := (Array.getElem?_eq_some_iff.1 rC4).1
      have hL6 : OwnL W4.heap.size (W5.setCell ⟨B, 5, none⟩ (.bool true)) (.slice xa l.length xc) l := hL5.kept hM6 (fun b hb => by omega) (Nat.le_refl _)
      have hO6 : OwB w.heap.size (W5.setCell ⟨B, 5, none⟩ (.bool true)) ov1 s.out := Mods.ownsRow hM6 hO5 fun g hg e => owB_ne hO5 rB5 (by decide) (by rw [hg, e])
      have hN6 : New w (W5.setCell ⟨B, 5, none⟩ (.bool true)) := hN5.setCell (p := ⟨B, 5, none⟩) (.inl (show w.heap.size ≤ B by omega)) _
      have hone6 := cs_one { s with ans := true } hO6.one
      have HO6 := Lib.hid hO6
      have HL6 := Lib.hid hL6
      have Hcap := Lib.hid hcap5
      clear hO6 hO5 hL6 hL5 hL5' hcap5
      go_upto_region 8 with fail
      go_wp2_with (first | (refine op_value rfl (run_load_row 24 (.tmp 3) rfl B rfl 24 _ (0, 0) _ rB6 Tryd.underlying24 rfl info24) ?_) | (refine op_skip rfl (run_store_row 24 (.tmp 6) (.tmp 31) rfl C rfl 24 [.int .i64 0, .int .u8 0, .int .i64 0, .int .i64 0, .int .i64 0, .bool false, .bool false, .slice none 0 0, .int .u8 0, .bool false, .int .i64 0] (St.cs { s with ans := true } ov1) rfl rC6 info24 rfl hone6) ?_))
      have rCf := setRow_heap _ C _ (St.cs { s with ans := true } ov1).toArray 24 (0, 0) rC6
      refine bodyPost_ret (v := .tuple #[.agg (St.cs { s with ans := true } ov1).toArray, .slice xa l.length xc, .int .i64 0]) (results_row3 rfl _ _ C 24 _ (0, 0) _ rfl rCf Tryd.underlying24 rfl info24 rfl rfl) rfl ?_
      exact ⟨_, _, rfl, ⟨_, rfl, ((HO6.out).setRow rC6 (by decide)).mono (by omega)⟩, HL6.out.kept (mods_setRow rC6 _) (fun b hb => by omega) hN4.size, Hcap.out, (hN6).setRow (by omega) _⟩
end Go.Proofs.YtkjghojdfjhhkaaDoor
/- Streams: what goes out at once: the document's answer. -/
namespace Go.Proofs.YtkjghojdfjhhkaaDoor
open Go.RowKit Go.Shelf Go.Cs
attribute [local go_sem] Oper.semAt_some
theorem results_row4 {P : Program} {fn : Func} {p q q2 q3 : Tmp} {ty : TypeId} (h : fn.results = #[.cell p ty, .tmp q, .tmp q2, .tmp q3]) (tmps : Array Value) (w : World) (g : Nat) (t : TypeId) (cs : Array Value) (fr : Nat × Nat) (d : TypeDesc)
    (hp : tmps.getD p undef = .pointer (some ⟨g, 0, none⟩)) (hg : w.heap[g]? = some (.cells cs t fr))
    (hu : P.underlying ty = some d) (hd : (match d with | .struct _ | .array _ _ => true | _ => false) = true) (hi : (P.info? ty).map (·.size) = some cs.size) {v v2 v3 : Value} (hq : tmps.getD q undef = v) (hq2 : tmps.getD q2 undef = v2) (hq3 : tmps.getD q3 undef = v3) :
    (results fn tmps).run P w = .ok (.tuple #[.agg cs, v, v2, v3]) w := by
  subst hq hq2 hq3
  have hp' : tmps[p]?.getD undef = .pointer (some ⟨g, 0, none⟩) := by simpa using hp
  simp [results, h, hp', asAddr, run_loadVar_row w g t ty cs fr d hg hu hd hi]
theorem cutZ_can (a b c d e : Int) : cutZ a b c d e ≤ canZ a := by
  have := canZ_0 a
  unfold cutZ
  omega
theorem sent_64 {a b c d e : Int} {n : Nat} (h : cutZ a b c d e = n) (ha : I64 a) : I64 (a - n) := by
  have h1 := cutZ_can a b c d e
  rw [h] at h1
  obtain ⟨h2, h3⟩ := ha
  unfold canZ at h1
  constructor <;> (split at h1 <;> omega)
/-- What Take tells. -/
def TakeP (w : World) (r : St × List Int × Bool × Bool) (e : Ending) (w' : World) : Prop := ∃ v' d', e = .returned (.tuple #[v', d', .bool r.2.2.1, .bool r.2.2.2]) ∧ OwS w.heap.size w' v' r.1 ∧ OwB w.heap.size w' d' r.2.1 ∧ New w w'
set_option maxHeartbeats 4000000 in
set_option maxRecDepth 100000 in
theorem take_R (v : Value) (s : St) (c f k : Int) (w : World) (h : RdS w v s) (hl : s.out.length ≤ 1000000) (hs : I64 s.send) (hc : I64 c) (hf : I64 f) (hk : I64 k) :
    Calls Tryd.prog 26 #[v, .int .i64 c, .int .i64 f, .int .i64 k] w (TakeP w (takeS s c f k)) := by
  obtain ⟨ov, rfl, hr⟩ := h
  obtain ⟨⟨so, dd, ben, bok⟩, hT⟩ : ∃ r, takeS s c f k = r := ⟨_, rfl⟩
  rw [hT]
  unfold TakeP
  unfold takeS at hT
  dsimp only at hT
  have hcut := cutZ_le s.send c f k (s.out.length : Int)
  have HCU := Lib.hid (fun W => cut_R s.send c f k (s.out.length : Int) W hs hc hf hk (by constructor <;> omega))
  have HSE := Lib.hid (fun v W (h : RdS W v s) => send_R v s c W h hs hc)
  obtain ⟨nn, hnn⟩ : ∃ nn : Nat, cutZ s.send c f k (s.out.length : Int) = nn := ⟨(cutZ s.send c f k (s.out.length : Int)).toNat, by have := hcut.1; omega⟩
  have hI := sent_64 hnn hs
  rw [hnn] at hcut HCU hT
  have hnl : nn ≤ s.out.length := by have := hcut.2.1 (by omega); omega
  have hsn : nn ≤ 2147483647 := by have := hcut.2.2; omega
  obtain ⟨b1, hb1⟩ : ∃ x, sendB s c = x := ⟨_, rfl⟩
  rw [hb1] at HSE hT
  rw [Int.toNat_natCast] at hT
  have HT := Lib.hid hT
  clear hT
  have HO := Lib.hid (fun W (hN : New w W) => own_R _ s W ⟨ov, rfl, hr.new hN⟩ (by omega))
  obtain ⟨W1, B, C, hW, hB, hC, rB, rC, hN1, hz⟩ := pair_rows w (s.cs ov).toArray #[.int .i64 0, .int .u8 0, .int .i64 0, .int .i64 0, .int .i64 0, .bool false, .bool false, .slice none 0 0, .int .u8 0, .bool false, .int .i64 0] 24 24
  unfold St.cs at HO hW rB
  unfold St.cs
  go_enter Tryd.func26, Tryd.ntmps26
  go_upto_region 1 with fail
  have hBl : w.heap.size ≤ B := Nat.le_of_eq hB
  clear hW hB
  go_wp2_with (refine op_value rfl (run_load_row 24 (.tmp 4) rfl B rfl 24 _ (0, 0) _ rB Tryd.underlying24 rfl info24) ?_)
  refine (HO.out _ hN1).mono ?_
  rintro e W2 ⟨v1, rfl, ⟨ov1, rfl, hO1⟩, hk1⟩
  have rB2 := hk1.heap rB id
  have rC2 := hk1.heap rC id
  have hone1 := cs_one s hO1.one
  have rB3 := setRow_heap W2 B _ (s.cs ov1).toArray 24 (0, 0) rB2
  have rC3 := (mods_setRow rB2 (s.cs ov1).toArray).heap rC2 (show C ≠ B by omega)
  have hN3 := (hN1.trans hk1).setRow (show w.heap.size ≤ B by omega) (s.cs ov1).toArray
  have hO3 : OwB w.heap.size (W2.setRow B (s.cs ov1).toArray) ov1 s.out := (hO1.mono hN1.size).setRow rB2 (by decide)
  have HO3 := Lib.hid hO3
  clear hO3 hO1
  go_upto_region 2 with (refine op_skip rfl (run_store_row 24 (.tmp 4) (.tmp 15) rfl B rfl 24 [.int .i64 s.id, .int .u8 s.state, .int .i64 s.send, .int .i64 s.recv, .int .i64 s.owed, .bool s.ans, .bool s.ends, ov, .int .u8 s.urg, .bool s.inc, .int .i64 s.slot] (s.cs ov1) rfl rB2 info24 rfl hone1) ?_)
  obtain ⟨W3, hW3⟩ : ∃ V, W2.setRow B (s.cs ov1).toArray = V := ⟨_, rfl⟩
  rw [hW3] at rB3 rC3 hN3 HO3 ⊢
  clear hW3 rB2 rC2 hk1 rB rC
  obtain ⟨oa, oc, rfl⟩ := HO3.out.slice
  obtain ⟨on, hon⟩ : ∃ x, s.out.length = x := ⟨_, rfl⟩
  rw [hon] at rB3 HO3 hone1 hl HCU hnl HT ⊢
  have HON := Lib.hid hon
  have HSY := Lib.hid (HSE.out (.agg (s.cs (.slice oa on oc)).toArray) W3 ⟨.slice oa on oc, rfl, HO3.out.reads⟩)
  unfold St.cs at HSY
  have k2 : W3.cell? ⟨B, 2, none⟩ = some (.int .i64 s.send) := cell_of_row _ _ 2 _ _ _ rB3
  have k7 : W3.cell? ⟨B, 7, none⟩ = some (.slice oa on oc) := cell_of_row _ _ 7 _ _ _ rB3
  clear HO HSE hon hs hc hf hk hcut hnn
  go_wp2_with fail
  refine (HCU.out _).mono ?_
  rintro e W3' ⟨rfl, rfl⟩
  clear HCU
  obtain ⟨p0, e0⟩ : ∃ x, decide ((0 : Int) < (on : Int)) = x := ⟨_, rfl⟩
  obtain ⟨n0, en⟩ : ∃ x, decide ((nn : Int) = 0) = x := ⟨_, rfl⟩
  have en' : ((nn : Int) == 0) = n0 := en
  have e0x : decide (0 < on) = p0 := by rw [← e0]; exact decide_eq_decide.2 (by omega)
  have enx : decide (nn = 0) = n0 := by rw [← en]; exact decide_eq_decide.2 (by omega)
  rw [e0x, enx] at HT
  have E0x := Lib.hid e0x
  have Enx := Lib.hid enx
  clear e0x enx
  obtain ⟨sb, hsb⟩ : ∃ x, (b1 && !(p0 && n0)) = x := ⟨_, rfl⟩
  rw [hsb] at HT
  have Hsb := Lib.hid hsb
  clear hsb
  go_upto_region 3 with fail
  refine piece (fun _ a' W' => (a'.tmps.size = 77 ∧ a'.defers = [] ∧ a'.tmps.getD 4 undef = .pointer (some ⟨B, 0, none⟩) ∧ a'.tmps.getD 8 undef = .pointer (some ⟨C, 0, none⟩) ∧ a'.tmps.getD 12 undef = .int .i64 (nn : Int) ∧ a'.tmps.getD 38 undef = .bool (!sb)) ∧ New W3' W') ?r3 ?rest
  case r3 =>
    clear HT
    go_wp2_with (refine op_value rfl (run_load_row 24 (.tmp 4) rfl B rfl 24 _ (0, 0) _ rB3 Tryd.underlying24 rfl info24) ?_)
    refine HSY.out.mono ?_
    rintro e W4 ⟨rfl, hk4⟩
    have rB4 := hk4.heap rB3 id
    have k7 : W4.cell? ⟨B, 7, none⟩ = some (.slice oa on oc) := cell_of_row _ _ 7 _ _ _ rB4
    have hways : b1 = false ∨ (b1 = true ∧ p0 = false) ∨ (b1 = true ∧ p0 = true ∧ n0 = false) ∨ (b1 = true ∧ p0 = true ∧ n0 = true) := by cases b1 <;> cases p0 <;> cases n0 <;> simp
    clear rB4 rB3 HSY
    rcases hways with rfl | ⟨rfl, rfl⟩ | ⟨rfl, rfl, rfl⟩ | ⟨rfl, rfl, rfl⟩
    · go_wp2_with fail
      exact ⟨⟨rfl, rfl, rfl, rfl, rfl, by rw [← Hsb.out]; rfl⟩, hk4⟩
    · have q1 : on = 0 := by have := of_decide_eq_false E0x.out; omega
      subst q1
      go_wp2_with fail
      exact ⟨⟨rfl, rfl, rfl, rfl, rfl, by rw [← Hsb.out]; rfl⟩, hk4⟩
    · have q1 : 0 < on := of_decide_eq_true E0x.out
      have q2 : ¬ nn = 0 := of_decide_eq_false Enx.out
      go_wp2_with fail
      exact ⟨⟨rfl, rfl, rfl, rfl, rfl, by rw [← Hsb.out]; rfl⟩, hk4⟩
    · have q1 : 0 < on := of_decide_eq_true E0x.out
      have q2 : nn = 0 := of_decide_eq_true Enx.out
      subst q2
      go_wp2_with fail
      exact ⟨⟨rfl, rfl, rfl, rfl, rfl, by rw [← Hsb.out]; rfl⟩, hk4⟩
  case rest =>
  rintro ⟨z, dfs⟩ W4 ⟨⟨hs, hd, hq4, hq8, hq12, hq38⟩, hk4⟩
  simp only at hs hd hq4 hq8 hq12 hq38
  subst hd
  obtain ⟨u, rfl⟩ : ∃ u : Nat → Value, z = (u 0 :: u 1 :: u 2 :: u 3 :: u 4 :: u 5 :: u 6 :: u 7 :: u 8 :: u 9 :: u 10 :: u 11 :: u 12 :: u 13 :: u 14 :: u 15 :: u 16 :: u 17 :: u 18 :: u 19 :: u 20 :: u 21 :: u 22 :: u 23 :: u 24 :: u 25 :: u 26 :: u 27 :: u 28 :: u 29 :: u 30 :: u 31 :: u 32 :: u 33 :: u 34 :: u 35 :: u 36 :: u 37 :: u 38 :: u 39 :: u 40 :: u 41 :: u 42 :: u 43 :: u 44 :: u 45 :: u 46 :: u 47 :: u 48 :: u 49 :: u 50 :: u 51 :: u 52 :: u 53 :: u 54 :: u 55 :: u 56 :: u 57 :: u 58 :: u 59 :: u 60 :: u 61 :: u 62 :: u 63 :: u 64 :: u 65 :: u 66 :: u 67 :: u 68 :: u 69 :: u 70 :: u 71 :: u 72 :: u 73 :: u 74 :: u 75 :: u 76 :: ([] : List Value)).toArray := ⟨fun i => z.getD i undef, range_lit z 77 hs⟩
  have hp4 : u 4 = _ := hq4
  have hp8 : u 8 = _ := hq8
  have hp12 : u 12 = _ := hq12
  have hp38 : u 38 = _ := hq38
  rw [hp4, hp8, hp12, hp38]
  clear hp4 hp8 hp12 hp38 hq4 hq8 hq12 hq38 hs
  have rB4 := hk4.heap rB3 id
  have rC4 := hk4.heap rC3 id
  have hN4 := hN3.trans hk4
  have hO4 := HO3.out.new hk4
  have k7 : W4.cell? ⟨B, 7, none⟩ = some (.slice oa on oc) := cell_of_row _ _ 7 _ _ _ rB4
  clear k2 e0 en en' HSY
  cases sb with
  | false =>
    have hT := HT.out
    rw [if_neg (by simp)] at hT
    cases hT
    clear HT
    simp only [Bool.not_false]
    go_upto_region 4 with fail
    go_wp2_with (first | (refine op_value rfl (run_load_row 24 (.tmp 4) rfl B rfl 24 _ (0, 0) _ rB4 Tryd.underlying24 rfl info24) ?_) | (refine op_skip rfl (run_store_row 24 (.tmp 8) (.tmp 39) rfl C rfl 24 [.int .i64 0, .int .u8 0, .int .i64 0, .int .i64 0, .int .i64 0, .bool false, .bool false, .slice none 0 0, .int .u8 0, .bool false, .int .i64 0] (s.cs (.slice oa on oc)) rfl rC4 info24 rfl hone1) ?_))
    have rCf := setRow_heap _ C _ (s.cs (.slice oa on oc)).toArray 24 (0, 0) rC4
    refine bodyPost_ret (v := .tuple #[.agg (s.cs (.slice oa on oc)).toArray, .slice none 0 0, .bool false, .bool false]) (results_row4 rfl _ _ C 24 _ (0, 0) _ rfl rCf Tryd.underlying24 rfl info24 rfl rfl rfl) rfl ?_
    exact ⟨_, _, rfl, ⟨_, rfl, (hO4.setRow rC4 (by decide)).mono (by omega)⟩, OwB.none _ _, hN4.setRow (by omega) _⟩
  | true =>
    have hT := HT.out
    rw [if_pos rfl] at hT
    have HT := Lib.hid hT
    clear hT
    simp only [Bool.not_true]
    have hcap : on ≤ oc := (hO4.cap _ _ _ rfl).1
    have hsl1 := fun W => run_prefix_B W oa on oc nn (by omega)
    have hsl2 := fun W => run_suffix_B W oa on oc nn hnl
    have hpre := (hO4.reads.prefx (i := nn) (by omega))
    have hsuf := (hO4.reads.suffx (i := nn) hnl)
    obtain ⟨y, hy⟩ : ∃ y, (Value.slice (if oc = nn then oa else oa.map (·.add (nn * 1))) (on - nn) (oc - nn)) = y := ⟨_, rfl⟩
    rw [hy] at hsuf
    simp only [hy] at hsl2
    have hlt : (s.out.take nn).length ≤ 1000000 := by rw [List.length_take]; omega
    have hld : (s.out.drop nn).length ≤ 1000000 := by rw [List.length_drop, HON.out]; omega
    clear hy
    have Hpre := Lib.hid hpre
    have Hsuf := Lib.hid hsuf
    clear hpre hsuf
    go_upto_region 5 with fail
    have hk5 : New W4 (W4.alloc (.cells #[] 5)) := (Mods.refl _ _).alloc _
    have k75 := hk5.cell k7 id
    go_wp2_with (at_builtin; refine wpList_append_B _ _ rfl rfl rfl rfl (OwB.nil W4) (Hpre.out.new hk5) (by rw [List.length_nil]; omega) (by simp) ?_)
    intro v5 W5 hO5 hg5
    obtain ⟨da, dc, rfl⟩ := hO5.slice
    obtain ⟨dn, hdn⟩ : ∃ x, (s.out.take nn).length = x := ⟨_, rfl⟩
    have hO5 : OwB W4.heap.size W5 (.slice da (s.out.take nn).length dc) (s.out.take nn) := hO5
    have hk5' : New W4 W5 := ((Mods.refl _ W4).alloc (.cells #[] 5)).grown hg5 (fun k hk => by cases hk; exact .inl (Nat.le_refl _))
    have rB5 := hk5'.heap rB4 id
    have rC5 := hk5'.heap rC4 id
    have hN5 := hN4.trans hk5'
    have k7a : W5.cell? ⟨B, 7, none⟩ = some (.slice oa _ oc) := cell_of_row _ _ 7 _ _ _ rB5
    have hk6 : New W5 (W5.alloc (.cells #[] 5)) := (Mods.refl _ _).alloc _
    have k7b := hk6.cell k7a id
    go_wp2_with (at_builtin; refine wpList_append_B _ _ rfl rfl rfl rfl (OwB.nil W5) (Hsuf.out.new (hk5'.trans hk6)) (by rw [List.length_nil]; omega) (by simp) ?_)
    intro v6 W6 hO6 hg6
    have hk6' : New W5 W6 := ((Mods.refl _ W5).alloc (.cells #[] 5)).grown hg6 (fun k hk => by cases hk; exact .inl (Nat.le_refl _))
    obtain ⟨ta, tc, rfl⟩ := hO6.slice
    have hO6 : OwB W5.heap.size W6 (.slice ta (s.out.drop nn).length tc) (s.out.drop nn) := hO6
    have rB6 := hk6'.heap rB5 id
    have rC6 := hk6'.heap rC5 id
    have hN6 := hN5.trans hk6'
    have HD6 := Lib.hid (hO5.new hk6')
    obtain ⟨tn, htn⟩ : ∃ x, (s.out.drop nn).length = x := ⟨_, rfl⟩
    rw [htn] at hO6 HT ⊢
    have k76 : W6.cell? ⟨B, 7, none⟩ = some (.slice oa on oc) := cell_of_row _ _ 7 _ _ _ rB6
    have f76 := frozen_row (i := 7) rB6
    have rB7 := cell_stored (i := 7) (v := .slice ta tn tc) (s' := { s with out := s.out.drop nn }) (ov' := .slice ta tn tc) rB6 rfl
    have hM7 : Mods (fun b => b = B) W6 (W6.setCell ⟨B, 7, none⟩ (.slice ta tn tc)) := setMods' rfl
    have rC7 := hM7.heap rC6 (show ¬ C = B by omega)
    have hO7 : OwB W5.heap.size (W6.setCell ⟨B, 7, none⟩ (.slice ta tn tc)) (.slice ta tn tc) (s.out.drop nn) := Mods.ownsRow hM7 hO6 fun g hg e => owB_ne hO6 rB6 (by decide) (by rw [hg, e])
    have hD7 : OwB W4.heap.size (W6.setCell ⟨B, 7, none⟩ (.slice ta tn tc)) (.slice da (s.out.take nn).length dc) (s.out.take nn) := Mods.ownsRow hM7 HD6.out fun g hg e => owB_ne HD6.out rB6 (by decide) (by rw [hg, e])
    have hN7 : New w (W6.setCell ⟨B, 7, none⟩ (.slice ta tn tc)) := hN6.setCell (p := ⟨B, 7, none⟩) (.inl (show w.heap.size ≤ B by omega)) _
    go_upto_region 7 with fail
    obtain ⟨W7, hW7⟩ : ∃ V, W6.setCell ⟨B, 7, none⟩ (.slice ta tn tc) = V := ⟨_, rfl⟩
    rw [hW7] at rB7 rC7 hO7 hD7 hN7 ⊢
    clear hW7 hM7 rB6 rC6 HD6 hO6 rB5 rC5 rB4 rC4 k7 k75 k7a k7b k76 f76
    have k27 : W7.cell? ⟨B, 2, none⟩ = some (.int .i64 s.send) := cell_of_row _ _ 2 _ _ _ rB7
    have f27 := frozen_row (i := 2) rB7
    have hwr : IntKind.i64.wrap (s.send - (nn : Int)) = s.send - (nn : Int) := wrap_small hI.1 hI.2
    have rB8 := cell_stored (i := 2) (v := .int .i64 (s.send - (nn : Int))) (s' := { s with out := s.out.drop nn, send := s.send - (nn : Int) }) (ov' := .slice ta tn tc) rB7 rfl
    have hM8 : Mods (fun b => b = B) W7 (W7.setCell ⟨B, 2, none⟩ (.int .i64 (s.send - (nn : Int)))) := setMods' rfl
    have rC8 := hM8.heap rC7 (show ¬ C = B by omega)
    have hO8 : OwB W5.heap.size (W7.setCell ⟨B, 2, none⟩ (.int .i64 (s.send - (nn : Int)))) (.slice ta tn tc) (s.out.drop nn) := Mods.ownsRow hM8 hO7 fun g hg e => owB_ne hO7 rB7 (by decide) (by rw [hg, e])
    have hD8 : OwB W4.heap.size (W7.setCell ⟨B, 2, none⟩ (.int .i64 (s.send - (nn : Int)))) (.slice da (s.out.take nn).length dc) (s.out.take nn) := Mods.ownsRow hM8 hD7 fun g hg e => owB_ne hD7 rB7 (by decide) (by rw [hg, e])
    have hN8 : New w (W7.setCell ⟨B, 2, none⟩ (.int .i64 (s.send - (nn : Int)))) := hN7.setCell (p := ⟨B, 2, none⟩) (.inl (show w.heap.size ≤ B by omega)) _
    go_upto_region 8 with fail
    obtain ⟨W8, hW8⟩ : ∃ V, W7.setCell ⟨B, 2, none⟩ (.int .i64 (s.send - (nn : Int))) = V := ⟨_, rfl⟩
    rw [hW8] at rB8 rC8 hO8 hD8 hN8 ⊢
    rw [hdn] at hD8
    clear hW8 hM8 rB7 rC7 hO7 hD7 k27 f27
    obtain ⟨en6, hen⟩ : ∃ x, s.ends = x := ⟨_, rfl⟩
    have k6 : W8.cell? ⟨B, 6, none⟩ = some (.bool en6) := by rw [← hen]; exact cell_of_row _ _ 6 _ _ _ rB8
    have k78 : W8.cell? ⟨B, 7, none⟩ = some (.slice ta tn tc) := cell_of_row _ _ 7 _ _ _ rB8
    have f68 := frozen_row (i := 6) rB8
    have hT := HT.out
    have Hen := Lib.hid hen
    clear HT hen
    have hways : (en6 = false ∨ (en6 = true ∧ ¬ tn = 0)) ∨ (en6 = true ∧ tn = 0) := by
      by_cases h : tn = 0 <;> cases en6 <;> simp [h]
    rcases hways with hno | ⟨rfl, h0⟩
    · have hq : (s.ends && decide (tn = 0)) = false := by
        rw [Hen.out]
        rcases hno with rfl | ⟨rfl, h⟩
        · rfl
        · rw [decide_eq_false h]; rfl
      rw [hq] at hT
      cases hT
      clear hq
      rcases hno with rfl | ⟨rfl, h0⟩
      · go_upto_region 9 with fail
        have hone9 := cs_one ({ s with out := s.out.drop nn, send := s.send - (nn : Int) }) (ov := .slice ta tn tc) rfl
        go_wp2_with (first | (refine op_value rfl (run_load_row 24 (.tmp 4) rfl B rfl 24 _ (0, 0) _ rB8 Tryd.underlying24 rfl info24) ?_) | (refine op_skip rfl (run_store_row 24 (.tmp 8) (.tmp 67) rfl C rfl 24 [.int .i64 0, .int .u8 0, .int .i64 0, .int .i64 0, .int .i64 0, .bool false, .bool false, .slice none 0 0, .int .u8 0, .bool false, .int .i64 0] (St.cs ({ s with out := s.out.drop nn, send := s.send - (nn : Int) }) (.slice ta tn tc)) rfl rC8 info24 rfl hone9) ?_))
        have rCf := setRow_heap _ C _ (St.cs ({ s with out := s.out.drop nn, send := s.send - (nn : Int) }) (.slice ta tn tc)).toArray 24 (0, 0) rC8
        refine bodyPost_ret (v := .tuple #[.agg (St.cs ({ s with out := s.out.drop nn, send := s.send - (nn : Int) }) (.slice ta tn tc)).toArray, .slice da dn dc, .bool false, .bool true]) (results_row4 rfl _ _ C 24 _ (0, 0) _ rfl rCf Tryd.underlying24 rfl info24 rfl rfl rfl) rfl ?_
        exact ⟨_, _, rfl, ⟨_, rfl, (hO8.mono hN5.size).setRow rC8 (by decide)⟩, (hD8.mono hN4.size).setRow rC8 (by decide), hN8.setRow (by omega) _⟩
      · have h1 : 0 < tn := by omega
        go_upto_region 9 with fail
        have hone9 := cs_one ({ s with out := s.out.drop nn, send := s.send - (nn : Int) }) (ov := .slice ta tn tc) rfl
        go_wp2_with (first | (refine op_value rfl (run_load_row 24 (.tmp 4) rfl B rfl 24 _ (0, 0) _ rB8 Tryd.underlying24 rfl info24) ?_) | (refine op_skip rfl (run_store_row 24 (.tmp 8) (.tmp 67) rfl C rfl 24 [.int .i64 0, .int .u8 0, .int .i64 0, .int .i64 0, .int .i64 0, .bool false, .bool false, .slice none 0 0, .int .u8 0, .bool false, .int .i64 0] (St.cs ({ s with out := s.out.drop nn, send := s.send - (nn : Int) }) (.slice ta tn tc)) rfl rC8 info24 rfl hone9) ?_))
        have rCf := setRow_heap _ C _ (St.cs ({ s with out := s.out.drop nn, send := s.send - (nn : Int) }) (.slice ta tn tc)).toArray 24 (0, 0) rC8
        refine bodyPost_ret (v := .tuple #[.agg (St.cs ({ s with out := s.out.drop nn, send := s.send - (nn : Int) }) (.slice ta tn tc)).toArray, .slice da dn dc, .bool false, .bool true]) (results_row4 rfl _ _ C 24 _ (0, 0) _ rfl rCf Tryd.underlying24 rfl info24 rfl rfl rfl) rfl ?_
        exact ⟨_, _, rfl, ⟨_, rfl, (hO8.mono hN5.size).setRow rC8 (by decide)⟩, (hD8.mono hN4.size).setRow rC8 (by decide), hN8.setRow (by omega) _⟩
    · have rB10 := cell_stored (i := 6) (v := .bool false) (s' := { s with out := s.out.drop nn, send := s.send - (nn : Int), ends := false }) (ov' := .slice ta tn tc) rB8 rfl
      have hM10 : Mods (fun b => b = B) W8 (W8.setCell ⟨B, 6, none⟩ (.bool false)) := setMods' rfl
      have rC10 := hM10.heap rC8 (show ¬ C = B by omega)
      have hO10 : OwB W5.heap.size (W8.setCell ⟨B, 6, none⟩ (.bool false)) (.slice ta tn tc) (s.out.drop nn) := Mods.ownsRow hM10 hO8 fun g hg e => owB_ne hO8 rB8 (by decide) (by rw [hg, e])
      have hD10 : OwB W4.heap.size (W8.setCell ⟨B, 6, none⟩ (.bool false)) (.slice da dn dc) (s.out.take nn) := Mods.ownsRow hM10 hD8 fun g hg e => owB_ne hD8 rB8 (by decide) (by rw [hg, e])
      have hN10 : New w (W8.setCell ⟨B, 6, none⟩ (.bool false)) := hN8.setCell (p := ⟨B, 6, none⟩) (.inl (show w.heap.size ≤ B by omega)) _
      rw [show (s.ends && decide (tn = 0)) = true by rw [Hen.out, decide_eq_true h0]; rfl] at hT
      subst h0
      go_upto_region 11 with fail
      obtain ⟨W10, hW10⟩ : ∃ V, W8.setCell ⟨B, 6, none⟩ (.bool false) = V := ⟨_, rfl⟩
      rw [hW10] at rB10 rC10 hO10 hD10 hN10 ⊢
      clear hW10 hM10 rB8 rC8 hO8 hD8 k6 k78 f68
      have k1 : W10.cell? ⟨B, 1, none⟩ = some (.int .u8 s.state) := cell_of_row _ _ 1 _ _ _ rB10
      have f1 := frozen_row (i := 1) rB10
      by_cases hst : s.state = 1
      · have e1 : decide (s.state = 1) = true := decide_eq_true hst
        have e1' : (s.state == 1) = true := e1
        rw [if_pos hst] at hT
        cases hT
        clear hst
        have rB11 := cell_stored (i := 1) (v := .int .u8 3) (s' := { s with out := s.out.drop nn, send := s.send - (nn : Int), ends := false, state := 3 }) (ov' := .slice ta 0 tc) rB10 rfl
        have hM11 : Mods (fun b => b = B) W10 (W10.setCell ⟨B, 1, none⟩ (.int .u8 3)) := setMods' rfl
        have rC11 := hM11.heap rC10 (show ¬ C = B by omega)
        have hO11 : OwB W5.heap.size (W10.setCell ⟨B, 1, none⟩ (.int .u8 3)) (.slice ta 0 tc) (s.out.drop nn) := Mods.ownsRow hM11 hO10 fun g hg e => owB_ne hO10 rB10 (by decide) (by rw [hg, e])
        have hD11 : OwB W4.heap.size (W10.setCell ⟨B, 1, none⟩ (.int .u8 3)) (.slice da dn dc) (s.out.take nn) := Mods.ownsRow hM11 hD10 fun g hg e => owB_ne hD10 rB10 (by decide) (by rw [hg, e])
        have hN11 : New w (W10.setCell ⟨B, 1, none⟩ (.int .u8 3)) := hN10.setCell (p := ⟨B, 1, none⟩) (.inl (show w.heap.size ≤ B by omega)) _
        go_upto_region 14 with fail
        have hone9 := cs_one ({ s with out := s.out.drop nn, send := s.send - (nn : Int), ends := false, state := 3 }) (ov := .slice ta 0 tc) rfl
        go_wp2_with (first | (refine op_value rfl (run_load_row 24 (.tmp 4) rfl B rfl 24 _ (0, 0) _ rB11 Tryd.underlying24 rfl info24) ?_) | (refine op_skip rfl (run_store_row 24 (.tmp 8) (.tmp 75) rfl C rfl 24 [.int .i64 0, .int .u8 0, .int .i64 0, .int .i64 0, .int .i64 0, .bool false, .bool false, .slice none 0 0, .int .u8 0, .bool false, .int .i64 0] (St.cs ({ s with out := s.out.drop nn, send := s.send - (nn : Int), ends := false, state := 3 }) (.slice ta 0 tc)) rfl rC11 info24 rfl hone9) ?_))
        have rCf := setRow_heap _ C _ (St.cs ({ s with out := s.out.drop nn, send := s.send - (nn : Int), ends := false, state := 3 }) (.slice ta 0 tc)).toArray 24 (0, 0) rC11
        refine bodyPost_ret (v := .tuple #[.agg (St.cs ({ s with out := s.out.drop nn, send := s.send - (nn : Int), ends := false, state := 3 }) (.slice ta 0 tc)).toArray, .slice da dn dc, .bool true, .bool true]) (results_row4 rfl _ _ C 24 _ (0, 0) _ rfl rCf Tryd.underlying24 rfl info24 rfl rfl rfl) rfl ?_
        exact ⟨_, _, rfl, ⟨_, rfl, (hO11.mono hN5.size).setRow rC11 (by decide)⟩, (hD11.mono hN4.size).setRow rC11 (by decide), hN11.setRow (by omega) _⟩
      · have e1 : decide (s.state = 1) = false := decide_eq_false hst
        have e1' : (s.state == 1) = false := e1
        rw [if_neg hst] at hT
        cases hT
        clear hst
        have rB11 := cell_stored (i := 1) (v := .int .u8 4) (s' := { s with out := s.out.drop nn, send := s.send - (nn : Int), ends := false, state := 4 }) (ov' := .slice ta 0 tc) rB10 rfl
        have hM11 : Mods (fun b => b = B) W10 (W10.setCell ⟨B, 1, none⟩ (.int .u8 4)) := setMods' rfl
        have rC11 := hM11.heap rC10 (show ¬ C = B by omega)
        have hO11 : OwB W5.heap.size (W10.setCell ⟨B, 1, none⟩ (.int .u8 4)) (.slice ta 0 tc) (s.out.drop nn) := Mods.ownsRow hM11 hO10 fun g hg e => owB_ne hO10 rB10 (by decide) (by rw [hg, e])
        have hD11 : OwB W4.heap.size (W10.setCell ⟨B, 1, none⟩ (.int .u8 4)) (.slice da dn dc) (s.out.take nn) := Mods.ownsRow hM11 hD10 fun g hg e => owB_ne hD10 rB10 (by decide) (by rw [hg, e])
        have hN11 : New w (W10.setCell ⟨B, 1, none⟩ (.int .u8 4)) := hN10.setCell (p := ⟨B, 1, none⟩) (.inl (show w.heap.size ≤ B by omega)) _
        go_upto_region 14 with fail
        have hone9 := cs_one ({ s with out := s.out.drop nn, send := s.send - (nn : Int), ends := false, state := 4 }) (ov := .slice ta 0 tc) rfl
        go_wp2_with (first | (refine op_value rfl (run_load_row 24 (.tmp 4) rfl B rfl 24 _ (0, 0) _ rB11 Tryd.underlying24 rfl info24) ?_) | (refine op_skip rfl (run_store_row 24 (.tmp 8) (.tmp 75) rfl C rfl 24 [.int .i64 0, .int .u8 0, .int .i64 0, .int .i64 0, .int .i64 0, .bool false, .bool false, .slice none 0 0, .int .u8 0, .bool false, .int .i64 0] (St.cs ({ s with out := s.out.drop nn, send := s.send - (nn : Int), ends := false, state := 4 }) (.slice ta 0 tc)) rfl rC11 info24 rfl hone9) ?_))
        have rCf := setRow_heap _ C _ (St.cs ({ s with out := s.out.drop nn, send := s.send - (nn : Int), ends := false, state := 4 }) (.slice ta 0 tc)).toArray 24 (0, 0) rC11
        refine bodyPost_ret (v := .tuple #[.agg (St.cs ({ s with out := s.out.drop nn, send := s.send - (nn : Int), ends := false, state := 4 }) (.slice ta 0 tc)).toArray, .slice da dn dc, .bool true, .bool true]) (results_row4 rfl _ _ C 24 _ (0, 0) _ rfl rCf Tryd.underlying24 rfl info24 rfl rfl rfl) rfl ?_
        exact ⟨_, _, rfl, ⟨_, rfl, (hO11.mono hN5.size).setRow rC11 (by decide)⟩, (hD11.mono hN4.size).setRow rC11 (by decide), hN11.setRow (by omega) _⟩
end Go.Proofs.YtkjghojdfjhhkaaDoor
