/- How many; a slot's urgency. -/
import Derived.Test.YtcelhdlppimfbaaR3
namespace Go.Proofs.Ytcelhdlppimfbaa
open Go.RowKit Go.Shelf Go.Cs
attribute [local go_sem] Oper.semAt_some
theorem many_any (vs : List Value) (hl : vs.length = 8) (X : Nat → List Int) (w : World) (hr : Rd w vs X) (hx : In64 X) :
    Calls Try.prog 13 #[.agg vs.toArray] w fun e w' => e = .returned (.int .i64 (allF X).length) ∧ New w w' := by
  have HA := Lib.hid (fun w hr => all_any vs hl X w hr hx)
  have Hi := Lib.hid (show (Try.prog.info? 23).map (·.size) = some vs.toArray.size by rw [List.size_toArray, hl]; exact info23)
  clear hl hx
  have hh0 := World.alloc_heap_new w (.cells vs.toArray 23)
  have hr0 := hr.new ((Mods.refl _ w).alloc (.cells vs.toArray 23))
  have hN0 := (Mods.refl (fun _ => False) w).alloc (.cells vs.toArray 23)
  go_enter Try.func13, Try.ntmps13
  go_wp2_with (refine op_value rfl (run_load_row 23 (.tmp 1) rfl w.heap.size rfl 23 vs.toArray (0, 0) _ hh0 Try.underlying23 rfl Hi.out) ?_)
  refine (HA.out _ hr0).mono ?_
  rintro e w1 ⟨v, rfl, hown, hN1⟩
  obtain ⟨ao, cap, rfl⟩ := owns_slice hown
  clear hown
  go_wp2_with fail
  go_ret
  exact ⟨rfl, hN0.trans hN1⟩
def findR (X : Nat → List Int) (s : Int) : Option Nat := if rightR X then ((flat X).find? (fun p => p.2 == s)).map (·.1) else none
def optT (o : Option Nat) : Value := .tuple #[.int .i64 (o.getD 0 : Nat), .bool o.isSome]
theorem find_first {α : Type} {L : List α} {q : α → Bool} {k : Nat} {p : α} (hp : L[k]? = some p) (hq : q p = true) (hb : ∀ j x, j < k → L[j]? = some x → q x = false) : L.find? q = some p := by
  obtain ⟨hk, rfl⟩ := List.getElem?_eq_some_iff.1 hp
  rw [List.find?_eq_some_iff_getElem]
  exact ⟨hq, k, hk, rfl, fun j hj => by rw [hb j _ hj (List.getElem?_eq_getElem (by omega))]; rfl⟩
set_option maxHeartbeats 1000000 in
theorem find_any (vs : List Value) (hl : vs.length = 8) (X : Nat → List Int) (s : Int) (w : World) (hr : Rd w vs X) (hx : In64 X) :
    Calls Try.prog 15 #[.agg vs.toArray, .int .i64 s] w fun e w' => e = .returned (optT (findR X s)) ∧ New w w' := by
  have HR := Lib.hid (fun w hr => right_any vs hl X w hr hx)
  obtain ⟨b, hb⟩ : ∃ b, rightR X = b := ⟨_, rfl⟩
  rw [hb] at HR
  have Hb := Lib.hid hb
  obtain ⟨r, hR⟩ : ∃ r, findR X s = r := ⟨_, rfl⟩
  have Hr := Lib.hid hR
  rw [hR]
  have Hi := Lib.hid (show (Try.prog.info? 23).map (·.size) = some vs.toArray.size by rw [List.size_toArray, hl]; exact info23)
  have Hl := Lib.hid hl
  clear hb hx hR hl
  refine calls_of_marks Try.func15 rfl ?_
  simp only [Try.ntmps15, List.size_toArray, List.length_cons, List.length_nil, Nat.reduceAdd, Nat.reduceSub, Array.replicate_succ, Array.replicate_zero, List.push_toArray, List.append_toArray, List.nil_append, List.cons_append]
  go_wp2
  refine wp_scope_fwd 0 (fun a W => ∃ (d : _) (c6 c7 c8 c9 c10 c11 c12 c13 c14 c15 c16 c17 c18 : Value), a = ⟨#[.agg vs.toArray, .int .i64 s, .pointer (some ⟨w.heap.size, 0, none⟩), .pointer (some ⟨w.heap.size + 1, 0, none⟩), .pointer (some ⟨w.heap.size + 1 + 1, 0, none⟩), .pointer (some ⟨w.heap.size + 1 + 1 + 1, 0, none⟩), c6, c7, c8, c9, c10, c11, c12, c13, c14, c15, c16, c17, c18], d⟩ ∧
    (d = [] ∨ ∃ D, d = [{ target := .collected D, args := #[] }] ∧ w.heap.size + 4 ≤ D ∧ W.heap[D]? = some (.deferred (some []))) ∧ (∃ v, Boxed W (w.heap.size + 1 + 1) 3 (.int .i64 v)) ∧ (∃ v, Boxed W (w.heap.size + 1 + 1 + 1) 4 (.bool v)) ∧ New w W ∧ r = none) rfl ?first ?pass
  case pass =>
    rintro _ W ⟨d, c6, c7, c8, c9, c10, c11, c12, c13, c14, c15, c16, c17, c18, rfl, hd, ⟨v1, k1⟩, ⟨v2, k2⟩, hN, rfl⟩
    obtain ⟨d1, f1⟩ := k1.both
    obtain ⟨d2, f2⟩ := k2.both
    go_wp2
    have p1 := ((k1.set (.int .i64 0)).other (B' := w.heap.size + 1 + 1 + 1) (by omega) (.bool false))
    have p2 := ((k2.other (B' := w.heap.size + 1 + 1) (by omega) (.int .i64 0)).set (.bool false))
    have hNN := (hN.setCell (p := ⟨w.heap.size + 1 + 1, 0, none⟩) (.inl (by simp; omega)) (.int .i64 0)).setCell (p := ⟨w.heap.size + 1 + 1 + 1, 0, none⟩) (.inl (by simp; omega)) (.bool false)
    rcases hd with rfl | ⟨D, rfl, hD, hWD⟩
    · refine marks_none (v := optT none) rfl ?_ ⟨rfl, hNN⟩
      simp [results, Try.f15, go_sem, p1.cell, p2.cell, optT]
    · have hD' := (((KeepsOthers.setCell W ⟨w.heap.size + 1 + 1, 0, none⟩ (.int .i64 0)).trans (KeepsOthers.setCell _ ⟨w.heap.size + 1 + 1 + 1, 0, none⟩ (.bool false))).same _ _ hWD rfl)
      have q1 := (Stab.boxed (B := 0) _ _ _ _ _ p1 (Quiet.putObj (.deferred none) hD' rfl (Nat.zero_le _))).cell
      have q2 := (Stab.boxed (B := 0) _ _ _ _ _ p2 (Quiet.putObj (.deferred none) hD' rfl (Nat.zero_le _))).cell
      refine marks_one rfl hD' (v := optT none) ?_ ⟨rfl, hNN.putObj (by omega) _⟩
      simp [results, Try.f15, go_sem, q1, q2, optT]
  case first =>
    have hh0 : ((((w.alloc (.cells vs.toArray 23)).alloc (.cells #[.int .i64 s] 3)).alloc (.cells #[.int .i64 0] 3)).alloc (.cells #[.bool false] 4)).heap[w.heap.size]? = some (.cells vs.toArray 23 (0, 0)) := ((((Mods.refl (fun _ => False) _).alloc _).alloc _).alloc _).heap (World.alloc_heap_new w _) id
    go_wp2_with (refine op_value rfl (run_load_row 23 (.tmp 2) rfl w.heap.size rfl 23 vs.toArray (0, 0) _ hh0 Try.underlying23 rfl Hi.out) ?_)
    obtain ⟨W0, hW0⟩ : ∃ W0, (((w.alloc (.cells vs.toArray 23)).alloc (.cells #[.int .i64 s] 3)).alloc (.cells #[.int .i64 0] 3)).alloc (.cells #[.bool false] 4) = W0 := ⟨_, rfl⟩
    have hN0 : New w W0 := by rw [← hW0]; exact ((((Mods.refl _ _).alloc _).alloc _).alloc _).alloc _
    have hsz : W0.heap.size = w.heap.size + 4 := by rw [← hW0]; simp
    have hb0 : Boxed W0 (w.heap.size + 1) 3 (.int .i64 s) := by rw [← hW0]; exact ((boxed1 w _ _ _).alloc _).alloc _
    have hb1 : Boxed W0 (w.heap.size + 1 + 1) 3 (.int .i64 0) := by rw [← hW0]; exact (boxed2 w _ _ _ _).alloc _
    have hb2 : Boxed W0 (w.heap.size + 1 + 1 + 1) 4 (.bool false) := by rw [← hW0]; exact boxed3 w _ _ _ _ _
    rw [hW0] at hh0 ⊢
    have hr0 := hr.new hN0
    clear hW0
    refine (HR.out _ hr0).mono ?_
    rintro e w1 ⟨rfl, hN1⟩
    have k0 := hN1.boxed hb0 id
    have k1 := hN1.boxed hb1 id
    have k2 := hN1.boxed hb2 id
    have hh1 := hN1.heap hh0 id
    have hr1 := hr0.new hN1
    have hNw := hN0.trans hN1
    have hsz1 : w.heap.size + 4 ≤ w1.heap.size := by have := hN1.size; omega
    clear hb0 hb1 hb2 hh0 hr0 hN0 hN1 hsz
    cases b with
    | false =>
      obtain rfl : r = none := by rw [← Hr.out, findR, Hb.out]; rfl
      go_wp2_with fail
      exact wp_goto (And.intro rfl ⟨_, _, _, _, _, _, _, _, _, _, _, _, _, _, rfl, .inl rfl, ⟨_, k1⟩, ⟨_, k2⟩, hNw, rfl⟩)
    | true =>
      go_wp2_with (refine op_value rfl (run_load_row 23 (.tmp 2) rfl w.heap.size rfl 23 vs.toArray (0, 0) _ hh1 Try.underlying23 rfl Hi.out) ?_)
      refine (each_any vs _).mono ?_
      rintro e w2 ⟨rfl, hw2⟩
      have hN2 : New w1 w2 := by rw [← hw2]; exact (Mods.refl _ _).alloc _
      have hB2 : w2.heap[w1.heap.size]? = some (.cells vs.toArray 23 (0, 0)) := by rw [← hw2]; exact World.alloc_heap_new w1 _
      have m0 := hN2.boxed k0 id
      have m1 := hN2.boxed k1 id
      have m2 := hN2.boxed k2 id
      have hr2 := hr1.new hN2
      have hNv := hNw.trans hN2
      have hsz2 : w1.heap.size < w2.heap.size := by rw [← hw2]; simp
      obtain ⟨B, hB, hB3⟩ : ∃ B, w1.heap.size = B ∧ w.heap.size + 4 ≤ B := ⟨_, rfl, hsz1⟩
      rw [hB] at hB2 hsz2 ⊢
      clear hw2 k0 k1 k2 hh1 hr1 hN2 hNw hsz1 hB
      go_wp2_with fail
      refine wp_rangeList (gf := 30) (lb := #[.pointer (some ⟨B, 0, none⟩)]) rfl (enters_of Try.func30 (by kernel_rfl) rfl) (flat X) encR (fun b => b = w.heap.size + 1 + 1 ∨ b = w.heap.size + 1 + 1 + 1)
        (fun W hW => each1_iter _ vs Hl.out X _ (fun u hu hx g hg e => by have := hr.block hu hx hg; omega) W (hW.heap hB2 id) (hr2.new hW)) (fun _ => rfl)
        (fun k W => (∀ j p, j < k → (flat X)[j]? = some p → (p.2 == s) = false) ∧ Boxed W (w.heap.size + 1) 3 (.int .i64 s) ∧ Boxed W (w.heap.size + 1 + 1) 3 (.int .i64 0) ∧ Boxed W (w.heap.size + 1 + 1 + 1) 4 (.bool false) ∧ Mods (fun b => b = w.heap.size + 1 + 1 ∨ b = w.heap.size + 1 + 1 + 1) w2 W)
        (fun c k W => c = .ret ∧ ∃ u, r = some u ∧ Boxed W (w.heap.size + 1 + 1) 3 (.int .i64 (u : Nat)) ∧ Boxed W (w.heap.size + 1 + 1 + 1) 4 (.bool true) ∧ Mods (fun b => b = w.heap.size + 1 + 1 ∨ b = w.heap.size + 1 + 1 + 1) w2 W)
        (fun k => .and (.pure _) (.and (.boxed _ _ _) (.and (.boxed _ _ _) (.and (.boxed _ _ _) (.mods (Nat.le_refl _))))))
        (fun c k => .and (.pure _) (.ex fun j => .and (.pure _) (.and (.boxed _ _ _) (.and (.boxed _ _ _) (.mods (Nat.le_refl _))))))
        ⟨by omega, m0, m1, m2, Mods.refl _ _⟩
        (fun p t => (((t.setIfInBounds 13 (.int .i64 p.1)).setIfInBounds 14 (.int .i64 p.2)).setIfInBounds 6 (.int .i64 p.1)).setIfInBounds 7 (.int .i64 p.2)) ?assign ?body ?done ?stop
      case assign =>
        rintro l ⟨p1, p2⟩ W K hK
        simp only [encR] at hK ⊢
        gi_wp2
        exact hK
      case body =>
        rintro l k p W hp hl _ ⟨hbefore, n0, n1, n2, hM⟩
        clear m0 m1 m2
        have Hp := Lib.hid hp
        have Hbefore := Lib.hid hbefore
        obtain ⟨p1, n⟩ := p
        dsimp only
        have c0 := n0.cell
        obtain ⟨c1, f1⟩ := n1.both
        obtain ⟨c2, f2⟩ := n2.both
        clear hp hbefore hr hr2 hB2
        by_cases hns : n = s
        · have hq : (n == s) = true := by simp [hns]
          have HR : Hid (r = some p1) := Lib.hid (by
            rw [← Hr.out, findR, Hb.out, if_pos rfl, find_first Hp.out (by simpa using hns) Hbefore.out]; rfl)
          clear hns
          gi_wp2
          exact ⟨(Mods.refl _ _ |>.setCell (p := ⟨w.heap.size + 1 + 1, 0, none⟩) (.inr (.inl rfl)) _).setCell (p := ⟨w.heap.size + 1 + 1 + 1, 0, none⟩) (.inr (.inr rfl)) _, rfl, p1, HR.out,
            (n1.set _).other (by omega) _, (n2.other (by omega) _).set _, (hM.setCell (p := ⟨w.heap.size + 1 + 1, 0, none⟩) (.inr (.inl rfl)) _).setCell (p := ⟨w.heap.size + 1 + 1 + 1, 0, none⟩) (.inr (.inr rfl)) _⟩
        · have hq : (n == s) = false := by simp [hns]
          have HN : Hid (∀ j p, j < k + 1 → (flat X)[j]? = some p → (p.2 == s) = false) := Lib.hid (fun j p hj hp => by
            rcases Nat.lt_or_ge j k with h | h
            · exact Hbefore.out j p h hp
            · obtain rfl : j = k := by omega
              have := Hp.out.symm.trans hp
              cases this
              exact hq)
          clear hns
          gi_wp2
          exact ⟨Mods.refl _ _, HN.out, n0, n1, n2, hM⟩
      case done =>
        rintro W ⟨hall, _, n1, n2, hM⟩ hD
        obtain rfl : r = none := by
          rw [← Hr.out, findR, Hb.out, if_pos rfl, List.find?_eq_none.2]
          · rfl
          · intro p hp
            obtain ⟨j, hj⟩ := List.getElem?_of_mem hp
            rw [hall j p (List.getElem?_eq_some_iff.1 hj).1 hj]; simp
        obtain ⟨d1, f1⟩ := n1.both
        obtain ⟨d2, f2⟩ := n2.both
        clear hall
        go_wp2
        refine wp_label ?_
        go_wp2
        have p1 := ((n1.set (.int .i64 0)).other (B' := w.heap.size + 1 + 1 + 1) (by omega) (.bool false))
        have p2 := ((n2.other (B' := w.heap.size + 1 + 1) (by omega) (.int .i64 0)).set (.bool false))
        have hMM := (((Mods.ofNew hNv).trans hM).setCell (p := ⟨w.heap.size + 1 + 1, 0, none⟩) (.inr (.inl rfl)) (.int .i64 0)).setCell (p := ⟨w.heap.size + 1 + 1 + 1, 0, none⟩) (.inr (.inr rfl)) (.bool false)
        have hD' := (((KeepsOthers.setCell W ⟨w.heap.size + 1 + 1, 0, none⟩ (.int .i64 0)).trans (KeepsOthers.setCell _ ⟨w.heap.size + 1 + 1 + 1, 0, none⟩ (.bool false))).same _ _ hD rfl)
        have q1 := (Stab.boxed (B := 0) _ _ _ _ _ p1 (Quiet.putObj (.deferred none) hD' rfl (Nat.zero_le _))).cell
        have q2 := (Stab.boxed (B := 0) _ _ _ _ _ p2 (Quiet.putObj (.deferred none) hD' rfl (Nat.zero_le _))).cell
        refine marks_one rfl hD' (v := optT none) ?_ ⟨rfl, (hMM.new (by omega)).putObj (by omega) _⟩
        simp [results, Try.f15, go_sem, q1, q2, optT]
      case stop =>
        rintro c k W hk ⟨rfl, u, rfl, n1, n2, hM⟩ hD
        refine wp_ret ?_
        have q1 := (Stab.boxed (B := 0) _ _ _ _ _ n1 (Quiet.putObj (.deferred none) hD rfl (Nat.zero_le _))).cell
        have q2 := (Stab.boxed (B := 0) _ _ _ _ _ n2 (Quiet.putObj (.deferred none) hD rfl (Nat.zero_le _))).cell
        refine marks_one rfl hD (v := optT (some u)) ?_ ⟨rfl, (((Mods.ofNew hNv).trans hM).new (by omega)).putObj (by omega) _⟩
        simp [results, Try.f15, go_sem, q1, q2, optT]
end Go.Proofs.Ytcelhdlppimfbaa
