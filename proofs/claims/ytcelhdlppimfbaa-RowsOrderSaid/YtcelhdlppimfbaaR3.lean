/- All slots; how many; a slot's urgency. -/
import Derived.Test.YtcelhdlppimfbaaP1
namespace Go.Proofs.Ytcelhdlppimfbaa
open Go.RowKit Go.Shelf Go.Cs
attribute [local go_sem] Oper.semAt_some
theorem owns_slice {W : World} {base e size n : Nat} {v : Value} {xs : List Value} (h : W.ownsRow base e size v n xs) : ∃ ao cap, v = .slice ao n cap := by
  rcases h.2 with ⟨rfl, rfl⟩ | ⟨g, cap, cur, rfl, _⟩
  · exact ⟨_, _, rfl⟩
  · exact ⟨_, _, rfl⟩
theorem owns_base {W : World} {base base' e size n : Nat} {v : Value} {xs : List Value} (h : W.ownsRow base e size v n xs) (hb : base' ≤ base) : W.ownsRow base' e size v n xs :=
  ⟨h.1, h.2.imp id fun ⟨g, cap, cur, h1, h2, r⟩ => ⟨g, cap, cur, h1, by omega, r⟩⟩
set_option maxHeartbeats 1000000 in
theorem all_any (vs : List Value) (hl : vs.length = 8) (X : Nat → List Int) (w : World) (hr : Rd w vs X) (hx : In64 X) :
    Calls Try.prog 14 #[.agg vs.toArray] w fun e w' => ∃ v, e = .returned v ∧ w'.ownsRow w.heap.size 3 1 v (allF X).length ((allF X).map (Value.int .i64)) ∧ New w w' := by
  have HR := Lib.hid (fun w hr => right_any vs hl X w hr hx)
  obtain ⟨b, hb⟩ : ∃ b, rightR X = b := ⟨_, rfl⟩
  rw [hb] at HR
  have Hb := Lib.hid hb
  have Hlen := Lib.hid (fun h => right_len (X := X) h)
  have Hx := Lib.hid hx
  obtain ⟨L, hL⟩ : ∃ L, allF X = L := ⟨_, rfl⟩
  have HL := Lib.hid hL
  rw [hL]
  have Hi := Lib.hid (show (Try.prog.info? 23).map (·.size) = some vs.toArray.size by rw [List.size_toArray, hl]; exact info23)
  have Hl := Lib.hid hl
  clear hb hx hL hl
  obtain ⟨i0, hi, hz0, hz1, hz2⟩ := info_parts info3
  refine calls_of_marks Try.func14 rfl ?_
  simp only [Try.ntmps14, List.size_toArray, List.length_cons, List.length_nil, Nat.reduceAdd, Nat.reduceSub, Array.replicate_succ, Array.replicate_zero, List.push_toArray, List.append_toArray, List.nil_append, List.cons_append]
  have hh0 : ((w.alloc (.cells vs.toArray 23)).alloc (.cells #[.slice none 0 0] 22)).heap[w.heap.size]? = some (.cells vs.toArray 23 (0, 0)) := ((Mods.refl (fun _ => False) _).alloc _).heap (World.alloc_heap_new w _) id
  go_wp2_with (refine op_value rfl (run_load_row 23 (.tmp 1) rfl w.heap.size rfl 23 vs.toArray (0, 0) _ hh0 Try.underlying23 rfl Hi.out) ?_)
  obtain ⟨W0, hW0⟩ : ∃ W0, (w.alloc (.cells vs.toArray 23)).alloc (.cells #[.slice none 0 0] 22) = W0 := ⟨_, rfl⟩
  have hN0 : New w W0 := by rw [← hW0]; exact ((Mods.refl _ _).alloc _).alloc _
  have hsz : W0.heap.size = w.heap.size + 2 := by rw [← hW0]; simp
  have hb1 : Boxed W0 (w.heap.size + 1) 22 (.slice none 0 0) := by rw [← hW0]; exact boxed1 w _ _ _
  rw [hW0] at hh0 ⊢
  have hr0 := hr.new hN0
  clear hW0
  refine (HR.out _ hr0).mono ?_
  rintro e w1 ⟨rfl, hN1⟩
  have k1 := hN1.boxed hb1 id
  have hh1 := hN1.heap hh0 id
  have hr1 := hr0.new hN1
  have hNw := hN0.trans hN1
  have hsz1 : w.heap.size + 2 ≤ w1.heap.size := by have := hN1.size; omega
  clear hb1 hh0 hr0 hN0 hN1 hsz
  cases b with
  | false =>
    obtain ⟨c1, f1⟩ := k1.both
    go_wp2_with fail
    refine marks_none (v := .slice none 0 0) rfl ?_ ⟨_, rfl, ?_, (hNw.setCell (p := ⟨w.heap.size + 1, 0, none⟩) (.inl (by simp)) _)⟩
    · have r1 := (k1.set (.slice none 0 0)).cell
      simp [results, Try.f14, go_sem, r1]
    · obtain rfl : L = [] := by rw [← HL.out, allF, Hb.out]; rfl
      exact World.ownsRow_nil _ _ _ _
  | true =>
    have HL' := Lib.hid (show L = fl X by rw [← HL.out, allF, Hb.out]; rfl)
    have hlen8 := Hlen.out Hb.out
    clear HL Hlen
    go_wp2_with (refine op_value rfl (run_load_row 23 (.tmp 1) rfl w.heap.size rfl 23 vs.toArray (0, 0) _ hh1 Try.underlying23 rfl Hi.out) ?_)
    refine (each_any vs _).mono ?_
    rintro e w2 ⟨rfl, hw2⟩
    have hN2 : New w1 w2 := by rw [← hw2]; exact (Mods.refl _ _).alloc _
    have hB2 : w2.heap[w1.heap.size]? = some (.cells vs.toArray 23 (0, 0)) := by rw [← hw2]; exact World.alloc_heap_new w1 _
    have hb2 := hN2.boxed k1 id
    have hr2 := hr1.new hN2
    have hsz2 : w2.heap.size = w1.heap.size + 1 := by rw [← hw2]; simp
    have hNv := hNw.trans hN2
    obtain ⟨B, hB, hB3⟩ : ∃ B, w1.heap.size = B ∧ w.heap.size + 2 ≤ B := ⟨_, rfl, hsz1⟩
    rw [hB] at hB2 hsz2 ⊢
    clear hw2 k1 hh1 hr1 hN2 hNw hsz1 hB
    go_wp2_with fail
    refine wp_rangeList (gf := 30) (lb := #[.pointer (some ⟨B, 0, none⟩)]) rfl (enters_of Try.func30 (by kernel_rfl) rfl) (flat X) encR (fun b => b = w.heap.size + 1 ∨ B < b)
      (fun W hW => each1_iter _ vs Hl.out X _ (fun u hu hx g hg e => by have := hr.block hu hx hg; omega) W (hW.heap hB2 id) (hr2.new hW)) (fun _ => rfl)
      (fun k W => ∃ v, Boxed W (w.heap.size + 1) 22 v ∧ W.ownsRow w2.heap.size 3 1 v ((flat X).take k).length (((flat X).take k).map fun p => Value.int .i64 p.2) ∧ Mods (fun b => b = w.heap.size + 1 ∨ B < b) w2 W)
      (fun c k W => False)
      (fun k => .ex fun s => .and (.boxed _ _ _) (.and (.ownsRow _ _ _ _ _ _) (.mods (Nat.le_refl _))))
      (fun c k => .pure _)
      ⟨_, hb2, World.ownsRow_nil _ _ _ _, Mods.refl _ _⟩
      (fun p t => ((t.setIfInBounds 10 (.int .i64 p.1)).setIfInBounds 11 (.int .i64 p.2)).setIfInBounds 4 (.int .i64 p.2)) ?assign ?body ?done ?stop
    case assign =>
      rintro l ⟨p1, p2⟩ W K hK
      simp only [encR] at hK ⊢
      gi_wp2
      exact hK
    case body =>
      rintro l k p W hp hl _ ⟨v, hbv, hown, hM⟩
      have ht := take_snoc hp
      obtain ⟨hk, _⟩ := List.getElem?_eq_some_iff.1 hp
      have htl : ((flat X).take k).length = k := by simp; omega
      rw [htl] at hown
      obtain ⟨c1, f1⟩ := hbv.both
      have hszW := hM.size
      obtain ⟨p1, n⟩ := p
      dsimp only at ht ⊢
      have Ht := Lib.hid ht
      obtain ⟨M, hMm⟩ : ∃ M, ((flat X).take k).map (fun p => Value.int .i64 p.2) = M := ⟨_, rfl⟩
      rw [hMm] at hown
      have HMm := Lib.hid hMm
      clear ht hp hb2 hB2 hr hr2 htl hMm
      gi_wp2_with (gi_at_builtin; refine wpListIn_append_own _ rfl _ _ 22 rfl w2.heap.size 3 i0 _ 1 8 Try.underlying22 hi hz0 hz1 hz2 rfl (by decide) _ _ _ rfl (hown.alloc _) ⟨W.heap.size, 0, none⟩ 1 1 [.int .i64 n] rfl rfl ?c1 ?c2 ?c3 ?c4 ?c5 ?_)
      case c1 => exact cell_one_new _ _ _
      case c2 => simp [Value.oneCell']
      case c3 => unfold maxLen; omega
      case c4 => omega
      case c5 => simp; omega
      intro v' W2 hown' hgrow _
      have hrow : ∀ b, v.ownBlock = some b → w2.heap.size ≤ b ∧ b < W.heap.size := fun b hb => hown.lt b hb
      have hM3 : Mods (fun b => w2.heap.size ≤ b) W W2 := ((Mods.refl _ _).alloc _).grown hgrow (fun b hb => .inr ⟨(hrow b hb).1, fun o ho => by
        rcases hown.2 with ⟨rfl, _⟩ | ⟨g, cap, cur, rfl, _, hh, _⟩
        · cases hb
        · cases hb
          rw [Below.heap_alloc _ _ _ (hrow _ rfl).2, hh] at ho
          cases ho; rfl⟩)
      have hb3 := hM3.boxed hbv (by omega)
      obtain ⟨c3, f3⟩ := hb3.both
      have hlt := hown'.lt
      obtain ⟨g', cap', rfl⟩ := ownsRow_succ hown'
      clear c1 f1 hbv hown hgrow hrow
      gi_wp2
      have hM4 : Mods (fun b => b = w.heap.size + 1 ∨ B < b) W W2 := hM3.mono (fun b hb => .inr (by omega))
      refine ⟨hM4.setCell (p := ⟨w.heap.size + 1, 0, none⟩) (.inr (.inl rfl)) _, _, hb3.set _, ?_, (hM.trans hM4).setCell (p := ⟨w.heap.size + 1, 0, none⟩) (.inr (.inl rfl)) _⟩
      rw [Ht.out, List.map_append, HMm.out, show ((flat X).take k ++ [(p1, n)]).length = k + 1 by simp; omega, hsz2]
      exact (mset (o := 0) (Mods.refl (fun b => b = w.heap.size + 1) W2) _).ownsRow hown' (fun g hg e => by have := hlt g hg; omega)
    case done =>
      rintro W ⟨v, hbv, hown, hM⟩ hD
      rw [List.take_length] at hown
      obtain ⟨c1, f1⟩ := hbv.both
      obtain ⟨ao, cap, rfl⟩ := owns_slice hown
      have HO := Lib.hid hown
      clear hown
      go_wp2_with fail
      have p1 := hbv.set (.slice ao (flat X).length cap)
      have hD' := (KeepsOthers.setCell W ⟨w.heap.size + 1, 0, none⟩ (.slice ao (flat X).length cap)).same _ _ hD rfl
      have q1 := (Stab.boxed (B := 0) _ _ _ _ _ p1 (Quiet.putObj (.deferred none) hD' rfl (Nat.zero_le _))).cell
      have hMM : Mods (fun b => b = w.heap.size + 1 ∨ B < b) w (W.setCell ⟨w.heap.size + 1, 0, none⟩ (.slice ao (flat X).length cap)) := ((Mods.ofNew hNv).trans hM).setCell (p := ⟨w.heap.size + 1, 0, none⟩) (.inr (.inl rfl)) (.slice ao (flat X).length cap)
      refine marks_one rfl hD' (v := .slice ao (flat X).length cap) ?_ ⟨_, rfl, ?_, (hMM.new (by omega)).putObj (by omega) _⟩
      · simp [results, Try.f14, go_sem, q1]
      · have h1 := (mset (o := 0) (Mods.refl (fun b => b = w.heap.size + 1) W) (.slice ao (flat X).length cap)).ownsRow HO.out (fun g hg e => by have := HO.out.lt g hg; omega)
        have h2 := Stab.ownsRow (B := 0) _ _ _ _ _ _ _ _ h1 (Quiet.putObj (.deferred none) hD' rfl (Nat.zero_le _))
        rw [HL'.out, fl, List.length_map, List.map_map]
        exact owns_base h2 (by omega)
    case stop =>
      rintro c k W hk h
      exact h.elim
end Go.Proofs.Ytcelhdlppimfbaa
