/- The first one that is ready and so. -/
import Derived.Test.YtkjloeefcaadlaaP06
set_option linter.unusedSimpArgs false
set_option linter.unusedVariables false
namespace Go.Proofs.Ytkjloeefcaadlaa
open Go.RowKit Go.Shelf Go.Cs
attribute [local go_sem] Oper.semAt_some
/-- A counter that a closure keeps, if it does. -/
def CntAt (nb : Option Nat) (k : Nat) (W : World) : Prop := ∀ B, nb = some B → Boxed W B 3 (.int .i64 (k : Nat))
theorem _root_.Go.Cs.Stab.cnt {C : Nat} (nb : Option Nat) (k : Nat) : Stab C (CntAt nb k) := fun W W' h q B hB => Stab.boxed B 3 _ W W' (h B hB) q
theorem CntAt.mods {nb : Option Nat} {k : Nat} {S : Nat → Prop} {W W' : World} (h : CntAt nb k W) (hm : Mods S W W') (hS : ∀ B, nb = some B → ¬ S B) : CntAt nb k W' := fun B hB => hm.boxed (h B hB) (hS B hB)
theorem CntAt.set {nb : Option Nat} {k : Nat} {W : World} (h : CntAt nb k W) (B : Nat) (hB : nb ≠ some B) (v : Value) : CntAt nb k (W.setCell ⟨B, 0, none⟩ v) := fun C hC => (h C hC).other (by rintro rfl; exact hB hC) v
theorem CntAt.put {nb : Option Nat} {k : Nat} {W : World} (h : CntAt nb k W) {D : Nat} {o o' : Obj} (hD : W.heap[D]? = some o) (ho : o.isCells = false) : CntAt nb k (W.putObj D o') :=
  Stab.cnt (C := 0) nb k _ _ h (Quiet.putObj o' hD ho (Nat.zero_le _))
def tripT (o : Option (Int × Nat)) : Value := .tuple #[.int .i64 ((o.map (·.1)).getD 0), .int .i64 ((o.map (·.2)).getD 0 : Nat), .bool o.isSome]
theorem find_at {α : Type} {f : α → Bool} {l : List α} {j : Nat} {p : α} (hj : l[j]? = some p) (hp : f p = true) (hb : ∀ i q, i < j → l[i]? = some q → f q = false) : l.find? f = some p := by
  obtain ⟨hl, rfl⟩ := List.getElem?_eq_some_iff.1 hj
  rw [List.find?_eq_some_iff_getElem]
  refine ⟨hp, j, hl, rfl, fun i hi => ?_⟩
  have := hb i l[i] hi (List.getElem?_eq_getElem (by omega))
  simp [this]
/-- What is told, and how often the closure was asked. -/
structure FirstP (x : Nat) (h : Nat → Int) (so : Int → Bool) (nb : Option Nat) (w : World) (v : Value) (e : Ending) (w' : World) : Prop where
  ret : e = .returned v
  mods : Mods (fun b => nb = some b) w w'
  cnt : ∃ k, CntAt nb k w' ∧ (rightT x h = false ∧ k = 0 ∨ rightT x h = true ∧ ((∃ p, p ∈ allT x h ∧ so p.1 = true) ∨ k = (allT x h).length))
set_option maxRecDepth 100000 in
set_option maxHeartbeats 1000000 in
theorem first_t (x : Nat) (h : Nat → Int) (hx : x < 18446744073709551616) (hh : In8 h) (g : Nat) (lb : Array Value) (so : Int → Bool) (nb : Option Nat) (w : World)
    (eg : ∀ args w, (callFunc g args).run Try.prog w = .ok (.enter g args) w) (hnb : CntAt nb 0 w)
    (hso : rightT x h = true → ∀ k p W, (allT x h)[k]? = some p → CntAt nb k W → Mods (fun b => w.heap.size ≤ b ∨ nb = some b) w W →
      Calls Try.prog g (#[.int .i64 p.1] ++ lb) W fun e W' => e = .returned (.bool (so p.1)) ∧ CntAt nb (k + 1) W' ∧ Mods (fun b => nb = some b) W W') :
    Calls Try.prog 85 #[.agg (rc x h).toArray, .func (.func g) #[] lb] w (FirstP x h so nb w (tripT (firstT x h so))) := by
  have Hso := Lib.hid hso
  clear hso
  have hnlt : ∀ B, nb = some B → B < w.heap.size := fun B hB => (Array.getElem?_eq_some_iff.1 (hnb B hB)).1
  have Hnb := Lib.hid hnb
  have Hnl := Lib.hid hnlt
  have Hx := Lib.hid (right_t x h hx hh)
  obtain ⟨r, hr⟩ : ∃ r, firstT x h so = r := ⟨_, rfl⟩
  have Hr := Lib.hid hr
  rw [hr]
  clear hr
  obtain ⟨b, hb⟩ : ∃ b, rightT x h = b := ⟨_, rfl⟩
  rw [hb] at Hx Hso
  have Hb := Lib.hid hb
  clear hb hnb hnlt hh
  have hi51 : (Try.prog.info? 51).map (·.size) = some (rc x h).toArray.size := info51
  refine calls_of_marks Try.func85 rfl ?_
  simp only [Try.ntmps85, List.size_toArray, List.length_cons, List.length_nil, Nat.reduceAdd, Nat.reduceSub, Array.replicate_succ, Array.replicate_zero, List.push_toArray, List.append_toArray, List.nil_append, List.cons_append]
  have hR0 : RAt (((((w.alloc (.cells (rc x h).toArray 51)).alloc (.cells #[.func (.func g) #[] lb] 38)).alloc (.cells #[.int .i64 0] 3)).alloc (.cells #[.int .i64 0] 3)).alloc (.cells #[.bool false] 4)) w.heap.size x h :=
    ((((Mods.refl (fun _ => False) _).alloc _).alloc _).alloc _ |>.alloc _).heap (World.alloc_heap_new w _) id
  go_wp2_with (refine op_value rfl (run_load_row 51 (.tmp 2) rfl w.heap.size rfl 51 (rc x h).toArray (0, 0) _ hR0 Try.underlying51 rfl hi51) ?_)
  obtain ⟨W0, hW0⟩ : ∃ W0, (((((w.alloc (.cells (rc x h).toArray 51)).alloc (.cells #[.func (.func g) #[] lb] 38)).alloc (.cells #[.int .i64 0] 3)).alloc (.cells #[.int .i64 0] 3)).alloc (.cells #[.bool false] 4)) = W0 := ⟨_, rfl⟩
  have hN0 : New w W0 := by rw [← hW0]; exact (((((Mods.refl _ _).alloc _).alloc _).alloc _).alloc _).alloc _
  have hsz : W0.heap.size = w.heap.size + 5 := by rw [← hW0]; simp
  have hb0 : Boxed W0 (w.heap.size + 1) 38 (.func (.func g) #[] lb) := by rw [← hW0]; exact (((boxed1 w _ _ _).alloc _).alloc _).alloc _
  have hb1 : Boxed W0 (w.heap.size + 1 + 1) 3 (.int .i64 0) := by rw [← hW0]; exact ((boxed2 w _ _ _ _).alloc _).alloc _
  have hb2 : Boxed W0 (w.heap.size + 1 + 1 + 1) 3 (.int .i64 0) := by rw [← hW0]; exact (boxed3 w _ _ _ _ _).alloc _
  have hb3 : Boxed W0 (w.heap.size + 1 + 1 + 1 + 1) 4 (.bool false) := by
    rw [← hW0]
    have := boxed3 (w.alloc (.cells (rc x h).toArray 51)) (.cells #[.func (.func g) #[] lb] 38) (.cells #[.int .i64 0] 3) (.cells #[.int .i64 0] 3) 4 (.bool false)
    rwa [World.size_alloc] at this
  rw [hW0] at hR0 ⊢
  clear hW0
  refine (Hx.out _).mono ?_
  rintro e w1 ⟨rfl, hN1⟩
  have hR1 := hR0.mods hN1 id
  have k0 := hN1.boxed hb0 id
  have k1 := hN1.boxed hb1 id
  have k2 := hN1.boxed hb2 id
  have k3 := hN1.boxed hb3 id
  have hsz1 : w.heap.size + 5 ≤ w1.heap.size := by have := hN1.size; omega
  have hNw := hN0.trans hN1
  have hcn1 : Hid (CntAt nb 0 w1) := Lib.hid (Hnb.out.mods hNw fun _ _ => id)
  clear hR0 hN0 hN1 hb0 hb1 hb2 hb3 hsz Hnb
  cases b with
  | false =>
    obtain ⟨c1, f1⟩ := k1.both
    obtain ⟨c2, f2⟩ := k2.both
    obtain ⟨c3, f3⟩ := k3.both
    go_wp2_with fail
    have r1 := (((k1.set (.int .i64 0)).other (B' := w.heap.size + 1 + 1 + 1) (by omega) (.int .i64 0)).other (B' := w.heap.size + 1 + 1 + 1 + 1) (by omega) (.bool false)).cell
    have r2 := (((k2.other (B' := w.heap.size + 1 + 1) (by omega) (.int .i64 0)).set (.int .i64 0)).other (B' := w.heap.size + 1 + 1 + 1 + 1) (by omega) (.bool false)).cell
    have r3 := (((k3.other (B' := w.heap.size + 1 + 1) (by omega) (.int .i64 0)).other (B' := w.heap.size + 1 + 1 + 1) (by omega) (.int .i64 0)).set (.bool false)).cell
    have hNN := ((hNw.setCell (p := ⟨w.heap.size + 1 + 1, 0, none⟩) (.inl (by simp; omega)) (.int .i64 0)).setCell (p := ⟨w.heap.size + 1 + 1 + 1, 0, none⟩) (.inl (by simp; omega)) (.int .i64 0)).setCell (p := ⟨w.heap.size + 1 + 1 + 1 + 1, 0, none⟩) (.inl (by simp; omega)) (.bool false)
    have hcn := ((hcn1.out.set (w.heap.size + 1 + 1) (fun e => by have := Hnl.out _ e; omega) (.int .i64 0)).set (w.heap.size + 1 + 1 + 1) (fun e => by have := Hnl.out _ e; omega) (.int .i64 0)).set (w.heap.size + 1 + 1 + 1 + 1) (fun e => by have := Hnl.out _ e; omega) (.bool false)
    refine marks_none (v := tripT r) rfl ?_ ⟨rfl, Mods.ofNew hNN, 0, hcn, .inl ⟨Hb.out, rfl⟩⟩
    obtain rfl : r = none := by rw [← Hr.out, firstT, Hb.out]; rfl
    simp [results, Try.f85, go_sem, r1, r2, r3, tripT]
  | true =>
    go_wp2_with (refine op_value rfl (run_load_row 51 (.tmp 2) rfl w.heap.size rfl 51 (rc x h).toArray (0, 0) _ hR1 Try.underlying51 rfl hi51) ?_)
    refine (all_any x h _).mono ?_
    rintro e w2 ⟨rfl, hw2⟩
    have hN2 : New w1 w2 := by rw [← hw2]; exact (Mods.refl _ _).alloc _
    have hR2 : RAt w2 w1.heap.size x h := by rw [← hw2]; exact World.alloc_heap_new w1 _
    have m0 := hN2.boxed k0 id
    have m1 := hN2.boxed k1 id
    have m2 := hN2.boxed k2 id
    have m3 := hN2.boxed k3 id
    have hcn2 : CntAt nb 0 w2 := hcn1.out.mods hN2 fun _ _ => id
    have hsz2 : w2.heap.size = w1.heap.size + 1 := by rw [← hw2]; simp
    have hNv := hNw.trans hN2
    obtain ⟨B, hB, hB3⟩ : ∃ B, w1.heap.size = B ∧ w.heap.size + 5 ≤ B := ⟨_, rfl, hsz1⟩
    rw [hB] at hR2 hsz2 ⊢
    clear hw2 k0 k1 k2 k3 hR1 hN2 hNw hsz1 hB hi51 hcn1
    go_wp2_with fail
    refine wp_rangeList (gf := 163) (lb := #[.pointer (some ⟨B, 0, none⟩)]) rfl (enters_of Try.func163 (by kernel_rfl) rfl) (allT x h) encA (fun b => (b = w.heap.size + 1 + 1 ∨ b = w.heap.size + 1 + 1 + 1 ∨ b = w.heap.size + 1 + 1 + 1 + 1) ∨ nb = some b)
      (fun W hW => all1_iter B x h hx _ W (fun b hb => by
        have := hW.size
        rcases hb with h | h
        · omega
        · have := Hnl.out _ h; omega) (by
        rintro (h | h)
        · omega
        · have := Hnl.out _ h; omega) (hW.heap hR2 id)) (fun _ => rfl)
      (fun k W => (∀ j p, j < k → (allT x h)[j]? = some p → so p.1 = false) ∧ Boxed W (w.heap.size + 1) 38 (.func (.func g) #[] lb) ∧ Boxed W (w.heap.size + 1 + 1) 3 (.int .i64 0) ∧ Boxed W (w.heap.size + 1 + 1 + 1) 3 (.int .i64 0) ∧ Boxed W (w.heap.size + 1 + 1 + 1 + 1) 4 (.bool false) ∧ CntAt nb k W ∧ Mods (fun b => (b = w.heap.size + 1 + 1 ∨ b = w.heap.size + 1 + 1 + 1 ∨ b = w.heap.size + 1 + 1 + 1 + 1) ∨ nb = some b) w2 W)
      (fun c k W => c = .ret ∧ ∃ p, (p ∈ allT x h ∧ so p.1 = true ∧ (allT x h).find? (fun p => so p.1) = some p) ∧ Boxed W (w.heap.size + 1 + 1) 3 (.int .i64 p.1) ∧ Boxed W (w.heap.size + 1 + 1 + 1) 3 (.int .i64 (p.2 : Nat)) ∧ Boxed W (w.heap.size + 1 + 1 + 1 + 1) 4 (.bool true) ∧ CntAt nb k W ∧ Mods (fun b => (b = w.heap.size + 1 + 1 ∨ b = w.heap.size + 1 + 1 + 1 ∨ b = w.heap.size + 1 + 1 + 1 + 1) ∨ nb = some b) w2 W)
      (fun k => .and (.pure _) (.and (.boxed _ _ _) (.and (.boxed _ _ _) (.and (.boxed _ _ _) (.and (.boxed _ _ _) (.and (.cnt _ _) (.mods (Nat.le_refl _))))))))
      (fun c k => .and (.pure _) (.ex fun p => .and (.pure _) (.and (.boxed _ _ _) (.and (.boxed _ _ _) (.and (.boxed _ _ _) (.and (.cnt _ _) (.mods (Nat.le_refl _))))))))
      ⟨by omega, m0, m1, m2, m3, hcn2, Mods.refl _ _⟩
      (fun p t => (((t.setIfInBounds 14 (.int .i64 p.1)).setIfInBounds 15 (.int .i64 p.2)).setIfInBounds 7 (.int .i64 p.1)).setIfInBounds 8 (.int .i64 p.2)) ?assign ?body ?done ?stop
    case assign =>
      rintro l ⟨p1, p2⟩ W K hK
      simp only [encA] at hK ⊢
      gi_wp2
      exact hK
    case body =>
      rintro l k p W hp hl _ ⟨hbefore, n0, n1, n2, n3, hcn, hM⟩
      clear m0 m1 m2 m3
      have c0 := n0.cell
      have hcall := Hso.out (by first | trivial | rfl) k p W hp hcn (((Mods.ofNew hNv).trans hM).only (fun b hb => by
        rcases hb with h | h
        · exact .inr (.inl (by omega))
        · exact .inr (.inr h)))
      have Hcall := Lib.hid hcall
      have Hp := Lib.hid hp
      have Hbefore := Lib.hid hbefore
      clear hcall hp hbefore
      obtain ⟨s, u⟩ := p
      dsimp only at Hcall ⊢
      gi_wp2
      refine at_round Hcall.out ?_
      rintro e W2 ⟨rfl, hcn', hN2⟩
      have hnS : ∀ b, w.heap.size ≤ b → ¬ nb = some b := fun b hb e => by have := Hnl.out _ e; omega
      have n0' := hN2.boxed n0 (hnS _ (by omega))
      have n1' := hN2.boxed n1 (hnS _ (by omega))
      have n2' := hN2.boxed n2 (hnS _ (by omega))
      have n3' := hN2.boxed n3 (hnS _ (by omega))
      have hM2 : Mods (fun b => (b = w.heap.size + 1 + 1 ∨ b = w.heap.size + 1 + 1 + 1 ∨ b = w.heap.size + 1 + 1 + 1 + 1) ∨ nb = some b) W W2 := hN2.mono fun _ h => .inr h
      clear hN2 n0 n1 n2 n3 c0 Hcall
      obtain ⟨t, ht⟩ : ∃ t, so s = t := ⟨_, rfl⟩
      have Ht := Lib.hid ht
      rw [ht]
      clear ht
      obtain ⟨c1, f1⟩ := n1'.both
      obtain ⟨c2, f2⟩ := n2'.both
      obtain ⟨c3, f3⟩ := n3'.both
      cases t with
      | true =>
        gi_wp2
        have HM3 := ((hM2.setCell (p := ⟨w.heap.size + 1 + 1, 0, none⟩) (.inr (.inl (.inl rfl))) (.int .i64 s)).setCell (p := ⟨w.heap.size + 1 + 1 + 1, 0, none⟩) (.inr (.inl (.inr (.inl rfl)))) (.int .i64 u)).setCell (p := ⟨w.heap.size + 1 + 1 + 1 + 1, 0, none⟩) (.inr (.inl (.inr (.inr rfl)))) (.bool true)
        refine ⟨HM3, rfl, (s, u), ⟨List.mem_of_getElem? Hp.out, Ht.out, find_at Hp.out Ht.out fun i q hi hq => Hbefore.out i q hi hq⟩,
          ((n1'.set _).other (by omega) _).other (by omega) _, ((n2'.other (by omega) _).set _).other (by omega) _, ((n3'.other (by omega) _).other (by omega) _).set _,
          ((hcn'.set _ (hnS _ (by omega)) _).set _ (hnS _ (by omega)) _).set _ (hnS _ (by omega)) _, hM.trans HM3⟩
      | false =>
        gi_wp2
        refine ⟨hM2, fun j q hj hq => ?_, n0', n1', n2', n3', hcn', hM.trans hM2⟩
        rcases Nat.lt_or_ge j k with h | h
        · exact Hbefore.out j q h hq
        · obtain rfl : j = k := by omega
          rw [Hp.out] at hq
          cases hq
          exact Ht.out
    case done =>
      rintro W ⟨hall, _, n1, n2, n3, hcn, hM⟩ hD
      obtain ⟨c1, f1⟩ := n1.both
      obtain ⟨c2, f2⟩ := n2.both
      obtain ⟨c3, f3⟩ := n3.both
      have Hall := Lib.hid hall
      have Hcn := Lib.hid hcn
      have hle : B + 1 ≤ w2.heap.size := by omega
      clear hall hcn hsz2
      go_wp2_with fail
      have hnS : ∀ b, w.heap.size ≤ b → nb ≠ some b := fun b hb e => by have := Hnl.out _ e; omega
      have p1 := (((n1.set (.int .i64 0)).other (B' := w.heap.size + 1 + 1 + 1) (by omega) (.int .i64 0)).other (B' := w.heap.size + 1 + 1 + 1 + 1) (by omega) (.bool false))
      have p2 := (((n2.other (B' := w.heap.size + 1 + 1) (by omega) (.int .i64 0)).set (.int .i64 0)).other (B' := w.heap.size + 1 + 1 + 1 + 1) (by omega) (.bool false))
      have p3 := (((n3.other (B' := w.heap.size + 1 + 1) (by omega) (.int .i64 0)).other (B' := w.heap.size + 1 + 1 + 1) (by omega) (.int .i64 0)).set (.bool false))
      have hcn2 := ((Hcn.out.set (w.heap.size + 1 + 1) (hnS _ (by omega)) (.int .i64 0)).set (w.heap.size + 1 + 1 + 1) (hnS _ (by omega)) (.int .i64 0)).set (w.heap.size + 1 + 1 + 1 + 1) (hnS _ (by omega)) (.bool false)
      have hMM := ((((Mods.ofNew hNv).trans hM).setCell (p := ⟨w.heap.size + 1 + 1, 0, none⟩) (.inr (.inl (.inl rfl))) (.int .i64 0)).setCell (p := ⟨w.heap.size + 1 + 1 + 1, 0, none⟩) (.inr (.inl (.inr (.inl rfl)))) (.int .i64 0)).setCell (p := ⟨w.heap.size + 1 + 1 + 1 + 1, 0, none⟩) (.inr (.inl (.inr (.inr rfl)))) (.bool false)
      have hD' := ((((KeepsOthers.setCell W ⟨w.heap.size + 1 + 1, 0, none⟩ (.int .i64 0)).trans (KeepsOthers.setCell _ ⟨w.heap.size + 1 + 1 + 1, 0, none⟩ (.int .i64 0))).trans (KeepsOthers.setCell _ ⟨w.heap.size + 1 + 1 + 1 + 1, 0, none⟩ (.bool false))).same _ _ hD rfl)
      have q1 := (Stab.boxed (B := 0) _ _ _ _ _ p1 (Quiet.putObj (.deferred none) hD' rfl (Nat.zero_le _))).cell
      have q2 := (Stab.boxed (B := 0) _ _ _ _ _ p2 (Quiet.putObj (.deferred none) hD' rfl (Nat.zero_le _))).cell
      have q3 := (Stab.boxed (B := 0) _ _ _ _ _ p3 (Quiet.putObj (.deferred none) hD' rfl (Nat.zero_le _))).cell
      refine marks_one rfl hD' (v := tripT r) ?_ ⟨rfl, (hMM.only (T := fun b => nb = some b) (fun b hb => by
        rcases hb with h | h
        · exact .inl (by omega)
        · exact .inr h)).putObj (by omega) _, _, hcn2.put hD' rfl, .inr ⟨Hb.out, .inr rfl⟩⟩
      obtain rfl : r = none := by
        rw [← Hr.out, firstT, Hb.out, if_pos rfl, List.find?_eq_none]
        intro p hp
        obtain ⟨j, hj, rfl⟩ := List.getElem_of_mem hp
        rw [Hall.out j _ hj (List.getElem?_eq_getElem hj)]; simp
      simp [results, Try.f85, go_sem, q1, q2, q3, tripT]
    case stop =>
      rintro c k W hk ⟨rfl, p, ⟨hpm, hps, hpf⟩, n1, n2, n3, hcn, hM⟩ hD
      refine wp_ret ?_
      have q1 := (Stab.boxed (B := 0) _ _ _ _ _ n1 (Quiet.putObj (.deferred none) hD rfl (Nat.zero_le _))).cell
      have q2 := (Stab.boxed (B := 0) _ _ _ _ _ n2 (Quiet.putObj (.deferred none) hD rfl (Nat.zero_le _))).cell
      have q3 := (Stab.boxed (B := 0) _ _ _ _ _ n3 (Quiet.putObj (.deferred none) hD rfl (Nat.zero_le _))).cell
      refine marks_one rfl hD (v := tripT r) ?_ ⟨rfl, (((Mods.ofNew hNv).trans hM).only (T := fun b => nb = some b) (fun b hb => by
        rcases hb with h | h
        · exact .inl (by omega)
        · exact .inr h)).putObj (by omega) _, _, hcn.put hD rfl, .inr ⟨Hb.out, .inl ⟨p, hpm, hps⟩⟩⟩
      obtain rfl : r = some p := by rw [← Hr.out, firstT, Hb.out, if_pos rfl]; exact hpf
      simp [results, Try.f85, go_sem, q1, q2, q3, tripT]
end Go.Proofs.Ytkjloeefcaadlaa
