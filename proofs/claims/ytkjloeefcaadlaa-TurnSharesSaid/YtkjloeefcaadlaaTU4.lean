/- A slot's urgency, how many are ready, the next one. -/
import Derived.Test.YtkjloeefcaadlaaTU3
namespace Go.Proofs.Ytkjloeefcaadlaa
open Go.RowKit Go.Shelf Go.Cs
attribute [local go_sem] Oper.semAt_some
theorem cnt_none (k : Nat) (W : World) : CntAt none k W := fun _ h => by cases h
theorem same1 (B : Nat) (t s : Int) (w : World) (hB : w.cell? ⟨B, 0, none⟩ = some (.int .i64 s)) : Calls Try.prog 87 #[.int .i64 t, .pointer (some ⟨B, 0, none⟩)] w fun e w' => e = .returned (.bool (t == s)) ∧ w = w' := by
  go_enter Try.func87, Try.ntmps87
  go_wp2
  go_ret
  exact ⟨rfl, rfl⟩
theorem any1 (t : Int) (w : World) : Calls Try.prog 86 #[.int .i64 t] w fun e w' => e = .returned (.bool true) ∧ w = w' := by
  go_enter Try.func86, Try.ntmps86
  go_wp2
  go_ret
  exact ⟨rfl, rfl⟩
theorem count1 (B k : Nat) (t : Int) (w : World) (hk : k < 1000) (hB : Boxed w B 3 (.int .i64 (k : Nat))) :
    Calls Try.prog 90 #[.int .i64 t, .pointer (some ⟨B, 0, none⟩)] w fun e w' => e = .returned (.bool false) ∧ w.setCell ⟨B, 0, none⟩ (.int .i64 ((k + 1 : Nat) : Int)) = w' := by
  obtain ⟨c, f⟩ := hB.both
  go_enter Try.func90, Try.ntmps90
  go_wp2
  go_ret
  exact ⟨rfl, rfl⟩
def pairO (o : Option (Int × Nat)) : Value := .tuple #[.int .i64 ((o.map (·.2)).getD 0 : Nat), .bool o.isSome]
theorem of_t (x : Nat) (h : Nat → Int) (s : Int) (hx : x < 18446744073709551616) (hh : In8 h) (w : World) :
    Calls Try.prog 38 #[.agg (rc x h).toArray, .int .i64 s] w fun e w' => e = .returned (pairO (ofT x h s)) ∧ New w w' := by
  have hi51 : (Try.prog.info? 51).map (·.size) = some (rc x h).toArray.size := info51
  have hR0 : RAt ((w.alloc (.cells (rc x h).toArray 51)).alloc (.cells #[.int .i64 s] 3)) w.heap.size x h := ((Mods.refl (fun _ => False) _).alloc _).heap (World.alloc_heap_new w _) id
  have hb := boxed1 w (.cells (rc x h).toArray 51) 3 (.int .i64 s)
  have HF := Lib.hid (first_t x h hx hh 87 #[.pointer (some ⟨w.heap.size + 1, 0, none⟩)] (fun t => t == s) none ((w.alloc (.cells (rc x h).toArray 51)).alloc (.cells #[.int .i64 s] 3)) (enters_of Try.func87 (by kernel_rfl) rfl) (cnt_none _ _)
    (fun _ k p W hp _ hM => (same1 _ p.1 s W (hM.boxed hb (by simp)).cell).mono fun e w' ⟨he, hw⟩ => ⟨he, cnt_none _ _, hw ▸ Mods.refl _ _⟩))
  clear hb
  obtain ⟨r, hr⟩ : ∃ r, ofT x h s = r := ⟨_, rfl⟩
  have hr' : firstT x h (fun t => t == s) = r := hr
  rw [hr'] at HF
  rw [hr]
  clear hr hr'
  go_enter Try.func38, Try.ntmps38
  go_wp2_with (refine op_value rfl (run_load_row 51 (.tmp 2) rfl w.heap.size rfl 51 (rc x h).toArray (0, 0) _ hR0 Try.underlying51 rfl hi51) ?_)
  refine HF.out.mono ?_
  rintro e w1 ⟨rfl, hN, _⟩
  have hN1 : New w w1 := (((Mods.refl _ w).alloc (.cells (rc x h).toArray 51)).alloc (.cells #[.int .i64 s] 3)).trans (hN.mono fun b h => by cases h)
  unfold tripT
  go_wp2_with fail
  go_ret2
  exact ⟨rfl, hN1⟩
theorem next_t (x : Nat) (h : Nat → Int) (hx : x < 18446744073709551616) (hh : In8 h) (w : World) :
    Calls Try.prog 37 #[.agg (rc x h).toArray] w fun e w' => e = .returned (tripT (nextT x h)) ∧ New w w' := by
  have hi51 : (Try.prog.info? 51).map (·.size) = some (rc x h).toArray.size := info51
  have hR0 : RAt (w.alloc (.cells (rc x h).toArray 51)) w.heap.size x h := World.alloc_heap_new w _
  have HF := Lib.hid (first_t x h hx hh 86 #[] (fun _ => true) none (w.alloc (.cells (rc x h).toArray 51)) (enters_of Try.func86 (by kernel_rfl) rfl) (cnt_none _ _)
    (fun _ k p W hp _ hM => (any1 p.1 W).mono fun e w' ⟨he, hw⟩ => ⟨he, cnt_none _ _, hw ▸ Mods.refl _ _⟩))
  obtain ⟨r, hr⟩ : ∃ r, nextT x h = r := ⟨_, rfl⟩
  have hr' : firstT x h (fun _ => true) = r := hr
  rw [hr'] at HF
  rw [hr]
  clear hr hr'
  go_enter Try.func37, Try.ntmps37
  go_wp2_with (refine op_value rfl (run_load_row 51 (.tmp 1) rfl w.heap.size rfl 51 (rc x h).toArray (0, 0) _ hR0 Try.underlying51 rfl hi51) ?_)
  refine HF.out.mono ?_
  rintro e w1 ⟨rfl, hN, _⟩
  have hN1 : New w w1 := ((Mods.refl _ w).alloc (.cells (rc x h).toArray 51)).trans (hN.mono fun b h => by cases h)
  unfold tripT
  go_wp2_with fail
  go_ret3
  exact ⟨rfl, hN1⟩
theorem many_len {x : Nat} {h : Nat → Int} (hr : rightT x h = true) : (allT x h).length ≤ 8 := by
  simp only [rightT, Bool.and_eq_true, decide_eq_true_eq] at hr
  have h8 : ∀ p, p ∈ allT x h → 0 ≤ p.1 ∧ p.1 < 8 := fun p hp => ⟨(all_in8 hr.1.2 hp).1, (all_in8 hr.1.2 hp).2.1⟩
  have hd : ((allT x h).map fun p => p.1.toNat).Nodup := by
    have := hr.2
    rw [List.Nodup, List.pairwise_map] at this ⊢
    refine List.Pairwise.imp_of_mem ?_ this
    intro a b ha hb hab e
    have := h8 a ha
    have := h8 b hb
    omega
  have := nodup_le 8 _ hd (fun a ha => by
    obtain ⟨p, hp, rfl⟩ := List.mem_map.1 ha
    have := h8 p hp
    omega)
  simpa using this
theorem many_t (x : Nat) (h : Nat → Int) (hx : x < 18446744073709551616) (hh : In8 h) (w : World) :
    Calls Try.prog 40 #[.agg (rc x h).toArray] w fun e w' => e = .returned (.int .i64 (manyT x h : Nat)) ∧ New w w' := by
  have hi51 : (Try.prog.info? 51).map (·.size) = some (rc x h).toArray.size := info51
  have hR0 : RAt ((w.alloc (.cells (rc x h).toArray 51)).alloc (.cells #[.int .i64 0] 3)) w.heap.size x h := ((Mods.refl (fun _ => False) _).alloc _).heap (World.alloc_heap_new w _) id
  have hb := boxed1 w (.cells (rc x h).toArray 51) 3 (.int .i64 0)
  have HF := Lib.hid (first_t x h hx hh 90 #[.pointer (some ⟨w.heap.size + 1, 0, none⟩)] (fun _ => false) (some (w.heap.size + 1)) ((w.alloc (.cells (rc x h).toArray 51)).alloc (.cells #[.int .i64 0] 3)) (enters_of Try.func90 (by kernel_rfl) rfl) (fun B hB => by cases hB; exact hb)
    (fun hr k p W hp hc hM => by
      have hk : k < 1000 := by
        have := many_len hr
        have := (List.getElem?_eq_some_iff.1 hp).1
        omega
      refine (count1 _ k p.1 W hk (hc _ rfl)).mono fun e w' ⟨he, hw⟩ => ⟨he, ?_, ?_⟩
      · intro B hB
        cases hB
        rw [← hw]
        exact (hc _ rfl).set _
      · rw [← hw]
        exact (Mods.refl (fun b => some (w.heap.size + 1) = some b) W).setCell (p := ⟨w.heap.size + 1, 0, none⟩) (.inr rfl) _))
  have Hl := Lib.hid (fun hr => many_len (x := x) (h := h) hr)
  obtain ⟨m, hm⟩ : ∃ m, manyT x h = m := ⟨_, rfl⟩
  have Hm := Lib.hid hm
  rw [hm]
  clear hb hm
  go_enter Try.func40, Try.ntmps40
  go_wp2_with (refine op_value rfl (run_load_row 51 (.tmp 1) rfl w.heap.size rfl 51 (rc x h).toArray (0, 0) _ hR0 Try.underlying51 rfl hi51) ?_)
  refine HF.out.mono ?_
  rintro e w1 ⟨rfl, hN, k, hc, hk⟩
  have hN1 : New w w1 := ((Mods.ofNew (((Mods.refl _ w).alloc (.cells (rc x h).toArray 51)).alloc (.cells #[.int .i64 0] 3))).trans hN).new (fun k hk => by cases hk; omega)
  obtain rfl : k = m := by
    rw [← Hm.out, manyT]
    rcases hk with ⟨h1, h2⟩ | ⟨h1, ⟨p, _, h2⟩ | h2⟩
    · rw [h1, h2]; rfl
    · cases h2
    · rw [h1, h2]; rfl
  have hb := hc _ rfl
  obtain ⟨c, f⟩ := hb.both
  clear hc hN hk HF
  go_wp2_with fail
  have q := (hb.set (.int .i64 (k : Nat))).cell
  refine bodyPost_ret (v := .int .i64 (k : Nat)) ?_ rfl ⟨rfl, hN1.setCell (p := ⟨w.heap.size + 1, 0, none⟩) (.inl (by simp)) _⟩
  simp [results, Try.f40, go_sem, q]
end Go.Proofs.Ytkjloeefcaadlaa
