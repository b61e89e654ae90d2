/- A queue's deeds. -/
import Derived.Test.YtkjloeefcaadlaaQ1
namespace Go.Proofs.Ytkjloeefcaadlaa
open Go.RowKit Go.Shelf Go.Cs
attribute [local go_sem] Oper.semAt_some
/-- A queue's answer, and the word behind it. -/
def QR (w : World) (Q z : Nat) (v : Value) (e : Ending) (w' : World) : Prop := e = .returned v ∧ Mods (fun b => b = Q) w w' ∧ Boxed w' Q 121 (.int .u64 z)
theorem boxed_lt {W : World} {B : Nat} {t : TypeId} {v : Value} (h : Boxed W B t v) : B < W.heap.size := (Array.getElem?_eq_some_iff.1 h).1
/-- The word behind a step: that one, if it went. -/
def aft (x : Nat) (r : Nat × Bool) : Nat := if r.2 then r.1 else x
theorem step_q {Q x y : Nat} {ok : Bool} {w0 w w' : World} {e : Ending} {R : World → Prop} (h0 : New w0 w) (hR : ∀ W, R W → New w W) (h : StepR Q x y ok R e w') :
    e = .returned (.bool ok) ∧ Mods (fun b => b = Q) w0 w' ∧ Boxed w' Q 121 (.int .u64 ((if ok then y else x : Nat) : Int)) := by
  obtain ⟨rfl, W1, hr, hb, rfl⟩ := h
  have hM : Mods (fun b => b = Q) w0 W1 := (Mods.ofNew h0).trans (Mods.ofNew (hR _ hr))
  cases ok with
  | true => exact ⟨rfl, hM.setCell (p := ⟨Q, 0, none⟩) (.inr rfl) _, hb.set _⟩
  | false => exact ⟨rfl, hM, hb⟩
theorem push1 (x : Nat) (s u : Int) (hx : x < 18446744073709551616) (hx_s1 : -9223372036854775808 ≤ s) (hx_s2 : s ≤ 9223372036854775807) (hx_u1 : -9223372036854775808 ≤ u) (hx_u2 : u ≤ 9223372036854775807) (B0 B1 : Nat) (w : World) (hb0 : Boxed w B0 3 (.int .i64 s)) (hb1 : Boxed w B1 3 (.int .i64 u)) :
    Calls Try.prog 70 #[.int .u64 x, .pointer (some ⟨B0, 0, none⟩), .pointer (some ⟨B1, 0, none⟩)] w fun e w' => e = .returned (pair (pushF x s u)) ∧ New w w' := by
  have HP := Lib.hid (push_any x s u hx hx_s1 hx_s2 hx_u1 hx_u2)
  have c0 := hb0.cell
  have c1 := hb1.cell
  obtain ⟨y, hy⟩ : ∃ y, pushF x s u = y := ⟨_, rfl⟩
  obtain ⟨y, ok⟩ := y
  rw [hy] at HP ⊢
  clear hy hb0 hb1
  go_enter Try.func70, Try.ntmps70
  go_wp2_with fail
  refine (HP.out _).mono ?_
  rintro e w1 ⟨rfl, hN⟩
  unfold pair
  go_wp2_with fail
  go_ret2
  exact ⟨rfl, hN⟩
theorem push_q (Q x : Nat) (s u : Int) (w : World) (h : Boxed w Q 121 (.int .u64 x)) (hx : x < 18446744073709551616) (hx_s1 : -9223372036854775808 ≤ s) (hx_s2 : s ≤ 9223372036854775807) (hx_u1 : -9223372036854775808 ≤ u) (hx_u2 : u ≤ 9223372036854775807) :
    Calls Try.prog 20 #[.pointer (some ⟨Q, 0, none⟩), .int .i64 s, .int .i64 u] w (QR w Q (aft x (pushF x s u)) (.bool (pushF x s u).2)) := by
  obtain ⟨r, hr⟩ : ∃ r, pushF x s u = r := ⟨_, rfl⟩
  obtain ⟨y, ok⟩ := r
  rw [hr]
  have hN : New w ((w.alloc (.cells #[.int .i64 s] 3)).alloc (.cells #[.int .i64 u] 3)) := (((Mods.refl _ _).alloc _).alloc _)
  have hb := hN.boxed h id
  have b0 : Boxed ((w.alloc (.cells #[.int .i64 s] 3)).alloc (.cells #[.int .i64 u] 3)) w.heap.size 3 (.int .i64 s) := (Boxed.new w _ _).alloc _
  have b1 : Boxed ((w.alloc (.cells #[.int .i64 s] 3)).alloc (.cells #[.int .i64 u] 3)) (w.heap.size + 1) 3 (.int .i64 u) := boxed1 w _ _ _
  have HS := Lib.hid ((step_any Q x y ok 70 #[.pointer (some ⟨w.heap.size, 0, none⟩), .pointer (some ⟨w.heap.size + 1, 0, none⟩)] _ (New ((w.alloc (.cells #[.int .i64 s] 3)).alloc (.cells #[.int .i64 u] 3))) hb (enters_of Try.func70 (by kernel_rfl) rfl)
    ((push1 x s u hx hx_s1 hx_s2 hx_u1 hx_u2 _ _ _ b0 b1).mono fun e W ⟨he, hW⟩ => ⟨by rw [he, hr]; rfl, hW.boxed hb id, hW⟩)).mono fun e w' h => step_q hN (fun _ h => h) h)
  clear hb b0 b1 hN h hr
  go_enter Try.func20, Try.ntmps20
  go_wp2_with fail
  refine HS.out.mono ?_
  rintro e w1 ⟨rfl, hM, hB⟩
  go_wp2_with fail
  go_ret
  exact ⟨rfl, hM, hB⟩
theorem turn1 (x : Nat) (s u : Int) (hx : x < 18446744073709551616) (hx_s1 : -9223372036854775808 ≤ s) (hx_s2 : s ≤ 9223372036854775807) (hx_u1 : -9223372036854775808 ≤ u) (hx_u2 : u ≤ 9223372036854775807) (B0 B1 : Nat) (w : World) (hb0 : Boxed w B0 3 (.int .i64 s)) (hb1 : Boxed w B1 3 (.int .i64 u)) :
    Calls Try.prog 75 #[.int .u64 x, .pointer (some ⟨B0, 0, none⟩), .pointer (some ⟨B1, 0, none⟩)] w fun e w' => e = .returned (pair (turnF x s u)) ∧ New w w' := by
  have HP := Lib.hid (turn_any x s u hx hx_s1 hx_s2 hx_u1 hx_u2)
  have c0 := hb0.cell
  have c1 := hb1.cell
  obtain ⟨y, hy⟩ : ∃ y, turnF x s u = y := ⟨_, rfl⟩
  obtain ⟨y, ok⟩ := y
  rw [hy] at HP ⊢
  clear hy hb0 hb1
  go_enter Try.func75, Try.ntmps75
  go_wp2_with fail
  refine (HP.out _).mono ?_
  rintro e w1 ⟨rfl, hN⟩
  unfold pair
  go_wp2_with fail
  go_ret2
  exact ⟨rfl, hN⟩
theorem turn_q (Q x : Nat) (s u : Int) (w : World) (h : Boxed w Q 121 (.int .u64 x)) (hx : x < 18446744073709551616) (hx_s1 : -9223372036854775808 ≤ s) (hx_s2 : s ≤ 9223372036854775807) (hx_u1 : -9223372036854775808 ≤ u) (hx_u2 : u ≤ 9223372036854775807) :
    Calls Try.prog 24 #[.pointer (some ⟨Q, 0, none⟩), .int .i64 s, .int .i64 u] w (QR w Q (aft x (turnF x s u)) (.bool (turnF x s u).2)) := by
  obtain ⟨r, hr⟩ : ∃ r, turnF x s u = r := ⟨_, rfl⟩
  obtain ⟨y, ok⟩ := r
  rw [hr]
  have hN : New w ((w.alloc (.cells #[.int .i64 s] 3)).alloc (.cells #[.int .i64 u] 3)) := (((Mods.refl _ _).alloc _).alloc _)
  have hb := hN.boxed h id
  have b0 : Boxed ((w.alloc (.cells #[.int .i64 s] 3)).alloc (.cells #[.int .i64 u] 3)) w.heap.size 3 (.int .i64 s) := (Boxed.new w _ _).alloc _
  have b1 : Boxed ((w.alloc (.cells #[.int .i64 s] 3)).alloc (.cells #[.int .i64 u] 3)) (w.heap.size + 1) 3 (.int .i64 u) := boxed1 w _ _ _
  have HS := Lib.hid ((step_any Q x y ok 75 #[.pointer (some ⟨w.heap.size, 0, none⟩), .pointer (some ⟨w.heap.size + 1, 0, none⟩)] _ (New ((w.alloc (.cells #[.int .i64 s] 3)).alloc (.cells #[.int .i64 u] 3))) hb (enters_of Try.func75 (by kernel_rfl) rfl)
    ((turn1 x s u hx hx_s1 hx_s2 hx_u1 hx_u2 _ _ _ b0 b1).mono fun e W ⟨he, hW⟩ => ⟨by rw [he, hr]; rfl, hW.boxed hb id, hW⟩)).mono fun e w' h => step_q hN (fun _ h => h) h)
  clear hb b0 b1 hN h hr
  go_enter Try.func24, Try.ntmps24
  go_wp2_with fail
  refine HS.out.mono ?_
  rintro e w1 ⟨rfl, hM, hB⟩
  go_wp2_with fail
  go_ret
  exact ⟨rfl, hM, hB⟩
theorem out1 (x : Nat) (s : Int) (hx : x < 18446744073709551616)  (B0 : Nat) (w : World) (hb0 : Boxed w B0 3 (.int .i64 s)) :
    Calls Try.prog 77 #[.int .u64 x, .pointer (some ⟨B0, 0, none⟩)] w fun e w' => e = .returned (pair (outF x s)) ∧ New w w' := by
  have HP := Lib.hid (out_any x s hx )
  have c0 := hb0.cell
  obtain ⟨y, hy⟩ : ∃ y, outF x s = y := ⟨_, rfl⟩
  obtain ⟨y, ok⟩ := y
  rw [hy] at HP ⊢
  clear hy hb0
  go_enter Try.func77, Try.ntmps77
  go_wp2_with fail
  refine (HP.out _).mono ?_
  rintro e w1 ⟨rfl, hN⟩
  unfold pair
  go_wp2_with fail
  go_ret2
  exact ⟨rfl, hN⟩
theorem out_q (Q x : Nat) (s : Int) (w : World) (h : Boxed w Q 121 (.int .u64 x)) (hx : x < 18446744073709551616)  :
    Calls Try.prog 26 #[.pointer (some ⟨Q, 0, none⟩), .int .i64 s] w (QR w Q (aft x (outF x s)) (.bool (outF x s).2)) := by
  obtain ⟨r, hr⟩ : ∃ r, outF x s = r := ⟨_, rfl⟩
  obtain ⟨y, ok⟩ := r
  rw [hr]
  have hN : New w (w.alloc (.cells #[.int .i64 s] 3)) := ((Mods.refl _ _).alloc _)
  have hb := hN.boxed h id
  have b0 : Boxed (w.alloc (.cells #[.int .i64 s] 3)) w.heap.size 3 (.int .i64 s) := Boxed.new w _ _
  have HS := Lib.hid ((step_any Q x y ok 77 #[.pointer (some ⟨w.heap.size, 0, none⟩)] _ (New (w.alloc (.cells #[.int .i64 s] 3))) hb (enters_of Try.func77 (by kernel_rfl) rfl)
    ((out1 x s hx  _ _ b0).mono fun e W ⟨he, hW⟩ => ⟨by rw [he, hr]; rfl, hW.boxed hb id, hW⟩)).mono fun e w' h => step_q hN (fun _ h => h) h)
  clear hb b0 hN h hr
  go_enter Try.func26, Try.ntmps26
  go_wp2_with fail
  refine HS.out.mono ?_
  rintro e w1 ⟨rfl, hM, hB⟩
  go_wp2_with fail
  go_ret
  exact ⟨rfl, hM, hB⟩
theorem best1 (x B : Nat) (v : Value) (hx : x < 18446744073709551616) (w : World) (hb : Boxed w B 3 v) :
    Calls Try.prog 73 #[.int .u64 x, .pointer (some ⟨B, 0, none⟩)] w fun e w' => e = .returned (.tuple #[.int .u64 (bestF x).1, .bool (bestF x).2.2]) ∧ Boxed w' B 3 (.int .i64 (bestF x).2.1) ∧ Mods (fun b => b = B) w w' := by
  have HP := Lib.hid (best_any x hx)
  obtain ⟨y, hy⟩ : ∃ y, bestF x = y := ⟨_, rfl⟩
  obtain ⟨y, s, ok⟩ := y
  rw [hy] at HP ⊢
  have Hb := Lib.hid hb
  clear hy hb
  go_enter Try.func73, Try.ntmps73
  go_wp2_with fail
  refine (HP.out _).mono ?_
  rintro e w1 ⟨rfl, hN⟩
  have hb1 := hN.boxed Hb.out id
  obtain ⟨c1, f1⟩ := hb1.both
  have hb2 := Lib.hid (hb1.set (.int .i64 (s : Nat)))
  have hM : Mods (fun b => b = B) w (w1.setCell ⟨B, 0, none⟩ (.int .i64 (s : Nat))) := Mods.setCell (S := fun b => b = B) (Mods.ofNew hN) (p := ⟨B, 0, none⟩) (.inr rfl) _
  have HM := Lib.hid hM
  clear hb1 hN hM
  unfold trip'
  go_wp2_with fail
  go_ret2
  exact ⟨rfl, hb2.out, HM.out⟩
theorem best_q (Q x : Nat) (w : World) (h : Boxed w Q 121 (.int .u64 x)) (hx : x < 18446744073709551616) :
    Calls Try.prog 22 #[.pointer (some ⟨Q, 0, none⟩)] w (QR w Q (aft x ((bestF x).1, (bestF x).2.2)) (.tuple #[.int .i64 (bestF x).2.1, .bool (bestF x).2.2])) := by
  obtain ⟨r, hr⟩ : ∃ r, bestF x = r := ⟨_, rfl⟩
  obtain ⟨y, s, ok⟩ := r
  rw [hr]
  have hQ := boxed_lt h
  have hN : New w (w.alloc (.cells #[.int .i64 0] 3)) := (Mods.refl _ _).alloc _
  have hb := hN.boxed h id
  have b0 : Boxed (w.alloc (.cells #[.int .i64 0] 3)) w.heap.size 3 (.int .i64 0) := Boxed.new w _ _
  have HS := Lib.hid (step_any Q x y ok 73 #[.pointer (some ⟨w.heap.size, 0, none⟩)] _ (fun W => New w W ∧ Boxed W w.heap.size 3 (.int .i64 s)) hb (enters_of Try.func73 (by kernel_rfl) rfl)
    ((best1 x _ _ hx _ b0).mono fun e W ⟨he, hW, hM⟩ => ⟨by rw [he, hr], hM.boxed hb (by omega), ((Mods.ofNew hN).trans hM).new (fun k hk => by omega), by rw [hr] at hW; exact hW⟩))
  have HQ := Lib.hid hQ
  clear hb b0 hN h hr hQ
  go_enter Try.func22, Try.ntmps22
  go_wp2_with fail
  refine HS.out.mono ?_
  rintro e w1 ⟨rfl, W1, ⟨hN, hB⟩, hb, hw⟩
  have key : Mods (fun b => b = Q) w w1 ∧ Boxed w1 Q 121 (.int .u64 ((if ok then y else x : Nat) : Int)) ∧ Boxed w1 w.heap.size 3 (.int .i64 s) := by
    have hQ := HQ.out
    cases ok with
    | true =>
      subst hw
      exact ⟨Mods.setCell (S := fun b => b = Q) (Mods.ofNew hN) (p := ⟨Q, 0, none⟩) (.inr rfl) _, hb.set _, hB.other (by omega) _⟩
    | false =>
      subst hw
      exact ⟨Mods.ofNew hN, hb, hB⟩
  obtain ⟨hM, hQb, hsb⟩ := key
  obtain ⟨c1, f1⟩ := hsb.both
  have hne := HQ.out
  have hM2 : Mods (fun b => b = Q) w (w1.setCell ⟨w.heap.size, 0, none⟩ (.int .i64 s)) := hM.setCell (p := ⟨w.heap.size, 0, none⟩) (.inl (Nat.le_refl _)) _
  have hq2 := hQb.other (B' := w.heap.size) (by omega) (.int .i64 s)
  have r1 := (hsb.set (.int .i64 s)).cell
  have HM2 := Lib.hid hM2
  have Hq2 := Lib.hid hq2
  have Hr1 := Lib.hid r1
  clear hM hQb hsb hB hb hN hw W1 hM2 hq2 r1
  go_wp2_with fail
  have r1 := Hr1.out
  refine bodyPost_ret (v := .tuple #[.int .i64 s, .bool ok]) (by simp [results, Try.f22, go_sem, r1]) rfl ⟨rfl, HM2.out, Hq2.out⟩
end Go.Proofs.Ytkjloeefcaadlaa
