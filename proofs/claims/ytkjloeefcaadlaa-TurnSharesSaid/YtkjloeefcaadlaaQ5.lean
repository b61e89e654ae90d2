/- A queue's other answers; a queue that is none; the same numbers. -/
import Derived.Test.YtkjloeefcaadlaaQ4
import Derived.Deep.QuietTactic
import Derived.BigQuiet
namespace Go.Proofs.Ytkjloeefcaadlaa
open Go.RowKit Go.Shelf Go.Cs
attribute [local go_sem] Oper.semAt_some
theorem word_q (Q x : Nat) (w : World) (h : Boxed w Q 121 (.int .u64 x)) :
    Calls Try.prog 28 #[.pointer (some ⟨Q, 0, none⟩)] w fun e w' => e = .returned (.int .u64 (x : Nat)) ∧ w = w' := by
  have HL := Lib.hid (load_any Q x w h)
  clear h
  go_enter Try.func28, Try.ntmps28
  go_wp2_with fail
  refine HL.out.mono ?_
  rintro e w1 ⟨rfl, rfl⟩
  go_wp2_with fail
  go_ret
  exact ⟨rfl, rfl⟩
theorem many_q (Q x : Nat) (hx : x < 18446744073709551616) (w : World) (h : Boxed w Q 121 (.int .u64 x)) :
    Calls Try.prog 29 #[.pointer (some ⟨Q, 0, none⟩)] w fun e w' => e = .returned (.int .i64 (manyN x : Nat)) ∧ New w w' := by
  have HW := Lib.hid (word_q Q x w h)
  have HM := Lib.hid (many_any x hx)
  clear h
  go_enter Try.func29, Try.ntmps29
  go_wp2_with fail
  refine HW.out.mono ?_
  rintro e w1 ⟨rfl, rfl⟩
  go_wp2_with fail
  refine (HM.out _).mono ?_
  rintro e w1 ⟨rfl, hN⟩
  go_wp2_with fail
  go_ret
  exact ⟨rfl, hN⟩
theorem from_yes (x : Nat) (hx : x < 18446744073709551616) (hr : rightB x = true) (w : World) :
    Calls Try.prog 18 #[.int .u64 x] w fun e w' => ∃ Q, e = .returned (.tuple #[.pointer (some ⟨Q, 0, none⟩), .bool true]) ∧ Boxed w' Q 121 (.int .u64 x) ∧ w.heap.size ≤ Q ∧ New w w' := by
  have HR := Lib.hid (right_any x hx)
  rw [hr] at HR
  clear hr
  go_enter Try.func18, Try.ntmps18
  go_wp2_with fail
  refine (HR.out _).mono ?_
  rintro e w1 ⟨rfl, hN⟩
  go_wp2_with fail
  refine (new_any _).mono ?_
  rintro e w2 ⟨rfl, hw⟩
  have hb : Boxed w2 w1.heap.size 121 (.int .u64 (0 : Nat)) := by rw [← hw]; exact Boxed.new w1 _ _
  have hN2 : New w w2 := by rw [← hw]; exact hN.alloc _
  have hsz := hN.size
  have HS := Lib.hid (store_any w1.heap.size (0 : Nat) x w2 hb)
  have Hb := Lib.hid hb
  clear hw hb
  go_wp2_with fail
  refine HS.out.mono ?_
  rintro e w3 ⟨rfl, rfl⟩
  go_wp2_with fail
  go_ret2
  exact ⟨_, rfl, Hb.out.set _, hsz, hN2.setCell (p := ⟨w1.heap.size, 0, none⟩) (.inl hsz) _⟩
theorem from_no (x : Nat) (hx : x < 18446744073709551616) (hr : rightB x = false) (w : World) :
    Calls Try.prog 18 #[.int .u64 x] w fun e w' => e = .returned (.tuple #[.pointer none, .bool false]) ∧ New w w' := by
  have HR := Lib.hid (right_any x hx)
  rw [hr] at HR
  clear hr
  go_enter Try.func18, Try.ntmps18
  go_wp2_with fail
  refine (HR.out _).mono ?_
  rintro e w1 ⟨rfl, hN⟩
  go_wp2_with fail
  go_ret2
  exact ⟨rfl, hN⟩
theorem step_nil (f : Value) (w : World) : Calls Try.prog 69 #[.pointer none, f] w fun e w' => e = .returned (.bool false) ∧ w = w' := by
  go_enter Try.func69, Try.ntmps69
  go_wp2_with fail
  go_step3
  go_wp2_with fail
  try rw [Exit.noGoto_ret]
  go_ret
  exact ⟨rfl, rfl⟩
theorem push_nil (s u : Int) (w : World) : Calls Try.prog 20 #[.pointer none, .int .i64 s, .int .i64 u] w fun e w' => e = .returned (.bool false) ∧ New w w' := by
  go_enter Try.func20, Try.ntmps20
  go_wp2_with fail
  refine (step_nil _ _).mono ?_
  rintro e w1 ⟨rfl, rfl⟩
  go_wp2_with fail
  go_ret
  exact ⟨rfl, ((Mods.refl _ _).alloc _).alloc _⟩
theorem turn_nil (s u : Int) (w : World) : Calls Try.prog 24 #[.pointer none, .int .i64 s, .int .i64 u] w fun e w' => e = .returned (.bool false) ∧ New w w' := by
  go_enter Try.func24, Try.ntmps24
  go_wp2_with fail
  refine (step_nil _ _).mono ?_
  rintro e w1 ⟨rfl, rfl⟩
  go_wp2_with fail
  go_ret
  exact ⟨rfl, ((Mods.refl _ _).alloc _).alloc _⟩
theorem out_nil (s : Int) (w : World) : Calls Try.prog 26 #[.pointer none, .int .i64 s] w fun e w' => e = .returned (.bool false) ∧ New w w' := by
  go_enter Try.func26, Try.ntmps26
  go_wp2_with fail
  refine (step_nil _ _).mono ?_
  rintro e w1 ⟨rfl, rfl⟩
  go_wp2_with fail
  go_ret
  exact ⟨rfl, (Mods.refl _ _).alloc _⟩
theorem best_nil (w : World) : Calls Try.prog 22 #[.pointer none] w fun e w' => e = .returned (.tuple #[.int .i64 0, .bool false]) ∧ New w w' := by
  have b0 := Boxed.new w 3 (.int .i64 0)
  have r1 := (b0.set (.int .i64 0)).cell
  obtain ⟨c1, f1⟩ := b0.both
  have hM : New w ((w.alloc (.cells #[.int .i64 0] 3)).setCell ⟨w.heap.size, 0, none⟩ (.int .i64 0)) := ((Mods.refl _ _).alloc _).setCell (p := ⟨w.heap.size, 0, none⟩) (.inl (Nat.le_refl _)) _
  have HM := Lib.hid hM
  have Hr := Lib.hid r1
  clear b0 hM r1
  go_enter Try.func22, Try.ntmps22
  go_wp2_with fail
  refine (step_nil _ _).mono ?_
  rintro e w1 ⟨rfl, rfl⟩
  go_wp2_with fail
  have hr := Hr.out
  refine bodyPost_ret (v := .tuple #[.int .i64 0, .bool false]) (by simp [results, Try.f22, go_sem]) rfl ⟨rfl, ?_⟩
  exact (Mods.refl _ _).alloc _
theorem word_nil (w : World) : Calls Try.prog 28 #[.pointer none] w fun e w' => e = .returned (.int .u64 0) ∧ w = w' := by
  go_enter Try.func28, Try.ntmps28
  go_wp2_with fail
  go_ret
  exact ⟨rfl, rfl⟩
theorem many_nil (w : World) : Calls Try.prog 29 #[.pointer none] w fun e w' => e = .returned (.int .i64 0) ∧ New w w' := by
  have HM := Lib.hid (many_any 0 (by omega))
  rw [show manyN 0 = 0 by decide +kernel] at HM
  go_enter Try.func29, Try.ntmps29
  go_wp2_with fail
  refine (word_nil _).mono ?_
  rintro e w1 ⟨rfl, rfl⟩
  go_wp2_with fail
  refine (HM.out _).mono ?_
  rintro e w1 ⟨rfl, hN⟩
  go_wp2_with fail
  go_ret
  exact ⟨rfl, hN⟩
/-- The same numbers. -/
theorem ints_any (v v' : Value) (L L' : List Int) (w : World) (h : ReadsI .i64 w v L) (h' : ReadsI .i64 w v' L') :
    Calls Try.prog 31 #[v, v'] w fun e w' => e = .returned (.bool (decide (L = L'))) ∧ New w w' := by
  obtain ⟨hlen, ao, cap, rfl, hc⟩ := h
  obtain ⟨hlen', ao', cap', rfl, hc'⟩ := h'
  by_cases hll : L.length = L'.length
  · obtain ⟨n, hn⟩ : ∃ n, L.length = n := ⟨_, rfl⟩
    rw [hn] at hll
    rw [← hll] at hlen' hc' ⊢
    rw [hn] at hlen hc ⊢
    have Hc := Lib.hid hc
    have Hc' := Lib.hid hc'
    have Hn := Lib.hid hn
    have Hn' := Lib.hid hll
    obtain ⟨b, hb⟩ : ∃ b, decide (L = L') = b := ⟨_, rfl⟩
    rw [hb]
    have Hb := Lib.hid hb
    clear hc hc' hn hll hb
    go_enter Try.func31, Try.ntmps31
    go_wp2_with fail
    go_loopw [5] (fun c wr => ∃ k : Nat, k ≤ n ∧ c = .int .i64 k ∧ Hid (∀ j, j < k → L.getD j 0 = L'.getD j 0) ∧ New w wr) (fun c _ => n - (intOf c).toNat)
    case atStart => exact ⟨0, by omega, rfl, (fun j hj => by omega), Mods.refl _ _⟩
    case round =>
      obtain ⟨k, hk, rfl, hsame, hN⟩ := hrel
      by_cases hkn : k < n
      · obtain ⟨b1, o1, rfl, h1⟩ := Hc.out k hkn
        obtain ⟨b2, o2, rfl, h2⟩ := Hc'.out k hkn
        have h1 := hN.cell h1 id
        have h2 := hN.cell h2 id
        obtain ⟨z, hz⟩ : ∃ z, L.getD k 0 = z := ⟨_, rfl⟩
        obtain ⟨z', hz'⟩ : ∃ z, L'.getD k 0 = z := ⟨_, rfl⟩
        rw [hz] at h1
        rw [hz'] at h2
        by_cases he : z = z'
        · have hq : (z != z') = false := by simp [he]
          have hnext : Hid (∀ j, j < k + 1 → L.getD j 0 = L'.getD j 0) := Lib.hid (fun j hj => by
            by_cases h : j < k
            · exact hsame.out j h
            · obtain rfl : j = k := by omega
              rw [hz, hz', he])
          clear hz hz' he hsame
          go_wp2
          go_quiet (fail)
          go_wp2
          go_roundw
          case rel => exact ⟨k + 1, by omega, by go_num, hnext, hN.drewN _⟩
          case measure => simp [intOf]; omega
        · have hq : (z != z') = true := by simp [he]
          obtain rfl : b = false := by rw [← Hb.out]; exact decide_eq_false (fun e => he (by rw [← hz, ← hz', e]))
          clear hz hz' he hsame
          go_wp2
          go_quiet (fail)
          go_wp2
          go_ret
          exact ⟨rfl, hN.drewN _⟩
      · obtain rfl : b = true := by
          rw [← Hb.out]
          refine decide_eq_true (List.ext_getElem (by rw [Hn.out, Hn'.out]) (fun i hi hi' => ?_))
          have := hsame.out i (by have := Hn.out; omega)
          simpa [List.getD, hi, hi'] using this
        clear hsame
        go_wp2
        go_ret
        exact ⟨rfl, hN⟩
  · have e : decide (L = L') = false := decide_eq_false (fun e => hll (by rw [e]))
    rw [e]
    obtain ⟨n, hn⟩ : ∃ n, L.length = n := ⟨_, rfl⟩
    obtain ⟨n', hn'⟩ : ∃ n, L'.length = n := ⟨_, rfl⟩
    rw [hn] at hlen hll ⊢
    rw [hn'] at hlen' hll ⊢
    have hne : ((n : Int) != (n' : Int)) = true := by simp; omega
    clear hc hc' e hn hn' hll
    go_enter Try.func31, Try.ntmps31
    go_wp2
    go_ret
    exact ⟨rfl, Mods.refl _ _⟩
end Go.Proofs.Ytkjloeefcaadlaa
