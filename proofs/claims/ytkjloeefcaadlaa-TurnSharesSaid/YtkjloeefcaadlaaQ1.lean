/- The queue's word, read, written, exchanged. -/
import Derived.Test.YtkjloeefcaadlaaX2
import Derived.Laws.LoneSync
namespace Go.Proofs.Ytkjloeefcaadlaa
open Go.RowKit Go.Shelf Go.Cs
attribute [local go_sem] Oper.semAt_some
theorem load_any (Q : Nat) (x : Int) (w : World) (h : Boxed w Q 121 (.int .u64 x)) :
    Calls Try.prog 79 #[.pointer (some ⟨Q, 0, none⟩)] w fun e w' => e = .returned (.int .u64 x) ∧ w = w' := by
  have hc := h.cell
  have hl := run_call_load (P := Try.prog) Try.func135 (by kernel_rfl) (by kernel_rfl) (by kernel_rfl) .u64 (by kernel_rfl) hc
  go_enter Try.func79, Try.ntmps79
  go_wp2
  go_ret
  exact ⟨rfl, rfl⟩
theorem store_any (Q : Nat) (x y : Int) (w : World) (h : Boxed w Q 121 (.int .u64 x)) :
    Calls Try.prog 66 #[.pointer (some ⟨Q, 0, none⟩), .int .u64 y] w fun e w' => e = .returned (.tuple #[]) ∧ w.setCell ⟨Q, 0, none⟩ (.int .u64 y) = w' := by
  have hc := h.cell
  have hf := h.frozen
  have hl := run_call_store (P := Try.prog) Try.func126 (by kernel_rfl) (by kernel_rfl) (by kernel_rfl) (by kernel_rfl) (k := .u64) (y := y) hc hf
  go_enter Try.func66, Try.ntmps66
  go_wp2
  go_end0
  exact ⟨rfl, rfl⟩
theorem cas_any (Q : Nat) (x y : Int) (w : World) (h : Boxed w Q 121 (.int .u64 x)) :
    Calls Try.prog 119 #[.pointer (some ⟨Q, 0, none⟩), .int .u64 x, .int .u64 y] w fun e w' => e = .returned (.bool true) ∧ w.setCell ⟨Q, 0, none⟩ (.int .u64 y) = w' := by
  have hc := h.cell
  have hf := h.frozen
  have hl := run_call_cas_hit (P := Try.prog) Try.func160 (by kernel_rfl) (by kernel_rfl) (by kernel_rfl) .u64 (by kernel_rfl) (y := y) hc hf
  go_enter Try.func119, Try.ntmps119
  go_wp2
  go_ret
  exact ⟨rfl, rfl⟩
theorem new_any (w : World) : Calls Try.prog 57 #[] w fun e w' => e = .returned (.pointer (some ⟨w.heap.size, 0, none⟩)) ∧ w.alloc (.cells #[.int .u64 0] 121) = w' := by
  go_enter Try.func57, Try.ntmps57
  go_wp2
  go_ret
  exact ⟨rfl, rfl⟩
/-- What a step leaves. -/
def StepR (Q : Nat) (x y : Int) (ok : Bool) (R : World → Prop) (e : Ending) (w' : World) : Prop := e = .returned (.bool ok) ∧ ∃ W1, R W1 ∧ Boxed W1 Q 121 (.int .u64 x) ∧ w' = if ok then W1.setCell ⟨Q, 0, none⟩ (.int .u64 y) else W1
set_option maxRecDepth 100000 in
theorem step_any (Q : Nat) (x y : Int) (ok : Bool) (g : Nat) (lb : Array Value) (w : World) (R : World → Prop) (h : Boxed w Q 121 (.int .u64 x))
    (eg : ∀ args w, (callFunc g args).run Try.prog w = .ok (.enter g args) w)
    (hdo : Calls Try.prog g (#[.int .u64 x] ++ lb) w fun e W => e = .returned (.tuple #[.int .u64 y, .bool ok]) ∧ Boxed W Q 121 (.int .u64 x) ∧ R W) :
    Calls Try.prog 69 #[.pointer (some ⟨Q, 0, none⟩), .func (.func g) #[] lb] w (StepR Q x y ok R) := by
  have Hdo := Lib.hid hdo
  have HL := Lib.hid (load_any Q x w h)
  clear hdo h
  cases ok with
  | true =>
    go_enter Try.func69, Try.ntmps69
    go_wp2_with fail
    go_step3
    go_wp2_with fail
    go_step3
    go_wp2_with fail
    refine HL.out.mono ?_
    rintro e w1 ⟨rfl, rfl⟩
    go_wp2_with fail
    refine Hdo.out.mono ?_
    rintro e w1 ⟨rfl, hb, hR⟩
    have HC := Lib.hid (cas_any Q x y w1 hb)
    go_wp2_with fail
    refine HC.out.mono ?_
    rintro e w2 ⟨rfl, rfl⟩
    go_wp2_with fail
    rw [Exit.noGoto_ret]
    go_ret
    exact ⟨rfl, w1, hR, hb, rfl⟩
  | false =>
    go_enter Try.func69, Try.ntmps69
    go_wp2_with fail
    go_step3
    go_wp2_with fail
    go_step3
    go_wp2_with fail
    refine HL.out.mono ?_
    rintro e w1 ⟨rfl, rfl⟩
    go_wp2_with fail
    refine Hdo.out.mono ?_
    rintro e w1 ⟨rfl, hb, hR⟩
    go_wp2_with fail
    rw [Exit.noGoto_ret]
    go_ret
    exact ⟨rfl, w1, hR, hb, rfl⟩
end Go.Proofs.Ytkjloeefcaadlaa
