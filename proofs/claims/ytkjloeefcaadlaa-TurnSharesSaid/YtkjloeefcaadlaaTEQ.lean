/- Who is ready compared. -/
import Derived.Test.YtkjloeefcaadlaaTU1
import Derived.Laws.StructEq
import Derived.ChangeKeysEq
namespace Go.Proofs.Ytkjloeefcaadlaa
open Go.RowKit Go.Shelf Go.Cs
attribute [local go_sem] Oper.semAt_some
/-- A variable of who is ready, made just now. -/
theorem ratN {w0 w : World} (h : New w0 w) (x : Nat) (k : Nat → Int) : RAt (w.alloc (.cells (rc x k).toArray 51)) w.heap.size x k ∧ New w0 (w.alloc (.cells (rc x k).toArray 51)) := ⟨World.alloc_heap_new w _, h.alloc _⟩
theorem RAt.old {W : World} {B x : Nat} {h : Nat → Int} (hB : RAt W B x h) (o : Obj) : RAt (W.alloc o) B x h := hB.mods ((Mods.refl (fun _ => False) W).alloc o) id
theorem RAt.new {W W' : World} {B x : Nat} {h : Nat → Int} (hB : RAt W B x h) (hN : New W W') : RAt W' B x h := hB.mods hN id
def heldEq (h k : Nat → Int) : Bool := (h 0 == k 0) && ((h 1 == k 1) && ((h 2 == k 2) && ((h 3 == k 3) && ((h 4 == k 4) && ((h 5 == k 5) && ((h 6 == k 6) && (h 7 == k 7)))))))
theorem heldEq_self (h : Nat → Int) : heldEq h h = true := by simp [heldEq]
theorem cells3 : Try.prog.cellsOf 3 = 1 := by kernel_rfl
theorem part3 (cs : Array Value) (i : Nat) (v : Value) (w : World) (hv : cs[i]? = some v) : (Go.part 3 cs i).run Try.prog w = .ok v w := by
  have hagg : (isAgg 3).run Try.prog w = .ok false w := by
    unfold isAgg
    rw [Sem.run_bind, run_underlying Try.underlying3 w]
    rfl
  unfold Go.part
  rw [Sem.run_bind, hagg]
  simp [hv]
theorem eqItems3 (d : Nat) (h k : Nat → Int) (w : World) : ∀ is : List Nat, (∀ i ∈ is, i < 8) → (Op.eqItems (d + 1) 3 (Try.prog.cellsOf 3) (hc h).toArray (hc k).toArray is).run Try.prog w = .ok (is.all fun i => h i == k i) w
  | [], _ => by simp [Op.eqItems]
  | i :: is, hi => by
    have ih := eqItems3 d h k w is (fun j hj => hi j (by simp [hj]))
    have h8 := hi i (by simp)
    rw [cells3] at ih ⊢
    simp only [Op.eqItems, Sem.run_bind, Nat.mul_one, part3 _ i _ w (show (hc h).toArray[i]? = _ by rw [List.getElem?_toArray]; exact hc_at h i h8), part3 _ i _ w (show (hc k).toArray[i]? = _ by rw [List.getElem?_toArray]; exact hc_at k i h8), Result.andThen_ok,
      run_equalIn_int w d 3 .i64 .i64 (h i) (k i) Try.underlying3]
    cases he : (h i == k i) with
    | true => simp only [Bool.not_true, Bool.false_eq_true, if_false, ih, List.all_cons, he, Bool.true_and]
    | false => simp only [Bool.not_false, if_true, Sem.run_pure, List.all_cons, he, Bool.false_and]
theorem eq_held (d : Nat) (h k : Nat → Int) (w : World) : (Op.equalIn (d + 2) 49 (.agg (hc h).toArray) (.agg (hc k).toArray)).run Try.prog w = .ok (heldEq h k) w := by
  obtain ⟨i0, hi0⟩ : ∃ i, Try.prog.info? 3 = some i := by
    cases hq : Try.prog.info? 3 with
    | none => have := info3'; rw [hq] at this; cases this
    | some i => exact ⟨i, rfl⟩
  rw [show d + 2 = (d + 1) + 1 from rfl, run_equalIn_array w (d + 1) _ _ Try.underlying49 hi0, eqItems3 d h k w _ (fun i hi => List.mem_range.1 hi)]
  simp [heldEq, List.range, List.range.loop]
theorem part22 (x : Nat) (h : Nat → Int) (w : World) : (Go.part 22 (rc x h).toArray 0).run Try.prog w = .ok (.int .u64 x) w := by
  have hagg : (isAgg 22).run Try.prog w = .ok false w := by
    unfold isAgg
    rw [Sem.run_bind, run_underlying Try.underlying22 w]
    rfl
  unfold Go.part
  rw [Sem.run_bind, hagg]
  rfl
theorem part49 (x : Nat) (h : Nat → Int) (w : World) : (Go.part 49 (rc x h).toArray 1).run Try.prog w = .ok (.agg (hc h).toArray) w := by
  have hagg : (isAgg 49).run Try.prog w = .ok true w := by
    unfold isAgg
    rw [Sem.run_bind, run_underlying Try.underlying49 w]
    rfl
  have hsz : (sizeOf 49).run Try.prog w = .ok 8 w := by
    cases hq : Try.prog.info? 49 with
    | none => have := info49; rw [hq] at this; cases this
    | some i =>
      have h8 : i.size = 8 := by have := info49; rw [hq] at this; simpa using this
      simp [sizeOf, typeInfo, hq, h8]
  unfold Go.part
  rw [Sem.run_bind, hagg]
  simp only [Result.andThen_ok, if_true, Sem.run_bind, hsz]
  simp [rc, hc]
theorem stood51 : Try.prog.stoodInHeld 51 = false := by kernel_rfl
theorem guard51 : Try.prog.eqGuardType Try.prog.depth 51 = false := by kernel_rfl
theorem guard49 : Try.prog.eqGuardType Try.prog.depth 49 = false := by kernel_rfl
theorem eq_rdy (d x y : Nat) (h k : Nat → Int) (w : World) : (Op.equalIn (d + 3) 51 (.agg (rc x h).toArray) (.agg (rc y k).toArray)).run Try.prog w = .ok (x == y && heldEq h k) w := by
  rw [show d + 3 = (d + 2) + 1 from rfl, run_equalIn_agg w (d + 2) 51 _ _ (by unfold Program.fieldsOf; rw [Try.underlying51]) stood51]
  unfold Program.fieldsOf
  rw [Try.underlying51]
  simp only [Op.eqFields]
  simp only [show ("Word" ≠ "_") = True from by simp, show ("Held" ≠ "_") = True from by simp, if_true, Sem.run_bind, part22, part49, Result.andThen_ok, eq_held d h k w, run_equalIn_int w (d + 1) 22 .u64 .u64 (x : Int) (y : Int) Try.underlying22]
  have he : ((x : Int) == (y : Int)) = (x == y) := by
    rw [Bool.eq_iff_iff, beq_iff_eq, beq_iff_eq]
    omega
  rw [he]
  cases hxy : (x == y) with
  | false => simp
  | true =>
    cases hh : heldEq h k <;> simp [hh, part49, eq_held]
theorem run_eql_rdy {o : Oper} {a : Act} {w : World} (x y : Operand) (ho : o.op = .binOp .eql 51 x y 51) (p q : Nat) (h k : Nat → Int) (hx : a.eval x = .agg (rc p h).toArray) (hy : a.eval y = .agg (rc q k).toArray) :
    (execOp a.eval o).run Try.prog w = .ok (.value (.bool (p == q && heldEq h k))) w := by
  have he := eq_rdy 9997 p q h k w
  unfold execOp
  simp only [ho, hx, hy, Sem.run_bind, run_eqGuard_agg w .eql 51 x y _ _ guard51, Result.andThen_ok, run_eql_struct w 51 _ _]
  rw [show (10000 : Nat) = 9997 + 3 from rfl, he]
  simp
end Go.Proofs.Ytkjloeefcaadlaa
