/- The handler's wakes: plain facts. -/
import Derived.Test.YtkjghojdfjhhkaaDoorM26
import Derived.Test.YtkjghojdfjhhkaaDoorM29
import Derived.Test.YtkjghojdfjhhkaaDoorM01
set_option linter.unusedSimpArgs false
set_option linter.unusedVariables false
namespace Go.Proofs.YtkjghojdfjhhkaaDoor
open Go.RowKit Go.Shelf Go.Cs
set_option linter.unusedVariables false
def kS : St := ⟨1, 1, 3, 0, 0, false, false, [], 0, false, -1⟩
def kA : St := ⟨1, 1, 3, 0, 0, true, false, [], 0, false, -1⟩
def kB : St := ⟨1, 1, 3, 0, 0, true, false, [104, 101, 108, 108, 111], 0, false, -1⟩
def kC : St := ⟨1, 1, 3, 0, 0, true, true, [104, 101, 108, 108, 111], 0, false, -1⟩
def kD0 : St := ⟨1, 1, 0, 0, 0, true, true, [108, 111], 0, false, -1⟩
def kD : St := ⟨1, 1, 9, 0, 0, true, true, [108, 111], 0, false, -1⟩
def kO : St := ⟨1, 3, 7, 0, 0, true, false, [], 0, false, -1⟩
def kR : St := ⟨1, 5, 7, 0, 0, true, false, [], 0, false, -1⟩
def kL : List Fd := [⟨nStatus, digs 200⟩]
def Va (W : World) (b : Nat) (s : St) : Prop := ∃ ov, W.heap[b]? = some (.cells (s.cs ov).toArray 24 (0, 0)) ∧ OwB 0 W ov s.out
theorem Va.new {W W' : World} {b : Nat} {s : St} (h : Va W b s) (hN : New W W') : Va W' b s := by
  obtain ⟨ov, h, h2⟩ := h
  exact ⟨ov, hN.heap h id, h2.new hN⟩
theorem Va.keep {W : World} {B b : Nat} {s : St} {ov u : Value} (h : Va W b s) (r : W.heap[B]? = some (.cells (kD0.cs ov).toArray 24 (0, 0))) (hs : s.send ≠ 0) : Va (W.setCell ⟨B, 2, none⟩ u) b s := by
  obtain ⟨ov', r', O⟩ := h
  refine ⟨ov', cell_other (T := B) (i := 2) (v := u) r' ?_, owB_set (i := 2) (u := u) O r (by decide)⟩
  rintro rfl
  rw [r] at r'
  simp [St.cs, kD0] at r'
  exact hs r'.2.2.1.symm
theorem Va.set {W : World} {B : Nat} {ov : Value} (r : W.heap[B]? = some (.cells (kD0.cs ov).toArray 24 (0, 0))) (O : OwB 0 W ov [108, 111]) : Va (W.setCell ⟨B, 2, none⟩ (.int .i64 9)) B kD :=
  ⟨ov, cell_stored (i := 2) (v := .int .i64 9) (s' := kD) (ov' := ov) r rfl, owB_set (i := 2) (u := .int .i64 9) O r (by decide)⟩
theorem kw1 : writeS kS [] = (kS, 270) := by decide +kernel
theorem ka0 : answerL 200 [] = some kL := by decide +kernel
theorem ka1 : answerS kS 200 [] = (kA, kL, 0) := by decide +kernel
theorem ka2 : answerS kA 200 [] = (kA, [], 270) := by decide +kernel
theorem ka3 : answerS kS 99 [] = (kS, [], 2) := by decide +kernel
theorem kw2 : writeS kA [104, 101, 108, 108, 111] = (kB, 0) := by decide +kernel
theorem ke1 : endS kB = (kC, 0) := by decide +kernel
theorem ke2 : endS kC = (kC, 270) := by decide +kernel
theorem kt1 : takeS kC 99 16384 16384 = (kD0, [104, 101, 108], false, true) := by decide +kernel
theorem ks1 : sendB kD0 99 = false := by decide +kernel
theorem kt2 : takeS kD 99 16384 16384 = (kO, [108, 111], true, true) := by decide +kernel
theorem kr1 : resetS kO = (kR, 0) := by decide +kernel
theorem kr2 : resetS kR = (kR, 270) := by decide +kernel
theorem ks2 : sendB kO 99 = false := by decide +kernel
theorem ks3 : sendB kC 1 = true := by decide +kernel
theorem ks4 : sendB kC 0 = false := by decide +kernel
theorem ko1 : oursB kS = true := by decide +kernel
theorem ko2 : oursB kO = false := by decide +kernel
theorem kcd : decide (kC = kD) = false := by decide +kernel
end Go.Proofs.YtkjghojdfjhhkaaDoor
/- Regions that draw their order: the first operations that have one order alone are walked as a list. -/
namespace Go.Cs
open Go
variable {P : Program} {Q : Exit → Act → World → Prop} {md : Region.Mode}
/-- The first n operations come one by one, whatever order is picked: each comes behind its forerunner, all others behind the last of them. -/
def lineOk (md : Region.Mode) (ops : Array Oper) (n : Nat) : Bool :=
  (List.range ops.size).all fun j => match ops[j]? with
    | some o => o.after.all (fun e => !Region.binds md e || decide (e.on < j)) && (decide (j = 0) || o.after.any (fun e => Region.binds md e && decide (min (j - 1) (n - 1) ≤ e.on)))
    | none => true
theorem lineOk_spec {ops : Array Oper} {n : Nat} (h : lineOk md ops n = true) {j : Nat} {o : Oper} (hj : ops[j]? = some o) :
    (∀ e ∈ o.after, Region.binds md e = true → e.on < j) ∧ (j ≠ 0 → ∃ e ∈ o.after, Region.binds md e = true ∧ min (j - 1) (n - 1) ≤ e.on) := by
  unfold lineOk at h
  have h1 := List.all_eq_true.1 h j (List.mem_range.2 (Array.getElem?_eq_some_iff.1 hj).1)
  rw [hj] at h1
  simp only [Bool.and_eq_true, Bool.or_eq_true, decide_eq_true_eq] at h1
  obtain ⟨h2, h3⟩ := h1
  refine ⟨fun e he hb => ?_, fun hj0 => ?_⟩
  · have := Array.all_eq_true_iff_forall_mem.1 h2 e he
    simpa [hb] using this
  · rcases h3 with h3 | h3
    · exact absurd h3 hj0
    · obtain ⟨e, he, hb⟩ := Array.any_eq_true'.1 h3
      simp only [Bool.and_eq_true, decide_eq_true_eq] at hb
      exact ⟨e, he, hb.1, hb.2⟩
/-- The first k are listed. -/
def Fst (ops : Array Oper) (k : Nat) (listed : Array Bool) : Prop := listed.size = ops.size ∧ ∀ j, j < ops.size → listed.getD j false = decide (j < k)
theorem Fst.next {ops : Array Oper} {k : Nat} {listed : Array Bool} (h : Fst ops k listed) : Fst ops (k + 1) (listed.setIfInBounds k true) := by
  refine ⟨by simpa using h.1, fun j hj => ?_⟩
  by_cases e : k = j
  · subst e
    have : k < listed.size := by rw [h.1]; exact hj
    simp [this]
  · have h2 := h.2 j hj
    simp only [Array.getD_eq_getD_getElem?, Array.getElem?_setIfInBounds, if_neg e] at h2 ⊢
    rw [h2]
    exact decide_eq_decide.2 (by omega)
theorem Fst.ready {ops : Array Oper} {n k : Nat} {listed : Array Bool} (h : Fst ops k listed) (hl : lineOk md ops n = true) (hk : k < n) (hn : k < ops.size) : k ∈ Region.ready md ops listed ∧ ∀ i ∈ Region.ready md ops listed, i = k := by
  have e0 : ∀ j, j < ops.size → listed.getD j true = decide (j < k) := fun j hj => by
    have := h.2 j hj
    have hj' : j < listed.size := by rw [h.1]; exact hj
    simp [hj'] at this ⊢
    exact this
  refine ⟨mem_ready.2 ⟨by rw [e0 k hn]; simp, ops[k], Array.getElem?_eq_getElem hn, fun e he hb => ?_⟩, fun i hi => ?_⟩
  · have := (lineOk_spec hl (Array.getElem?_eq_getElem hn)).1 e he hb
    rw [h.2 e.on (by omega)]
    exact decide_eq_true this
  · obtain ⟨h0, o, ho, hall⟩ := mem_ready.1 hi
    have hil := (Array.getElem?_eq_some_iff.1 ho).1
    rw [e0 i hil] at h0
    have hik : k ≤ i := by simpa using h0
    rcases Nat.eq_or_lt_of_le hik with e | hlt
    · exact e.symm
    · exfalso
      obtain ⟨e, he, hb, hm⟩ := (lineOk_spec hl ho).2 (by omega)
      have h1 := hall e he hb
      have h2 := (lineOk_spec hl ho).1 e he hb
      rw [h.2 e.on (by omega)] at h1
      have := of_decide_eq_true h1
      omega
/-- What follows the normal end is K, any other end Q. -/
def Cont (Q : Exit → Act → World → Prop) (K : Act → World → Prop) (e : Exit) (a : Act) (w : World) : Prop :=
  match e with
  | .normal => K a w
  | e => Q e a w
theorem cont_lets {K : Act → World → Prop} (h : LetsOut (Cont Q K)) : LetsOut Q := h
theorem cont_wp {o : Oper} {a : Act} {w : World} {K K' : Act → World → Prop} (h : o.wp P a w K' (Cont Q K)) : o.wp P a w K' Q := by
  unfold Oper.wp at *
  generalize (execOp a.eval o).run P w = r at *
  cases r with
  | ok n w' =>
    cases n <;> simp only [Oper.upon] at h ⊢
    all_goals first
      | exact h
      | exact Calls.mono h (fun e w'' he => by cases e <;> exact he)
  | halt x w' => cases x <;> simp only [Oper.upon] at h ⊢ <;> exact h
theorem line_list {ops : Array Oper} {fuel n : Nat} (hl : lineOk md ops n = true) : ∀ (os : List Oper) (k : Nat) (listed : Array Bool) (a : Act) (w : World), (∀ j, j < os.length → os[j]? = ops[k + j]?) → k + os.length = n → n ≤ ops.size →
    Fst ops k listed → wpList P ops (Cont Q (wpAny P md ops Q fuel ((List.range' k os.length).foldl (fun l i => l.setIfInBounds i true) listed))) os a w → wpAny P md ops Q (fuel + os.length) listed a w
  | [], _, _, _, _, _, _, _, _, h => h
  | o :: os, k, listed, a, w, hj, hn, hs, hf, h => by
    simp only [List.length_cons, List.range'_succ] at h hn
    have h0 : ops[k]? = some o := (hj 0 (by simp)).symm
    have IH : ∀ a w, wpList P ops (Cont Q (wpAny P md ops Q fuel ((List.range' k (o :: os).length).foldl (fun l i => l.setIfInBounds i true) listed))) os a w → wpAny P md ops Q (fuel + os.length) (listed.setIfInBounds k true) a w := fun a w hh =>
      line_list hl os (k + 1) _ a w (fun j hj' => by
        have := hj (j + 1) (by simp; omega)
        simpa [Nat.add_assoc, Nat.add_comm 1 j] using this) (by omega) hs hf.next (by simpa only [List.length_cons, List.range'_succ, List.foldl_cons] using hh)
    obtain ⟨hr1, hr2⟩ := hf.ready hl (by omega) (by omega)
    show wpAny P md ops Q ((fuel + os.length) + 1) listed a w
    refine ⟨fun e => by (rw [e] at hr1; cases hr1), fun i hi => ?_⟩
    obtain rfl := hr2 i hi
    unfold wpOp
    rw [h0]
    unfold wpList at h
    simp only at h ⊢
    split at h
    · rename_i hw
      rw [if_pos hw]
      exact h.imp (fun hh => cont_wp (Oper.wp_mono IH hh)) (fun hh => ⟨hh.1, cont_lets hh.2⟩)
    · rename_i hw
      rw [if_neg hw]
      exact IH _ _ h
theorem line_upto {id : Nat} {l : List Oper} (n rest : Nat) {a : Act} {w : World} (hm : P.follows .mixedOrders = true) (hn : l.length = rest + n) (hl : lineOk .any l.toArray n = true)
    (h : ∀ Q', Q' = Cont Q (wpAny P .any l.toArray Q rest ((List.range' 0 n).foldl (fun l i => l.setIfInBounds i true) (Array.replicate l.length false))) → wpList P l.toArray Q' (l.take n) a { w with drawn := w.drawn + 1 }) :
    (Code.region id l.toArray true).wp P Q a w := by
  have e : (l.take n).length = n := by simp; omega
  refine wp_region_any hm ?_
  have hh : wpAny P .any l.toArray Q (rest + (l.take n).length) (Array.replicate l.length false) a { w with drawn := w.drawn + 1 } := by
    refine line_list (n := n) hl (l.take n) 0 _ a _ (fun j hj => ?_) (by omega) (by simp; omega) ⟨by simp, fun j hj => by simp at hj; simp [hj]⟩ ?_
    · rw [Nat.zero_add, List.getElem?_toArray, List.getElem?_take, if_pos (by omega)]
    · rw [e]
      exact h _ rfl
  rw [e, ← hn] at hh
  exact hh
end Go.Cs
