/- The document's own words of a word that may be: taken out. -/
import Derived.Test.YtkjloeefcaadlaaV3
namespace Go.Proofs.Ytkjloeefcaadlaa
open Go.RowKit Go.Shelf Go.Cs
attribute [local go_sem] Oper.semAt_some
/-- A piece of a slice of places. -/
def SrcP (src : List (Nat × Nat)) (W : World) (v : Value) : Prop :=
  ∃ ao cap, v = .slice ao src.length cap ∧ ∀ k, k < src.length → ∃ b o, ao = some ⟨b, o, none⟩ ∧ W.cell? ⟨b, o + k * 2, none⟩ = some (.int .i64 (src.getD k (0, 0)).1) ∧ W.cell? ⟨b, o + k * 2 + 1, none⟩ = some (.int .i64 (src.getD k (0, 0)).2)
theorem SrcP.new {src : List (Nat × Nat)} {W W' : World} {v : Value} (h : SrcP src W v) (hN : New W W') : SrcP src W' v := by
  obtain ⟨ao, cap, e, hc⟩ := h
  refine ⟨ao, cap, e, fun k hk => ?_⟩
  obtain ⟨b, o, e2, h1, h2⟩ := hc k hk
  exact ⟨b, o, e2, hN.cell h1 id, hN.cell h2 id⟩
theorem cellsP_append (a b : List (Nat × Nat)) : cellsP (a ++ b) = cellsP a ++ cellsP b := by unfold cellsP; rw [List.flatMap_append]
theorem cellsP_get (l : List (Nat × Nat)) {j : Nat} {u : Value} (h : (cellsP l)[j]? = some u) : ∃ k, k < l.length ∧ ((j = k * 2 ∧ u = .int .i64 (l.getD k (0, 0)).1) ∨ (j = k * 2 + 1 ∧ u = .int .i64 (l.getD k (0, 0)).2)) := by
  have hj : j < l.length * 2 := by rw [← cellsP_len]; exact (List.getElem?_eq_some_iff.1 h).1
  obtain ⟨h1, h2⟩ := cellsP_at l (j / 2) (by omega)
  rcases Nat.mod_two_eq_zero_or_one j with e | e
  · have ej : j = j / 2 * 2 := by omega
    rw [← ej, h] at h1
    exact ⟨j / 2, by omega, .inl ⟨ej, Option.some.inj h1⟩⟩
  · have ej : j = j / 2 * 2 + 1 := by omega
    rw [← ej, h] at h2
    exact ⟨j / 2, by omega, .inr ⟨ej, Option.some.inj h2⟩⟩
/-- What is appended to a row of the call's own. -/
theorem append2 (base : Nat) (src : List (Nat × Nat)) (v : Value) (W : World) (h : SrcP src W v) (hL : src.length ≤ 100) {v0 : Value} {L0 : List (Nat × Nat)} {n0 : Nat} (hn0 : n0 = L0.length) (hown : W.ownsRow base 126 2 v0 n0 (cellsP L0)) (hL0 : L0.length ≤ 100) (hb : base ≤ W.heap.size) :
    ∃ v' W', (Builtin.append_ #[123, 123] 123 #[v0, v]).run Try.prog W = .ok v' W' ∧ W'.ownsRow base 126 2 v' (L0.length + src.length) (cellsP (L0 ++ src)) ∧ W.grownBy W' v0.ownBlock := by
  subst hn0
  obtain ⟨i0, hi, hz0, hz1, hz2⟩ := info_parts info55
  obtain ⟨ao, cap, rfl, hc⟩ := h
  cases ao with
  | none =>
    obtain rfl : src = [] := by
      cases src with
      | nil => rfl
      | cons a l => obtain ⟨b, o, e, _⟩ := hc 0 (by simp); cases e
    refine ⟨v0, W, ?_, by simpa using hown, World.grownBy.refl W _⟩
    rcases hown.2 with ⟨rfl, h0⟩ | ⟨g, cap', cur, rfl, _, _, hnc, _⟩
    · simp [Builtin.append_, run_underlying Try.underlying123, sizeOf, typeInfo, hi, Builtin.lenOf, Builtin.firstCells]
    · simp [Builtin.append_, run_underlying Try.underlying123, sizeOf, typeInfo, hi, Builtin.lenOf, Builtin.firstCells, hnc, storeCells]
  | some a =>
    have c1 : ∀ j u, (cellsP src)[j]? = some u → W.cell? (a.add j) = some u := fun j u hu => by
      obtain ⟨k, hk, ⟨rfl, rfl⟩ | ⟨rfl, rfl⟩⟩ := cellsP_get src hu
      all_goals
        obtain ⟨b, o, e, h1, h2⟩ := hc k hk
        simp only [Option.some.injEq] at e
        subst e
        rw [Addr.add_lit]
        first | exact h1 | exact h2
    have c2 : ∀ u ∈ cellsP src, u.oneCell' = true := fun u hu => by
      unfold cellsP at hu
      obtain ⟨p, _, hp⟩ := List.mem_flatMap.1 hu
      simp only [List.mem_cons, List.not_mem_nil, or_false] at hp
      rcases hp with rfl | rfl <;> rfl
    obtain ⟨v', w', hr, h2, h3, _⟩ := run_append_own (P := Try.prog) W base 123 123 126 i0 _ 2 16 Try.underlying123 hi hz0 hz1 hz2 rfl (by decide) v0 L0.length _ hown a src.length cap (cellsP src) (cellsP_len src) c1 c2 (by unfold maxLen; omega) (by omega) hb
    exact ⟨v', w', hr, by rw [cellsP_append]; exact h2, h3⟩
theorem run_op_append2 {o : Oper} {a : Act} {w w' : World} {s x : Operand} {v0 v v' : Value} (ho : o.op = .call { callee := .builtin .append, args := #[s, x], argTypes := #[123, 123] }) (ht : o.type = 123) (hs : a.eval s = v0) (hx : a.eval x = v)
    (hr : (Builtin.append_ #[123, 123] 123 #[v0, v]).run Try.prog w = .ok v' w') : (execOp a.eval o).run Try.prog w = .ok (.value v') w' := by
  unfold execOp
  simp only [ho, ht, resolve, invoke, builtin, Sem.run_bind, Sem.run_pure, Result.andThen_ok, List.map_toArray, List.map_cons, List.map_nil, hs, hx, hr]
/-- The pieces of a row. -/
theorem src_take {l : List (Nat × Nat)} {W : World} {g cap k : Nat} (h : ReadsP l W (.slice (some ⟨g, 0, none⟩) l.length cap)) (hk : k ≤ l.length) (c : Nat) : SrcP (l.take k) W (.slice (some ⟨g, 0, none⟩) k c) := by
  obtain ⟨ao, cap', e, hc⟩ := h
  simp only [Value.slice.injEq] at e
  obtain ⟨rfl, _, rfl⟩ := e
  have hl : (l.take k).length = k := by simp; omega
  refine ⟨_, c, by rw [hl], fun j hj => ?_⟩
  rw [hl] at hj
  obtain ⟨b, e, h1, h2⟩ := hc j (by omega)
  simp only [Option.some.injEq, Addr.mk.injEq, and_true] at e
  have hg : (l.take k).getD j (0, 0) = l.getD j (0, 0) := by simp [List.getD, List.getElem?_take, hj]
  rw [hg]
  refine ⟨g, 0, rfl, ?_, ?_⟩
  · rw [Nat.zero_add, e]; exact h1
  · rw [Nat.zero_add, e]; exact h2
theorem src_drop {l : List (Nat × Nat)} {W : World} {g cap k : Nat} (h : ReadsP l W (.slice (some ⟨g, 0, none⟩) l.length cap)) (hk : k ≤ l.length) (a : Addr) (ha : k < l.length → a = ⟨g, k * 2, none⟩) (c : Nat) : SrcP (l.drop k) W (.slice (some a) (l.length - k) c) := by
  obtain ⟨ao, cap', e, hc⟩ := h
  simp only [Value.slice.injEq] at e
  obtain ⟨rfl, _, rfl⟩ := e
  have hl : (l.drop k).length = l.length - k := by simp
  refine ⟨_, c, by rw [hl], fun j hj => ?_⟩
  rw [hl] at hj
  obtain ⟨b, e, h1, h2⟩ := hc (k + j) (by omega)
  simp only [Option.some.injEq, Addr.mk.injEq, and_true] at e
  have hg : (l.drop k).getD j (0, 0) = l.getD (k + j) (0, 0) := by simp [List.getD]
  rw [hg, ha (by omega)]
  refine ⟨g, k * 2, rfl, ?_, ?_⟩
  · rw [show k * 2 + j * 2 = (k + j) * 2 by omega, e]; exact h1
  · rw [show k * 2 + j * 2 = (k + j) * 2 by omega, e]; exact h2
end Go.Proofs.Ytkjloeefcaadlaa
