/- An append's row: the old one, or a new one. -/
import Derived.Test.YtkjghojdfjhhkaaDoorM23
set_option linter.unusedSimpArgs false
set_option linter.unusedVariables false
namespace Go.Proofs.YtkjghojdfjhhkaaDoor
open Go.RowKit Go.Shelf Go.Cs
attribute [local go_sem] Oper.semAt_some
def Apart (v v' : Value) : Prop := ∀ g, v.ownBlock = some g → v'.ownBlock ≠ some g
theorem Apart.symm {v v' : Value} (h : Apart v v') : Apart v' v := fun g hg hg' => h g hg' hg
theorem Apart.fresh {base : Nat} {W W' : World} {v v' : Value} {xs ys : List Int} (h : OwB base W v xs) (h' : OwB W.heap.size W' v' ys) : Apart v v' := fun g hg hg' => by
  have := (h.lt g hg).2
  have := (h'.lt g hg').1
  omega
theorem append_block {w w' : World} {base : Nat} {v v' : Value} {A : List Int} {ad : Addr} {m c : Nat} {news : List Value} {ty : TypeId} (hown : OwB base w v A)
    (hl : news.length = m) (hnews : ∀ j u, news[j]? = some u → w.cell? (ad.add j) = some u) (h1 : ∀ u ∈ news, u.oneCell' = true) (hn : A.length + m ≤ 100000000)
    (hr : (Builtin.append_ #[22, 22] ty #[v, .slice (some ad) m c]).run Tryd.prog w = .ok v' w') : v'.ownBlock = v.ownBlock ∨ ∃ g, v'.ownBlock = some g ∧ w.heap.size ≤ g := by
  obtain ⟨i, z, hi, hz, hz1, hz2, hz3⟩ := info5
  rcases hown.2 with ⟨rfl, h0⟩ | ⟨g, cap, cur, rfl, hbg, hg, hnc, hcm, hcs, htake⟩
  · by_cases hm : m = 0
    · subst hm
      have hn : news = [] := List.eq_nil_of_length_eq_zero hl
      subst hn
      have : (Builtin.append_ #[22, 22] ty #[.slice none 0 0, .slice (some ad) 0 c]).run Tryd.prog w = .ok (.slice none 0 0) w := by
        simp [Builtin.append_, run_underlying Tryd.underlying22, sizeOf, typeInfo, hi, Builtin.lenOf, Builtin.firstCells, loadCells, loadCellsFrom]
      rw [this] at hr
      cases hr
      exact .inl rfl
    · have h := run_append_nil (P := Tryd.prog) w 22 ty 5 i z Tryd.underlying22 hi hz ad m c news (by rw [hl, hz1, Nat.mul_one]) hnews (by omega) (by omega) (by rw [hz2]; omega)
      rw [h] at hr
      cases hr
      exact .inr ⟨_, rfl, Nat.le_refl _⟩
  · by_cases hroom : A.length + m ≤ cap
    · have h := run_append_room (P := Tryd.prog) w 22 ty 5 i Tryd.underlying22 hi g A.length cap cur hg ad m c news (by rw [hl, hz1, Nat.mul_one]) hnews h1 hroom (by rw [hl, hz1, hcs]; omega)
      rw [h] at hr
      cases hr
      exact .inl rfl
    · have holds : ∀ j u, (A.map (Value.int .u8))[j]? = some u → w.cell? ((⟨g, 0, none⟩ : Addr).add j) = some u := World.ownsRow.cells hown (g := g) rfl
      have h := run_append_grow (P := Tryd.prog) w 22 ty 5 i z Tryd.underlying22 hi hz ⟨g, 0, none⟩ A.length cap (A.map (Value.int .u8)) (by rw [hz1]; simp) holds ad m c news (by rw [hl, hz1, Nat.mul_one]) hnews (by omega) (by omega) (growslice_fits (by omega) (by rw [hz2]; omega))
      rw [h] at hr
      cases hr
      exact .inr ⟨_, rfl, Nat.le_refl _⟩
/-- An append of bytes to bytes of the call's own, and where they lie then. -/
theorem run_append_B2 {o : Oper} {a : Act} {w : World} {s x : Operand} {base : Nat} {v xv : Value} {A B : List Int} (hop : o.op = .call { callee := .builtin .append, args := #[s, x], argTypes := #[22, 22] })
    (hs : a.eval s = v) (hx : a.eval x = xv) (hown : OwB base w v A) (hB : RdB w xv B) (hn : A.length + B.length ≤ 100000000) (hbase : base ≤ w.heap.size) :
    ∃ v' w', (execOp a.eval o).run Tryd.prog w = .ok (.value v') w' ∧ OwB base w' v' (A ++ B) ∧ w.grownBy w' v.ownBlock ∧ (v'.ownBlock = v.ownBlock ∨ ∃ g, v'.ownBlock = some g ∧ w.heap.size ≤ g) := by
  obtain ⟨v', w', hr, ho, hg⟩ := run_append_B hop hs hx hown hB hn hbase
  refine ⟨v', w', hr, ho, hg, ?_⟩
  obtain ⟨ao, cap, rfl⟩ := hB.slice
  obtain ⟨-, h1, h2⟩ := hB.cells
  cases ao with
  | none =>
    have hl := h1 rfl
    obtain rfl : B = [] := List.length_eq_zero_iff.1 hl
    obtain ⟨-, h0⟩ := hB.2 _ _ _ rfl
    obtain rfl : cap = 0 := h0 rfl
    obtain ⟨i0, z, hi, hz0, hz1, hz2, hz3⟩ := info5
    have hr2 := run_append_owned_none (P := Tryd.prog) (w := w) base 22 o.type 5 i0 1 Tryd.underlying22 hi v A.length (A.map (Value.int .u8)) hown
    have : (execOp a.eval o).run Tryd.prog w = .ok (.value v) w := by simp [execOp, hop, resolve, invoke, builtin, hs, hx, hr2, Result.andThen]
    rw [this] at hr
    cases hr
    exact .inl rfl
  | some ad =>
    have hb : ∀ r, (Builtin.append_ #[22, 22] o.type #[v, .slice (some ad) B.length cap]).run Tryd.prog w = r → (execOp a.eval o).run Tryd.prog w = (match r with | .ok u W => .ok (.value u) W | .halt x W => .halt x W) := by
      intro r hr
      cases r <;> simp [execOp, hop, resolve, invoke, builtin, hs, hx, hr, Result.andThen]
    cases hq : (Builtin.append_ #[22, 22] o.type #[v, .slice (some ad) B.length cap]).run Tryd.prog w with
    | halt x W => rw [hb _ hq] at hr; cases hr
    | ok u W =>
      rw [hb _ hq] at hr
      cases hr
      exact append_block (news := B.map (Value.int .u8)) hown (by simp) (fun j u hj => by
        obtain ⟨hj1, rfl⟩ := map_getD B hj
        exact h2 ad rfl j hj1) (fun u hu => by
        obtain ⟨x, _, rfl⟩ := List.mem_map.1 hu
        rfl) hn hq
theorem wpList_append_B2 {ops : Array Oper} {Q : Exit → Act → World → Prop} {rest : List Oper} {o : Oper} {a : Act} {w : World} (s x : Operand) {base : Nat} {v xv : Value} {A B : List Int} (hgd : o.guard = .none) (hop : o.op = .call { callee := .builtin .append, args := #[s, x], argTypes := #[22, 22] })
    (hs : a.eval s = v) (hx : a.eval x = xv) (hown : OwB base w v A) (hB : RdB w xv B) (hn : A.length + B.length ≤ 100000000) (hbase : base ≤ w.heap.size)
    (h : ∀ v' w', OwB base w' v' (A ++ B) → w.grownBy w' v.ownBlock → (v'.ownBlock = v.ownBlock ∨ ∃ g, v'.ownBlock = some g ∧ w.heap.size ≤ g) → wpList Tryd.prog ops Q rest (a.put o.dst v') w') : wpList Tryd.prog ops Q (o :: rest) a w := by
  refine wpList_plain hgd fun K hK => ?_
  obtain ⟨v', w', hr, ho, hg, hb⟩ := run_append_B2 hop hs hx hown hB hn hbase
  unfold Oper.wp
  rw [hr]
  exact hK _ _ (h v' w' ho hg hb)
theorem Apart.grown {base : Nat} {W : World} {v v' u : Value} {xs : List Int} (h : Apart v u) (hu : OwB base W u xs) (hb : v'.ownBlock = v.ownBlock ∨ ∃ g, v'.ownBlock = some g ∧ W.heap.size ≤ g) : Apart v' u := fun g hg hg' => by
  rcases hb with hb | ⟨g', hb, hle⟩
  · exact h g (hb ▸ hg) hg'
  · rw [hb] at hg
    cases hg
    have := (hu.lt _ hg').2
    omega
theorem OwB.grown {base : Nat} {W W' : World} {v u : Value} {xs : List Int} (h : OwB base W u xs) (ha : Apart v u) (hg : W.grownBy W' v.ownBlock) : OwB base W' u xs := by
  refine World.ownsRow.kept h hg ?_
  cases hu : u.ownBlock with
  | none => exact .inl rfl
  | some g => exact .inr fun e => ha g e.symm hu
end Go.Proofs.YtkjghojdfjhhkaaDoor
/- The handler's stage theorem, plainly: what is kept from deed to deed. -/
namespace Go.Proofs.YtkjghojdfjhhkaaDoor
/-- What HandlerWhole keeps: a stream, what came in, what went out, whether the end was told, has gone. -/
structure WInv (k : Nat) (s : St) (x y : List Int) (told ended : Bool) : Prop where
  ans : s.ans = true
  all : x = y ++ s.out
  len : x.length ≤ 100 * k
  on : ended = false → (s.state = 1 ∨ s.state = 2) ∧ told = s.ends
  off : ended = true → (s.state = 3 ∨ s.state = 4) ∧ told = true ∧ s.out = []
theorem WInv.told_open {k : Nat} {s : St} {x y : List Int} {told ended : Bool} (h : WInv k s x y told ended) : openB s = !told := by
  cases ended with
  | false =>
    obtain ⟨h1, h2⟩ := h.on rfl
    unfold openB oursB
    rw [h.ans, ← h2]
    rcases h1 with h1 | h1 <;> rw [h1] <;> cases told <;> rfl
  | true =>
    obtain ⟨h1, h2, -⟩ := h.off rfl
    unfold openB oursB
    rcases h1 with h1 | h1 <;> rw [h1, h2] <;> rfl
theorem WInv.ours {k : Nat} {s : St} {x y : List Int} {told ended : Bool} (h : WInv k s x y told ended) : oursB s = !ended := by
  cases ended with
  | false => obtain ⟨h1, -⟩ := h.on rfl; unfold oursB; rcases h1 with h1 | h1 <;> rw [h1] <;> rfl
  | true => obtain ⟨h1, -⟩ := h.off rfl; unfold oursB; rcases h1 with h1 | h1 <;> rw [h1] <;> rfl
theorem WInv.write {k : Nat} {s : St} {x y b : List Int} {told ended : Bool} (h : WInv k s x y told ended) (hk : k < 30) (hb : b.length ≤ 100) :
    writeS s b = (if told then (s, 270) else ({ s with out := s.out ++ b }, 0)) ∧ WInv (k + 1) (writeS s b).1 (if told then x else x ++ b) y told ended := by
  have ho := h.told_open
  have hl : s.out.length ≤ 100 * k := by have := h.len; rw [h.all] at this; simp at this; omega
  have e : writeS s b = (if told then (s, 270) else ({ s with out := s.out ++ b }, 0)) := by
    unfold writeS
    rw [ho]
    cases told with
    | true => rfl
    | false => simp only [Bool.not_false, if_true, Bool.false_eq_true, if_false]; rw [if_neg (by omega)]
  refine ⟨e, ?_⟩
  rw [e]
  cases told with
  | true => exact ⟨h.ans, h.all, Nat.le_trans h.len (by omega), h.on, h.off⟩
  | false =>
    have he : ended = false := by cases ended with
      | false => rfl
      | true => have := (h.off rfl).2.1; cases this
    subst he
    refine ⟨h.ans, ?_, ?_, fun _ => h.on rfl, fun h => by cases h⟩
    · show x ++ b = y ++ (s.out ++ b); rw [h.all, List.append_assoc]
    · have := h.len; show (x ++ b).length ≤ _; simp; omega
theorem WInv.close {k : Nat} {s : St} {x y : List Int} {told ended : Bool} (h : WInv k s x y told ended) :
    endS s = (if told then (s, 270) else ({ s with ends := true }, 0)) ∧ WInv (k + 1) (endS s).1 x y true ended := by
  have ho := h.told_open
  have e : endS s = (if told then (s, 270) else ({ s with ends := true }, 0)) := by
    unfold endS
    rw [ho]
    cases told <;> rfl
  refine ⟨e, ?_⟩
  rw [e]
  have hl : x.length ≤ 100 * (k + 1) := Nat.le_trans h.len (by omega)
  cases told with
  | true => exact ⟨h.ans, h.all, hl, h.on, h.off⟩
  | false =>
    have he : ended = false := by cases ended with
      | false => rfl
      | true => have := (h.off rfl).2.1; cases this
    subst he
    exact ⟨h.ans, h.all, hl, fun _ => ⟨(h.on rfl).1, rfl⟩, fun h => by cases h⟩
theorem WInv.window {k : Nat} {s : St} {x y : List Int} {told ended : Bool} (h : WInv k s x y told ended) (z : Int) : WInv (k + 1) { s with send := z } x y told ended :=
  ⟨h.ans, h.all, Nat.le_trans h.len (by omega), h.on, h.off⟩
theorem WInv.next {k : Nat} {s : St} {x y : List Int} {told ended : Bool} (h : WInv k s x y told ended) : WInv (k + 1) s x y told ended :=
  ⟨h.ans, h.all, Nat.le_trans h.len (by omega), h.on, h.off⟩
theorem WInv.take {k : Nat} {s : St} {x y : List Int} {told ended : Bool} (h : WInv k s x y told ended) (c f d : Int) :
    ∃ (o : St) (l : List Int) (e ok : Bool), takeS s c f d = (o, l, e, ok) ∧ (ok = true → ended = false) ∧ (ok = false → l = [] ∧ e = false ∧ o = s) ∧
      (l.length : Int) ≤ canZ s.send ∧ (l.length : Int) ≤ canZ c ∧ (l.length : Int) ≤ max d 0 ∧ o.send = s.send - l.length ∧ (ok = true → l = [] → e = true) ∧
      WInv (k + 1) o x (y ++ l) told (ended || e) := by
  unfold takeS
  obtain ⟨n, hn⟩ : ∃ n, (cutZ s.send c f d s.out.length).toNat = n := ⟨_, rfl⟩
  have c0 : 0 ≤ canZ s.send := by unfold canZ; split <;> omega
  have c1 : 0 ≤ canZ c := by unfold canZ; split <;> omega
  have hb : (n : Int) ≤ canZ s.send ∧ (n : Int) ≤ canZ c ∧ (n : Int) ≤ max d 0 ∧ n ≤ s.out.length := by
    unfold cutZ at hn
    omega
  simp only [hn]
  by_cases ht : (sendB s c && !(decide (0 < s.out.length) && decide (n = 0))) = true
  · rw [if_pos ht]
    simp only [Bool.and_eq_true, Bool.not_eq_true', Bool.and_eq_false_iff, decide_eq_false_iff_not] at ht
    obtain ⟨hs, hz⟩ := ht
    unfold sendB at hs
    simp only [Bool.and_eq_true] at hs
    obtain ⟨ho, ha, hq⟩ := hs
    have hO := h.ours
    rw [ho] at hO
    have he : ended = false := by cases ended <;> first | rfl | cases hO
    subst he
    obtain ⟨h1, h2⟩ := h.on rfl
    have hl : (s.out.take n).length = n := by simp; omega
    refine ⟨_, _, _, _, rfl, fun _ => rfl, (by intro hf; cases hf), by rw [hl]; exact hb.1, by rw [hl]; exact hb.2.1, by rw [hl]; exact hb.2.2.1, ?_, ?_, ?_⟩
    · split <;> (rw [hl])
    · intro _ hnil
      have hn0 : n = 0 := by rw [hnil] at hl; simpa using hl.symm
      have hlen : s.out.length = 0 := by rcases hz with hz | hz <;> omega
      rw [if_pos hlen] at hq
      rw [hq, decide_eq_true (by simp; omega)]
      rfl
    · have hall : x = (y ++ s.out.take n) ++ s.out.drop n := by rw [List.append_assoc, List.take_append_drop]; exact h.all
      split
      · rename_i hend
        have hd : s.out.drop n = [] := by
          have := (Bool.and_eq_true _ _ ▸ hend).2
          exact List.length_eq_zero_iff.1 (of_decide_eq_true this)
        rw [hend]
        refine ⟨h.ans, by simpa using hall, Nat.le_trans h.len (by omega), (by intro hf; cases hf), fun _ => ⟨?_, ?_, ?_⟩⟩
        · show (if s.state = 1 then (3 : Int) else 4) = 3 ∨ _
          split
          · exact .inl rfl
          · exact .inr rfl
        · rw [h2]; exact (Bool.and_eq_true _ _ ▸ hend).1
        · exact hd
      · rename_i hend
        have hend' : (s.ends && decide ((s.out.drop n).length = 0)) = false := by simpa using hend
        rw [hend']
        exact ⟨h.ans, hall, Nat.le_trans h.len (by omega), fun _ => ⟨h1, h2⟩, fun h => by cases h⟩
  · rw [if_neg ht]
    refine ⟨_, _, _, _, rfl, (by intro hf; cases hf), fun _ => ⟨rfl, rfl, rfl⟩, c0, c1, by simp; omega, by simp, (by intro hf; cases hf), ?_⟩
    rw [List.append_nil, Bool.or_false]
    exact h.next
theorem WInv.state {k : Nat} {s : St} {x y : List Int} {told ended : Bool} (h : WInv k s x y told ended) : ended = (decide (s.state = 3) || decide (s.state = 4)) := by
  cases ended with
  | false => obtain ⟨h1, -⟩ := h.on rfl; rcases h1 with h1 | h1 <;> rw [h1] <;> rfl
  | true => obtain ⟨h1, -⟩ := h.off rfl; rcases h1 with h1 | h1 <;> rw [h1] <;> rfl
end Go.Proofs.YtkjghojdfjhhkaaDoor
