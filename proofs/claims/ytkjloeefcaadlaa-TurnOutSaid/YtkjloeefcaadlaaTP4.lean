/- Who is ready, in plain terms: who is left behind a deed; one that is out; one that goes on. -/
import Derived.Test.YtkjloeefcaadlaaTP3
namespace Go.Proofs.Ytkjloeefcaadlaa
attribute [local irreducible] enc pushF outF rightB rowsF rightT allT heldOk nextT ofT outT pushT
theorem mem_held {l : List (Nat × Nat)} (hl : OkL l) {h : Nat → Int} {u : Nat} {s : Int} {p : Int × Nat} (hp : p ∈ allT (enc l) (upd h u s)) : p ∈ allT (enc l) h ∨ p = (s, u) := by
  obtain ⟨t, v⟩ := p
  obtain ⟨hv8, h1⟩ := (mem_allT hl).1 hp
  rcases h1 with ⟨h0, h1⟩ | h1
  · unfold upd at h0 h1
    split at h0
    · rename_i e
      rw [if_pos e] at h1
      exact .inr (by rw [h1, e])
    · rename_i e
      rw [if_neg e] at h1
      exact .inl ((mem_allT hl).2 ⟨hv8, .inl ⟨h0, h1⟩⟩)
  · exact .inl ((mem_allT hl).2 ⟨hv8, .inr h1⟩)
theorem mem_ins {l : List (Nat × Nat)} {h : Nat → Int} (hv : VT l h) {s u : Nat} (hn : ofT (enc l) h s = none) (hs : s < 8) (hu : u < 8) {p : Int × Nat} : p ∈ allT (enc (insL l s u)) h ↔ p ∈ allT (enc l) h ∨ p = ((s : Int), u) := by
  obtain ⟨t, v⟩ := p
  rw [mem_allT (hv.ins hn hs hu).ok, mem_allT hv.ok]
  constructor
  · rintro ⟨hv8, h1 | ⟨q, hq, h2, h3⟩⟩
    · exact .inl ⟨hv8, .inl h1⟩
    · rcases insL_mem.1 hq with rfl | hq
      · dsimp only at h2 h3
        exact .inr (by rw [← h2, ← h3])
      · exact .inl ⟨hv8, .inr ⟨q, hq, h2, h3⟩⟩
  · rintro (⟨hv8, h1 | ⟨q, hq, h2, h3⟩⟩ | e)
    · exact ⟨hv8, .inl h1⟩
    · exact ⟨hv8, .inr ⟨q, insL_mem.2 (.inr hq), h2, h3⟩⟩
    · simp only [Prod.mk.injEq] at e
      obtain ⟨e1, e2⟩ := e
      exact ⟨by omega, .inr ⟨(s, u), insL_mem.2 (.inl rfl), e2.symm, e1.symm⟩⟩
/-- Who is left behind one that is out. -/
theorem mem_out {l : List (Nat × Nat)} {h : Nat → Int} (hv : VT l h) (s : Int) {p : Int × Nat} : p ∈ allT (outT (enc l) h s).1.x (outT (enc l) h s).1.h ↔ p ∈ allT (enc l) h ∧ p.1 ≠ s := by
  cases e : ofT (enc l) h s with
  | none =>
    rw [outT_none e]
    have := (of_nil hv).1 e
    exact ⟨fun hp => ⟨hp, this p hp⟩, fun hp => hp.1⟩
  | some q =>
    obtain ⟨t, v⟩ := p
    obtain ⟨hq8, hw⟩ := of_where hv e
    by_cases hh : h q.2 = s
    · rw [outT_held e hh]
      dsimp only
      rw [mem_allT (hv.drop q.2).ok, mem_allT hv.ok]
      constructor
      · rintro ⟨hv8, ⟨h0, h1⟩ | ⟨r, hr, h2, h3⟩⟩
        · unfold upd at h0 h1
          split at h0
          · omega
          · rename_i ne
            rw [if_neg ne] at h1
            refine ⟨⟨hv8, .inl ⟨h0, h1⟩⟩, fun e2 => ?_⟩
            have := hv.apart v q.2 hv8 hq8 h0 (by rw [hh, ← e2, h1])
            exact ne this
        · exact ⟨⟨hv8, .inr ⟨r, hr, h2, h3⟩⟩, fun e2 => hv.gone q.2 hq8 r hr (by rw [hh, h3, e2])⟩
      · rintro ⟨⟨hv8, ⟨h0, h1⟩ | ⟨r, hr, h2, h3⟩⟩, hne⟩
        · have ne : v ≠ q.2 := fun e2 => hne (by rw [h1, e2, hh])
          exact ⟨hv8, .inl (by unfold upd; rw [if_neg ne]; exact ⟨h0, h1⟩)⟩
        · exact ⟨hv8, .inr ⟨r, hr, h2, h3⟩⟩
    · rcases hw with ⟨h1, _⟩ | ⟨_, r, hr, _, h4⟩
      · exact absurd h1 hh
      · subst h4
        rw [out_word hv e hh]
        dsimp only
        rw [mem_allT (hv.del r.1).ok, mem_allT hv.ok]
        constructor
        · rintro ⟨hv8, ⟨h0, h1⟩ | ⟨q2, hq2, h2, h3⟩⟩
          · exact ⟨⟨hv8, .inl ⟨h0, h1⟩⟩, fun e2 => hv.gone v hv8 r hr (by rw [← h1, e2])⟩
          · obtain ⟨hq3, hq4⟩ := delL_mem.1 hq2
            exact ⟨⟨hv8, .inr ⟨q2, hq3, h2, h3⟩⟩, fun e2 => hq4 (by omega)⟩
        · rintro ⟨⟨hv8, ⟨h0, h1⟩ | ⟨q2, hq2, h2, h3⟩⟩, hne⟩
          · exact ⟨hv8, .inl ⟨h0, h1⟩⟩
          · exact ⟨hv8, .inr ⟨q2, delL_mem.2 ⟨hq2, fun e2 => hne (by omega)⟩, h2, h3⟩⟩
theorem RS.Ok.mem_out {r : RS} (hr : r.Ok) (s : Int) {p : Int × Nat} : p ∈ allT (outT r.x r.h s).1.x (outT r.x r.h s).1.h ↔ p ∈ allT r.x r.h ∧ p.1 ≠ s := by
  obtain ⟨l, e, hv⟩ := hr
  rw [e]
  exact Ytkjloeefcaadlaa.mem_out hv s
theorem RS.Ok.of_iff {r : RS} (hr : r.Ok) {s : Int} {p : Int × Nat} : ofT r.x r.h s = some p ↔ p ∈ allT r.x r.h ∧ p.1 = s := by
  obtain ⟨l, e, hv⟩ := hr
  rw [e]
  exact Ytkjloeefcaadlaa.of_iff hv
theorem RS.Ok.of_nil {r : RS} (hr : r.Ok) {s : Int} : ofT r.x r.h s = none ↔ ∀ p, p ∈ allT r.x r.h → p.1 ≠ s := by
  obtain ⟨l, e, hv⟩ := hr
  rw [e]
  exact Ytkjloeefcaadlaa.of_nil hv
/-- Behind one that is out: it is not there, and all others are as they were. -/
theorem of_out {r : RS} (hr : r.Ok) (s t : Int) : ofT (outT r.x r.h s).1.x (outT r.x r.h s).1.h t = if t = s then none else ofT r.x r.h t := by
  have ho := hr.out s
  split
  · rename_i e
    subst e
    rw [ho.of_nil]
    intro p hp
    exact ((hr.mem_out t).1 hp).2
  · rename_i ne
    cases e : ofT r.x r.h t with
    | none =>
      rw [ho.of_nil]
      intro p hp
      exact (hr.of_nil.1 e) p ((hr.mem_out s).1 hp).1
    | some p =>
      obtain ⟨h1, h2⟩ := hr.of_iff.1 e
      exact ho.of_iff.2 ⟨(hr.mem_out s).2 ⟨h1, by rw [h2]; exact ne⟩, h2⟩
theorem filter_none {α : Type} {p : α → Bool} {l : List α} (h : ∀ a, a ∈ l → p a = false) : l.filter p = [] := by
  rw [List.filter_eq_nil_iff]
  intro a ha
  rw [h a ha]
  simp
/-- One that is pushed is the last one of its row. -/
theorem row_ins (l : List (Nat × Nat)) (s u : Nat) : rowL (insL l s u) u = rowL l u ++ [(s : Int)] := by
  have e1 : (l.filter fun p => decide (p.2 ≤ u)).filter (fun p => p.2 == u) = l.filter fun p => p.2 == u := by
    rw [List.filter_filter]
    apply List.filter_congr
    intro p _
    by_cases e : p.2 = u
    · simp [e]
    · have : (p.2 == u) = false := by simpa using e
      simp [this]
  have e2 : (l.filter fun p => decide (u < p.2)).filter (fun p => p.2 == u) = [] := by
    apply filter_none
    intro p hp
    have := (List.mem_filter.1 hp).2
    simp at this
    simp
    omega
  rw [rowL, insL, List.filter_append, List.filter_cons, e1, e2]
  simp [rowL]
theorem del_ins {l : List (Nat × Nat)} (hl : OkL l) {s u : Nat} (hn : ∀ p, p ∈ l → p.1 ≠ s) : delL (insL l s u) s = l := by
  have e : ∀ m : List (Nat × Nat), (∀ p, p ∈ m → p ∈ l) → m.filter (fun p => p.1 != s) = m := by
    intro m hm
    rw [List.filter_eq_self]
    intro p hp
    simpa using hn p (hm p hp)
  rw [delL, insL, List.filter_append, List.filter_cons, e _ (fun p hp => (List.mem_filter.1 hp).1), e _ (fun p hp => (List.mem_filter.1 hp).1)]
  simp only [bne_self_eq_false, Bool.false_eq_true, if_false]
  exact sorted_parts hl.sorted u
/-- Someone is held, and nobody ready has a lesser urgency. -/
structure HoldAt (r : RS) (u : Nat) : Prop where
  ok : r.Ok
  u8 : u < 8
  h0 : 0 ≤ r.h u
  least : ∀ p, p ∈ allT r.x r.h → u ≤ p.2
theorem HoldAt.step {r : RS} {u : Nat} (hr : HoldAt r u) : beginT r.x r.h = (⟨r.x, upd r.h u (-1)⟩, r.h u, u, true) ∧ overT r.x (upd r.h u (-1)) (r.h u) (u : Int) false true = (r, true) := by
  obtain ⟨x, h⟩ := r
  obtain ⟨⟨l, e, hv⟩, h1, h2, h3⟩ := hr
  dsimp only at e hv h2 h3 ⊢
  rw [e] at h3 ⊢
  exact hold_step hv h1 h2 h3
theorem push_mem {x : Nat} {h : Nat → Int} (hr : RS.Ok ⟨x, h⟩) {s u : Int} {q : Int × Nat} (hq : q ∈ allT (pushT x h s u).1 h) : q ∈ allT x h ∨ ((pushT x h s u).2 = true ∧ q.1 = s ∧ (q.2 : Int) = u) := by
  obtain ⟨l, e, hv⟩ := hr
  dsimp only at e hv
  rw [e] at hq ⊢
  by_cases c : ofT (enc l) h s = none ∧ 0 ≤ s ∧ s < 8 ∧ 0 ≤ u ∧ u < 8
  · obtain ⟨hn, c1, c2, c3, c4⟩ := c
    obtain ⟨s, rfl⟩ := Int.eq_ofNat_of_zero_le c1
    obtain ⟨u, rfl⟩ := Int.eq_ofNat_of_zero_le c3
    have hpu := push_yesT hv hn (show s < 8 by omega) (show u < 8 by omega)
    rw [congrArg Prod.fst hpu] at hq
    rcases (mem_ins hv hn (by omega) (by omega)).1 hq with hq | rfl
    · exact .inl hq
    · exact .inr ⟨congrArg Prod.snd hpu, rfl, rfl⟩
  · rw [congrArg Prod.fst (push_noT hv c)] at hq
    exact .inl hq
theorem RS.Ok.held {x : Nat} {h : Nat → Int} (hr : RS.Ok ⟨x, h⟩) {u : Nat} {s : Int} {q : Int × Nat} (hq : q ∈ allT x (upd h u s)) : q ∈ allT x h ∨ q = (s, u) := by
  obtain ⟨l, e, hv⟩ := hr
  dsimp only at e hv
  rw [e] at hq ⊢
  exact mem_held hv.ok hq
theorem over_mem {x : Nat} {h : Nat → Int} (hr : RS.Ok ⟨x, h⟩) {s : Int} {u : Nat} {inc rdy : Bool} {q : Int × Nat} (hq : q ∈ allT (overT x h s (u : Int) inc rdy).1.x (overT x h s (u : Int) inc rdy).1.h) : q ∈ allT x h ∨ q.2 = u := by
  unfold overT at hq
  split at hq
  · split at hq
    · split at hq
      · rcases push_mem hr hq with hq | ⟨_, _, e⟩
        · exact .inl hq
        · exact .inr (by omega)
      · rcases hr.held hq with hq | e
        · exact .inl hq
        · exact .inr (by rw [e]; exact Int.toNat_natCast u)
    · exact .inl hq
  · exact .inl hq
/-- Behind a turn of the next one, that is held then. -/
theorem hold_base {r : RS} (hr : r.Ok) {p : Int × Nat} (hp : nextT r.x r.h = some p)
    (he : (overT (outT r.x r.h p.1).1.x (outT r.x r.h p.1).1.h p.1 (p.2 : Int) false true).1.h p.2 = p.1) :
    HoldAt (overT (outT r.x r.h p.1).1.x (outT r.x r.h p.1).1.h p.1 (p.2 : Int) false true).1 p.2 := by
  obtain ⟨h1, h2, _⟩ := next_some hp
  have hin := all_in hr h1
  have ho := hr.out p.1
  refine ⟨ho.over p.1 (p.2 : Int) false true, hin.2.2, by rw [he]; exact hin.1, fun q hq => ?_⟩
  rcases over_mem (x := (outT r.x r.h p.1).1.x) (h := (outT r.x r.h p.1).1.h) ho hq with hq | e
  · exact h2 q ((hr.mem_out p.1).1 hq).1
  · omega
/-- Somebody is pushed behind it. -/
theorem hold_push {r : RS} {u : Nat} (hr : HoldAt r u) {s v : Int} (hb : (pushT r.x r.h s v).2 = false ∨ (u : Int) ≤ v) : HoldAt ⟨(pushT r.x r.h s v).1, r.h⟩ u := by
  refine ⟨hr.ok.push s v, hr.u8, hr.h0, fun q hq => ?_⟩
  rcases push_mem (x := r.x) (h := r.h) hr.ok hq with hq | ⟨e1, _, e2⟩
  · exact hr.least q hq
  · rcases hb with hb | hb
    · rw [hb] at e1; cases e1
    · omega
/-- A better one has its turn, and is not ready any more. -/
theorem hold_better {r : RS} {u : Nat} (hr : HoldAt r u) {s v : Int} (hb : (pushT r.x r.h s v).2 = true) (hlt : v < (u : Int)) :
    beginT (pushT r.x r.h s v).1 r.h = (r, s, v.toNat, true) ∧ overT r.x r.h s v false false = (r, true) ∧ 0 ≤ v ∧ v < 8 ∧ 0 ≤ s ∧ s < 8 := by
  obtain ⟨x, h⟩ := r
  obtain ⟨⟨l, e, hv⟩, h1, h2, h3⟩ := hr
  dsimp only at e hv h2 h3 hb ⊢
  subst e
  by_cases c : ofT (enc l) h s = none ∧ 0 ≤ s ∧ s < 8 ∧ 0 ≤ v ∧ v < 8
  · obtain ⟨hn, c1, c2, c3, c4⟩ := c
    obtain ⟨s, rfl⟩ := Int.eq_ofNat_of_zero_le c1
    obtain ⟨v, rfl⟩ := Int.eq_ofNat_of_zero_le c3
    have hpu := push_yesT hv hn (by omega) (show v < 8 by omega)
    have hv2 := hv.ins hn (show s < 8 by omega) (show v < 8 by omega)
    have hfree := hv.free hn c1
    have n1 : numB (s : Int) = true := numB_iff.2 ⟨by omega, by omega⟩
    have n2 : numB (v : Int) = true := numB_iff.2 ⟨by omega, by omega⟩
    refine ⟨?_, overT_idle hn n1 n2 (right_VT hv), c3, c4, c1, c2⟩
    have hmem : ((s : Int), v) ∈ allT (enc (insL l s v)) h := (mem_ins hv hn (by omega) (by omega)).2 (.inr rfl)
    have hof : ofT (enc (insL l s v)) h s = some ((s : Int), v) := (of_iff hv2).2 ⟨hmem, rfl⟩
    have hnx : nextT (enc (insL l s v)) h = some ((s : Int), v) := by
      cases hc : nextT (enc (insL l s v)) h with
      | none =>
        have := next_none (right_VT hv2) hc
        rw [this] at hmem
        cases hmem
      | some p =>
        obtain ⟨g1, g2, _⟩ := next_some hc
        rcases (mem_ins hv hn (by omega) (by omega)).1 g1 with g1 | rfl
        · have a := h3 p g1
          have b := g2 _ hmem
          dsimp only at b
          omega
        · rfl
    have hO := out_word hv2 hof (hfree.1 v (by omega))
    rw [del_ins hv.ok (fun p hp e => hfree.2 p hp (by omega))] at hO
    have := beginT_some hnx hO
    rw [congrArg Prod.fst hpu]
    rw [this]
    rfl
  · rw [push_noT hv c] at hb
    cases hb
end Go.Proofs.Ytkjloeefcaadlaa
