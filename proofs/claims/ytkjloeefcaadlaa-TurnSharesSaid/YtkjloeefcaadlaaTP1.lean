/- Who is ready, in plain terms: a word, and of each urgency the slot that is held. -/
import Derived.Test.YtkjloeefcaadlaaE4
namespace Go.Proofs.Ytkjloeefcaadlaa
def heldAt (h : Nat → Int) (u : Nat) : List (Int × Nat) := if 0 ≤ h u then [(h u, u)] else []
/-- All that are ready, of the first urgencies. -/
def allTo (X : Nat → List Int) (h : Nat → Int) : Nat → List (Int × Nat)
  | 0 => []
  | u + 1 => allTo X h u ++ (heldAt h u ++ (X u).map fun s => (s, u))
def allT (x : Nat) (h : Nat → Int) : List (Int × Nat) := allTo (rowsF x) h 8
def heldOk (h : Nat → Int) : Bool := (List.range 8).all fun u => h u == -1 || numB (h u)
def rightT (x : Nat) (h : Nat → Int) : Bool := rightB x && heldOk h && decide ((allT x h).map (·.1)).Nodup
def firstT (x : Nat) (h : Nat → Int) (so : Int → Bool) : Option (Int × Nat) := if rightT x h then (allT x h).find? (fun p => so p.1) else none
def ofT (x : Nat) (h : Nat → Int) (s : Int) : Option (Int × Nat) := firstT x h (fun t => t == s)
def manyT (x : Nat) (h : Nat → Int) : Nat := if rightT x h then (allT x h).length else 0
def nextT (x : Nat) (h : Nat → Int) : Option (Int × Nat) := firstT x h fun _ => true
def upd (h : Nat → Int) (u : Nat) (v : Int) : Nat → Int := fun i => if i = u then v else h i
def pushT (x : Nat) (h : Nat → Int) (s u : Int) : Nat × Bool := if (ofT x h s).isNone && ((pushF x s u).2 && rightT x h) then ((pushF x s u).1, true) else (x, false)
/-- Who is ready: a word, and who is held. -/
structure RS where
  x : Nat
  h : Nat → Int
def outT (x : Nat) (h : Nat → Int) (s : Int) : RS × Bool := match ofT x h s with
  | none => (⟨x, h⟩, false)
  | some p => if h p.2 = s then (⟨x, upd h p.2 (-1)⟩, true) else (⟨(outF x s).1, h⟩, true)
def turnT (x : Nat) (h : Nat → Int) (s u : Int) : RS × Bool := match ofT x h s with
  | none => (⟨x, h⟩, false)
  | some p => if (p.2 : Int) = u ∨ numB u = false then (⟨x, h⟩, false) else
      (⟨(pushT (outT x h s).1.x (outT x h s).1.h s u).1, (outT x h s).1.h⟩, (pushT (outT x h s).1.x (outT x h s).1.h s u).2)
def beginT (x : Nat) (h : Nat → Int) : RS × Int × Nat × Bool := match nextT x h with
  | none => (⟨x, h⟩, 0, 0, false)
  | some p => ((outT x h p.1).1, p.1, p.2, true)
def overT (x : Nat) (h : Nat → Int) (s u : Int) (inc rdy : Bool) : RS × Bool :=
  if (ofT x h s).isNone && (numB s && (numB u && rightT x h)) then
    if rdy then
      if inc || decide (0 ≤ h u.toNat) then (⟨(pushT x h s u).1, h⟩, (pushT x h s u).2) else (⟨x, upd h u.toNat s⟩, true)
    else (⟨x, h⟩, true)
  else (⟨x, h⟩, false)
theorem mem_allTo {X : Nat → List Int} {h : Nat → Int} {s : Int} {u : Nat} : ∀ {n : Nat}, (s, u) ∈ allTo X h n ↔ u < n ∧ ((0 ≤ h u ∧ s = h u) ∨ s ∈ X u)
  | 0 => by simp [allTo]
  | n + 1 => by
    rw [allTo, List.mem_append, List.mem_append, mem_allTo (n := n)]
    have e : (s, u) ∈ (X n).map (fun s => (s, n)) ↔ u = n ∧ s ∈ X u := by
      rw [List.mem_map]
      constructor
      · rintro ⟨a, ha, he⟩
        simp only [Prod.mk.injEq] at he
        obtain ⟨rfl, rfl⟩ := he
        exact ⟨rfl, ha⟩
      · rintro ⟨rfl, hs⟩
        exact ⟨s, hs, rfl⟩
    have e2 : (s, u) ∈ heldAt h n ↔ u = n ∧ 0 ≤ h u ∧ s = h u := by
      unfold heldAt
      split
      · simp only [List.mem_singleton, Prod.mk.injEq]
        constructor
        · rintro ⟨rfl, rfl⟩; exact ⟨rfl, ‹_›, rfl⟩
        · rintro ⟨rfl, _, rfl⟩; exact ⟨rfl, rfl⟩
      · simp only [List.not_mem_nil, false_iff]
        rintro ⟨rfl, h1, _⟩
        omega
    rw [e, e2]
    constructor
    · rintro (⟨h1, h2⟩ | ⟨rfl, h2⟩ | ⟨rfl, h2⟩)
      · exact ⟨by omega, h2⟩
      · exact ⟨by omega, .inl h2⟩
      · exact ⟨by omega, .inr h2⟩
    · rintro ⟨h1, h2⟩
      by_cases hn : u < n
      · exact .inl ⟨hn, h2⟩
      · obtain rfl : u = n := by omega
        rcases h2 with h2 | h2
        · exact .inr (.inl ⟨rfl, h2⟩)
        · exact .inr (.inr ⟨rfl, h2⟩)
theorem mem_rowL {l : List (Nat × Nat)} {u : Nat} {s : Int} : s ∈ rowL l u ↔ ∃ p, p ∈ l ∧ p.2 = u ∧ (p.1 : Int) = s := by
  simp only [rowL, List.mem_map, List.mem_filter, beq_iff_eq]
  constructor
  · rintro ⟨p, ⟨h1, h2⟩, h3⟩; exact ⟨p, h1, h2, h3⟩
  · rintro ⟨p, h1, h2, h3⟩; exact ⟨p, ⟨h1, h2⟩, h3⟩
theorem mem_allT {l : List (Nat × Nat)} (hl : OkL l) {h : Nat → Int} {s : Int} {u : Nat} : (s, u) ∈ allT (enc l) h ↔ u < 8 ∧ ((0 ≤ h u ∧ s = h u) ∨ ∃ p, p ∈ l ∧ p.2 = u ∧ (p.1 : Int) = s) := by
  rw [allT, mem_allTo, rows_enc hl, mem_rowL]
theorem inj_of_nodup {α β : Type} {f : α → β} : ∀ {l : List α}, (l.map f).Nodup → ∀ {a b : α}, a ∈ l → b ∈ l → f a = f b → a = b
  | [], _, _, _, h, _, _ => by cases h
  | c :: l, hd, a, b, ha, hb, e => by
    rw [List.map_cons, List.nodup_cons] at hd
    rcases List.mem_cons.1 ha with e1 | ha1
    · rcases List.mem_cons.1 hb with e2 | hb1
      · rw [e1, e2]
      · exact absurd (List.mem_map.2 ⟨b, hb1, by rw [← e, e1]⟩) hd.1
    · rcases List.mem_cons.1 hb with e2 | hb1
      · exact absurd (List.mem_map.2 ⟨a, ha1, by rw [e, e2]⟩) hd.1
      · exact inj_of_nodup hd.2 ha1 hb1 e
/-- Who may be ready. -/
structure VT (l : List (Nat × Nat)) (h : Nat → Int) : Prop where
  ok : OkL l
  held : ∀ u, u < 8 → h u = -1 ∨ (0 ≤ h u ∧ h u < 8)
  apart : ∀ u v, u < 8 → v < 8 → 0 ≤ h u → h u = h v → u = v
  gone : ∀ u, u < 8 → ∀ p, p ∈ l → (p.1 : Int) ≠ h u
theorem row_nodup {l : List (Nat × Nat)} (hl : OkL l) (u : Nat) : (rowL l u).Nodup := by
  unfold rowL
  have h2 : ((l.filter fun p => p.2 == u).map (·.1)).Nodup := (List.Sublist.map _ List.filter_sublist).nodup hl.nodup
  rw [List.Nodup, List.pairwise_map] at h2 ⊢
  exact h2.imp fun h e => h (by omega)
theorem allTo_nodup {l : List (Nat × Nat)} {h : Nat → Int} (hv : VT l h) : ∀ n, n ≤ 8 → ((allTo (rowL l) h n).map (·.1)).Nodup
  | 0, _ => by simp [allTo]
  | n + 1, hn => by
    rw [allTo, List.map_append, List.nodup_append]
    refine ⟨allTo_nodup hv n (by omega), ?_, ?_⟩
    · rw [List.map_append, List.map_map, List.nodup_append]
      have e : (rowL l n).map ((fun p : Int × Nat => p.1) ∘ fun s => (s, n)) = rowL l n := by
        rw [show ((fun p : Int × Nat => p.1) ∘ fun s => (s, n)) = id from rfl, List.map_id]
      rw [e]
      refine ⟨?_, row_nodup hv.ok n, ?_⟩
      · unfold heldAt; split <;> simp
      · intro a ha b hb e2
        subst e2
        unfold heldAt at ha
        split at ha
        · simp at ha
          obtain ⟨p, hp, hpu, hps⟩ := mem_rowL.1 hb
          exact hv.gone n (by omega) p hp (by rw [hps, ha])
        · simp at ha
    · intro a ha b hb e
      subst e
      obtain ⟨⟨s1, u1⟩, h1, rfl⟩ := List.mem_map.1 ha
      obtain ⟨⟨s2, u2⟩, h2, e2⟩ := List.mem_map.1 hb
      dsimp only at e2
      have hm1 := mem_allTo.1 h1
      clear h1 ha hb
      subst e2
      obtain ⟨hu1, hm1⟩ := hm1
      have h2' : u2 = n ∧ ((0 ≤ h u2 ∧ s2 = h u2) ∨ s2 ∈ rowL l u2) := by
        rcases List.mem_append.1 h2 with h2 | h2
        · unfold heldAt at h2
          split at h2
          · simp only [List.mem_singleton, Prod.mk.injEq] at h2
            obtain ⟨rfl, rfl⟩ := h2
            exact ⟨rfl, .inl ⟨‹_›, rfl⟩⟩
          · cases h2
        · obtain ⟨c, hc1, he⟩ := List.mem_map.1 h2
          simp only [Prod.mk.injEq] at he
          obtain ⟨e1, e2⟩ := he
          rw [e1] at hc1
          rw [← e2]
          exact ⟨rfl, .inr hc1⟩
      obtain ⟨rfl, h2'⟩ := h2'
      rcases hm1 with ⟨g1, g2⟩ | g1 <;> rcases h2' with ⟨k1, k2⟩ | k1
      · have := hv.apart u1 u2 (by omega) (by omega) g1 (by omega)
        omega
      · obtain ⟨p, hp, _, hps⟩ := mem_rowL.1 k1
        exact hv.gone u1 (by omega) p hp (by omega)
      · obtain ⟨p, hp, _, hps⟩ := mem_rowL.1 g1
        exact hv.gone u2 (by omega) p hp (by omega)
      · obtain ⟨p, hp, hpu, hps⟩ := mem_rowL.1 g1
        obtain ⟨q, hq, hqu, hqs⟩ := mem_rowL.1 k1
        have : p = q := inj_of_nodup hv.ok.nodup hp hq (by omega)
        subst this
        omega
theorem heldOk_iff {h : Nat → Int} : heldOk h = true ↔ ∀ u, u < 8 → h u = -1 ∨ (0 ≤ h u ∧ h u < 8) := by
  simp only [heldOk, List.all_eq_true, List.mem_range, Bool.or_eq_true, beq_iff_eq, numB_iff]
theorem right_VT {l : List (Nat × Nat)} {h : Nat → Int} (hv : VT l h) : rightT (enc l) h = true := by
  simp only [rightT, Bool.and_eq_true, decide_eq_true_eq]
  refine ⟨⟨right_enc hv.ok, heldOk_iff.2 hv.held⟩, ?_⟩
  rw [allT, rows_enc hv.ok]
  exact allTo_nodup hv 8 (Nat.le_refl _)
theorem row_sub {X : Nat → List Int} {h : Nat → Int} {u : Nat} : ∀ {n : Nat}, u < n → (heldAt h u ++ (X u).map fun s => (s, u)).Sublist (allTo X h n)
  | n + 1, hu => by
    rw [allTo]
    by_cases e : u = n
    · subst e; exact List.sublist_append_right _ _
    · exact (row_sub (by omega)).trans (List.sublist_append_left _ _)
theorem VT_right {x : Nat} {h : Nat → Int} (hr : rightT x h = true) : ∃ l, x = enc l ∧ VT l h := by
  simp only [rightT, Bool.and_eq_true, decide_eq_true_eq] at hr
  obtain ⟨⟨h1, h2⟩, h3⟩ := hr
  obtain ⟨l, hl, rfl⟩ := enc_dec h1
  refine ⟨l, rfl, hl, heldOk_iff.1 h2, fun u v hu hv h0 e => ?_, fun u hu p hp e => ?_⟩
  · have a : (h u, u) ∈ allT (enc l) h := (mem_allT hl).2 ⟨hu, .inl ⟨h0, rfl⟩⟩
    have b : (h v, v) ∈ allT (enc l) h := (mem_allT hl).2 ⟨hv, .inl ⟨by omega, rfl⟩⟩
    have := inj_of_nodup h3 a b e
    simp only [Prod.mk.injEq] at this
    exact this.2
  · have hp8 := hl.inn p hp
    have a : ((p.1 : Int), p.2) ∈ allT (enc l) h := (mem_allT hl).2 ⟨hp8.2, .inr ⟨p, hp, rfl, rfl⟩⟩
    have b : (h u, u) ∈ allT (enc l) h := (mem_allT hl).2 ⟨hu, .inl ⟨by omega, rfl⟩⟩
    have := inj_of_nodup h3 a b e
    simp only [Prod.mk.injEq] at this
    have h4 := h3
    rw [allT, rows_enc hl] at h4
    have h5 := (List.Sublist.map (·.1) (row_sub (X := rowL l) (h := h) hu)).nodup h4
    rw [List.map_append, List.nodup_append] at h5
    refine h5.2.2 (h u) (by unfold heldAt; rw [if_pos (by omega)]; simp) (h u) ?_ rfl
    exact List.mem_map.2 ⟨(h u, u), List.mem_map.2 ⟨h u, mem_rowL.2 ⟨p, hp, this.2, e⟩, rfl⟩, rfl⟩
end Go.Proofs.Ytkjloeefcaadlaa
