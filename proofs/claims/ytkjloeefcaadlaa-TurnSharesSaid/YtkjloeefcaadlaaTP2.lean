/- Who is ready: what each deed leaves. -/
import Derived.Test.YtkjloeefcaadlaaTP1
namespace Go.Proofs.Ytkjloeefcaadlaa
attribute [local irreducible] enc pushF outF rightB rowsF
theorem find_mem {α : Type} {f : α → Bool} {l : List α} {p : α} (h : l.find? f = some p) : p ∈ l ∧ f p = true := ⟨List.mem_of_find?_eq_some h, List.find?_some h⟩
theorem of_some {x : Nat} {h : Nat → Int} {s : Int} {p : Int × Nat} (e : ofT x h s = some p) : p ∈ allT x h ∧ p.1 = s ∧ rightT x h = true := by
  unfold ofT firstT at e
  split at e
  · obtain ⟨h1, h2⟩ := find_mem e
    exact ⟨h1, by simpa using h2, ‹_›⟩
  · cases e
theorem of_iff {l : List (Nat × Nat)} {h : Nat → Int} (hv : VT l h) {s : Int} {p : Int × Nat} : ofT (enc l) h s = some p ↔ p ∈ allT (enc l) h ∧ p.1 = s := by
  constructor
  · intro e; exact ⟨(of_some e).1, (of_some e).2.1⟩
  · rintro ⟨h1, h2⟩
    have hr := right_VT hv
    cases e : ofT (enc l) h s with
    | none =>
      unfold ofT firstT at e
      rw [if_pos hr, List.find?_eq_none] at e
      exact absurd h2 (by simpa using e p h1)
    | some q =>
      obtain ⟨h3, h4, _⟩ := of_some e
      simp only [rightT, Bool.and_eq_true, decide_eq_true_eq] at hr
      rw [inj_of_nodup hr.2 h3 h1 (by rw [h2, h4])]
theorem of_nil {l : List (Nat × Nat)} {h : Nat → Int} (hv : VT l h) {s : Int} : ofT (enc l) h s = none ↔ ∀ p, p ∈ allT (enc l) h → p.1 ≠ s := by
  unfold ofT firstT
  rw [if_pos (right_VT hv), List.find?_eq_none]
  simp
/-- Who is ready may be. -/
def RS.Ok (r : RS) : Prop := ∃ l, r.x = enc l ∧ VT l r.h
theorem RS.Ok.right {r : RS} (h : r.Ok) : rightT r.x r.h = true := by
  obtain ⟨l, e, hv⟩ := h
  rw [e]; exact right_VT hv
theorem ok_of {x : Nat} {h : Nat → Int} (hr : rightT x h = true) : RS.Ok ⟨x, h⟩ := VT_right hr
theorem ok_enc {l : List (Nat × Nat)} {h : Nat → Int} (hv : VT l h) : RS.Ok ⟨enc l, h⟩ := ⟨l, rfl, hv⟩
theorem VT.free {l : List (Nat × Nat)} {h : Nat → Int} (hv : VT l h) {s : Int} (hn : ofT (enc l) h s = none) (hs : 0 ≤ s) : (∀ u, u < 8 → h u ≠ s) ∧ ∀ p, p ∈ l → (p.1 : Int) ≠ s := by
  have := (of_nil hv).1 hn
  refine ⟨fun u hu e => this (h u, u) ((mem_allT hv.ok).2 ⟨hu, .inl ⟨by omega, rfl⟩⟩) e, fun p hp e => ?_⟩
  exact this ((p.1 : Int), p.2) ((mem_allT hv.ok).2 ⟨(hv.ok.inn p hp).2, .inr ⟨p, hp, rfl, rfl⟩⟩) e
theorem VT.ins {l : List (Nat × Nat)} {h : Nat → Int} (hv : VT l h) {s u : Nat} (hn : ofT (enc l) h s = none) (hs : s < 8) (hu : u < 8) : VT (insL l s u) h := by
  obtain ⟨f1, f2⟩ := hv.free hn (by omega)
  refine ⟨insL_ok hv.ok hs hu fun p hp e => f2 p hp (by omega), hv.held, hv.apart, fun v hv8 p hp e => ?_⟩
  rcases insL_mem.1 hp with rfl | hp
  · exact f1 v hv8 e.symm
  · exact hv.gone v hv8 p hp e
theorem push_yesT {l : List (Nat × Nat)} {h : Nat → Int} (hv : VT l h) {s u : Nat} (hn : ofT (enc l) h s = none) (hs : s < 8) (hu : u < 8) : pushT (enc l) h s u = (enc (insL l s u), true) := by
  unfold pushT
  rw [hn, push_enc hv.ok hs hu fun p hp e => (hv.free hn (by omega)).2 p hp (by omega), right_VT hv]
  rfl
theorem push_noT {l : List (Nat × Nat)} {h : Nat → Int} (hv : VT l h) {s u : Int} (hn : ¬ (ofT (enc l) h s = none ∧ 0 ≤ s ∧ s < 8 ∧ 0 ≤ u ∧ u < 8)) : pushT (enc l) h s u = (enc l, false) := by
  unfold pushT
  by_cases c : canPush (enc l |> fun _ => l) s u
  · rw [push_enc_any hv.ok c]
    cases e : ofT (enc l) h s with
    | none => exact absurd ⟨e, c.1, c.2.1, c.2.2.1, c.2.2.2.1⟩ hn
    | some p => rfl
  · rw [push_enc_no hv.ok c]
    simp
theorem push_ok {l : List (Nat × Nat)} {h : Nat → Int} (hv : VT l h) (s u : Int) : ∃ l', (pushT (enc l) h s u).1 = enc l' ∧ VT l' h := by
  by_cases c : ofT (enc l) h s = none ∧ 0 ≤ s ∧ s < 8 ∧ 0 ≤ u ∧ u < 8
  · obtain ⟨hn, h1, h2, h3, h4⟩ := c
    obtain ⟨s, rfl⟩ := Int.eq_ofNat_of_zero_le h1
    obtain ⟨u, rfl⟩ := Int.eq_ofNat_of_zero_le h3
    exact ⟨insL l s u, by rw [push_yesT hv hn (by omega) (by omega)], hv.ins hn (by omega) (by omega)⟩
  · exact ⟨l, by rw [push_noT hv c], hv⟩
theorem VT.drop {l : List (Nat × Nat)} {h : Nat → Int} (hv : VT l h) (u : Nat) : VT l (upd h u (-1)) := by
  refine ⟨hv.ok, fun v hv8 => ?_, fun a b ha hb h0 e => ?_, fun v hv8 p hp e => ?_⟩
  · unfold upd; split
    · exact .inl rfl
    · exact hv.held v hv8
  · unfold upd at h0 e
    split at h0
    · omega
    · rw [if_neg ‹_›] at e
      split at e
      · omega
      · exact hv.apart a b ha hb h0 e
  · unfold upd at e
    split at e
    · omega
    · exact hv.gone v hv8 p hp e
theorem VT.del {l : List (Nat × Nat)} {h : Nat → Int} (hv : VT l h) (s : Nat) : VT (delL l s) h :=
  ⟨delL_ok hv.ok s, hv.held, hv.apart, fun u hu p hp => hv.gone u hu p (delL_mem.1 hp).1⟩
theorem VT.hold {l : List (Nat × Nat)} {h : Nat → Int} (hv : VT l h) {s : Int} (hn : ofT (enc l) h s = none) (h0 : 0 ≤ s) (h8 : s < 8) (u : Nat) : VT l (upd h u s) := by
  obtain ⟨f1, f2⟩ := hv.free hn h0
  refine ⟨hv.ok, fun v hv8 => ?_, fun a b ha hb h0 e => ?_, fun v hv8 p hp e => ?_⟩
  · unfold upd; split
    · exact .inr ⟨h0, h8⟩
    · exact hv.held v hv8
  · unfold upd at h0 e
    by_cases ea : a = u <;> by_cases eb : b = u
    · omega
    · rw [if_pos ea, if_neg eb] at e
      exact absurd e.symm (f1 b hb)
    · rw [if_neg ea, if_pos eb] at e
      exact absurd e (f1 a ha)
    · rw [if_neg ea, if_neg eb] at e
      rw [if_neg ea] at h0
      exact hv.apart a b ha hb h0 e
  · unfold upd at e
    split at e
    · exact f2 p hp e
    · exact hv.gone v hv8 p hp e
/-- Who is ready is held, or stands in the word. -/
theorem of_where {l : List (Nat × Nat)} {h : Nat → Int} (hv : VT l h) {s : Int} {p : Int × Nat} (e : ofT (enc l) h s = some p) :
    p.2 < 8 ∧ ((h p.2 = s ∧ 0 ≤ s ∧ s < 8) ∨ (h p.2 ≠ s ∧ ∃ q, q ∈ l ∧ q.2 = p.2 ∧ (q.1 : Int) = s)) := by
  obtain ⟨h1, h2, _⟩ := of_some e
  obtain ⟨s', u⟩ := p
  dsimp only at h2
  subst h2
  obtain ⟨hu, h1⟩ := (mem_allT hv.ok).1 h1
  refine ⟨hu, ?_⟩
  rcases h1 with ⟨h3, rfl⟩ | ⟨q, hq, h3, h4⟩
  · have := hv.held u hu
    exact .inl ⟨rfl, h3, by omega⟩
  · exact .inr ⟨fun e => hv.gone u hu q hq (by rw [h4]; exact e.symm), q, hq, h3, h4⟩
theorem outT_none {x : Nat} {h : Nat → Int} {s : Int} (e : ofT x h s = none) : outT x h s = (⟨x, h⟩, false) := by
  simp only [outT, e]
theorem outT_held {x : Nat} {h : Nat → Int} {s : Int} {p : Int × Nat} (e : ofT x h s = some p) (hp : h p.2 = s) : outT x h s = (⟨x, upd h p.2 (-1)⟩, true) := by
  simp only [outT, e, hp, if_true]
theorem outT_word {x : Nat} {h : Nat → Int} {s : Int} {p : Int × Nat} (e : ofT x h s = some p) (hp : h p.2 ≠ s) : outT x h s = (⟨(outF x s).1, h⟩, true) := by
  simp only [outT, e, hp, if_false]
theorem out_held {l : List (Nat × Nat)} {h : Nat → Int} {s : Int} {p : Int × Nat} (e : ofT (enc l) h s = some p) (hp : h p.2 = s) : outT (enc l) h s = (⟨enc l, upd h p.2 (-1)⟩, true) := outT_held e hp
theorem out_word {l : List (Nat × Nat)} {h : Nat → Int} (hv : VT l h) {s : Nat} {p : Int × Nat} (e : ofT (enc l) h s = some p) (hp : h p.2 ≠ s) : outT (enc l) h s = (⟨enc (delL l s), h⟩, true) := by
  have hw := of_where hv e
  have hw2 : ∃ q, q ∈ l ∧ q.1 = s := by
    rcases hw.2 with ⟨h1, _⟩ | ⟨_, q, hq, _, h4⟩
    · exact absurd h1 hp
    · exact ⟨q, hq, by omega⟩
  have ho := congrArg Prod.fst (out_enc hv.ok hw2)
  rw [outT_word e hp, ho]
theorem out_noT {l : List (Nat × Nat)} {h : Nat → Int} {s : Int} (e : ofT (enc l) h s = none) : outT (enc l) h s = (⟨enc l, h⟩, false) := outT_none e
theorem out_ok {l : List (Nat × Nat)} {h : Nat → Int} (hv : VT l h) (s : Int) : (outT (enc l) h s).1.Ok := by
  cases e : ofT (enc l) h s with
  | none => rw [out_noT e]; exact ok_enc hv
  | some p =>
    by_cases hp : h p.2 = s
    · rw [out_held e hp]
      exact ⟨l, rfl, hv.drop _⟩
    · rcases (of_where hv e).2 with ⟨h1, _⟩ | ⟨_, q, hq, _, h4⟩
      · exact absurd h1 hp
      · subst h4
        rw [out_word hv e hp]
        exact ⟨_, rfl, hv.del _⟩
theorem RS.Ok.out {r : RS} (h : r.Ok) (s : Int) : (outT r.x r.h s).1.Ok := by
  obtain ⟨l, e, hv⟩ := h
  rw [e]; exact out_ok hv s
theorem RS.Ok.push {r : RS} (h : r.Ok) (s u : Int) : RS.Ok ⟨(pushT r.x r.h s u).1, r.h⟩ := by
  obtain ⟨l, e, hv⟩ := h
  have h1 := push_ok hv s u
  rw [← e] at h1
  obtain ⟨l', h2, h3⟩ := h1
  exact ⟨l', h2, h3⟩
theorem RS.Ok.turn {r : RS} (h : r.Ok) (s u : Int) : (turnT r.x r.h s u).1.Ok := by
  unfold turnT
  split
  · exact h
  · split
    · exact h
    · exact (h.out s).push s u
theorem RS.Ok.begin {r : RS} (h : r.Ok) : (beginT r.x r.h).1.Ok := by
  unfold beginT
  split
  · exact h
  · exact h.out _
theorem RS.Ok.over {r : RS} (h : r.Ok) (s u : Int) (inc rdy : Bool) : (overT r.x r.h s u inc rdy).1.Ok := by
  unfold overT
  split
  · rename_i hc
    simp only [Bool.and_eq_true, Option.isNone_iff_eq_none, numB_iff] at hc
    obtain ⟨hn, ⟨h1, h2⟩, _, _⟩ := hc
    split
    · split
      · exact h.push s u
      · obtain ⟨l, e, hv⟩ := h
        rw [e] at hn ⊢
        exact ⟨l, rfl, hv.hold hn h1 h2 _⟩
    · exact h
  · exact h
theorem allTo_sorted (X : Nat → List Int) (h : Nat → Int) : ∀ n, (allTo X h n).Pairwise (fun a b => a.2 ≤ b.2)
  | 0 => List.Pairwise.nil
  | n + 1 => by
    rw [allTo, List.pairwise_append]
    have hlast : ∀ b, b ∈ (heldAt h n ++ (X n).map fun s => (s, n)) → b.2 = n := by
      intro b hb
      rcases List.mem_append.1 hb with hb | hb
      · unfold heldAt at hb
        split at hb
        · simp at hb; rw [hb]
        · cases hb
      · obtain ⟨s, _, rfl⟩ := List.mem_map.1 hb; rfl
    refine ⟨allTo_sorted X h n, ?_, ?_⟩
    · rw [List.pairwise_iff_forall_sublist]
      intro a b hab
      have ha := hlast a (hab.subset (by simp))
      have hb := hlast b (hab.subset (by simp))
      omega
    · rintro ⟨s, u⟩ ha b hb
      have := (mem_allTo.1 ha).1
      have := hlast b hb
      dsimp only
      omega
theorem next_some {x : Nat} {h : Nat → Int} {p : Int × Nat} (e : nextT x h = some p) : p ∈ allT x h ∧ (∀ q, q ∈ allT x h → p.2 ≤ q.2) ∧ rightT x h = true := by
  unfold nextT firstT at e
  split at e
  · have hs := allTo_sorted (rowsF x) h 8
    rw [← allT] at hs
    cases ha : allT x h with
    | nil => rw [ha] at e; simp at e
    | cons a t =>
      rw [ha] at e hs
      simp at e
      subst e
      refine ⟨by simp, fun q hq => ?_, ‹_›⟩
      rcases List.mem_cons.1 hq with rfl | hq
      · exact Nat.le_refl _
      · exact (List.pairwise_cons.1 hs).1 q hq
  · cases e
theorem next_none {x : Nat} {h : Nat → Int} (hr : rightT x h = true) (e : nextT x h = none) : allT x h = [] := by
  unfold nextT firstT at e
  rw [if_pos hr] at e
  cases ha : allT x h with
  | nil => rfl
  | cons a t => rw [ha] at e; simp at e
theorem all_in {r : RS} (h : r.Ok) {p : Int × Nat} (hp : p ∈ allT r.x r.h) : 0 ≤ p.1 ∧ p.1 < 8 ∧ p.2 < 8 := by
  obtain ⟨l, e, hv⟩ := h
  rw [e] at hp
  obtain ⟨s, u⟩ := p
  obtain ⟨hu, h1⟩ := (mem_allT hv.ok).1 hp
  refine ⟨?_, ?_, hu⟩
  · rcases h1 with ⟨h3, rfl⟩ | ⟨q, hq, h3, h4⟩ <;> dsimp only <;> omega
  · rcases h1 with ⟨h3, rfl⟩ | ⟨q, hq, h3, h4⟩
    · have := hv.held u hu; dsimp only; omega
    · have := hv.ok.inn q hq; dsimp only; omega
/-- How many of the first slots are ready. -/
def cntT (x : Nat) (h : Nat → Int) : Nat → Nat
  | 0 => 0
  | n + 1 => cntT x h n + if (ofT x h n).isSome then 1 else 0
theorem cnt_filter : ∀ (n : Nat) (L : List Int), L.Nodup → (∀ a, a ∈ L → 0 ≤ a ∧ a < n) → ((List.range n).filter fun (t : Nat) => decide ((t : Int) ∈ L)).length = L.length
  | 0, L, _, h => by
    cases L with
    | nil => rfl
    | cons a t => have := h a (by simp); omega
  | n + 1, L, hd, h => by
    have ih := cnt_filter n (L.erase (n : Int)) (hd.erase _) (fun a ha => by
      have h1 := (hd.mem_erase_iff).1 ha
      have h2 := h a h1.2
      have h3 := h1.1
      omega)
    rw [List.range_succ, List.filter_append, List.length_append]
    have e : (List.range n).filter (fun (t : Nat) => decide ((t : Int) ∈ L)) = (List.range n).filter (fun (t : Nat) => decide ((t : Int) ∈ L.erase (n : Int))) := by
      apply List.filter_congr
      intro t ht
      rw [List.mem_range] at ht
      have : (t : Int) ∈ L ↔ (t : Int) ∈ L.erase (n : Int) := by
        rw [hd.mem_erase_iff]
        constructor
        · intro h; exact ⟨by omega, h⟩
        · intro h; exact h.2
      simp [this]
    rw [e, ih, List.length_erase]
    by_cases hm : (n : Int) ∈ L
    · have := List.length_pos_of_mem hm
      simp [hm]
      omega
    · simp [hm]
theorem cnt_range (x : Nat) (h : Nat → Int) : ∀ n, cntT x h n = ((List.range n).filter fun t : Nat => (ofT x h t).isSome).length
  | 0 => rfl
  | n + 1 => by
    rw [cntT, cnt_range x h n, List.range_succ, List.filter_append, List.length_append]
    congr 1
    simp only [List.filter_cons, List.filter_nil]
    split <;> rfl
theorem cnt_all {r : RS} (h : r.Ok) : cntT r.x r.h 8 = manyT r.x r.h := by
  have hr := h.right
  rw [cnt_range, manyT, if_pos hr]
  have h' := h
  obtain ⟨l, e, hv⟩ := h
  have hr' := hr
  simp only [rightT, Bool.and_eq_true, decide_eq_true_eq] at hr'
  have := cnt_filter 8 _ hr'.2 (fun a ha => by
    obtain ⟨p, hp, rfl⟩ := List.mem_map.1 ha
    have := all_in h' hp
    omega)
  rw [List.length_map] at this
  rw [← this]
  congr 1
  apply List.filter_congr
  intro t _
  rw [e]
  cases ho : ofT (enc l) r.h t with
  | none =>
    have := (of_nil hv).1 ho
    simp only [Option.isSome_none, Bool.false_eq, decide_eq_false_iff_not, List.mem_map, not_exists, not_and]
    exact fun p hp => this p hp
  | some p =>
    have := of_some ho
    simp only [Option.isSome_some, Bool.true_eq, decide_eq_true_eq, List.mem_map]
    exact ⟨p, this.1, this.2.1⟩
end Go.Proofs.Ytkjloeefcaadlaa
