/- RowsOrder, the plain law: what the two arrays keep of the rows, and what each deed does to it. -/
import Derived.Test.YtcelhdlppimfbaaR17
namespace Go.Proofs.Ytcelhdlppimfbaa
def upd (f : Nat → Int) (m : Nat) (z : Int) (i : Nat) : Int := if i = m then z else f i
structure Inv (X : Nat → List Int) (f g : Nat → Int) (c : Nat) : Prop where
  le : ∀ k, k < 8 → 0 ≤ f k ∧ f k ≤ c
  inn : ∀ u, u < 8 → ∀ n, n ∈ X u → ∃ k : Nat, k < 8 ∧ n = k ∧ f k ≠ 0 ∧ g k = u
  out : ∀ k, k < 8 → f k ≠ 0 → ∃ u, u < 8 ∧ (k : Int) ∈ X u
  ord : ∀ u, u < 8 → (X u).Pairwise (fun a b => f a.toNat < f b.toNat)
  far : ∀ u, 8 ≤ u → ∀ n, n ∈ X u → 0 ≤ n ∧ n < 8
theorem Inv.nodup {X : Nat → List Int} {f g : Nat → Int} {c : Nat} (h : Inv X f g c) {u : Nat} (hu : u < 8) : (X u).Nodup :=
  (h.ord u hu).imp fun hab e => by subst e; omega
theorem Inv.one {X : Nat → List Int} {f g : Nat → Int} {c : Nat} (h : Inv X f g c) {u v : Nat} (hu : u < 8) (hv : v < 8) {n : Int} (h1 : n ∈ X u) (h2 : n ∈ X v) : u = v := by
  obtain ⟨k, _, rfl, _, e1⟩ := h.inn u hu n h1
  obtain ⟨k', _, e, _, e2⟩ := h.inn v hv _ h2
  obtain rfl : k = k' := by omega
  omega
theorem Inv.right {X : Nat → List Int} {f g : Nat → Int} {c : Nat} (h : Inv X f g c) : rightR X = true := by
  refine right_iff.2 ⟨fun n hn => ?_, ?_⟩
  · obtain ⟨u, hu, hm⟩ := fl_mem.1 hn
    obtain ⟨k, hk, rfl, _⟩ := h.inn u hu n hm
    omega
  · rw [fl_eq]
    refine List.pairwise_flatMap.2 ⟨fun u hu => h.nodup (List.mem_range.1 hu), ?_⟩
    refine List.Pairwise.imp_of_mem ?_ (List.pairwise_lt_range (n := 8))
    intro u v hu hv huv x hx y hy e
    subst e
    have := h.one (List.mem_range.1 hu) (List.mem_range.1 hv) hx hy
    omega
theorem Inv.in64 {X : Nat → List Int} {f g : Nat → Int} {c : Nat} (h : Inv X f g c) : In64 X := fun u n hn => by
  by_cases hu : u < 8
  · obtain ⟨k, hk, rfl, _⟩ := h.inn u hu n hn
    omega
  · have := h.far u (by omega) n hn
    omega
theorem Inv.len {X : Nat → List Int} {f g : Nat → Int} {c : Nat} (h : Inv X f g c) (u : Nat) (hu : u < 8) : (X u).length ≤ 1000000 := by
  have := nodup_le 8 (X u) (h.nodup hu) (fun a ha => by obtain ⟨k, hk, rfl, _⟩ := h.inn u hu a ha; omega)
  omega
theorem findR_of {X : Nat → List Int} (hr : rightR X = true) {s : Int} {u : Nat} (hu : u < 8) (hs : s ∈ X u) : ∃ v, v < 8 ∧ s ∈ X v ∧ findR X s = some v := by
  cases h : findR X s with
  | some v => have := findR_some h; exact ⟨v, this.1, this.2.1, rfl⟩
  | none =>
    exfalso
    unfold findR at h
    rw [hr, if_pos rfl, Option.map_eq_none_iff, List.find?_eq_none] at h
    obtain ⟨k, hk, e⟩ := List.getElem_of_mem hs
    have hf := flat_at X hu hk
    have hm := List.mem_of_getElem? hf
    have := h _ hm
    simp [List.getD, hk, e] at this
/-- Who is in is found, in his row; who is not is in none. -/
theorem Inv.find {X : Nat → List Int} {f g : Nat → Int} {c : Nat} (h : Inv X f g c) (s : Int) :
    (∃ k v : Nat, k < 8 ∧ v < 8 ∧ s = k ∧ f k ≠ 0 ∧ g k = v ∧ s ∈ X v ∧ findR X s = some v) ∨ ((0 ≤ s → s < 8 → f s.toNat = 0) ∧ findR X s = none ∧ ∀ u, u < 8 → s ∉ X u) := by
  cases hf : findR X s with
  | some v =>
    obtain ⟨hv, hm, _⟩ := findR_some hf
    obtain ⟨k, hk, rfl, h1, h2⟩ := h.inn v hv s hm
    exact .inl ⟨k, v, hk, hv, rfl, h1, h2, hm, rfl⟩
  | none =>
    have hn : ∀ u, u < 8 → s ∉ X u := fun u hu hm => by
      obtain ⟨v, _, _, e⟩ := findR_of h.right hu hm
      rw [hf] at e; cases e
    refine .inr ⟨fun h0 h8 => ?_, rfl, hn⟩
    by_cases hz : f s.toNat = 0
    · exact hz
    · obtain ⟨u, hu, hm⟩ := h.out s.toNat (by omega) hz
      rw [Int.toNat_of_nonneg h0] at hm
      exact absurd hm (hn u hu)
theorem eightB_iff {n : Int} : eightB n = true ↔ 0 ≤ n ∧ n < 8 := by simp [eightB]
theorem eightB_nat {n : Nat} (h : n < 8) : eightB (n : Int) = true := eightB_iff.2 ⟨by omega, by omega⟩
/-- A slot that is in no row is put at a row's end. -/
theorem Inv.app {X : Nat → List Int} {f g : Nat → Int} {c : Nat} (h : Inv X f g c) {s u : Nat} (hs : s < 8) (hu : u < 8) (h0 : f s = 0) :
    Inv (fun i : Nat => if (i : Int) = u then X i ++ [(s : Int)] else X i) (upd f s (c + 1 : Nat)) (upd g s u) (c + 1) := by
  have hno : ∀ v, v < 8 → (s : Int) ∉ X v := fun v hv hm => by
    obtain ⟨k, _, e, h1, _⟩ := h.inn v hv _ hm
    obtain rfl : s = k := by omega
    exact h1 h0
  have hne : ∀ v, v < 8 → ∀ n, n ∈ X v → n.toNat ≠ s := fun v hv n hm e => by
    obtain ⟨k, _, rfl, h1, _⟩ := h.inn v hv _ hm
    obtain rfl : k = s := by omega
    exact h1 h0
  refine ⟨fun k hk => ?_, fun v hv n hn => ?_, fun k hk hz => ?_, fun v hv => ?_, fun v hv n hn => ?_⟩
  · unfold upd
    split
    · omega
    · have := h.le k hk; omega
  · try dsimp only at hn
    have old : n ∈ X v → ∃ k : Nat, k < 8 ∧ n = k ∧ upd f s (c + 1 : Nat) k ≠ 0 ∧ upd g s u k = v := fun hm => by
      obtain ⟨k, hk, rfl, h1, h2⟩ := h.inn v hv n hm
      have := hne v hv _ hm
      exact ⟨k, hk, rfl, by unfold upd; rw [if_neg (by omega)]; exact h1, by unfold upd; rw [if_neg (by omega)]; exact h2⟩
    split at hn
    · rcases List.mem_append.1 hn with hm | hm
      · exact old hm
      · obtain rfl := List.mem_singleton.1 hm
        exact ⟨s, hs, rfl, by unfold upd; rw [if_pos rfl]; omega, by unfold upd; rw [if_pos rfl]; omega⟩
    · exact old hn
  · try dsimp only
    by_cases e : k = s
    · subst e
      exact ⟨u, hu, by rw [if_pos rfl]; simp⟩
    · unfold upd at hz
      rw [if_neg e] at hz
      obtain ⟨v, hv, hm⟩ := h.out k hk hz
      exact ⟨v, hv, by split <;> simp [hm]⟩
  · try dsimp only
    have old : (X v).Pairwise (fun a b => upd f s (c + 1 : Nat) a.toNat < upd f s (c + 1 : Nat) b.toNat) :=
      List.Pairwise.imp_of_mem (fun {a b} ha hb hab => by unfold upd; rw [if_neg (hne v hv a ha), if_neg (hne v hv b hb)]; exact hab) (h.ord v hv)
    split
    · refine List.pairwise_append.2 ⟨old, List.pairwise_singleton _ _, fun a ha b hb => ?_⟩
      obtain rfl := List.mem_singleton.1 hb
      obtain ⟨k, hk, rfl, _⟩ := h.inn v hv a ha
      have hq := hne v hv _ ha
      have := h.le k hk
      unfold upd
      rw [if_neg hq, if_pos (by omega)]
      simp only [Int.toNat_natCast]
      omega
    · exact old
  · try dsimp only at hn
    rw [if_neg (by omega)] at hn
    exact h.far v hv n hn
/-- A slot is taken out. -/
theorem Inv.del {X : Nat → List Int} {f g : Nat → Int} {c : Nat} (h : Inv X f g c) {s v : Nat} (_hs : s < 8) (hv : v < 8) (hm : (s : Int) ∈ X v) :
    Inv (fun i => if i = v then (X i).erase s else X i) (upd f s 0) g c := by
  have hmem : ∀ {i : Nat}, i < 8 → ∀ {n : Int}, n ∈ (if i = v then (X i).erase s else X i) → n ∈ X i ∧ n ≠ s := fun {i} hi {n} hn => by
    split at hn
    · rename_i e
      have := ((h.nodup hi).mem_erase_iff).1 hn
      exact ⟨this.2, this.1⟩
    · rename_i e
      exact ⟨hn, fun e2 => by subst e2; exact e (h.one hi hv hn hm)⟩
  have hsub : ∀ i, (if i = v then (X i).erase s else X i).Sublist (X i) := fun i => by
    split
    · exact List.erase_sublist
    · exact List.Sublist.refl _
  refine ⟨fun k hk => ?_, fun i hi n hn => ?_, fun k hk hz => ?_, fun i hi => ?_, fun i hi n hn => ?_⟩
  · unfold upd
    split
    · omega
    · exact h.le k hk
  · obtain ⟨h1, h2⟩ := hmem hi hn
    obtain ⟨k, hk, rfl, h3, h4⟩ := h.inn i hi n h1
    exact ⟨k, hk, rfl, by unfold upd; rw [if_neg (by omega)]; exact h3, h4⟩
  · unfold upd at hz
    split at hz
    · exact absurd rfl hz
    · rename_i e
      obtain ⟨i, hi, h1⟩ := h.out k hk hz
      refine ⟨i, hi, ?_⟩
      try dsimp only
      split
      · exact ((h.nodup hi).mem_erase_iff).2 ⟨by omega, h1⟩
      · exact h1
  · try dsimp only
    refine List.Pairwise.imp_of_mem (fun {a b} ha hb hab => ?_) ((h.ord i hi).sublist (hsub i))
    obtain ⟨a1, a2⟩ := hmem hi ha
    obtain ⟨b1, b2⟩ := hmem hi hb
    obtain ⟨ka, _, rfl, _⟩ := h.inn i hi a a1
    obtain ⟨kb, _, rfl, _⟩ := h.inn i hi b b1
    unfold upd
    rw [if_neg (by omega), if_neg (by omega)]
    exact hab
  · exact h.far i hi n ((hsub i).subset hn)
/-- Pushed. -/
theorem Inv.push {X : Nat → List Int} {f g : Nat → Int} {c : Nat} (h : Inv X f g c) (s u : Int) :
    (∃ k v : Nat, k < 8 ∧ v < 8 ∧ s = k ∧ u = v ∧ f k = 0 ∧ pushOk X s u = true ∧ Inv (pushR X s u) (upd f k (c + 1 : Nat)) (upd g k v) (c + 1)) ∨
    (pushOk X s u = false ∧ pushR X s u = X ∧ (0 ≤ s → s < 8 → 0 ≤ u → u < 8 → f s.toNat ≠ 0)) := by
  rcases h.find s with ⟨k, v, hk, hv, rfl, h1, h2, hm, hf⟩ | ⟨h1, hf, hno⟩
  · have e : pushOk X k u = false := by simp [pushOk, hf]
    exact .inr ⟨e, by simp [pushR, e], fun _ _ _ _ => by simpa using h1⟩
  · by_cases hc : (0 ≤ s ∧ s < 8) ∧ 0 ≤ u ∧ u < 8
    · obtain ⟨⟨s0, s8⟩, u0, u8⟩ := hc
      obtain ⟨k, rfl⟩ := Int.eq_ofNat_of_zero_le s0
      obtain ⟨v, rfl⟩ := Int.eq_ofNat_of_zero_le u0
      have e : pushOk X k v = true := by simp [pushOk, hf, h.right, eightB_nat (show k < 8 by omega), eightB_nat (show v < 8 by omega)]
      have hz : f k = 0 := by simpa using h1 s0 s8
      exact .inl ⟨k, v, by omega, by omega, rfl, rfl, hz, e, by unfold pushR; rw [e, if_pos rfl]; exact h.app (by omega) (by omega) hz⟩
    · have e : pushOk X s u = false := by
        cases hp : pushOk X s u with
        | false => rfl
        | true =>
          exfalso
          simp only [pushOk, Bool.not_or, Bool.and_eq_true, Bool.not_not] at hp
          exact hc ⟨eightB_iff.1 hp.1.2, eightB_iff.1 hp.2⟩
      exact .inr ⟨e, by simp [pushR, e], fun a b d e => absurd ⟨⟨a, b⟩, d, e⟩ hc⟩
/-- Out. -/
theorem Inv.outD {X : Nat → List Int} {f g : Nat → Int} {c : Nat} (h : Inv X f g c) (s : Int) :
    (∃ k : Nat, k < 8 ∧ s = k ∧ f k ≠ 0 ∧ (findR X s).isSome = true ∧ Inv (outR X s) (upd f k 0) g c) ∨
    ((findR X s).isSome = false ∧ outR X s = X ∧ (0 ≤ s → s < 8 → f s.toNat = 0)) := by
  rcases h.find s with ⟨k, v, hk, hv, rfl, h1, h2, hm, hf⟩ | ⟨h1, hf, hno⟩
  · exact .inl ⟨k, hk, rfl, h1, by rw [hf]; rfl, by unfold outR; rw [hf]; exact h.del hk hv hm⟩
  · exact .inr ⟨by rw [hf]; rfl, by unfold outR; rw [hf], h1⟩
/-- Turned. -/
theorem Inv.turn {X : Nat → List Int} {f g : Nat → Int} {c : Nat} (h : Inv X f g c) (s u : Int) :
    (∃ k v : Nat, k < 8 ∧ v < 8 ∧ s = k ∧ u = v ∧ f k ≠ 0 ∧ g k ≠ v ∧ turnOk X s u = true ∧ Inv (turnR X s u) (upd f k (c + 1 : Nat)) (upd g k v) (c + 1)) ∨
    (turnOk X s u = false ∧ turnR X s u = X ∧ (0 ≤ s → s < 8 → 0 ≤ u → u < 8 → f s.toNat ≠ 0 → g s.toNat = u)) := by
  rcases h.find s with ⟨k, v, hk, hv, rfl, h1, h2, hm, hf⟩ | ⟨h1, hf, hno⟩
  · by_cases hc : (v : Int) ≠ u ∧ 0 ≤ u ∧ u < 8
    · obtain ⟨hne, u0, u8⟩ := hc
      obtain ⟨u', rfl⟩ := Int.eq_ofNat_of_zero_le u0
      have hd : outR X k = fun i => if i = v then (X i).erase k else X i := by unfold outR; rw [hf]
      have hI : Inv (outR X k) (upd f k 0) g c := by rw [hd]; exact h.del hk hv hm
      have hb : (((v : Int) == (u' : Int)) || !eightB (u' : Int)) = false := by rw [eightB_nat (by omega)]; simp; omega
      rcases hI.push k u' with ⟨k', v', _, _, e1, e2, _, hp, hJ⟩ | ⟨_, _, hq⟩
      · obtain rfl : k = k' := by omega
        obtain rfl : u' = v' := by omega
        refine .inl ⟨k, u', hk, by omega, rfl, rfl, h1, by omega, ?_, ?_⟩
        · simp only [turnOk, hf, hb, hp]; rfl
        · have e : turnR X k u' = pushR (outR X k) k u' := by unfold turnR; rw [hf]; dsimp only; rw [hb, if_neg (by simp)]
          have hu : ∀ z, upd (upd f k 0) k z = upd f k z := fun z => by funext i; unfold upd; split <;> rfl
          rw [hu] at hJ
          rw [e]
          exact hJ
      · have hz : upd f k 0 ((k : Int)).toNat = 0 := by rw [Int.toNat_natCast]; unfold upd; rw [if_pos rfl]
        exact absurd hz (hq (Int.natCast_nonneg k) (by omega) u0 u8)
    · have hb : (((v : Int) == u) || !eightB u) = true := by
        cases hh : (((v : Int) == u) || !eightB u) with
        | true => rfl
        | false =>
          exfalso
          simp only [Bool.or_eq_false_iff, Bool.not_eq_false', beq_eq_false_iff_ne] at hh
          exact hc ⟨hh.1, eightB_iff.1 hh.2⟩
      refine .inr ⟨by simp only [turnOk, hf, hb]; rfl, by unfold turnR; rw [hf]; dsimp only; rw [hb, if_pos rfl], fun a b d e _ => ?_⟩
      rw [Int.toNat_natCast, h2]
      by_cases e' : (v : Int) = u
      · exact e'
      · exact absurd ⟨e', d, e⟩ hc
  · exact .inr ⟨by simp [turnOk, hf], by simp [turnR, hf], fun a b _ _ e => absurd (h1 a b) e⟩
/-- The best one of the first slots. -/
def bk (f g : Nat → Int) : Nat → Int
  | 0 => -1
  | k + 1 => if f k ≠ 0 ∧ (bk f g k < 0 ∨ g k < g (bk f g k).toNat ∨ g k = g (bk f g k).toNat ∧ f k < f (bk f g k).toNat) then k else bk f g k
theorem bk_spec (f g : Nat → Int) : ∀ k, (bk f g k = -1 ∧ ∀ j, j < k → f j = 0) ∨ ∃ b : Nat, b < k ∧ bk f g k = b ∧ f b ≠ 0 ∧ ∀ j, j < k → f j ≠ 0 → g b < g j ∨ (g b = g j ∧ f b ≤ f j)
  | 0 => .inl ⟨rfl, fun j hj => by omega⟩
  | k + 1 => by
    by_cases hz : f k = 0
    · have e : bk f g (k + 1) = bk f g k := by rw [bk, if_neg (fun h => h.1 hz)]
      rw [e]
      rcases bk_spec f g k with ⟨h1, h2⟩ | ⟨b, hb, h1, h2, h3⟩
      · refine .inl ⟨h1, fun j hj => ?_⟩
        by_cases e : j = k
        · rw [e, hz]
        · exact h2 j (by omega)
      · refine .inr ⟨b, by omega, h1, h2, fun j hj hj0 => ?_⟩
        by_cases e : j = k
        · rw [e] at hj0; exact absurd hz hj0
        · exact h3 j (by omega) hj0
    · rcases bk_spec f g k with ⟨h1, h2⟩ | ⟨b, hb, h1, h2, h3⟩
      · have e : bk f g (k + 1) = k := by rw [bk, if_pos ⟨hz, .inl (by omega)⟩]
        rw [e]
        refine .inr ⟨k, by omega, rfl, hz, fun j hj hj0 => ?_⟩
        by_cases e : j = k
        · rw [e]; exact .inr ⟨rfl, by omega⟩
        · exact absurd (h2 j (by omega)) hj0
      · by_cases hc : g k < g b ∨ g k = g b ∧ f k < f b
        · have e : bk f g (k + 1) = k := by rw [bk, h1, Int.toNat_natCast, if_pos ⟨hz, .inr hc⟩]
          rw [e]
          refine .inr ⟨k, by omega, rfl, hz, fun j hj hj0 => ?_⟩
          by_cases e : j = k
          · rw [e]; exact .inr ⟨rfl, by omega⟩
          · rcases h3 j (by omega) hj0 with h | h <;> rcases hc with h' | h' <;> omega
        · have e : bk f g (k + 1) = b := by
            rw [bk, h1, Int.toNat_natCast, if_neg]
            rintro ⟨_, h | h⟩
            · omega
            · exact hc h
          rw [e]
          refine .inr ⟨b, by omega, rfl, h2, fun j hj hj0 => ?_⟩
          by_cases e : j = k
          · rw [e]; omega
          · exact h3 j (by omega) hj0
theorem flatMap_head {α β : Type} (F : α → List β) : ∀ (l : List α) {x : β} {t : List β}, l.flatMap F = x :: t → ∃ p q : List α, ∃ a : α, ∃ r : List β, l = p ++ a :: q ∧ (∀ y, y ∈ p → F y = []) ∧ F a = x :: r
  | [], x, t, h => by simp at h
  | a :: l, x, t, h => by
    rw [List.flatMap_cons] at h
    cases e : F a with
    | nil =>
      rw [e, List.nil_append] at h
      obtain ⟨p, q, b, r, h1, h2, h3⟩ := flatMap_head F l h
      refine ⟨a :: p, q, b, r, by rw [h1]; rfl, fun y hy => ?_, h3⟩
      rcases List.mem_cons.1 hy with rfl | hy
      · exact e
      · exact h2 y hy
    | cons y r =>
      rw [e, List.cons_append] at h
      injection h with h1 h2
      subst h1
      exact ⟨[], l, a, r, rfl, fun y hy => by simp at hy, e⟩
/-- The first of all is the best one. -/
theorem Inv.best {X : Nat → List Int} {f g : Nat → Int} {c : Nat} (h : Inv X f g c) :
    (∃ k : Nat, k < 8 ∧ bk f g 8 = k ∧ (bestR X).2 = ((k : Int), true) ∧ f k ≠ 0 ∧ Inv (bestR X).1 (upd f k 0) g c) ∨
    (bk f g 8 = -1 ∧ (bestR X).2 = (0, false) ∧ (bestR X).1 = X) := by
  have hall : allF X = fl X := by unfold allF; rw [h.right, if_pos rfl]
  cases hf : fl X with
  | nil =>
    have hb : bestR X = (X, 0, false) := by unfold bestR; rw [hall, hf]
    refine .inr ⟨?_, by rw [hb], by rw [hb]⟩
    rcases bk_spec f g 8 with ⟨h1, _⟩ | ⟨b, hb', _, h2, _⟩
    · exact h1
    · obtain ⟨u, hu, hm⟩ := h.out b hb' h2
      have := fl_mem.2 ⟨u, hu, hm⟩
      rw [hf] at this
      simp at this
  | cons n t =>
    have hb : bestR X = (outR X n, n, (findR X n).isSome) := by unfold bestR; rw [hall, hf]
    have hn : n ∈ fl X := by rw [hf]; simp
    obtain ⟨u0, hu0, hm0⟩ := fl_mem.1 hn
    obtain ⟨k, hk, rfl, hk1, hk2⟩ := h.inn u0 hu0 n hm0
    rw [hb]
    rw [fl_eq] at hf
    obtain ⟨p, q, a, r, e1, e2, e3⟩ := flatMap_head X _ hf
    have ha : a < 8 := List.mem_range.1 (by rw [e1]; simp)
    obtain rfl : a = u0 := h.one ha hu0 (n := (k : Int)) (by rw [e3]; simp) hm0
    have hlow : ∀ v, v < a → X v = [] := fun v hv => by
      refine e2 v ?_
      have hv8 : v ∈ List.range 8 := List.mem_range.2 (by omega)
      rw [e1] at hv8
      have hpw := List.pairwise_lt_range (n := 8)
      rw [e1] at hpw
      rcases List.mem_append.1 hv8 with h | h
      · exact h
      · rcases List.mem_cons.1 h with h | h
        · omega
        · have := (List.pairwise_cons.1 (List.pairwise_append.1 hpw).2.1).1 v h
          omega
    rcases h.outD k with ⟨k', _, e4, _, h5, h6⟩ | ⟨h5, _, h6⟩
    · obtain rfl : k = k' := by omega
      refine .inl ⟨k, hk, ?_, by rw [h5], hk1, h6⟩
      rcases bk_spec f g 8 with ⟨_, h2⟩ | ⟨b, hb', hbe, h2, h3⟩
      · exact absurd (h2 k hk) hk1
      · rw [hbe]
        obtain ⟨v, hv, hm⟩ := h.out b hb' h2
        obtain ⟨b2, _, eb, _, hgb⟩ := h.inn v hv _ hm
        obtain rfl : b = b2 := by omega
        have hva : ¬ v < a := fun hlt => by rw [hlow v hlt] at hm; simp at hm
        rcases h3 k hk hk1 with h7 | ⟨h7, h8⟩
        · omega
        · obtain rfl : v = a := by omega
          rw [e3] at hm
          rcases List.mem_cons.1 hm with h9 | h9
          · exact h9
          · have := h.ord v hv
            rw [e3] at this
            have := (List.pairwise_cons.1 this).1 _ h9
            simp only [Int.toNat_natCast] at this
            omega
    · exact absurd (h6 (by omega) (by omega)) (by simpa using hk1)
end Go.Proofs.Ytcelhdlppimfbaa
