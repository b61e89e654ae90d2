/- What WordRows' loop keeps: a word, who is in it, and the rows in the variable; what each deed does to it. -/
import Derived.Test.YtlkepbmjagjfeaaC4
import Derived.Test.YtlkepbmjagjfeaaE4
import Derived.Laws.Rows
namespace Go.Proofs.Ytlkepbmjagjfeaa
open Go.RowKit Go.Shelf Go.Cs
theorem cell_lt {W : World} {a : Addr} {v : Value} (h : W.cell? a = some v) : a.block < W.heap.size := by
  rcases Nat.lt_or_ge a.block W.heap.size with h1 | h1
  · exact h1
  · rw [World.cell?, Array.getElem?_eq_none h1] at h
    simp at h
theorem eight {l : List Value} (h : l.length = 8) : ∃ v0 v1 v2 v3 v4 v5 v6 v7, l = [v0, v1, v2, v3, v4, v5, v6, v7] := by
  match l, h with
  | [v0, v1, v2, v3, v4, v5, v6, v7], _ => exact ⟨v0, v1, v2, v3, v4, v5, v6, v7, rfl⟩
def C8 (W : World) (B : Nat) (v0 v1 v2 v3 v4 v5 v6 v7 : Value) : Prop := W.cell? ⟨B, 0, none⟩ = some v0 ∧ W.cell? ⟨B, 1, none⟩ = some v1 ∧ W.cell? ⟨B, 2, none⟩ = some v2 ∧ W.cell? ⟨B, 3, none⟩ = some v3 ∧ W.cell? ⟨B, 4, none⟩ = some v4 ∧ W.cell? ⟨B, 5, none⟩ = some v5 ∧ W.cell? ⟨B, 6, none⟩ = some v6 ∧ W.cell? ⟨B, 7, none⟩ = some v7
theorem cells8 {W : World} {B : Nat} {T : TypeId} {v0 v1 v2 v3 v4 v5 v6 v7 : Value} (h : W.heap[B]? = some (.cells [v0, v1, v2, v3, v4, v5, v6, v7].toArray T (0, 0))) : C8 W B v0 v1 v2 v3 v4 v5 v6 v7 := by
  refine ⟨?_, ?_, ?_, ?_, ?_, ?_, ?_, ?_⟩ <;> simp [World.cell?, h]
theorem keep8 {wc W W' : World} {B : Nat} {v0 v1 v2 v3 v4 v5 v6 v7 : Value} (h : W.cell? ⟨B, 0, none⟩ = some v0 ∧ W.cell? ⟨B, 1, none⟩ = some v1 ∧ W.cell? ⟨B, 2, none⟩ = some v2 ∧ W.cell? ⟨B, 3, none⟩ = some v3 ∧ W.cell? ⟨B, 4, none⟩ = some v4 ∧ W.cell? ⟨B, 5, none⟩ = some v5 ∧ W.cell? ⟨B, 6, none⟩ = some v6 ∧ W.cell? ⟨B, 7, none⟩ = some v7 ∧ New wc W) (hN : New W W') :
    W'.cell? ⟨B, 0, none⟩ = some v0 ∧ W'.cell? ⟨B, 1, none⟩ = some v1 ∧ W'.cell? ⟨B, 2, none⟩ = some v2 ∧ W'.cell? ⟨B, 3, none⟩ = some v3 ∧ W'.cell? ⟨B, 4, none⟩ = some v4 ∧ W'.cell? ⟨B, 5, none⟩ = some v5 ∧ W'.cell? ⟨B, 6, none⟩ = some v6 ∧ W'.cell? ⟨B, 7, none⟩ = some v7 ∧ New wc W' := by
  obtain ⟨a0, a1, a2, a3, a4, a5, a6, a7, hM⟩ := h
  exact ⟨hN.cell a0 id, hN.cell a1 id, hN.cell a2 id, hN.cell a3 id, hN.cell a4 id, hN.cell a5 id, hN.cell a6 id, hN.cell a7 id, hM.trans hN⟩
theorem held8 {wc W : World} {B : Nat} {v0 v1 v2 v3 v4 v5 v6 v7 : Value} (h : W.cell? ⟨B, 0, none⟩ = some v0 ∧ W.cell? ⟨B, 1, none⟩ = some v1 ∧ W.cell? ⟨B, 2, none⟩ = some v2 ∧ W.cell? ⟨B, 3, none⟩ = some v3 ∧ W.cell? ⟨B, 4, none⟩ = some v4 ∧ W.cell? ⟨B, 5, none⟩ = some v5 ∧ W.cell? ⟨B, 6, none⟩ = some v6 ∧ W.cell? ⟨B, 7, none⟩ = some v7 ∧ New wc W) : New wc W := h.2.2.2.2.2.2.2.2
/-- A slice of deeds: three numbers each. -/
def ReadsD (W : World) (ao : Option Addr) (n : Nat) (D : Nat → Nat → Int) : Prop :=
  ∀ i, i < n → ∃ b o, ao = some ⟨b, o, none⟩ ∧ ∀ j, j < 3 → W.cell? ⟨b, o + i * 3 + j, none⟩ = some (.int .i64 (D i j)) ∧ -9223372036854775808 ≤ D i j ∧ D i j ≤ 9223372036854775807
/-- The array variable in block B reads as the rows. -/
def RowsVar (W0 : World) (B : Nat) (X : Nat → List Int) (W : World) : Prop :=
  ∃ vs : List Value, W.heap[B]? = some (.cells vs.toArray 26 (0, 0)) ∧ vs.length = 8 ∧ (∀ u, u < 8 → ReadsI .i64 W (vs.getD u undef) (X u) ∧ (vs.getD u undef).ownBlock ≠ some B) ∧ Mods (fun g => g = B) W0 W
/-- A word that may be, and its rows in the variable. -/
structure RowsAt' (W0 : World) (B x : Nat) (l : List (Nat × Nat)) (W : World) : Prop where
  enc : Hid (x = enc l)
  ok : OkL l
  st : Hid (RowsVar W0 B (rowL l) W)
def RowsAt (W0 : World) (B x : Nat) (W : World) : Prop := ∃ l, RowsAt' W0 B x l W
theorem okL_nil : OkL [] := ⟨fun p hp => by simp at hp, List.Pairwise.nil⟩
theorem rowsAt_nil {W : World} {B : Nat} (hb : W.heap[B]? = some (.cells #[.slice none 0 0, .slice none 0 0, .slice none 0 0, .slice none 0 0, .slice none 0 0, .slice none 0 0, .slice none 0 0, .slice none 0 0] 26 (0, 0))) : RowsAt W B 0 W := by
  refine ⟨[], by exact (by simp [enc, encT] : 0 = enc []), okL_nil, ⟨[.slice none 0 0, .slice none 0 0, .slice none 0 0, .slice none 0 0, .slice none 0 0, .slice none 0 0, .slice none 0 0, .slice none 0 0], hb, rfl, fun u hu => ?_, Mods.refl _ _⟩⟩
  have : ([.slice none 0 0, .slice none 0 0, .slice none 0 0, .slice none 0 0, .slice none 0 0, .slice none 0 0, .slice none 0 0, .slice none 0 0] : List Value).getD u undef = .slice none 0 0 := by
    match u, hu with
    | 0, _ => rfl
    | 1, _ => rfl
    | 2, _ => rfl
    | 3, _ => rfl
    | 4, _ => rfl
    | 5, _ => rfl
    | 6, _ => rfl
    | 7, _ => rfl
  rw [this]
  exact ⟨ReadsI.nil _ _, by simp [Value.ownBlock]⟩

theorem RowsVar.new {W0 : World} {B : Nat} {X : Nat → List Int} {W W' : World} (h : RowsVar W0 B X W) (hN : New W W') : RowsVar W0 B X W' := by
  obtain ⟨vs, h1, h2, h3, h4⟩ := h
  exact ⟨vs, hN.heap h1 id, h2, fun u hu => ⟨(h3 u hu).1.new hN, (h3 u hu).2⟩, h4.trans (Mods.ofNew hN)⟩
theorem RowsAt'.new {W0 : World} {B x : Nat} {l : List (Nat × Nat)} {W W' : World} (h : RowsAt' W0 B x l W) (hN : New W W') : RowsAt' W0 B x l W' :=
  ⟨h.enc, h.ok, h.st.out.new hN⟩
theorem rowsAt_of {W0 : World} {B : Nat} {l' : List (Nat × Nat)} {W' : World} (x' : Nat) (he : Hid (x' = enc l')) (hok : OkL l') {X : Nat → List Int} (hX : RowsVar W0 B X W') (hr : ∀ u, u < 8 → X u = rowL l' u) : RowsAt W0 B x' W' := by
  refine ⟨l', he, hok, ?_⟩
  obtain ⟨vs, h1, h2, h3, h4⟩ := hX
  exact ⟨vs, h1, h2, fun u hu => ⟨hr u hu ▸ (h3 u hu).1, (h3 u hu).2⟩, h4⟩
/-- One row of the variable: its cell, and what it reads as. -/
theorem RowsVar.at {W0 : World} {B : Nat} {X : Nat → List Int} {W : World} (h : RowsVar W0 B X W) {u : Nat} (hu : u < 8) : ∃ v, W.cell? ⟨B, u, none⟩ = some v ∧ W.frozen? ⟨B, u, none⟩ = false ∧ ReadsI .i64 W v (X u) := by
  obtain ⟨vs, h1, h2, h3, h4⟩ := h
  refine ⟨vs.getD u undef, Arr8.mk h2 h1 u hu, ?_, (h3 u hu).1⟩
  simp [World.frozen?, h1]
/-- A row is put in another one's place. -/
theorem RowsVar.put {W0 : World} {B : Nat} {X : Nat → List Int} {W : World} (h : RowsVar W0 B X W) (u : Nat) {v' : Value} {L : List Int} (hv : ReadsI .i64 W v' L) (hb : v'.ownBlock ≠ some B) : RowsVar W0 B (fun i => if i = u then L else X i) (W.setCell ⟨B, u, none⟩ v') := by
  obtain ⟨vs, h1, h2, h3, h4⟩ := h
  have hM : Mods (fun g => g = B) W (W.setCell ⟨B, u, none⟩ v') := Mods.setCell (S := fun g => g = B) (Mods.refl _ W) (p := ⟨B, u, none⟩) (.inr rfl) v'
  refine ⟨vs.set u v', ?_, by simpa using h2, fun i hi => ?_, h4.trans hM⟩
  · rw [heap_setCell_same W B u vs.toArray 26 v' h1]; simp
  · dsimp only
    by_cases e : i = u
    · subst e
      rw [if_pos rfl, show (vs.set i v').getD i undef = v' by simp [List.getD, show i < vs.length by omega]]
      exact ⟨hv.kept hM (fun g hg => fun e => hb (e ▸ hg)), hb⟩
    · rw [if_neg e, show (vs.set u v').getD i undef = vs.getD i undef by simp [List.getD, List.getElem?_set_ne (Ne.symm e)]]
      exact ⟨(h3 i hi).1.kept hM (fun g hg => fun e => (h3 i hi).2 (e ▸ hg)), (h3 i hi).2⟩
theorem RowsVar.put2 {W0 : World} {B : Nat} {X : Nat → List Int} {W : World} (h : RowsVar W0 B X W) (u1 u2 : Nat) {a1 a2 : Value} {L1 L2 : List Int} (hv1 : ReadsI .i64 W a1 L1) (hb1 : a1.ownBlock ≠ some B) (hv2 : ReadsI .i64 W a2 L2) (hb2 : a2.ownBlock ≠ some B) :
    RowsVar W0 B (fun i => if i = u2 then L2 else if i = u1 then L1 else X i) ((W.setCell ⟨B, u1, none⟩ a1).setCell ⟨B, u2, none⟩ a2) :=
  (h.put u1 hv1 hb1).put u2 (hv2.kept (Mods.setCell (S := fun g => g = B) (Mods.refl _ W) (p := ⟨B, u1, none⟩) (.inr rfl) a1) (fun g hg e => hb2 (e ▸ hg))) hb2
theorem owns_reads {base : Nat} {W : World} {v : Value} {L : List Int} {B : Nat} (h : W.ownsRow base 3 1 v L.length (L.map (Value.int .i64))) (hB : B < base) : ReadsI .i64 W v L ∧ v.ownBlock ≠ some B :=
  ⟨.ofOwns h, fun e => by have := (h.lt B e).1; omega⟩
/-- Which row a slot is in. -/
theorem rowL_mem {l : List (Nat × Nat)} {u : Nat} {s : Int} : s ∈ rowL l u ↔ ∃ p, p ∈ l ∧ p.2 = u ∧ (p.1 : Int) = s := by
  unfold rowL
  simp only [List.mem_map, List.mem_filter, beq_iff_eq]
  exact ⟨fun ⟨p, ⟨h1, h2⟩, h3⟩ => ⟨p, h1, h2, h3⟩, fun ⟨p, h1, h2, h3⟩ => ⟨p, ⟨h1, h2⟩, h3⟩⟩
theorem okL_uniq {l : List (Nat × Nat)} (h : OkL l) {p q : Nat × Nat} (hp : p ∈ l) (hq : q ∈ l) (e : p.1 = q.1) : p = q := by
  obtain ⟨i, hi, rfl⟩ := List.getElem_of_mem hp
  obtain ⟨j, hj, rfl⟩ := List.getElem_of_mem hq
  have hpw := List.pairwise_iff_getElem.1 h.pair
  rcases Nat.lt_trichotomy i j with h1 | h1 | h1
  · exact absurd e (hpw i j hi hj h1).1
  · subst h1; rfl
  · exact absurd e.symm (hpw j i hj hi h1).1
theorem rowI_some {l : List (Nat × Nat)} (h : OkL l) {p : Nat × Nat} (hp : p ∈ l) : rowI (rowL l) p.1 = p.2 := by
  refine rowN_some (h.inn p hp).2 (rowL_mem.2 ⟨p, hp, rfl, rfl⟩) (fun i hi hm => ?_)
  obtain ⟨q, hq, rfl, e⟩ := rowL_mem.1 hm
  have := okL_uniq h hq hp (by omega)
  subst this
  omega
theorem rowI_none {l : List (Nat × Nat)} {s : Int} (hn : ∀ p, p ∈ l → (p.1 : Int) ≠ s) : rowI (rowL l) s = -1 :=
  rowN_none fun i _ hm => by
    obtain ⟨q, hq, _, e⟩ := rowL_mem.1 hm
    exact hn q hq e
/-- In which row a slot is, or that it is in none. -/
theorem rowI_cases {l : List (Nat × Nat)} (h : OkL l) (s : Int) : (∃ p, p ∈ l ∧ (p.1 : Int) = s ∧ rowI (rowL l) s = p.2) ∨ ((∀ p, p ∈ l → (p.1 : Int) ≠ s) ∧ rowI (rowL l) s = -1) := by
  by_cases hc : ∃ p, p ∈ l ∧ (p.1 : Int) = s
  · obtain ⟨p, hp, rfl⟩ := hc
    exact .inl ⟨p, hp, rfl, rowI_some h hp⟩
  · have hn : ∀ p, p ∈ l → (p.1 : Int) ≠ s := fun p hp e => hc ⟨p, hp, e⟩
    exact .inr ⟨hn, rowI_none hn⟩
theorem rowL_append (a b : List (Nat × Nat)) (u : Nat) : rowL (a ++ b) u = rowL a u ++ rowL b u := by simp [rowL]
theorem rowL_cons (p : Nat × Nat) (b : List (Nat × Nat)) (u : Nat) : rowL (p :: b) u = (if p.2 = u then [(p.1 : Int)] else []) ++ rowL b u := by
  unfold rowL
  by_cases h : p.2 = u <;> simp [h]
theorem rowL_ins {l : List (Nat × Nat)} (h : OkL l) (s u i : Nat) : rowL (insL l s u) i = if i = u then rowL l u ++ [(s : Int)] else rowL l i := by
  have e := sorted_parts h.sorted u
  unfold insL
  rw [rowL_append, rowL_cons]
  have hl : rowL l i = rowL (l.filter (fun p => decide (p.2 ≤ u))) i ++ rowL (l.filter (fun p => decide (u < p.2))) i := by rw [← rowL_append, e]
  by_cases hi : i = u
  · subst hi
    have hz : rowL (l.filter (fun p => decide (i < p.2))) i = [] := by
      rw [List.eq_nil_iff_forall_not_mem]
      intro x hx
      obtain ⟨p, hp, h1, _⟩ := rowL_mem.1 hx
      have := (List.mem_filter.1 hp).2
      simp at this
      omega
    rw [hl, hz]
    simp
  · rw [if_neg hi, hl]
    simp [Ne.symm hi]
theorem rowL_del (l : List (Nat × Nat)) (s i : Nat) : rowL (delL l s) i = (rowL l i).filter (fun x => x != (s : Int)) := by
  unfold rowL delL
  rw [List.filter_map, List.filter_filter, List.filter_filter]
  congr 1
  apply List.filter_congr
  intro p _
  simp only [Function.comp, Bool.and_comm, bne]
  congr 1
  congr 1
  rw [Bool.eq_iff_iff]
  simp
  omega
theorem putL_yes {l : List Int} {s : Int} (h : s ∉ l) : putL l s true = l ++ [s] := by
  unfold putL
  rw [List.filter_eq_self.2 (fun x hx => by simp; rintro rfl; exact h hx)]
  rfl
theorem putL_no (l : List Int) (s : Int) : putL l s false = l.filter (fun x => x != s) := by simp [putL]
theorem rowL_in_len {l : List (Nat × Nat)} (h : OkL l) (u : Nat) : (rowL l u).length ≤ 8 := by
  unfold rowL
  rw [List.length_map]
  exact Nat.le_trans (List.length_filter_le _ _) h.len
/-- Who is pushed: its row is told as the document tells it. -/
theorem rows_push {l : List (Nat × Nat)} (h : OkL l) {s u : Nat} (hn : ∀ p, p ∈ l → p.1 ≠ s) (i : Nat) : (if i = u then putL (rowL l u) s true else rowL l i) = rowL (insL l s u) i := by
  have hm : (s : Int) ∉ rowL l u := fun hm => by
    obtain ⟨p, hp, _, e⟩ := rowL_mem.1 hm
    exact hn p hp (by omega)
  rw [rowL_ins h, putL_yes hm]
theorem rows_out {l : List (Nat × Nat)} (h : OkL l) {p : Nat × Nat} (hp : p ∈ l) (i : Nat) : (if i = p.2 then putL (rowL l p.2) p.1 false else rowL l i) = rowL (delL l p.1) i := by
  rw [rowL_del, putL_no]
  by_cases hi : i = p.2
  · rw [if_pos hi, hi]
  · rw [if_neg hi, List.filter_eq_self.2]
    intro x hx
    obtain ⟨q, hq, hqi, rfl⟩ := rowL_mem.1 hx
    simp only [bne_iff_ne, ne_eq]
    intro e
    have := okL_uniq h hq hp (by omega)
    subst this
    exact hi hqi.symm
theorem rows_turn {l : List (Nat × Nat)} (h : OkL l) {p : Nat × Nat} (hp : p ∈ l) {u : Nat} (hu : p.2 ≠ u) (i : Nat) :
    (if i = u then putL (rowL l u) p.1 true else if i = p.2 then putL (rowL l p.2) p.1 false else rowL l i) = rowL (insL (delL l p.1) p.1 u) i := by
  have hd := delL_ok h p.1
  have hn : ∀ q, q ∈ delL l p.1 → q.1 ≠ p.1 := fun q hq => (delL_mem.1 hq).2
  rw [← rows_push hd hn, ← rows_out h hp, ← rows_out h hp, if_neg (Ne.symm hu)]
theorem put_slice {v : Value} {l : List Int} (m : Int) (b : Bool) (hL : l.length ≤ 100) {w : World} (hr : ReadsI .i64 w v l) {B : Nat} (hB : B < w.heap.size) :
    Calls Try.prog 9 #[v, .int .i64 m, .bool b] w fun e w' => ∃ ao n cap, e = .returned (.slice ao n cap) ∧ ReadsI .i64 w' (.slice ao n cap) (putL l m b) ∧ (Value.slice ao n cap).ownBlock ≠ some B ∧ New w w' := by
  refine (put_any v l m b hL w hr).mono ?_
  rintro e w' ⟨v', rfl, hown, hN⟩
  obtain ⟨h1, h2⟩ := owns_reads hown hB
  obtain ⟨_, ao, cap, rfl, _⟩ := id h1
  exact ⟨ao, _, cap, rfl, h1, h2, hN⟩
theorem RowsAt'.lt {W0 W : World} {B x : Nat} {l : List (Nat × Nat)} (h : RowsAt' W0 B x l W) : x < 18446744073709551616 := by rw [h.enc.out]; exact enc_lt h.ok
/-- A call that answers a word and whether it went. -/
def Two (f : Nat) (args : Array Value) (z : Nat) (b : Bool) : Prop := ∀ w, Calls Try.prog f args w fun e w' => e = .returned (.tuple #[.int .u64 z, .bool b]) ∧ New w w'
theorem two_of {f : Nat} {args : Array Value} {r : Nat × Bool} {z : Nat} {b : Bool} (h : ∀ w, Calls Try.prog f args w fun e w' => e = .returned (pair r) ∧ New w w') (hr : r = (z, b)) : Two f args z b := by
  intro w
  have := h w
  rw [hr] at this
  exact this
theorem d_push {W0 W : World} {B x : Nat} {l : List (Nat × Nat)} (h : RowsAt' W0 B x l W) {s u : Nat} (hs : s < 8) (hu : u < 8) (hn : ∀ p, p ∈ l → p.1 ≠ s) :
    ∃ z, Hid (z = enc (insL l s u)) ∧ Two 8 #[.int .u64 x, .int .i64 s, .int .i64 u] z true := by
  refine ⟨_, Lib.hid rfl, two_of (fun w => push_any x s u h.lt (by omega) (by omega) (by omega) (by omega) w) ?_⟩
  rw [h.enc.out]
  exact push_enc h.ok hs hu hn
theorem d_push_no {W0 W : World} {B x : Nat} {l : List (Nat × Nat)} (h : RowsAt' W0 B x l W) {s u : Int} (s1 : -9223372036854775808 ≤ s) (s2 : s ≤ 9223372036854775807) (u1 : -9223372036854775808 ≤ u) (u2 : u ≤ 9223372036854775807) (hn : ¬ canPush l s u) :
    Two 8 #[.int .u64 x, .int .i64 s, .int .i64 u] x false := by
  refine two_of (fun w => push_any x s u h.lt s1 s2 u1 u2 w) ?_
  rw [h.enc.out]
  exact push_enc_no h.ok hn
theorem d_out {W0 W : World} {B x : Nat} {l : List (Nat × Nat)} (h : RowsAt' W0 B x l W) {p : Nat × Nat} (hp : p ∈ l) :
    ∃ z, Hid (z = enc (delL l p.1)) ∧ Two 12 #[.int .u64 x, .int .i64 p.1] z true := by
  refine ⟨_, Lib.hid rfl, two_of (fun w => out_any x p.1 h.lt w) ?_⟩
  rw [h.enc.out]
  exact out_enc h.ok ⟨p, hp, rfl⟩
theorem d_out_no {W0 W : World} {B x : Nat} {l : List (Nat × Nat)} (h : RowsAt' W0 B x l W) {s : Int} (hn : ∀ p, p ∈ l → (p.1 : Int) ≠ s) :
    Two 12 #[.int .u64 x, .int .i64 s] x false := by
  refine two_of (fun w => out_any x s h.lt w) ?_
  rw [h.enc.out]
  exact out_enc_no h.ok hn
theorem d_turn {W0 W : World} {B x : Nat} {l : List (Nat × Nat)} (h : RowsAt' W0 B x l W) {p : Nat × Nat} (hp : p ∈ l) {u : Nat} (hu : u < 8) (hne : p.2 ≠ u) :
    ∃ z, Hid (z = enc (insL (delL l p.1) p.1 u)) ∧ Two 11 #[.int .u64 x, .int .i64 p.1, .int .i64 u] z true := by
  have hp8 := h.ok.inn p hp
  refine ⟨_, Lib.hid rfl, two_of (fun w => turn_any x p.1 u h.lt (by omega) (by omega) (by omega) (by omega) w) ?_⟩
  rw [h.enc.out]
  have hok := h.ok
  obtain ⟨a, b, rfl⟩ := List.append_of_mem hp
  rw [delL_split hok]
  exact turn_enc hok hu hne
theorem d_turn_no {W0 W : World} {B x : Nat} {l : List (Nat × Nat)} (h : RowsAt' W0 B x l W) {s u : Int} (s1 : -9223372036854775808 ≤ s) (s2 : s ≤ 9223372036854775807) (u1 : -9223372036854775808 ≤ u) (u2 : u ≤ 9223372036854775807)
    (hn : (∀ p, p ∈ l → (p.1 : Int) ≠ s) ∨ ∃ p, p ∈ l ∧ (p.1 : Int) = s ∧ ((p.2 : Int) = u ∨ u < 0 ∨ 8 ≤ u)) :
    Two 11 #[.int .u64 x, .int .i64 s, .int .i64 u] x false := by
  refine two_of (fun w => turn_any x s u h.lt s1 s2 u1 u2 w) ?_
  rw [h.enc.out]
  have hok := h.ok
  rcases hn with hn | ⟨p, hp, rfl, he⟩
  · exact turn_enc_no hok u hn
  · obtain ⟨a, b, rfl⟩ := List.append_of_mem hp
    exact turn_enc_same hok he
def Three (f : Nat) (args : Array Value) (z s : Nat) (b : Bool) : Prop := ∀ w, Calls Try.prog f args w fun e w' => e = .returned (.tuple #[.int .u64 z, .int .i64 s, .bool b]) ∧ New w w'
theorem d_best {W0 W : World} {B x : Nat} {p : Nat × Nat} {l : List (Nat × Nat)} (h : RowsAt' W0 B x (p :: l) W) :
    ∃ z, Hid (z = enc (delL (p :: l) p.1)) ∧ Three 10 #[.int .u64 x] z p.1 true := by
  refine ⟨_, Lib.hid rfl, fun w => ?_⟩
  have hc := best_any x h.lt w
  rw [show delL (p :: l) p.1 = l from delL_split (a := []) h.ok]
  rw [show bestF x = (enc l, p.1, true) by rw [h.enc.out]; exact best_enc_cons h.ok] at hc
  exact hc
theorem d_best_no {W0 W : World} {B x : Nat} (h : RowsAt' W0 B x [] W) : Three 10 #[.int .u64 x] x 0 false := by
  intro w
  have hc := best_any x h.lt w
  rw [show bestF x = (x, 0, false) by rw [h.enc.out]; exact best_enc_nil] at hc
  exact hc
/-- The first row that is not empty. -/
theorem first_row {p : Nat × Nat} {l : List (Nat × Nat)} (h : OkL (p :: l)) : p.2 ≤ 7 ∧ (∀ i, i < p.2 → rowL (p :: l) i = []) ∧ ∃ m, rowL (p :: l) p.2 = (p.1 : Int) :: m := by
  refine ⟨by have := (h.inn p (by simp)).2; omega, fun i hi => ?_, ?_⟩
  · rw [List.eq_nil_iff_forall_not_mem]
    intro x hx
    obtain ⟨q, hq, rfl, _⟩ := rowL_mem.1 hx
    rcases List.mem_cons.1 hq with rfl | hq
    · omega
    · have := ((List.pairwise_cons.1 h.pair).1 q hq).2; omega
  · rw [rowL_cons, if_pos rfl]
    exact ⟨_, rfl⟩
end Go.Proofs.Ytlkepbmjagjfeaa
