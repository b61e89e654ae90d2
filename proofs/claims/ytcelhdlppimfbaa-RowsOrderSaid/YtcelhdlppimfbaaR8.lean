/- A slot is taken out. -/
import Derived.Test.YtcelhdlppimfbaaR7
import Derived.Laws.IdiomCopy
namespace Go.Proofs.Ytcelhdlppimfbaa
open Go.RowKit Go.Shelf Go.Cs
attribute [local go_sem] Oper.semAt_some
theorem heap_setCells {g : Nat} {t : TypeId} : ∀ (vs : List Value) (o : Nat) (w : World) (cs : Array Value), w.heap[g]? = some (.cells cs t (0, 0)) → o + vs.length ≤ cs.size →
    ∃ cs', (w.setCells g o vs).heap[g]? = some (.cells cs' t (0, 0)) ∧ cs'.size = cs.size ∧ (∀ j, j < vs.length → cs'[o + j]? = vs[j]?) ∧ ∀ i, i < o → cs'[i]? = cs[i]?
  | [], o, w, cs, h, _ => ⟨cs, h, rfl, (fun j hj => by cases hj), fun _ _ => rfl⟩
  | v :: vs, o, w, cs, h, hl => by
    simp only [List.length_cons] at hl
    obtain ⟨cs', h1, h2, h3, h4⟩ := heap_setCells vs (o + 1) (w.setCell ⟨g, o, none⟩ v) (cs.setIfInBounds o v) (heap_setCell_same w g o cs t v h) (by simp; omega)
    refine ⟨cs', h1, by simpa using h2, fun j hj => ?_, fun i hi => ?_⟩
    · cases j with
      | zero => rw [Nat.add_zero, h4 o (by omega)]; simp [show o < cs.size by omega]
      | succ j => rw [show o + (j + 1) = o + 1 + j by omega, h3 j (by simpa using hj)]; simp
    · rw [h4 i (by omega)]; simp [show o ≠ i by omega]
theorem mcells {g : Nat} {W0 : World} : ∀ (vs : List Value) (o : Nat) (W : World), Mods (fun b => b = g) W0 W → Mods (fun b => b = g) W0 (W.setCells g o vs)
  | [], _, _, h => h
  | v :: vs, o, _, h => mcells vs (o + 1) _ (mset h v)
/-- One number less in a row of the call's own. -/
theorem delete_any {base : Nat} (v : Value) (xs : List Int) (k : Nat) (W : World) (h : W.ownsRow base 3 1 v xs.length (xs.map (Value.int .i64))) (hk : k < xs.length) (hL : xs.length ≤ 1000001) :
    Calls Try.prog 25 #[v, .int .i64 k, .int .i64 (k + 1 : Nat)] W fun e W' => ∃ v', e = .returned v' ∧ W'.ownsRow base 3 1 v' (xs.take k ++ xs.drop (k + 1)).length ((xs.take k ++ xs.drop (k + 1)).map (Value.int .i64)) ∧
      v'.ownBlock = v.ownBlock ∧ Mods (fun b => v.ownBlock = some b) W W' := by
  obtain ⟨h0, (⟨_, he⟩ | ⟨g, cap, cur, rfl, hb, hg, hn, hc, hs, ht⟩)⟩ := h
  · omega
  have hcells : ∀ j, j < xs.length → W.cell? ⟨g, 0 + j, none⟩ = some (.int .i64 (xs.getD j 0)) := fun j hj => by
    rw [Nat.zero_add, cell_of_row W g j cur 3 (0, 0) hg]
    have : cur.toList[j]? = (xs.map (Value.int .i64))[j]? := by rw [← ht, List.getElem?_take_of_lt (by omega)]
    rw [← Array.getElem?_toList, this]
    simp [List.getD, hj]
  unfold maxLen at hc
  refine (Try.slices_Delete_int_cells g 0 xs.length cap k (k + 1) xs W (Nat.le_refl _) hn (by omega) (by omega) (by omega) hcells (fun j hj => by simp [World.frozen?, hg])).mono ?_
  rintro e W' ⟨rfl, q, rfl⟩
  have hlen : (xs.take k ++ xs.drop (k + 1)).length = xs.length - 1 := by simp; omega
  rw [show k + 1 - k = 1 by omega, List.take_length]
  obtain ⟨cs', c1, c2, c3, _⟩ := heap_setCells ((xs.take k ++ xs.drop (k + 1) ++ List.replicate 1 0).map (Value.int .i64)) 0 (W.drewN q) cur hg (by simp; omega)
  refine ⟨_, rfl, ⟨by simp, .inr ⟨g, cap, cs', by rw [hlen], hb, c1, by rw [hlen]; omega, by unfold maxLen; omega, by rw [c2, hs], ?_⟩⟩, rfl, ?_⟩
  · apply List.ext_getElem?
    intro j
    rw [Nat.mul_one, hlen]
    by_cases hj : j < xs.length - 1
    · rw [List.getElem?_take_of_lt hj, Array.getElem?_toList]
      have := c3 j (by simp; omega)
      rw [Nat.zero_add] at this
      rw [this, List.map_append, List.getElem?_append_left (by simp; omega)]
    · rw [List.getElem?_eq_none (by simp; omega), List.getElem?_eq_none (by simp; omega)]
  · exact (mcells _ 0 _ ((Mods.refl _ _).drewN q)).mono (fun b e => by rw [e]; rfl)
theorem take_drop_erase : ∀ (L : List Int) (s : Int) (k : Nat), L.findIdx? (· == s) = some k → L.take k ++ L.drop (k + 1) = L.erase s ∧ k < L.length
  | [], s, k, h => by simp at h
  | a :: L, s, k, h => by
    rw [List.findIdx?_cons] at h
    by_cases e : a = s
    · subst e
      simp at h
      subst h
      simp
    · rw [if_neg (by simpa using e)] at h
      obtain ⟨j, hj, rfl⟩ := Option.map_eq_some_iff.1 h
      obtain ⟨h1, h2⟩ := take_drop_erase L s j hj
      refine ⟨?_, by simpa using h2⟩
      rw [List.take_succ_cons, List.drop_succ_cons, List.cons_append, h1, List.erase_cons_tail (by simpa using e)]
theorem idxI_mem {L : List Int} {s : Int} (h : s ∈ L) : ∃ k, idxI L s = (k : Nat) ∧ k < L.length ∧ L.take k ++ L.drop (k + 1) = L.erase s := by
  cases hf : L.findIdx? (· == s) with
  | none =>
    rw [List.findIdx?_eq_none_iff] at hf
    have := hf s h
    simp at this
  | some k =>
    obtain ⟨h1, h2⟩ := take_drop_erase L s k hf
    exact ⟨k, by unfold idxI; rw [hf], h2, h1⟩
def outR (X : Nat → List Int) (s : Int) : Nat → List Int := match findR X s with
  | none => X
  | some u => fun i => if i = u then (X i).erase s else X i
theorem findR_some {X : Nat → List Int} {s : Int} {u : Nat} (h : findR X s = some u) : u < 8 ∧ s ∈ X u ∧ rightR X = true := by
  unfold findR at h
  split at h
  · rename_i hr
    obtain ⟨p, hp, rfl⟩ := Option.map_eq_some_iff.1 h
    have h1 := List.mem_of_find?_eq_some hp
    have h2 := List.find?_some hp
    have := flatTo_mem X 8 h1
    simp only [beq_iff_eq] at h2
    rw [h2] at this
    exact ⟨this.2, this.1, hr⟩
  · cases h
/-- Another row in the place of one of the first rows, in the same block. -/
theorem OwnTo.put {base u B : Nat} {ws : List Value} {X : Nat → List Int} {W W2 : World} {v' : Value} {L : List Int} (h : OwnTo base ws X 8 W) (hl : ws.length = 8) (hu : u < 8)
    (hown : W2.ownsRow base 3 1 v' L.length (L.map (Value.int .i64))) (hm : Mods (fun b => (ws.getD u undef).ownBlock = some b) W W2) (hb : v'.ownBlock = (ws.getD u undef).ownBlock) (hB : B < base) :
    OwnTo base (ws.set u v') (fun i => if i = u then L else X i) 8 (W2.setCell ⟨B, u, none⟩ v') := by
  have hM : Mods (fun b => b = B) W2 (W2.setCell ⟨B, u, none⟩ v') := mset (Mods.refl _ _) v'
  have e1 : (ws.set u v').getD u undef = v' := by simp [List.getD, show u < ws.length by omega]
  have e2 : ∀ i, i ≠ u → (ws.set u v').getD i undef = ws.getD i undef := fun i hi => by simp [List.getD, Ne.symm hi]
  have e3 : ∀ i, ((ws.set u v').getD i undef).ownBlock = (ws.getD i undef).ownBlock := fun i => by
    by_cases e : i = u
    · subst e; rw [e1, hb]
    · rw [e2 i e]
  refine ⟨fun i hi => ?_, fun i j g hi hj hgi hgj => ?_⟩
  · dsimp only
    by_cases e : i = u
    · subst e
      rw [e1, if_pos rfl]
      exact hM.ownsRow hown (fun g hg e => by have := hown.lt g hg; omega)
    · rw [e2 i e, if_neg e]
      have h1 := hm.ownsRow (h.1 i hi) (fun g hg e' => e (h.2 i u g hi hu hg e'))
      exact hM.ownsRow h1 (fun g hg e => by have := h1.lt g hg; omega)
  · rw [e3] at hgi hgj
    exact h.2 i j g hi hj hgi hgj
end Go.Proofs.Ytcelhdlppimfbaa
