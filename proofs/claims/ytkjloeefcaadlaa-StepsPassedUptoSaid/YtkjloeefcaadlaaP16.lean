/- One that reads the word. -/
import Derived.Test.YtkjloeefcaadlaaP15
set_option linter.unusedSimpArgs false
set_option linter.unusedVariables false
namespace Go.Proofs.Ytkjloeefcaadlaa
open Go.RowKit Go.Shelf Go.Cs
attribute [local go_sem] Oper.semAt_some
/-- A cell of a thread in a row of the machine's own. -/
theorem own_thread {W : World} {N : Nat} {L : List Th} {lv : Nat → Value} {g cap : Nat} (h : W.ownsRow N 100 4 (.slice (some ⟨g, 0, none⟩) L.length cap) L.length (flatF L.length (thsF L lv))) {i : Nat} (hi : i < L.length) (r : Nat) (hr : r < 4) :
    W.cell? ⟨g, i * 4 + r, none⟩ = ((L.getD i .no).cs (lv i))[r]? ∧ W.frozen? ⟨g, i * 4 + r, none⟩ = false := by
  refine ⟨?_, World.ownsRow.frozenAt h _⟩
  rw [World.ownsRow.cellAt h _ (by omega), flatF_at (sz := 4) (by decide) (thsF_len _ _), if_pos (by omega), show (i * 4 + r) / 4 = i by omega, show (i * 4 + r) % 4 = r by omega]
  rfl
theorem own_moment {W : World} {N : Nat} {H : List Mo} {g cap : Nat} (h : W.ownsRow N 95 8 (.slice (some ⟨g, 0, none⟩) H.length cap) H.length (flatF H.length (mosF H))) {i : Nat} (hi : i < H.length) (r : Nat) (hr : r < 8) :
    W.cell? ⟨g, i * 8 + r, none⟩ = (H.getD i .no).cs[r]? ∧ W.frozen? ⟨g, i * 8 + r, none⟩ = false := by
  refine ⟨?_, World.ownsRow.frozenAt h _⟩
  rw [World.ownsRow.cellAt h _ (by omega), flatF_at (sz := 8) (by decide) (mosF_len _), if_pos (by omega), show (i * 8 + r) / 8 = i by omega, show (i * 8 + r) % 8 = r by omega]
  rfl
theorem own_set {W : World} {N n sz g cap : Nat} {e : TypeId} {f : Nat → List Value} (hf : ∀ i, (f i).length = sz) (h : W.ownsRow N e sz (.slice (some ⟨g, 0, none⟩) n cap) n (flatF n f)) {i r : Nat} (hi : i < n) (hr : r < sz) (u : Value) :
    (W.setCell ⟨g, i * sz + r, none⟩ u).ownsRow N e sz (.slice (some ⟨g, 0, none⟩) n cap) n (flatF n (fun k => if k = i then (f i).set r u else f k)) := by
  have h1 := (World.ownsRow.stored h (i * sz + r) u).1
  rwa [flatF_set hf hr hi] at h1
theorem set_len {f : Nat → List Value} {sz i r : Nat} {u : Value} (hf : ∀ i, (f i).length = sz) : ∀ k, ((fun k => if k = i then (f i).set r u else f k) k).length = sz := by
  intro k
  dsimp only
  split
  · rw [List.length_set, hf]
  · exact hf k
/-- What a row is, as the row of threads that it is. -/
theorem own_ths {W : World} {N n cap : Nat} {a : Option Addr} {f : Nat → List Value} {L : List Th} {lv : Nat → Value} (h : W.ownsRow N 100 4 (.slice a n cap) n (flatF n f)) (hL : L.length = n) (hf : ∀ k, k < n → f k = thsF L lv k) : W.ownsRow N 100 4 (.slice a L.length cap) L.length (flatF L.length (thsF L lv)) := by
  subst hL
  rwa [flatF_congr hf] at h
theorem own_mos {W : World} {N n cap : Nat} {a : Option Addr} {f : Nat → List Value} {H : List Mo} (h : W.ownsRow N 95 8 (.slice a n cap) n (flatF n f)) (hL : H.length = n) (hf : ∀ k, k < n → f k = mosF H k) : W.ownsRow N 95 8 (.slice a H.length cap) H.length (flatF H.length (mosF H)) := by
  subst hL
  rwa [flatF_congr hf] at h
theorem ths_set {L : List Th} {lv lv' : Nat → Value} {i : Nat} {t' : Th} {cs : List Value} (hi : i < L.length) (hc : cs = t'.cs (lv' i)) (hlv : ∀ j, j ≠ i → lv' j = lv j) : ∀ k, (if k = i then cs else thsF L lv k) = thsF (L.set i t') lv' k := by
  intro k
  unfold thsF
  rw [getD_set]
  by_cases hki : k = i
  · subst hki
    rw [if_pos rfl, if_pos ⟨rfl, hi⟩, hc]
  · rw [if_neg hki, if_neg (fun e => hki e.1.symm), hlv k hki]
theorem mos_set {H : List Mo} {i : Nat} {h' : Mo} {cs : List Value} (hi : i < H.length) (hc : cs = h'.cs) : ∀ k, (if k = i then cs else mosF H k) = mosF (H.set i h') k := by
  intro k
  unfold mosF
  rw [getD_set]
  by_cases hki : k = i
  · subst hki
    rw [if_pos rfl, if_pos ⟨rfl, hi⟩, hc]
  · rw [if_neg hki, if_neg (fun e => hki e.1.symm)]
theorem flat_moments_snoc {H : List Mo} {h' : Mo} : flatF H.length (mosF H) ++ h'.cs = flatF (H ++ [h']).length (mosF (H ++ [h'])) := by
  rw [List.length_append, List.length_singleton, flatF_succ]
  congr 1
  · refine flatF_congr fun k hk => ?_
    unfold mosF
    rw [getD_snoc, if_pos hk]
  · unfold mosF
    rw [getD_snoc, if_neg (by omega), if_pos rfl]
/-- What a step writes: the machine, its rows. -/
def Wr (O : Nat) (tv hh : Value) (b : Nat) : Prop := b = O ∨ tv.ownBlock = some b ∨ hh.ownBlock = some b
/-- Stores to a thread's cells. -/
theorem own_store2 {W : World} {N : Nat} {L : List Th} {lv : Nat → Value} {g cap : Nat} (h : W.ownsRow N 100 4 (.slice (some ⟨g, 0, none⟩) L.length cap) L.length (flatF L.length (thsF L lv))) {i : Nat} (hi : i < L.length) {t : Th} (ht : L.getD i .no = t) (ld : Bool) (sn : Nat) :
    ((W.setCell ⟨g, i * 4 + 1, none⟩ (.bool ld)).setCell ⟨g, i * 4 + 2, none⟩ (.int .u64 (sn : Nat))).ownsRow N 100 4 (.slice (some ⟨g, 0, none⟩) (L.set i { t with loaded := ld, seen := sn }).length cap) (L.set i { t with loaded := ld, seen := sn }).length (flatF (L.set i { t with loaded := ld, seen := sn }).length (thsF (L.set i { t with loaded := ld, seen := sn }) lv)) := by
  have h1 := own_set (thsF_len _ _) h hi (r := 1) (by decide) (.bool ld)
  have h2 := own_set (set_len (thsF_len _ _)) h1 hi (r := 2) (by decide) (.int .u64 (sn : Nat))
  refine own_ths h2 List.length_set fun k hk => ?_
  rw [← ths_set (lv := lv) (cs := ((thsF L lv i).set 1 (.bool ld)).set 2 (.int .u64 (sn : Nat))) hi (by unfold thsF; rw [ht]; rfl) (fun _ _ => rfl) k]
  by_cases hki : k = i
  · subst hki
    simp
  · simp [hki]
theorem own_store3 {W : World} {N : Nat} {L : List Th} {lv : Nat → Value} {g cap : Nat} (h : W.ownsRow N 100 4 (.slice (some ⟨g, 0, none⟩) L.length cap) L.length (flatF L.length (thsF L lv))) {i : Nat} (hi : i < L.length) {t : Th} (ht : L.getD i .no = t) (mo : Int) :
    (W.setCell ⟨g, i * 4 + 3, none⟩ (.int .i64 mo)).ownsRow N 100 4 (.slice (some ⟨g, 0, none⟩) (L.set i { t with moment := mo }).length cap) (L.set i { t with moment := mo }).length (flatF (L.set i { t with moment := mo }).length (thsF (L.set i { t with moment := mo }) lv)) := by
  have h1 := own_set (thsF_len _ _) h hi (r := 3) (by decide) (.int .i64 mo)
  refine own_ths h1 List.length_set fun k hk => ?_
  exact ths_set (lv := lv) hi (by unfold thsF; rw [ht]; rfl) (fun _ _ => rfl) k
theorem MB.apart {W : World} {O x : Nat} {c : Int} {tv hh : Value} (hB : MB W O x c tv hh) {N sz n : Nat} {e : TypeId} {v : Value} {xs : List Value} (h : W.ownsRow N e sz v n xs) (he : e ≠ 77) {g : Nat} (hg : v.ownBlock = some g) : g ≠ O := by
  rintro rfl
  rcases h.2 with ⟨rfl, _⟩ | ⟨b, cap, cur, rfl, _, hb, _⟩
  · cases hg
  · cases hg
    rw [show W.heap[b]? = _ from hB] at hb
    cases hb
    exact he rfl
/-- A variable that holds a machine is no row of deeds. -/
theorem MB.left_ne {W : World} {O x n n' : Nat} {c : Int} {a a' : Option Addr} {cp cp' : Nat} (hB : MB W O x c (.slice a n cp) (.slice a' n' cp')) {v : Value} {L : List Dn} (h : ReadsE W v L) (h0 : 0 < L.length) {b : Nat} (hb : v.ownBlock = some b) : b ≠ O := by
  rintro rfl
  obtain ⟨hl, ao, cap, rfl, hc⟩ := h
  obtain ⟨b', o, rfl, hr⟩ := hc 0 h0
  cases hb
  have h1 := hr 0 (.int .u8 ((L.getD 0 .no).d : Nat)) rfl
  rw [cell_of_row _ _ _ _ _ _ hB] at h1
  generalize o + 0 * 3 + 0 = q at h1
  match q, h1 with
  | 0, h1 => cases h1
  | 1, h1 => cases h1
  | 2, h1 => cases h1
  | 3, h1 => cases h1
  | q + 4, h1 => simp at h1
theorem setMods (W : World) (B o : Nat) (u : Value) : Mods (fun b => b = B) W (W.setCell ⟨B, o, none⟩ u) := (Mods.refl (fun b => b = B) W).setCell (p := ⟨B, o, none⟩) (.inr rfl) u
theorem own_other {W : World} {N sz n : Nat} {e : TypeId} {v : Value} {xs : List Value} (h : W.ownsRow N e sz v n xs) {O : Nat} (hgO : ∀ {g : Nat}, v.ownBlock = some g → g ≠ O) (o : Nat) (u : Value) : (W.setCell ⟨O, o, none⟩ u).ownsRow N e sz v n xs :=
  (setMods W O o u).ownsRow h fun _ hg e => hgO hg e
/-- While one reads. -/
structure RI (O N x : Nat) (c : Int) (g cap n : Nat) (ha : Option Addr) (hcap : Nat) (H : List Mo) (L : List Th) (lv : Nat → Value) (i : Nat) (lb lo ln lc : Nat) (p : Dn) (W0 W : World) : Prop where
  len : L.length = n
  mb : MB W O x c (.slice (some ⟨g, 0, none⟩) n cap) (.slice ha H.length hcap)
  c0 : W.cell? ⟨g, i * 4, none⟩ = some (.slice (some ⟨lb, lo, none⟩) ln lc)
  rd : W.rangeAt lb lo p.cs
  hist : W.ownsRow N 95 8 (.slice ha H.length hcap) H.length (flatF H.length (mosF H))
  ths : W.ownsRow N 100 4 (.slice (some ⟨g, 0, none⟩) n cap) L.length (flatF L.length (thsF L lv))
  left : ∀ j, j < L.length → ReadsE W (lv j) (L.getD j .no).left
  apart : ∀ j, j < L.length → 0 < (L.getD j .no).left.length → ∀ b, (lv j).ownBlock = some b → g ≠ b ∧ (Value.slice ha H.length hcap).ownBlock ≠ some b
  mods : Mods (Wr O (.slice (some ⟨g, 0, none⟩) n cap) (.slice ha H.length hcap)) W0 W
  base : N ≤ W.heap.size
section
variable {O N x : Nat} {c : Int} {g cap n : Nat} {ha : Option Addr} {hcap : Nat} {H : List Mo} {L : List Th} {lv : Nat → Value} {i : Nat} {lb lo ln lc : Nat} {p : Dn} {W0 W W' : World}
theorem RI.new (h : RI O N x c g cap n ha hcap H L lv i lb lo ln lc p W0 W) (hN : New W W') : RI O N x c g cap n ha hcap H L lv i lb lo ln lc p W0 W' :=
  ⟨h.len, h.mb.new hN, hN.cell h.c0 id, fun j v hv => hN.cell (h.rd j v hv) id, hN.ownsRow h.hist fun _ _ => id, hN.ownsRow h.ths fun _ _ => id, fun j hj => (h.left j hj).new hN, h.apart, h.mods.trans (Mods.ofNew hN), Nat.le_trans h.base hN.size⟩
theorem RI.lapart (h : RI O N x c g cap n ha hcap H L lv i lb lo ln lc p W0 W) : ∀ j, j < L.length → 0 < (L.getD j .no).left.length → ∀ b, (lv j).ownBlock = some b → b ≠ O := fun j hj h0 _ hb => h.mb.left_ne (h.left j hj) h0 hb
/-- Behind the append. -/
theorem RI.grown (h : RI O N x c g cap n ha hcap H L lv i lb lo ln lc p W0 W) {hv' : Value} {k : Nat} {xs : List Value} (hown : W'.ownsRow N 95 8 hv' k xs) (hgrow : W.grownBy W' (Value.slice ha H.length hcap).ownBlock) (hblk : hv'.ownBlock = (Value.slice ha H.length hcap).ownBlock ∨ hv'.ownBlock = some W.heap.size) :
    MB W' O x c (.slice (some ⟨g, 0, none⟩) n cap) (.slice ha H.length hcap) ∧ W'.ownsRow N 100 4 (.slice (some ⟨g, 0, none⟩) n cap) L.length (flatF L.length (thsF L lv)) ∧ (∀ j, j < L.length → ReadsE W' (lv j) (L.getD j .no).left) ∧
      (∀ j, j < L.length → 0 < (L.getD j .no).left.length → ∀ b, (lv j).ownBlock = some b → g ≠ b ∧ hv'.ownBlock ≠ some b) ∧ Mods (Wr O (.slice (some ⟨g, 0, none⟩) n cap) (.slice ha H.length hcap)) W0 W' := by
  have hM : Mods (fun b => (Value.slice ha H.length hcap).ownBlock = some b) W W' := (Mods.refl _ W).grown hgrow fun k hk => .inr ⟨hk, fun o ho => by
    rcases h.hist.2 with ⟨e, _⟩ | ⟨b, _, _, e, _, hb, _⟩
    · rw [e] at hk; cases hk
    · rw [e] at hk
      cases hk
      rw [hb] at ho
      cases ho
      rfl⟩
  refine ⟨hM.heap h.mb fun e => h.mb.apart h.hist (by decide) e rfl, hM.ownsRow h.ths fun b hb e => own_ne h.ths h.hist (by decide) hb e, fun j hj => (h.left j hj).kept0 hM fun h0 b hb e => (h.apart j hj h0 b hb).2 e, fun j hj h0 b hb => ⟨(h.apart j hj h0 b hb).1, ?_⟩, h.mods.trans (hM.mono fun _ e => .inr (.inr e))⟩
  rcases hblk with e | e
  · rw [e]
    exact (h.apart j hj h0 b hb).2
  · rw [e]
    intro e2
    have := (h.left j hj).lt h0 hb
    cases e2
    omega
end
theorem cells_new {W : World} {A : Nat} {cs : List Value} {t : TypeId} (hA : W.heap[A]? = some (.cells cs.toArray t (0, 0))) : ∀ j u, cs[j]? = some u → W.cell? ((⟨A, 0, none⟩ : Addr).add j) = some u := by
  intro j u hu
  rw [add_at, cell_of_row _ _ _ _ _ _ hA]
  simpa using hu
theorem MaO.row {W : World} {N : Nat} {m : Ma} {tv hh : Value} {lv : Nat → Value} (h : MaO W N m tv hh lv) {i : Nat} (hi : i < m.ths.length) : ∃ g cap, tv = .slice (some ⟨g, 0, none⟩) m.ths.length cap := by
  rcases h.ths.2 with ⟨_, h0⟩ | ⟨g, cap, cur, rfl, _⟩
  · omega
  · exact ⟨g, cap, rfl⟩
theorem set_left {Q : Nat → List Dn → Prop} {L : List Th} {i : Nat} {t t' : Th} (h : ∀ j, j < L.length → Q j (L.getD j .no).left) (hi : i < L.length) (ht : L.getD i .no = t) (he : t'.left = t.left) : ∀ j, j < (L.set i t').length → Q j ((L.set i t').getD j .no).left := by
  intro j hj
  rw [List.length_set] at hj
  rw [getD_set]
  split
  · next e =>
    obtain ⟨rfl, _⟩ := e
    rw [he, ← ht]
    exact h i hi
  · exact h j hj
theorem left_set {W : World} {L : List Th} {lv : Nat → Value} {i : Nat} {t t' : Th} (h : ∀ j, j < L.length → ReadsE W (lv j) (L.getD j .no).left) (hi : i < L.length) (ht : L.getD i .no = t) (he : t'.left = t.left) : ∀ j, j < (L.set i t').length → ReadsE W (lv j) ((L.set i t').getD j .no).left :=
  set_left (Q := fun j l => ReadsE W (lv j) l) h hi ht he
theorem apart_set {L : List Th} {lv : Nat → Value} {i : Nat} {t t' : Th} {P : Nat → Prop} (h : ∀ j, j < L.length → 0 < (L.getD j .no).left.length → ∀ b, (lv j).ownBlock = some b → P b) (hi : i < L.length) (ht : L.getD i .no = t) (he : t'.left = t.left) : ∀ j, j < (L.set i t').length → 0 < ((L.set i t').getD j .no).left.length → ∀ b, (lv j).ownBlock = some b → P b :=
  set_left (Q := fun j l => 0 < l.length → ∀ b, (lv j).ownBlock = some b → P b) h hi ht he
theorem caps_set {L : List Th} {lv : Nat → Value} {i : Nat} {t t' : Th} (h : ∀ j, j < L.length → ∃ ao cap, lv j = .slice ao (L.getD j .no).left.length cap ∧ (L.getD j .no).left.length ≤ cap) (hi : i < L.length) (ht : L.getD i .no = t) (he : t'.left = t.left) : ∀ j, j < (L.set i t').length → ∃ ao cap, lv j = .slice ao ((L.set i t').getD j .no).left.length cap ∧ ((L.set i t').getD j .no).left.length ≤ cap :=
  set_left (Q := fun j l => ∃ ao cap, lv j = .slice ao l.length cap ∧ l.length ≤ cap) h hi ht he
end Go.Proofs.Ytkjloeefcaadlaa
