/- What is of use in every walk: rows of structs, regions that draw, arguments opened. -/
import Derived.Test.YtkiiameibdhdfaaGreatDoorRows
import Derived.Test.YtkiiameibdhdfaaGreatDoorD00
import Derived.OrdersHeld
import Derived.Laws.OwnMore
import Derived.Deep.MidRow
import Derived.Lib.Hide
import Derived.RangeFuncBox
import Derived.Deep.QuietTactic
import Derived.BigQuiet
import Derived.JoinedCond
import Derived.HandedShaped
import Derived.SizedLaws
import Derived.Conc.Holds
import Derived.ProofKit
import Derived.OpenShut
set_option linter.unusedSimpArgs false
set_option linter.unusedVariables false
namespace Go.Proofs.YtkiiameibdhdfaaGreatDoor
open Go.RowKit Go.Cs Go.ChangeShapes Go.WideShapes Go.ChangeAt Go.Deep
theorem run_load_mid {o : Oper} {a : Act} {w : World} (ty : TypeId) (x : Operand) (ho : o.op = .load ty x) (b off : Nat) (hx : a.eval x = .pointer (some ⟨b, off, none⟩)) (cs : List Value) (d : TypeDesc) (hc : w.rangeAt b off cs)
    (hu : Tryz.prog.underlying ty = some d) (hd : d.isRow = true) (hi : (Tryz.prog.info? ty).map (·.size) = some cs.length) : (execOp a.eval o).run Tryz.prog w = .ok (.value (.agg cs.toArray)) w := by
  unfold execOp
  simp only [ho, hx, Sem.run_bind, Sem.run_pure, Result.andThen_ok, run_loadAt_mid w b off ty cs d hc hu hd hi]
theorem _root_.Go.Cs.Mods.setRow {S : Nat → Prop} {a w : World} (h : Mods S a w) {B : Nat} (hp : a.heap.size ≤ B) (cs : Array Value) : Mods S a (w.setRow B cs) :=
  ⟨h.os, h.tape, h.output, by have := h.size; simpa [World.setRow] using this, fun k o hk ho => by
    have hw := h.block k o hk ho
    have := (Array.getElem?_eq_some_iff.1 hk).1
    rw [← hw]
    simp [World.setRow, Array.getElem?_modify, show ¬ B = k by omega]⟩
/-- A guarded operation that is wanted. -/
theorem op_value_g {ops : Array Oper} {Q : Exit → Act → World → Prop} {rest : List Oper} {o : Oper} {a : Act} {w w' : World} {v : Value} (hw : Region.wanted o (yielded ops a.tmps) = true) (hr : (execOp a.eval o).run Tryz.prog w = .ok (.value v) w') (h : wpList Tryz.prog ops Q rest (a.put o.dst v) w') : wpList Tryz.prog ops Q (o :: rest) a w :=
  wpList_step fun K hK => by rw [if_pos hw]; unfold Oper.wp; rw [hr]; exact hK _ _ h
theorem results_row2 {P : Program} {fn : Func} {p q : Tmp} {ty : TypeId} (h : fn.results = #[.cell p ty, .tmp q]) (tmps : Array Value) (w : World) (g : Nat) (t : TypeId) (cs : Array Value) (fr : Nat × Nat) (d : TypeDesc)
    (hp : tmps.getD p undef = .pointer (some ⟨g, 0, none⟩)) (hg : w.heap[g]? = some (.cells cs t fr))
    (hu : P.underlying ty = some d) (hd : (match d with | .struct _ | .array _ _ => true | _ => false) = true) (hi : (P.info? ty).map (·.size) = some cs.size) {v : Value} (hq : tmps.getD q undef = v) :
    (results fn tmps).run P w = .ok (.tuple #[.agg cs, v]) w := by
  subst hq
  have hp' : tmps[p]?.getD undef = .pointer (some ⟨g, 0, none⟩) := by simpa using hp
  simp [results, h, hp', asAddr, run_loadVar_row w g t ty cs fr d hg hu hd hi]
theorem owns_slice {W : World} {base e size n : Nat} {v : Value} {xs : List Value} (h : W.ownsRow base e size v n xs) : ∃ ao cap, v = .slice ao n cap := by
  rcases h.2 with ⟨rfl, rfl⟩ | ⟨g, cap, cur, rfl, _⟩
  · exact ⟨_, _, rfl⟩
  · exact ⟨_, _, rfl⟩
def Only (K : Act → World → Prop) : Exit → Act → World → Prop
  | .normal, a, w => K a w
  | _, _, _ => False
theorem Only.imp {K : Act → World → Prop} {Q : Exit → Act → World → Prop} (h : ∀ a w, K a w → Q .normal a w) : ∀ (e : Exit) (a : Act) (w : World), Only K e a w → Q e a w := fun e a w hk => by
  cases e <;> first | exact h a w hk | exact hk.elim
/-- What follows a piece of code, shown once. -/
theorem piece {P : Program} {c : Code} {Q : Exit → Act → World → Prop} {a : Act} {w : World} (K : Act → Act → World → Prop) (h2 : c.wp P (Only (K a)) a w) (h1 : ∀ a' w', K a a' w' → Q .normal a' w') : c.wp P Q a w :=
  Code.wp_mono (Only.imp h1) h2
theorem owns_mono {W : World} {base base' : Nat} {e : TypeId} {sz n : Nat} {v : Value} {xs : List Value} (h : W.ownsRow base e sz v n xs) (hb : base' ≤ base) : W.ownsRow base' e sz v n xs := by
  refine ⟨h.1, h.2.imp id ?_⟩
  rintro ⟨g, cap, cur, rfl, hg, r⟩
  exact ⟨g, cap, cur, rfl, by omega, r⟩
theorem mods_setRow {W : World} {B : Nat} {cs : Array Value} {t : TypeId} {fr : Nat × Nat} (hB : W.heap[B]? = some (.cells cs t fr)) (cs' : Array Value) : Mods (fun b => b = B) W (W.setRow B cs') :=
  ⟨rfl, rfl, rfl, by simp [World.setRow], fun k o hk ho => by
    by_cases e : k = B
    · subst e
      rcases ho with ho | ho
      · exact absurd rfl ho
      · rw [hB] at hk
        cases hk
        cases ho
    · rw [← hk]
      simp [World.setRow, Array.getElem?_modify, Ne.symm e]⟩
/-- The cells of a row of structs. -/
def flatF (n : Nat) (f : Nat → List Value) : List Value := (List.range n).flatMap f
theorem flatF_succ (n : Nat) (f : Nat → List Value) : flatF (n + 1) f = flatF n f ++ f n := by simp [flatF, List.range_succ]
theorem flatF_len {sz : Nat} {f : Nat → List Value} (h : ∀ i, (f i).length = sz) : ∀ n, (flatF n f).length = n * sz
  | 0 => by simp [flatF]
  | n + 1 => by rw [flatF_succ, List.length_append, flatF_len h n, h n, Nat.succ_mul]
theorem flatF_at {sz : Nat} (h0 : 0 < sz) {f : Nat → List Value} (h : ∀ i, (f i).length = sz) : ∀ n j, (flatF n f)[j]? = if j < n * sz then (f (j / sz))[j % sz]? else none
  | 0, j => by simp [flatF]
  | n + 1, j => by
    rw [flatF_succ]
    have hl := flatF_len h n
    by_cases hj : j < n * sz
    · rw [List.getElem?_append_left (by omega), flatF_at h0 h n j, if_pos hj, if_pos (by rw [Nat.succ_mul]; omega)]
    · rw [List.getElem?_append_right (by omega), hl]
      by_cases hj2 : j < n * sz + sz
      · rw [if_pos (by rw [Nat.succ_mul]; omega)]
        have e : j = (j - n * sz) + n * sz := by omega
        have e1 : j / sz = n := by
          rw [e, Nat.add_mul_div_right _ _ h0, Nat.div_eq_of_lt (by omega)]; omega
        have e2 : j % sz = j - n * sz := by
          conv => lhs; rw [e, Nat.add_mul_mod_self_right]
          exact Nat.mod_eq_of_lt (by omega)
        rw [e1, e2]
      · rw [if_neg (by rw [Nat.succ_mul]; omega), List.getElem?_eq_none (by rw [h n]; omega)]
theorem flatF_congr {n : Nat} {f g : Nat → List Value} (h : ∀ i, i < n → f i = g i) : flatF n f = flatF n g := by
  unfold flatF
  rw [List.flatMap_def, List.flatMap_def]
  congr 1
  apply List.map_congr_left
  intro i hi
  exact h i (List.mem_range.1 hi)
theorem flatF_set {sz : Nat} {f : Nat → List Value} (h : ∀ i, (f i).length = sz) {n i r : Nat} (hr : r < sz) (hi : i < n) (u : Value) : (flatF n f).set (i * sz + r) u = flatF n (fun k => if k = i then (f i).set r u else f k) := by
  have h0 : 0 < sz := by omega
  have h' : ∀ k, ((fun k => if k = i then (f i).set r u else f k) k).length = sz := by
    intro k
    dsimp only
    split
    · rw [List.length_set, h]
    · exact h k
  have e1 : (i * sz + r) / sz = i := by rw [Nat.add_comm, Nat.add_mul_div_right _ _ h0, Nat.div_eq_of_lt hr]; omega
  have e2 : (i * sz + r) % sz = r := by rw [Nat.add_comm, Nat.add_mul_mod_self_right]; exact Nat.mod_eq_of_lt hr
  have hlt : i * sz + r < n * sz := by
    have : (i + 1) * sz ≤ n * sz := Nat.mul_le_mul_right _ (by omega)
    rw [Nat.succ_mul] at this
    omega
  apply List.ext_getElem?
  intro j
  rw [List.getElem?_set, flatF_len h, flatF_at h0 h, flatF_at h0 h']
  by_cases hj : i * sz + r = j
  · subst hj
    rw [if_pos rfl, if_pos hlt, if_pos hlt, e1, e2, if_pos rfl, List.getElem?_set, if_pos rfl, h i, if_pos hr]
  · rw [if_neg hj]
    split
    · next hjn =>
      split
      · next hji =>
        rw [List.getElem?_set, if_neg, hji]
        intro e
        apply hj
        have := Nat.div_add_mod j sz
        rw [hji, Nat.mul_comm] at this
        omega
      · rfl
    · rfl
theorem flatF_one {n : Nat} {f : Nat → List Value} (h : ∀ i, i < n → ∀ u ∈ f i, u.oneCell' = true) : ∀ u ∈ flatF n f, u.oneCell' = true := by
  intro u hu
  unfold flatF at hu
  obtain ⟨i, hi, hp⟩ := List.mem_flatMap.1 hu
  exact h i (List.mem_range.1 hi) u hp
/-- A slice of structs of sz cells. -/
def ReadsF (W : World) (v : Value) (n sz : Nat) (f : Nat → List Value) : Prop :=
  n ≤ 2000000 ∧ ∃ ao cap, v = .slice ao n cap ∧ ∀ i, i < n → ∃ b o, ao = some ⟨b, o, none⟩ ∧ W.rangeAt b (o + i * sz) (f i)
theorem ReadsF.kept {W W' : World} {v : Value} {n sz : Nat} {f : Nat → List Value} (h : ReadsF W v n sz f) {S : Nat → Prop} (hN : Mods S W W') (hS : ∀ g, v.ownBlock = some g → ¬ S g) : ReadsF W' v n sz f := by
  obtain ⟨hl, ao, cap, rfl, hc⟩ := h
  refine ⟨hl, ao, cap, rfl, fun i hi => ?_⟩
  obtain ⟨b, o, rfl, h⟩ := hc i hi
  exact ⟨b, o, rfl, fun j v hv => hN.cell (h j v hv) (hS b rfl)⟩
theorem ReadsF.new {W W' : World} {v : Value} {n sz : Nat} {f : Nat → List Value} (h : ReadsF W v n sz f) (hN : New W W') : ReadsF W' v n sz f := h.kept hN fun _ _ => id
theorem ReadsF.congr {W : World} {v : Value} {n sz : Nat} {f g : Nat → List Value} (h : ReadsF W v n sz f) (he : ∀ i, i < n → f i = g i) : ReadsF W v n sz g := by
  obtain ⟨hl, ao, cap, rfl, hc⟩ := h
  refine ⟨hl, ao, cap, rfl, fun i hi => ?_⟩
  rw [← he i hi]
  exact hc i hi
theorem add_at (g j : Nat) : (⟨g, 0, none⟩ : Addr).add j = ⟨g, j, none⟩ := by unfold Addr.add; split <;> simp_all
theorem rows_ofOwns {base sz : Nat} {e : TypeId} {W : World} {v : Value} {n : Nat} {f : Nat → List Value} (h0 : 0 < sz) (hf : ∀ i, (f i).length = sz) (h : W.ownsRow base e sz v n (flatF n f)) : ∃ ao cap, v = .slice ao n cap ∧ ∀ i, i < n → ∃ b o, ao = some ⟨b, o, none⟩ ∧ W.rangeAt b (o + i * sz) (f i) := by
  have h' := h
  obtain ⟨hl, (⟨hv, hn0⟩ | ⟨g, cap, cur, hv, hb, hg, hnc, hc, hs, ht⟩)⟩ := h'
  · subst hn0
    exact ⟨none, 0, hv, fun i hi => by omega⟩
  · refine ⟨some ⟨g, 0, none⟩, cap, hv, fun i hi => ⟨g, 0, rfl, fun j u hu => ?_⟩⟩
    have hj : j < sz := by
      rcases Nat.lt_or_ge j sz with h | h
      · exact h
      · rw [List.getElem?_eq_none (by rw [hf]; exact h)] at hu; cases hu
    have hlt : i * sz + j < n * sz := by
      have : (i + 1) * sz ≤ n * sz := Nat.mul_le_mul_right _ (by omega)
      rw [Nat.succ_mul] at this
      omega
    have e1 : (i * sz + j) / sz = i := by rw [Nat.add_comm, Nat.add_mul_div_right _ _ h0, Nat.div_eq_of_lt hj]; omega
    have e2 : (i * sz + j) % sz = j := by rw [Nat.add_comm, Nat.add_mul_mod_self_right]; exact Nat.mod_eq_of_lt hj
    have := World.ownsRow.cells h (g := g) (by rw [hv]; rfl) (i * sz + j) u (by rw [flatF_at h0 hf, if_pos hlt, e1, e2]; exact hu)
    rw [add_at] at this
    rw [Nat.zero_add]
    exact this
theorem ReadsF.ofOwns {base sz : Nat} {e : TypeId} {W : World} {v : Value} {n : Nat} {f : Nat → List Value} (h0 : 0 < sz) (hf : ∀ i, (f i).length = sz) (hn : n ≤ 2000000) (h : W.ownsRow base e sz v n (flatF n f)) : ReadsF W v n sz f :=
  ⟨hn, rows_ofOwns h0 hf h⟩
/-- What a clone of it asks. -/
theorem ReadsF.cells {W : World} {n sz cap : Nat} {f : Nat → List Value} {ao : Option Addr} (h0 : 0 < sz) (hf : ∀ i, (f i).length = sz) (h : ReadsF W (.slice ao n cap) n sz f) : (ao = none → n = 0) ∧ ∀ a, ao = some a → ∀ j u, (flatF n f)[j]? = some u → W.cell? (a.add j) = some u := by
  obtain ⟨hl, ao', cap', he, hc⟩ := h
  cases he
  constructor
  · rintro rfl
    rcases Nat.eq_zero_or_pos n with h | h
    · exact h
    · obtain ⟨b, o, h, _⟩ := hc 0 h; cases h
  · rintro a rfl j u hu
    rw [flatF_at h0 hf] at hu
    split at hu
    · next hj =>
      have hd : j / sz < n := (Nat.div_lt_iff_lt_mul h0).2 hj
      obtain ⟨b, o, he, hr⟩ := hc (j / sz) hd
      cases he
      have := hr (j % sz) u hu
      rw [Addr.add_mid]
      have e : j / sz * sz + j % sz = j := by rw [Nat.mul_comm]; exact Nat.div_add_mod j sz
      rw [show o + j = o + j / sz * sz + j % sz by omega]
      exact this
    · cases hu
theorem own_ne {W : World} {N N' : Nat} {e e' : TypeId} {sz sz' : Nat} {v v' : Value} {n n' : Nat} {xs xs' : List Value} (h : W.ownsRow N e sz v n xs) (h' : W.ownsRow N' e' sz' v' n' xs') (he : e ≠ e') {g : Nat} (hg : v.ownBlock = some g) : v'.ownBlock ≠ some g := by
  intro hg'
  rcases h.2 with ⟨rfl, _⟩ | ⟨b, cap, cur, rfl, _, hb, _⟩
  · cases hg
  · rcases h'.2 with ⟨rfl, _⟩ | ⟨b', cap', cur', rfl, _, hb', _⟩
    · cases hg'
    · cases hg
      cases hg'
      rw [hb] at hb'
      cases hb'
      exact he rfl
theorem own_set {W : World} {N n sz g cap : Nat} {e : TypeId} {f : Nat → List Value} (hf : ∀ i, (f i).length = sz) (h : W.ownsRow N e sz (.slice (some ⟨g, 0, none⟩) n cap) n (flatF n f)) {i r : Nat} (hi : i < n) (hr : r < sz) (u : Value) :
    (W.setCell ⟨g, i * sz + r, none⟩ u).ownsRow N e sz (.slice (some ⟨g, 0, none⟩) n cap) n (flatF n (fun k => if k = i then (f i).set r u else f k)) := by
  have h1 := (World.ownsRow.stored h (i * sz + r) u).1
  rwa [flatF_set hf hr hi] at h1
theorem set_len {f : Nat → List Value} {sz i r : Nat} {u : Value} (hf : ∀ i, (f i).length = sz) : ∀ k, ((fun k => if k = i then (f i).set r u else f k) k).length = sz := by
  intro k
  dsimp only
  split
  · rw [List.length_set, hf]
  · exact hf k
theorem setMods (W : World) (B o : Nat) (u : Value) : Mods (fun b => b = B) W (W.setCell ⟨B, o, none⟩ u) := (Mods.refl (fun b => b = B) W).setCell (p := ⟨B, o, none⟩) (.inr rfl) u
theorem own_other {W : World} {N sz n : Nat} {e : TypeId} {v : Value} {xs : List Value} (h : W.ownsRow N e sz v n xs) {O : Nat} (hgO : ∀ {g : Nat}, v.ownBlock = some g → g ≠ O) (o : Nat) (u : Value) : (W.setCell ⟨O, o, none⟩ u).ownsRow N e sz v n xs :=
  (setMods W O o u).ownsRow h fun _ hg e => hgO hg e
theorem cells_new {W : World} {A : Nat} {cs : List Value} {t : TypeId} (hA : W.heap[A]? = some (.cells cs.toArray t (0, 0))) : ∀ j u, cs[j]? = some u → W.cell? ((⟨A, 0, none⟩ : Addr).add j) = some u := by
  intro j u hu
  rw [add_at, cell_of_row _ _ _ _ _ _ hA]
  simpa using hu
/-- A block without a Bool, and without a byte. -/
def NB (W : World) (b : Nat) : Prop := ∀ j v, W.cell? ⟨b, j, none⟩ = some v → (∀ x, v ≠ .bool x) ∧ ∀ z, v ≠ .int .u8 z
theorem NB.of_row {W : World} {b : Nat} {cs : List Value} {t : TypeId} {fr : Nat × Nat} (h : W.heap[b]? = some (.cells cs.toArray t fr)) (hc : ∀ v ∈ cs, (∀ x, v ≠ .bool x) ∧ ∀ z, v ≠ .int .u8 z) : NB W b := by
  intro j v hv
  rw [cell_of_row _ _ _ _ _ _ h] at hv
  simp only [List.getElem?_toArray] at hv
  exact hc v (List.mem_of_getElem? hv)
theorem NB.new {W W' : World} {b : Nat} (h : NB W b) (hlt : b < W.heap.size) (hN : New W W') : NB W' b := by
  intro j v hv
  obtain ⟨o, ho⟩ : ∃ o, W.heap[b]? = some o := ⟨_, Array.getElem?_eq_getElem hlt⟩
  have := World.cell?_of_block (w := W) (w' := W') (a := ⟨b, j, none⟩) ((hN.heap ho id).trans ho.symm)
  rw [this] at hv
  exact h j v hv
theorem ReadsF.kept0 {W W' : World} {v : Value} {n sz : Nat} {f : Nat → List Value} (h : ReadsF W v n sz f) {S : Nat → Prop} (hN : Mods S W W') (hS : 0 < n → ∀ g, v.ownBlock = some g → ¬ S g) : ReadsF W' v n sz f := by
  rcases Nat.eq_zero_or_pos n with h0 | h0
  · obtain ⟨hl, ao, cap, rfl, _⟩ := h
    exact ⟨hl, ao, cap, rfl, fun i hi => by omega⟩
  · exact h.kept hN (hS h0)
theorem ReadsF.no {W : World} {v : Value} {n sz : Nat} {f : Nat → List Value} (h : ReadsF W v n sz f) (h0 : 0 < n) {r : Nat} {u : Value} (hu : (f 0)[r]? = some u) (hb : (∃ x, u = .bool x) ∨ ∃ z, u = .int .u8 z) {g : Nat} (hg : v.ownBlock = some g) : ¬ NB W g := by
  obtain ⟨_, ao, cap, rfl, hc⟩ := h
  obtain ⟨b, o, rfl, hr⟩ := hc 0 h0
  cases hg
  intro hn
  have := hn _ _ (hr r u hu)
  rcases hb with ⟨x, rfl⟩ | ⟨z, rfl⟩
  · exact this.1 x rfl
  · exact this.2 z rfl
theorem partAt (t : TypeId) (d : TypeDesc) (h : Tryz.prog.underlying t = some d) (hd : (match d with | .struct _ | .array _ _ => true | _ => false) = false) (cs : Array Value) (i : Nat) (v : Value) (w : World) (hv : cs[i]? = some v) : (Go.part t cs i).run Tryz.prog w = .ok v w := by
  have hagg : (isAgg t).run Tryz.prog w = .ok false w := by
    unfold isAgg
    rw [Sem.run_bind, run_underlying h w]
    cases d <;> simp_all
  unfold Go.part
  rw [Sem.run_bind, hagg]
  simp [hv]
theorem partAgg (t : TypeId) (d : TypeDesc) (n : Nat) (h : Tryz.prog.underlying t = some d) (hd : (match d with | .struct _ | .array _ _ => true | _ => false) = true) (hi : (Tryz.prog.info? t).map (·.size) = some n) (cs : Array Value) (i : Nat) (w : World) : (Go.part t cs i).run Tryz.prog w = .ok (.agg (cs.extract i (i + n))) w := by
  have hagg : (isAgg t).run Tryz.prog w = .ok true w := by
    unfold isAgg
    rw [Sem.run_bind, run_underlying h w]
    cases d <;> simp_all
  have hs : (sizeOf t).run Tryz.prog w = .ok n w := by
    obtain ⟨i, hi1, hi2⟩ := Option.map_eq_some_iff.1 hi
    unfold sizeOf typeInfo
    simp [hi1, hi2, go_sem]
  unfold Go.part
  rw [Sem.run_bind, hagg]
  simp [hs]
/-- A call in a region whose loads are taken first. -/
theorem opH_call {P : Program} {ops : Array Oper} {Q : Exit → Act → World → Prop} {i : Nat} {o : Oper} (d : Option Tmp) {a : Act} {w : World} {K : Act → World → Prop} (hi : ops[i]? = some o) (hw : Region.wanted o (yielded ops a.tmps) = true) (hd : o.dst = d)
    (f : FuncId) (args : Array Value) (h : (execOp a.eval o).run P w = .ok (.enter f args) w) (hc : Calls P f args w fun e w' => ∃ v, e = .returned v ∧ K (a.put d v) w') : wpOp P ops Q i K a w := by
  subst hd
  unfold Go.wpOp
  simp only [hi, hw, if_true, Oper.wp, h, Oper.upon]
  refine .inl (hc.mono ?_)
  rintro e w' ⟨v, rfl, hk⟩
  exact hk
theorem opH_value {P : Program} {ops : Array Oper} {Q : Exit → Act → World → Prop} {i : Nat} {o : Oper} (d : Option Tmp) {v : Value} {a : Act} {w w' : World} {K : Act → World → Prop} (hi : ops[i]? = some o) (hw : Region.wanted o (yielded ops a.tmps) = true) (hd : o.dst = d)
    (h : (execOp a.eval o).run P w = .ok (.value v) w') (hK : K (a.put d v) w') : wpOp P ops Q i K a w := by
  subst hd
  unfold Go.wpOp
  simp only [hi, hw, if_true, Oper.wp, h, Oper.upon]
  first | exact hK | exact .inl hK
theorem opH_skip {P : Program} {ops : Array Oper} {Q : Exit → Act → World → Prop} {i : Nat} {o : Oper} (d : Option Tmp) {a : Act} {w w' : World} {K : Act → World → Prop} (hi : ops[i]? = some o) (hw : Region.wanted o (yielded ops a.tmps) = true) (hd : o.dst = d)
    (h : (execOp a.eval o).run P w = .ok .skip w') (hK : K (a.put d undef) w') : wpOp P ops Q i K a w := by
  subst hd
  unfold Go.wpOp
  simp only [hi, hw, if_true, Oper.wp, h, Oper.upon]
  first | exact hK | exact .inl hK
/-- Number i goes first, where it yields v in every world that meets S. -/
theorem anyH_take {P : Program} {ops : Array Oper} {Q : Exit → Act → World → Prop} {md : Region.Mode} {S : World → Prop} (i : Nat) {oi : Oper} (d : Option Tmp) (v : Value) {fuel : Nat} {listed : Array Bool} {a : Act} {w : World} (hi : ops[i]? = some oi) (hd : oi.dst = d)
    (hs : Region.noSelect ops = true) (hf : Region.free md ops listed i = true) (hr : (Region.ready md ops listed).contains i = true)
    (hQ : ∀ c a w, Q (.panic c) (a.put d v) w → Q (.panic c) a w) (hy : YieldsIf P ops S oi v a) (hS : S w)
    (h : wpAnyH P md ops Q S fuel (listed.setIfInBounds i true) (a.put d v) w) : wpAnyH P md ops Q S (fuel + 1) listed a w := by
  subst hd
  exact wpAnyH_take hi hs hf hr hQ hy hS h
theorem own_cells {W : World} {N n sz : Nat} {e : TypeId} {v : Value} {xs : List Value} (h : W.ownsRow N e sz v n xs) {k : Nat} (hk : v.ownBlock = some k) : ∀ o, W.heap[k]? = some o → o.isCells = true := by
  intro o ho
  rcases h.2 with ⟨rfl, _⟩ | ⟨b, cap, cur, rfl, _, hb, _⟩
  · cases hk
  · cases hk
    rw [hb] at ho
    cases ho
    rfl
theorem op_value_gK {ops : Array Oper} {Q : Exit → Act → World → Prop} {rest : List Oper} {o : Oper} {a : Act} {w : World} {R : Value → World → Prop} (hw : Region.wanted o (yielded ops a.tmps) = true) (hr : ∃ v w', (execOp a.eval o).run Tryz.prog w = .ok (.value v) w' ∧ R v w') (h : ∀ v w', R v w' → wpList Tryz.prog ops Q rest (a.put o.dst v) w') : wpList Tryz.prog ops Q (o :: rest) a w := by
  obtain ⟨v, w', hr, hR⟩ := hr
  exact op_value_g hw hr (h v w' hR)
theorem wrap_small {z : Int} (h1 : -9223372036854775808 ≤ z) (h2 : z ≤ 9223372036854775807) : IntKind.i64.wrap z = z := by
  rw [IntKind.wrap_i64]
  omega
section
variable {H : Type} {enc : TypeId × Value → H} {w : World} {base : Nat} {spare : Nat → Bool} {held : Bool}
theorem spot_none {a : Addr} {v : Value} (h : w.cell? a = some v) : a.spot = none := by
  obtain ⟨b, o, sp⟩ := a
  cases sp with
  | none => rfl
  | some x =>
    unfold World.cell? at h
    split at h <;> simp_all
end
section
variable {H : Type} {enc : TypeId × Value → H} {w : World} {base : Nat} {spare : Nat → Bool} {held : Bool}
set_option maxRecDepth 100000 in
/-- A slice's elements, each by its cells. -/
theorem open_elems {t e C : Nat} {v : Value} {fuel : Nat} {x : DataW H × List MemPlace} (ht : Tryz.prog.underlying t = some (.slice e)) (hC : Tryz.prog.cellsOf e = C) (h0 : 0 < C) (h : DataW.trod enc Tryz.prog w base spare held fuel t [v] = some x) :
    ∃ (ao : Option Addr) (len cap : Nat), v = .slice ao len cap ∧ len ≤ cap ∧ cap ≤ 9223372036854775807 ∧ ∀ i, i < len → ∃ b o, ao = some ⟨b, o, none⟩ ∧ ∃ (cs : List Value) (y : DataW H × List MemPlace) (n : Nat), cs.length = C ∧ w.rangeAt b (o + i * C) cs ∧ DataW.trod enc Tryz.prog w base spare held n e cs = some y := by
  rcases open_slice ht h with hn | ⟨a, len, cap, m, n, D, Pl, hcs, hb, hl, hm, hmm, hx, hi⟩
  · obtain rfl : v = .slice none 0 0 := by simpa using hn.1
    exact ⟨none, 0, 0, rfl, Nat.le_refl _, by omega, fun i hi => by omega⟩
  · obtain rfl : v = .slice (some a) len cap := by simpa using hcs
    unfold maxLen at hm
    refine ⟨some a, len, cap, rfl, hl, by omega, fun i hil => ?_⟩
    obtain ⟨cs', hc, ht'⟩ := hi i (by rw [hmm]; split <;> omega)
    obtain ⟨_, hcl, hat⟩ := World.cells?_some hc
    rw [hC] at hcl hat
    obtain ⟨cs0, hc0, _⟩ := hi 0 (by rw [hmm]; split <;> omega)
    obtain ⟨_, hcl0, hat0⟩ := World.cells?_some hc0
    rw [hC] at hcl0 hat0
    obtain ⟨b, o, sp⟩ := a
    have hs := hat0 0 h0
    rw [List.getElem?_eq_getElem (by omega)] at hs
    have hsp := spot_none hs
    obtain rfl : sp = none := by simpa [Addr.add] using hsp
    refine ⟨b, o, rfl, cs', _, n, hcl, fun j u hj => ?_, ht'⟩
    have hjl : j < C := by
      rcases Nat.lt_or_ge j C with h | h
      · exact h
      · rw [List.getElem?_eq_none (by omega)] at hj; cases hj
    have := hat j hjl
    rw [hj, Addr.add_mid, Addr.add_mid] at this
    exact this
end
theorem take_some {α : Type} {xs : List α} {k n : Nat} (h : xs.length = n) (hk : k < n) : ∃ y, xs[k]? = some y := ⟨_, List.getElem?_eq_getElem (by omega)⟩
theorem choose_list {α : Type} (n : Nat) (R : Nat → α → Prop) (d : α) (h : ∀ i, i < n → ∃ a, R i a) : ∃ L : List α, L.length = n ∧ ∀ i, i < n → R i (L.getD i d) := by
  induction n with
  | zero => exact ⟨[], rfl, fun i hi => by omega⟩
  | succ n ih =>
    obtain ⟨L, hL, hR⟩ := ih fun i hi => h i (by omega)
    obtain ⟨a, ha⟩ := h n (by omega)
    refine ⟨L ++ [a], by simp [hL], fun i hi => ?_⟩
    by_cases e : i < n
    · have : (L ++ [a]).getD i d = L.getD i d := by simp [List.getD, List.getElem?_append_left (by omega : i < L.length)]
      rw [this]
      exact hR i e
    · obtain rfl : i = n := by omega
      have : (L ++ [a]).getD i d = a := by simp [List.getD, ← hL]
      rw [this]
      exact ha
theorem alone_leaving {P : Program} {last : Machine} {w : World} {t : Trace} (h : aloneAtReturn P last w t) : leavingAtReturn P last w t := by
  obtain ⟨hq, hh, he⟩ := h
  refine ⟨hh, ⟨fun g hg => ⟨0, ?_⟩, hq.2⟩, he⟩
  have := hq.1
  unfold Machine.othersDone at this
  rw [List.all_eq_true] at this
  exact eq_of_beq (this g hg)
set_option maxRecDepth 100000 in
/-- A row that is held where everybody else is gone is held where they are leaving. -/
theorem holds_turned {p : Pinned} {s : OpenSpec} {c : OpenClaim} (hst : c.start = .entering) (hsp : c.stops = []) (hwf : c.wf s = true) (hl : c.leaving = true) (h : ({ c with leaving := false } : OpenClaim).holds p s) : c.holds p s := by
  obtain ⟨_, h1, h2, h3, h4, h5, h6, h7, f, fn, k1, k2, k3, k4, k5, k6, k7, k8, k9, k10, k11, k12, k13, k14, k15, k16, k17, k18, k19, k20, k21, L, hL, hform⟩ := h
  refine ⟨hwf, h1, h2, h3, h4, h5, h6, h7, f, fn, k1, k2, k3, k4, k5, k6, k7, k8, k9, k10, k11, k12, k13, k14, k15, k16, k17, k18, k19, k20, k21, L, hL, fun os st q H enc inj => ?_⟩
  have hf := hform os st q H enc inj
  unfold OpenClaim.form at hf ⊢
  simp only [hst, hsp] at hf ⊢
  intro F
  refine ReturnsInOpen.mono (fun last w' t hh => ?_) (fun _ x => x) (hf F)
  unfold OpenClaim.atReturn
  rw [hl]
  exact alone_leaving hh
section
variable {H : Type}
theorem bulk_one (d : DataW H) : 1 ≤ Rows.uptoBulk d := by
  cases d with
  | lit l => cases l <;> simp [Rows.uptoBulk]
  | nil => simp [Rows.uptoBulk]
  | ptr d => simp [Rows.uptoBulk]
  | slice elems spare => simp [Rows.uptoBulk]
  | agg parts => simp [Rows.uptoBulk]
  | iface t d => simp [Rows.uptoBulk]
  | map entries => simp [Rows.uptoBulk]
  | held h => simp [Rows.uptoBulk]
end
section
variable {H : Type}
theorem bulk_part {d : DataW H} {l : List (DataW H)} (h : d ∈ l) : Rows.uptoBulk d ≤ Rows.uptoBulkAll l := by
  induction l with
  | nil => cases h
  | cons x r ih =>
    simp only [Rows.uptoBulkAll]
    cases List.mem_cons.1 h with
    | inl e => subst e; omega
    | inr e => have := ih e; omega
end
section
variable {H : Type}
theorem bulk_len (l : List (DataW H)) : l.length ≤ Rows.uptoBulkAll l := by
  induction l with
  | nil => simp [Rows.uptoBulkAll]
  | cons x r ih => have := bulk_one x; simp only [Rows.uptoBulkAll, List.length_cons]; omega
end
section
variable {H : Type} {enc : TypeId × Value → H} {w : World} {base : Nat} {spare : Nat → Bool} {held : Bool}
set_option maxRecDepth 100000 in
theorem open_len' {t e fuel : Nat} {ao : Option Addr} {len cap : Nat} {x : DataW H × List MemPlace} (ht : Tryz.prog.underlying t = some (.slice e)) (h : DataW.trod enc Tryz.prog w base spare held fuel t [.slice ao len cap] = some x) : len ≤ Rows.uptoBulk x.1 := by
  rcases open_slice ht h with ⟨h1, _⟩ | ⟨a, len', cap', m, n, D, Pl, hcs, hb, hl, hm, hmm, hx, hi⟩
  · simp only [List.cons.injEq, and_true, Value.slice.injEq] at h1
    omega
  · simp only [List.cons.injEq, and_true, Value.slice.injEq] at hcs
    rw [hx]
    simp only [Rows.uptoBulk]
    have := bulk_len ((List.range len').map D)
    rw [List.length_map, List.length_range] at this
    omega
end
theorem getD_snoc {α : Type} {l : List α} {k : Nat} {x d : α} : (l ++ [x]).getD k d = if k < l.length then l.getD k d else if k = l.length then x else d := by
  simp only [List.getD]
  by_cases h : k < l.length
  · rw [if_pos h, List.getElem?_append_left h]
  · rw [if_neg h, List.getElem?_append_right (by omega)]
    by_cases h2 : k = l.length
    · subst h2; simp
    · rw [if_neg h2, List.getElem?_eq_none (by simp; omega)]; rfl
theorem getD_set {α : Type} {l : List α} {i k : Nat} {x d : α} : (l.set i x).getD k d = if i = k ∧ k < l.length then x else l.getD k d := by
  simp only [List.getD, List.getElem?_set]
  by_cases h : i = k
  · subst h
    by_cases h2 : i < l.length
    · simp [h2]
    · simp [h2]
  · simp [h]
theorem getD_mem {α : Type} {l : List α} {i : Nat} {d : α} (h : i < l.length) : l.getD i d ∈ l := by
  simp only [List.getD, List.getElem?_eq_getElem h, Option.getD_some]
  exact List.getElem_mem h
end Go.Proofs.YtkiiameibdhdfaaGreatDoor
