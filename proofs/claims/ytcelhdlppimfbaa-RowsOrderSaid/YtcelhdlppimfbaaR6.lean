/- Rows in memory of their own. -/
import Derived.Test.YtcelhdlppimfbaaR5
import Derived.Laws.Tables
namespace Go.Proofs.Ytcelhdlppimfbaa
open Go.RowKit Go.Shelf Go.Cs
attribute [local go_sem] Oper.semAt_some
/-- The first rows lie in blocks of their own, from base on. -/
def OwnTo (base : Nat) (ws : List Value) (X : Nat → List Int) (m : Nat) (W : World) : Prop :=
  (∀ i, i < m → W.ownsRow base 3 1 (ws.getD i undef) (X i).length ((X i).map (Value.int .i64))) ∧
  ∀ i j g, i < m → j < m → (ws.getD i undef).ownBlock = some g → (ws.getD j undef).ownBlock = some g → i = j
theorem OwnTo.kept {base m : Nat} {ws : List Value} {X : Nat → List Int} {W W' : World} {S : Nat → Prop} (h : OwnTo base ws X m W) (hm : Mods S W W') (hS : ∀ g, base ≤ g → ¬ S g) : OwnTo base ws X m W' :=
  ⟨fun i hi => hm.ownsRow (h.1 i hi) fun g hg => hS g ((h.1 i hi).lt g hg).1, h.2⟩
theorem OwnTo.new {base m : Nat} {ws : List Value} {X : Nat → List Int} {W W' : World} (h : OwnTo base ws X m W) (hm : New W W') : OwnTo base ws X m W' := h.kept hm fun _ _ f => f
theorem OwnTo.rd {base : Nat} {ws : List Value} {X : Nat → List Int} {W : World} (h : OwnTo base ws X 8 W) : Rd W ws X := fun u hu => .ofOwns (h.1 u hu)
theorem OwnTo.base_le {base base' m : Nat} {ws : List Value} {X : Nat → List Int} {W : World} (h : OwnTo base ws X m W) (hb : base' ≤ base) : OwnTo base' ws X m W := ⟨fun i hi => owns_base (h.1 i hi) hb, h.2⟩
theorem OwnTo.congr {base m : Nat} {ws : List Value} {X X' : Nat → List Int} {W : World} (h : OwnTo base ws X m W) (hX : ∀ i, i < m → X i = X' i) : OwnTo base ws X' m W := ⟨fun i hi => hX i hi ▸ h.1 i hi, h.2⟩
theorem owns_one {W : World} {base e size n : Nat} {v : Value} {xs : List Value} (h : W.ownsRow base e size v n xs) : v.oneCell' = true := by
  obtain ⟨ao, cap, rfl⟩ := owns_slice h
  rfl
theorem OwnTo.one {base : Nat} {ws : List Value} {X : Nat → List Int} {W : World} (h : OwnTo base ws X 8 W) (hl : ws.length = 8) : ∀ v ∈ ws, v.oneCell' = true := fun v hv => by
  obtain ⟨i, hi, rfl⟩ := List.mem_iff_getElem.1 hv
  have := owns_one (h.1 i (by omega))
  simpa [List.getD, hi] using this
theorem mrow {S : Nat → Prop} {W0 W : World} (h : Mods S W0 W) {g : Nat} (hg : W0.heap.size ≤ g ∨ S g) (cs : Array Value) (hc : ∀ o, W.heap[g]? = some o → o.isCells = true) : Mods S W0 (W.setRow g cs) :=
  ⟨h.os, h.tape, h.output, by rw [setRow_size]; exact h.size, fun k o hk ho => by
    have hw := h.block k o hk ho
    by_cases e : k = g
    · subst e
      rcases ho with ho | ho
      · rcases hg with hg | hg
        · have := (Array.getElem?_eq_some_iff.1 hk).1; omega
        · exact absurd hg ho
      · rw [hc o hw] at ho; cases ho
    · rw [setRow_other _ _ _ _ e]; exact hw⟩
/-- One row more, in a block of its own. -/
theorem OwnTo.push {base u B : Nat} {ws : List Value} {X : Nat → List Int} {W W1 : World} {v : Value} (h : OwnTo base ws X u W) (hl : ws.length = 8) (hu : u < 8) (hN : New W W1) (hown : W1.ownsRow W.heap.size 3 1 v (X u).length ((X u).map (Value.int .i64)))
    (hb : base ≤ W.heap.size) (hB : B < base) : OwnTo base (ws.set u v) X (u + 1) (W1.setCell ⟨B, u, none⟩ v) := by
  have hM : Mods (fun b => b = B) W1 (W1.setCell ⟨B, u, none⟩ v) := mset (Mods.refl _ _) v
  have e1 : (ws.set u v).getD u undef = v := by simp [List.getD, show u < ws.length by omega]
  have e2 : ∀ i, i ≠ u → (ws.set u v).getD i undef = ws.getD i undef := fun i hi => by simp [List.getD, Ne.symm hi]
  refine ⟨fun i hi => ?_, fun i j g hi hj hgi hgj => ?_⟩
  · by_cases e : i = u
    · subst e
      rw [e1]
      exact hM.ownsRow (owns_base hown hb) (fun g hg e => by have := hown.lt g hg; omega)
    · rw [e2 i e]
      have := hN.ownsRow (h.1 i (by omega)) (fun _ _ f => f)
      exact hM.ownsRow this (fun g hg e => by have := this.lt g hg; omega)
  · by_cases ei : i = u
    · by_cases ej : j = u
      · omega
      · subst ei
        rw [e1] at hgi
        rw [e2 j ej] at hgj
        have a1 := hown.lt g hgi
        have a2 := (h.1 j (by omega)).lt g hgj
        omega
    · by_cases ej : j = u
      · subst ej
        rw [e1] at hgj
        rw [e2 i ei] at hgi
        have a1 := hown.lt g hgj
        have a2 := (h.1 i (by omega)).lt g hgi
        omega
      · rw [e2 i ei] at hgi
        rw [e2 j ej] at hgj
        exact h.2 i j g (by omega) (by omega) hgi hgj
def nil8 : List Value := [.slice none 0 0, .slice none 0 0, .slice none 0 0, .slice none 0 0, .slice none 0 0, .slice none 0 0, .slice none 0 0, .slice none 0 0]
set_option maxHeartbeats 1000000 in
theorem own_any (vs : List Value) (hl : vs.length = 8) (X : Nat → List Int) (w : World) (hr : Rd w vs X) (hX : ∀ u, u < 8 → (X u).length ≤ 17592186044416) :
    Calls Try.prog 22 #[.agg vs.toArray] w fun e w' => ∃ ws, e = .returned (.agg ws.toArray) ∧ ws.length = 8 ∧ OwnTo w.heap.size ws X 8 w' ∧ New w w' := by
  have Hi := Lib.hid (show (Try.prog.info? 23).map (·.size) = some vs.toArray.size by rw [List.size_toArray, hl]; exact info23)
  have Hl := Lib.hid hl
  have HX := Lib.hid hX
  clear hl hX
  have hh0 : ((w.alloc (.cells vs.toArray 23)).alloc (.cells nil8.toArray 23)).heap[w.heap.size]? = some (.cells vs.toArray 23 (0, 0)) := ((Mods.refl (fun _ => False) _).alloc _).heap (World.alloc_heap_new w _) id
  go_enter Try.func22, Try.ntmps22
  go_wp2_with (refine op_value rfl (run_load_row 23 (.tmp 1) rfl w.heap.size rfl 23 vs.toArray (0, 0) _ hh0 Try.underlying23 rfl Hi.out) ?_)
  obtain ⟨W0, hW0⟩ : ∃ W0, (w.alloc (.cells vs.toArray 23)).alloc (.cells nil8.toArray 23) = W0 := ⟨_, rfl⟩
  have hN0 : New w W0 := by rw [← hW0]; exact ((Mods.refl _ _).alloc _).alloc _
  have hsz : W0.heap.size = w.heap.size + 2 := by rw [← hW0]; simp
  have hb1 : W0.heap[w.heap.size + 1]? = some (.cells nil8.toArray 23 (0, 0)) := by rw [← hW0]; have := World.alloc_heap_new (w.alloc (.cells vs.toArray 23)) (.cells nil8.toArray 23); rwa [World.size_alloc] at this
  unfold nil8 at hW0
  rw [hW0] at ⊢
  rw [show ((w.alloc (.cells vs.toArray 23)).alloc (.cells nil8.toArray 23)) = W0 from hW0] at hh0
  have hr0 := hr.new hN0
  have HN0 := Lib.hid hN0
  have Hb1 := Lib.hid hb1
  have Hh0 := Lib.hid hh0
  have HS : Hid (W0.heap.size = w.heap.size + 2) := Lib.hid hsz
  have Hr0 := Lib.hid hr0
  clear hW0 hN0 hb1 hh0 hsz hr0
  go_loopw [6] (fun c wr => ∃ u : Nat, u ≤ 8 ∧ c = .int .i64 u ∧ ∃ ws : List Value, ws.length = 8 ∧ wr.heap[w.heap.size]? = some (.cells ws.toArray 23 (0, 0)) ∧ OwnTo W0.heap.size ws X u wr ∧ Mods (fun b => b = w.heap.size) W0 wr) (fun c _ => 8 - (intOf c).toNat)
  case atStart => exact ⟨0, by omega, rfl, vs, Hl.out, Hh0.out, ⟨fun i hi => by omega, fun i j g hi => by omega⟩, Mods.refl _ _⟩
  case round =>
    obtain ⟨u, hu, rfl, ws, hwl, hh, hO, hM⟩ := hrel
    have Hwl := Lib.hid hwl
    have HO := Lib.hid hO
    clear hwl hO
    by_cases hu8 : u < 8
    · have hi := idx23 vs Hl.out u hu8
      have hrd := Rd.kept Hr0.out hM (fun i hi hx g hg e => by have := hr.block hi hx hg; omega) u hu8
      have HC := Lib.hid (clone_any _ _ wr hrd (HX.out u hu8))
      obtain ⟨v, hv⟩ : ∃ v, vs.getD u undef = v := ⟨_, rfl⟩
      rw [hv] at hi HC
      have hud : decide ((u : Int) < 8) = true := by simp; omega
      clear hrd hv
      go_wp2_with fail
      refine HC.out.mono ?_
      rintro e w1 ⟨v', rfl, hown, hN1⟩
      have hh1 := hN1.heap hh id
      have hcell := cell_of_row w1 w.heap.size u ws.toArray 23 (0, 0) hh1
      have hce : w1.cell? ⟨w.heap.size, u, none⟩ = some (ws.getD u undef) := by rw [hcell]; have := Hwl.out; simp [List.getD, show u < ws.length by omega]
      have hfr : w1.frozen? ⟨w.heap.size, u, none⟩ = false := by simp [World.frozen?, hh1]
      have hsz := hM.size
      have HO2 := Lib.hid (HO.out.push (B := w.heap.size) Hwl.out hu8 hN1 hown hsz (by have := HS.out; omega))
      have HH2 := Lib.hid (heap_setCell_same w1 w.heap.size u ws.toArray 23 v' hh1)
      have HM2 : Hid (Mods (fun b => b = w.heap.size) W0 (w1.setCell ⟨w.heap.size, u, none⟩ v')) := Lib.hid (mset (hM.trans (Mods.ofNew hN1)) v')
      obtain ⟨ao, cap, rfl⟩ := owns_slice hown
      obtain ⟨oldv, hold⟩ : ∃ o, ws.getD u undef = o := ⟨_, rfl⟩
      rw [hold] at hce
      clear hcell hold hown hh1 hh hM hN1 HC HO hsz hi
      go_wp2_with fail
      go_roundw
      case rel => exact ⟨u + 1, by omega, by go_num, ws.set u _, by rw [List.length_set]; exact Hwl.out, by rw [HH2.out]; simp, HO2.out, HM2.out⟩
      case measure => simp [intOf]; omega
    · obtain rfl : u = 8 := by omega
      have hi' : Hid ((Try.prog.info? 23).map (·.size) = some ws.toArray.size) := Lib.hid (by rw [List.size_toArray, Hwl.out]; exact info23)
      have hb1 := hM.heap Hb1.out (by omega)
      have hM2 : Mods (fun b => b = w.heap.size) W0 wr := hM
      go_wp2_with (first | (refine op_value rfl (run_load_row 23 (.tmp 1) rfl w.heap.size rfl 23 ws.toArray (0, 0) _ hh Try.underlying23 rfl hi'.out) ?_) | (refine op_skip rfl (run_store_row 23 (.tmp 2) (.tmp 15) rfl (w.heap.size + 1) rfl 23 nil8 ws rfl hb1 (by rw [Hwl.out]; exact info23) (by rw [Hwl.out]; rfl) (HO.out.one Hwl.out)) ?_))
      have hres := setRow_heap wr (w.heap.size + 1) nil8.toArray ws.toArray 23 (0, 0) hb1
      have hMr : Mods (fun b => b = w.heap.size ∨ b = w.heap.size + 1) W0 (wr.setRow (w.heap.size + 1) ws.toArray) := mrow (hM2.mono fun _ h => .inl h) (.inr (.inr rfl)) _ (fun o ho => by rw [hb1] at ho; cases ho; rfl)
      have hMo : Mods (fun b => b = w.heap.size + 1) wr (wr.setRow (w.heap.size + 1) ws.toArray) := mrow (S := fun b => b = w.heap.size + 1) (Mods.refl _ _) (.inr rfl) _ (fun o ho => by rw [hb1] at ho; cases ho; rfl)
      refine bodyPost_ret (v := .agg ws.toArray) (results_cell_row rfl _ _ (w.heap.size + 1) 23 ws.toArray (0, 0) _ rfl hres Try.underlying23 rfl hi'.out) rfl ⟨ws, rfl, Hwl.out, ?_, ((Mods.ofNew HN0.out).trans hMr).new (by omega)⟩
      have hS := HS.out
      exact ((HO.out.kept hMo (fun g hg e => by omega)).base_le (by omega))
end Go.Proofs.Ytcelhdlppimfbaa
