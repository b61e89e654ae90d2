/- A list's request: up to its loop. -/
import Derived.Test.YtkjghojdfjhhkaaDoorM07
import Derived.Deep.CutRange
import Derived.Deep.CutBlock
set_option linter.unusedSimpArgs false
set_option linter.unusedVariables false
namespace Go.Proofs.YtkjghojdfjhhkaaDoor
open Go.RowKit Go.Shelf Go.Cs
attribute [local go_sem] Oper.semAt_some
/-- A piece of code that is left at its end, or by a jump. -/
def OnlyG (K : Act → World → Prop) (J : Nat → Act → World → Prop) : Exit → Act → World → Prop
  | .normal, a, w => K a w
  | .goto t, a, w => J t a w
  | _, _, _ => False
theorem pieceG {P : Program} {c : Code} {Q : Exit → Act → World → Prop} {a : Act} {w : World} (K : Act → World → Prop) (J : Nat → Act → World → Prop) (h : c.wp P (OnlyG K J) a w) (h1 : ∀ a' w', K a' w' → Q .normal a' w') (h2 : ∀ t a' w', J t a' w' → Q (.goto t) a' w') : c.wp P Q a w :=
  Code.wp_mono (fun e a' w' hk => by
    cases e with
    | normal => exact h1 a' w' hk
    | goto t => exact h2 t a' w' hk
    | ret => exact hk.elim
    | exit id => exact hk.elim
    | panic ch => exact hk.elim
    | outgrown => exact hk.elim) h
theorem range_lit (t : Array Value) (n : Nat) (h : t.size = n) : t = ((List.range n).map fun i => t.getD i undef).toArray := by
  apply Array.ext
  · simp [h]
  · intro i h1 h2
    simp [h1]
theorem lit93 (t : Array Value) (h : t.size = 93) : ∃ u : Nat → Value, t = (u 0 :: u 1 :: u 2 :: u 3 :: u 4 :: u 5 :: u 6 :: u 7 :: u 8 :: u 9 :: u 10 :: u 11 :: u 12 :: u 13 :: u 14 :: u 15 :: u 16 :: u 17 :: u 18 :: u 19 :: u 20 :: u 21 :: u 22 :: u 23 :: u 24 :: u 25 :: u 26 :: u 27 :: u 28 :: u 29 :: u 30 :: u 31 :: u 32 :: u 33 :: u 34 :: u 35 :: u 36 :: u 37 :: u 38 :: u 39 :: u 40 :: u 41 :: u 42 :: u 43 :: u 44 :: u 45 :: u 46 :: u 47 :: u 48 :: u 49 :: u 50 :: u 51 :: u 52 :: u 53 :: u 54 :: u 55 :: u 56 :: u 57 :: u 58 :: u 59 :: u 60 :: u 61 :: u 62 :: u 63 :: u 64 :: u 65 :: u 66 :: u 67 :: u 68 :: u 69 :: u 70 :: u 71 :: u 72 :: u 73 :: u 74 :: u 75 :: u 76 :: u 77 :: u 78 :: u 79 :: u 80 :: u 81 :: u 82 :: u 83 :: u 84 :: u 85 :: u 86 :: u 87 :: u 88 :: u 89 :: u 90 :: u 91 :: u 92 :: ([] : List Value)).toArray := ⟨fun i => t.getD i undef, range_lit t 93 h⟩
/-- The frame of Of, what is known of it. -/
def FrameOf (v2 v3 v4 v5 v6 : Value) (a : Act) : Prop := a.tmps.size = 93 ∧ a.defers = [] ∧ a.tmps.getD 2 undef = v2 ∧ a.tmps.getD 3 undef = v3 ∧ a.tmps.getD 4 undef = v4 ∧ a.tmps.getD 5 undef = v5 ∧ a.tmps.getD 6 undef = v6
theorem FrameOf.lit {v2 v3 v4 v5 v6 : Value} {a : Act} (h : FrameOf v2 v3 v4 v5 v6 a) : ∃ u : Nat → Value, a = { tmps := (u 0 :: u 1 :: v2 :: v3 :: v4 :: v5 :: v6 :: u 7 :: u 8 :: u 9 :: u 10 :: u 11 :: u 12 :: u 13 :: u 14 :: u 15 :: u 16 :: u 17 :: u 18 :: u 19 :: u 20 :: u 21 :: u 22 :: u 23 :: u 24 :: u 25 :: u 26 :: u 27 :: u 28 :: u 29 :: u 30 :: u 31 :: u 32 :: u 33 :: u 34 :: u 35 :: u 36 :: u 37 :: u 38 :: u 39 :: u 40 :: u 41 :: u 42 :: u 43 :: u 44 :: u 45 :: u 46 :: u 47 :: u 48 :: u 49 :: u 50 :: u 51 :: u 52 :: u 53 :: u 54 :: u 55 :: u 56 :: u 57 :: u 58 :: u 59 :: u 60 :: u 61 :: u 62 :: u 63 :: u 64 :: u 65 :: u 66 :: u 67 :: u 68 :: u 69 :: u 70 :: u 71 :: u 72 :: u 73 :: u 74 :: u 75 :: u 76 :: u 77 :: u 78 :: u 79 :: u 80 :: u 81 :: u 82 :: u 83 :: u 84 :: u 85 :: u 86 :: u 87 :: u 88 :: u 89 :: u 90 :: u 91 :: u 92 :: ([] : List Value)).toArray, defers := [] } := by
  obtain ⟨t, d⟩ := a
  obtain ⟨hs, hd, h2, h3, h4, h5, h6⟩ := h
  simp only at hs hd
  subst hd
  obtain ⟨u, rfl⟩ := lit93 t hs
  refine ⟨u, ?_⟩
  have e2 : u 2 = v2 := h2
  have e3 : u 3 = v3 := h3
  have e4 : u 4 = v4 := h4
  have e5 : u 5 = v5 := h5
  have e6 : u 6 = v6 := h6
  rw [e2, e3, e4, e5, e6]
def zeroR : Array Value := #[.string ⟨#[]⟩, .string ⟨#[]⟩, .string ⟨#[]⟩, .string ⟨#[]⟩, .slice none 0 0]
def partsA (st : PS) : Array Value := #[.string (part st 0), .string (part st 1), .string (part st 2), .string (part st 3)]
/-- The variables of Of. -/
structure OfW (w : World) (R : Nat) (st : PS) (W : World) : Prop where
  res : W.heap[R]? = some (.cells zeroR 56 (0, 0))
  parts : W.heap[R + 1]? = some (.cells (partsA st) 85 (0, 0))
  seen : ∃ n, MapFn Fd.v W (R + 1 + 1) n (seenF st)
  places : ∃ n, MapFn Value.string W (R + 1 + 1 + 1) n placeF
  new : New w W
theorem OfW.of_new {w : World} {R : Nat} {st : PS} {W W' : World} (h : OfW w R st W) (hN : New W W') : OfW w R st W' :=
  ⟨hN.heap h.res id, hN.heap h.parts id, h.seen.imp fun _ h => h.new hN, h.places.imp fun _ h => h.new hN, h.new.trans hN⟩
theorem OfW.lt {w : World} {R : Nat} {st : PS} {W : World} (h : OfW w R st W) : R + 1 + 1 + 1 < W.heap.size := by
  obtain ⟨_, es, c, h, _⟩ := h.places
  exact (Array.getElem?_eq_some_iff.1 h).1
theorem put_cell {W : World} {B b j : Nat} {v : Value} {ob : Obj} (h : W.cell? ⟨b, j, none⟩ = some v) (hne : b ≠ B) : (W.putObj B ob).cell? ⟨b, j, none⟩ = some v :=
  (World.cell?_of_block (w := W) (a := ⟨b, j, none⟩) (World.putObj_heap_other hne)).trans h
theorem put_other {W : World} {B k : Nat} {o ob : Obj} (h : W.heap[k]? = some o) (hne : k ≠ B) : (W.putObj B ob).heap[k]? = some o := (World.putObj_heap_other hne).trans h
theorem setCell_heap {W : World} {B i : Nat} {cs : Array Value} {t : TypeId} {fr : Nat × Nat} (h : W.heap[B]? = some (.cells cs t fr)) (v : Value) : (W.setCell ⟨B, i, none⟩ v).heap[B]? = some (.cells (cs.setIfInBounds i v) t fr) := by
  simp only [World.setCell, Array.getElem?_modify, if_pos, h, Option.map_some]
  simp
theorem frozen_row {W : World} {B i : Nat} {cs : Array Value} {t : TypeId} (h : W.heap[B]? = some (.cells cs t (0, 0))) : W.frozen? ⟨B, i, none⟩ = false := by simp [World.frozen?, h]
theorem partsA_at (st : PS) {i : Nat} (hi : i < 4) : (partsA st)[i]? = some (.string (part st i)) := by
  match i, hi with
  | 0, _ => rfl
  | 1, _ => rfl
  | 2, _ => rfl
  | 3, _ => rfl
theorem partsA_upd (st : PS) {i : Nat} (hi : i < 4) (v : ByteArray) : (partsA st).setIfInBounds i (.string v) = partsA (upd st i v) := by
  match i, hi with
  | 0, _ => rfl
  | 1, _ => rfl
  | 2, _ => rfl
  | 3, _ => rfl
theorem OfW.stored {w : World} {R : Nat} {st : PS} {W : World} (h : OfW w R st W) (hRw : w.heap.size ≤ R) {i m : Nat} (hi : i < 4) (v : ByteArray) {ob : Obj} (hs : MapFn Fd.v ((W.setCell ⟨R + 1, i, none⟩ (.string v)).putObj (R + 1 + 1) ob) (R + 1 + 1) m (seenF (upd st i v))) : OfW w R (upd st i v) ((W.setCell ⟨R + 1, i, none⟩ (.string v)).putObj (R + 1 + 1) ob) := by
  have hM := setMods W (R + 1) i (.string v)
  refine ⟨put_other (hM.heap h.res (by omega)) (by omega), put_other ?_ (by omega), ⟨_, hs⟩, ?_, ?_⟩
  · rw [← partsA_upd st hi]
    exact setCell_heap h.parts _
  · obtain ⟨n, hp⟩ := h.places
    exact ⟨n, hp.keep fun o ho => put_other (hM.heap ho (by omega)) (by omega)⟩
  · exact (h.new.setCell (p := ⟨R + 1, i, none⟩) (.inl (show w.heap.size ≤ R + 1 by omega)) _).putObj (by omega) _
theorem ReadsL.size {W : World} {v : Value} {L : List Fd} (h : ReadsL W v L) : L.length ≤ 2000000 := h.1
/-- What Of tells. -/
def OfRet (w : World) (o : Option Rq) (e : Ending) (w' : World) : Prop := ∃ fv, e = .returned (.tuple #[.agg ((o.getD .no).cs fv).toArray, .bool o.isSome]) ∧ OwnL w.heap.size w' fv (o.getD .no).fields ∧ New w w'
theorem ofGo_small : ∀ (L : List Fd) (st st' : PS) (rest : List Fd), SmallL L → (∀ i, (part st i).size < 4294967281) → ofGo L st = some (st', rest) → (∀ i, (part st' i).size < 4294967281) ∧ SmallL rest
  | [], st, st', rest, _, hp, h => by
    rw [ofGo] at h
    cases h
    exact ⟨hp, fun _ h => by cases h⟩
  | f :: l, st, st', rest, hS, hp, h => by
    rw [ofGo] at h
    split at h
    · cases h
      exact ⟨hp, hS⟩
    · split at h
      · cases h
      · split at h
        · cases h
        · refine ofGo_small l _ st' rest (fun p hp => hS p (by simp [hp])) (fun j => ?_) h
          unfold part upd
          split
          · exact (hS f (by simp)).2
          · exact hp j
theorem info56 : (Tryd.prog.info? 56).map (·.size) = some 5 := by kernel_rfl
theorem ofR_none {L : List Fd} (h : ofGo L ps0 = none) : ofR L = none := by rw [ofR, h]; rfl
theorem ofR_no {L rest : List Fd} {st : PS} (h : ofGo L ps0 = some (st, rest)) (hf : fine st rest = false) : ofR L = none := by
  rw [ofR, h]
  simp [hf]
theorem ofR_yes {L rest : List Fd} {st : PS} (h : ofGo L ps0 = some (st, rest)) (hf : fine st rest = true) : ofR L = some ⟨part st 0, part st 1, part st 2, part st 3, rest⟩ := by
  rw [ofR, h]
  simp [hf]
set_option maxHeartbeats 2000000 in
set_option maxRecDepth 100000 in
theorem of_any (v : Value) (L : List Fd) (w : World) (hR : ReadsL w v L) (hS : SmallL L) (hcap0 : ∀ ao n cap, v = .slice ao n cap → n ≤ cap) :
    Calls Tryd.prog 36 #[v] w (OfRet w (ofR L)) := by
  unfold OfRet
  obtain ⟨ao, cap, rfl⟩ := hR.slice
  have hcap := hcap0 _ _ _ rfl
  clear hcap0
  have hmm := @run_makeMap Tryd.prog
  go_enter Tryd.func36, Tryd.ntmps36
  go_wp2_with fail
  refine wp_scope_fwd 0 (fun a W => ∃ v4 v5 v6, FrameOf (.pointer (some ⟨w.heap.size, 0, none⟩)) (.bool false) v4 v5 v6 a ∧ Hid (ofR L = none) ∧ W.heap[w.heap.size]? = some (.cells zeroR 56 (0, 0)) ∧ New w W) rfl ?first ?pass
  case pass =>
    rintro a W ⟨v4, v5, v6, hF, hno, hz, hN⟩
    obtain ⟨u, rfl⟩ := hF.lit
    clear hF
    have hone : ∀ u ∈ ([.string ⟨#[]⟩, .string ⟨#[]⟩, .string ⟨#[]⟩, .string ⟨#[]⟩, .slice none 0 0] : List Value), u.oneCell' = true := by
      intro u hu
      simp at hu
      rcases hu with rfl | rfl <;> rfl
    unfold zeroR at hz
    go_wp2_with (refine op_skip rfl (run_store_row 56 (.tmp 2) (.tmp 92) rfl w.heap.size rfl 56 [.string ⟨#[]⟩, .string ⟨#[]⟩, .string ⟨#[]⟩, .string ⟨#[]⟩, .slice none 0 0] [.string ⟨#[]⟩, .string ⟨#[]⟩, .string ⟨#[]⟩, .string ⟨#[]⟩, .slice none 0 0] rfl hz info56 rfl hone) ?_)
    have hz' := setRow_heap W w.heap.size _ #[.string ⟨#[]⟩, .string ⟨#[]⟩, .string ⟨#[]⟩, .string ⟨#[]⟩, .slice none 0 0] 56 (0, 0) hz
    rw [Exit.noGoto_ret]
    refine bodyPost_ret (v := .tuple #[.agg #[.string ⟨#[]⟩, .string ⟨#[]⟩, .string ⟨#[]⟩, .string ⟨#[]⟩, .slice none 0 0], .bool false]) (results_row2 rfl _ _ w.heap.size 56 _ (0, 0) _ rfl hz' Tryd.underlying56 rfl info56 rfl) rfl ?_
    refine ⟨.slice none 0 0, ?_, ?_, hN.setRow (Nat.le_refl _) _⟩
    · rw [hno.out]; rfl
    · rw [hno.out]
      exact ⟨ReadsL.nil _ _ _, fun g hg => by cases hg⟩
  case first =>
    go_upto_region 4 with fail
    obtain ⟨R, hR0⟩ : ∃ R, w.heap.size = R := ⟨_, rfl⟩
    obtain ⟨W2, hW2⟩ : ∃ W, ((w.alloc (.cells #[.string ⟨#[]⟩, .string ⟨#[]⟩, .string ⟨#[]⟩, .string ⟨#[]⟩, .slice none 0 0] 56)).alloc (.cells #[.string ⟨#[]⟩, .string ⟨#[]⟩, .string ⟨#[]⟩, .string ⟨#[]⟩] 85)).alloc (.map #[] 0) = W := ⟨_, rfl⟩
    have hs2 : W2.heap.size = R + 1 + 1 + 1 := by rw [← hW2, ← hR0]; simp
    have h0 : W2.heap[R]? = some (.cells zeroR 56 (0, 0)) := by
      rw [← hW2, ← hR0]
      exact (Mods.refl (fun _ => False) _ |>.alloc _).heap ((Mods.refl (fun _ => False) _ |>.alloc _).heap (World.alloc_heap_new w _) id) id
    have h1 : W2.heap[R + 1]? = some (.cells (partsA ps0) 85 (0, 0)) := by
      rw [← hW2, ← hR0]
      refine (Mods.refl (fun _ => False) _ |>.alloc _).heap ?_ id
      rw [show w.heap.size + 1 = (w.alloc (.cells #[.string ⟨#[]⟩, .string ⟨#[]⟩, .string ⟨#[]⟩, .string ⟨#[]⟩, .slice none 0 0] 56)).heap.size by simp]
      exact World.alloc_heap_new _ _
    have h2 : W2.heap[R + 1 + 1]? = some (.map #[] 0) := by
      rw [← hW2, ← hR0]
      rw [show w.heap.size + 1 + 1 = ((w.alloc (.cells #[.string ⟨#[]⟩, .string ⟨#[]⟩, .string ⟨#[]⟩, .string ⟨#[]⟩, .slice none 0 0] 56)).alloc (.cells #[.string ⟨#[]⟩, .string ⟨#[]⟩, .string ⟨#[]⟩, .string ⟨#[]⟩] 85)).heap.size by simp]
      exact World.alloc_heap_new _ _
    have hN2 : New w W2 := by rw [← hW2]; exact (((Mods.refl _ _).alloc _).alloc _).alloc _
    have hRw : w.heap.size ≤ R := by omega
    have HR0 := Lib.hid hR0
    rw [hW2, hR0]
    clear hW2 hR0
    have m0 : MapFn Value.string (W2.alloc (.map #[] 0)) (R + 1 + 1 + 1) 0 (fun _ => none) := by rw [← hs2]; exact MapFn.made (World.alloc_heap_new W2 _)
    have hmk : (Instr.makeMap 87 none).run Tryd.prog W2 = .ok (.map (some (R + 1 + 1 + 1))) (W2.alloc (.map #[] 0)) := by rw [← hs2]; exact hmm _ _
    have g0 := (Mods.refl (fun _ => False) W2 |>.alloc (.map #[] 0)).heap h0 id
    have g1 := (Mods.refl (fun _ => False) W2 |>.alloc (.map #[] 0)).heap h1 id
    have g2 := (Mods.refl (fun _ => False) W2 |>.alloc (.map #[] 0)).heap h2 id
    have hN3 := hN2.alloc (.map #[] 0)
    obtain ⟨W3, hW3⟩ : ∃ W, W2.alloc (.map #[] 0) = W := ⟨_, rfl⟩
    rw [hW3] at m0 hmk g0 g1 g2 hN3
    clear hW3 h0 h1 h2 hN2 hmm hs2
    obtain ⟨o0, r0, _, m1⟩ := m0.put keyS Tryd.underlying87 nMethod (.int .i64 0) rfl
    obtain ⟨o1, r1, _, m2⟩ := m1.put keyS Tryd.underlying87 nScheme (.int .i64 1) (by decide)
    obtain ⟨o2, r2, _, m3⟩ := m2.put keyS Tryd.underlying87 nPath (.int .i64 2) (by decide)
    obtain ⟨o3, r3, _, m4⟩ := m3.put keyS Tryd.underlying87 nAuth (.int .i64 3) (by decide)
    have hO : OfW w R ps0 ((((W3.putObj (R + 1 + 1 + 1) o0).putObj (R + 1 + 1 + 1) o1).putObj (R + 1 + 1 + 1) o2).putObj (R + 1 + 1 + 1) o3) := by
      refine ⟨?_, ?_, ⟨0, ?_⟩, ⟨_, m4.congr fun n => placeF_eq n⟩, ?_⟩
      · exact put_other (put_other (put_other (put_other g0 (by omega)) (by omega)) (by omega)) (by omega)
      · exact put_other (put_other (put_other (put_other g1 (by omega)) (by omega)) (by omega)) (by omega)
      · exact (MapFn.made (put_other (put_other (put_other (put_other g2 (by omega)) (by omega)) (by omega)) (by omega))).congr fun q => (seenF_0 q).symm
      · exact (((hN3.putObj (by omega) _).putObj (by omega) _).putObj (by omega) _).putObj (by omega) _
    obtain ⟨X0, hX0⟩ : ∃ W, W3.putObj (R + 1 + 1 + 1) o0 = W := ⟨_, rfl⟩
    rw [hX0] at r0 r1 hO
    rw [hX0] at r2
    rw [hX0] at r3
    obtain ⟨X1, hX1⟩ : ∃ W, X0.putObj (R + 1 + 1 + 1) o1 = W := ⟨_, rfl⟩
    rw [hX1] at r1 r2 hO
    rw [hX1] at r3
    obtain ⟨X2, hX2⟩ : ∃ W, X1.putObj (R + 1 + 1 + 1) o2 = W := ⟨_, rfl⟩
    rw [hX2] at r2 r3 hO
    obtain ⟨X3, hX3⟩ : ∃ W, X2.putObj (R + 1 + 1 + 1) o3 = W := ⟨_, rfl⟩
    rw [hX3] at r3 hO
    unfold nMethod at r0
    unfold nScheme at r1
    unfold nPath at r2
    unfold nAuth at r3
    have HO := Lib.hid hO
    clear hX0 hX1 hX2 hX3 m0 m1 m2 m3 m4 g0 g1 g2 hN3 hO
    go_upto_block 0 with fail
    clear r0 r1 r2 r3 hmk
    obtain ⟨n, hn⟩ : ∃ n, L.length = n := ⟨_, rfl⟩
    have Hn := Lib.hid hn
    have hlen : L.length ≤ 2000000 := hR.1
    have HR := Lib.hid hR
    have HS := Lib.hid hS
    rw [hn] at HR hlen hcap ⊢
    clear hn hR hS
    refine pieceG (fun a' W' => ∃ st rest rv, Hid (ofGo L ps0 = some (st, rest)) ∧ FrameOf (.pointer (some ⟨R, 0, none⟩)) (.bool false) rv (.pointer (some ⟨R + 1, 0, none⟩)) (.map (some (R + 1 + 1))) a' ∧ ReadsL w rv rest ∧ OfW w R st W')
      (fun t a' W' => t = 0 ∧ Hid (ofGo L ps0 = none) ∧ FrameOf (.pointer (some ⟨R, 0, none⟩)) (.bool false) (.slice none 0 0) (.pointer (some ⟨R + 1, 0, none⟩)) (.map (some (R + 1 + 1))) a' ∧ ∃ st, OfW w R st W') ?loop ?after ?jump
    case loop =>
      go_wp2_with fail
      go_loopw [4, 18] (fun s4 c wr => ∃ (k : Nat) (st : PS), k ≤ n ∧ c = .int .i64 k ∧ s4 = .slice none 0 0 ∧ Hid (ofGo L ps0 = ofGo (L.drop k) st) ∧ Hid (OfW w R st wr)) (fun _ c _ => n - (intOf c).toNat)
      case atStart => exact ⟨0, ps0, Nat.zero_le _, rfl, rfl, Lib.hid rfl, HO⟩
      case round =>
        obtain ⟨k, st, hk, rfl, rfl, hgo, hO⟩ := hrel
        by_cases hkn : k < n
        · have hkd : decide ((k : Int) < (n : Int)) = true := decide_eq_true (by omega)
          obtain ⟨b, o, rfl, hc1, hc2⟩ := (HR.out.new hO.out.new).at hkn
          have hsm := HS.out.at k
          have hdrop : L.drop k = L.getD k .no :: L.drop (k + 1) := by
            have hk' : k < L.length := by rw [Hn.out]; exact hkn
            rw [List.drop_eq_getElem_cons hk']
            simp [List.getD, hk']
          obtain ⟨p, hp⟩ : ∃ p, L.getD k .no = p := ⟨_, rfl⟩
          rw [hp] at hc1 hc2 hsm hdrop
          clear hp
          obtain ⟨pn, pv⟩ := p
          have Hdrop := Lib.hid hdrop
          simp only at hc1 hc2
          have HV := Lib.hid (fun W => value_any pv W hsm.2)
          clear hdrop hsm
          go_upto_region 8 with fail
          have hO1 := hO.out.of_new ((Mods.refl _ wr).alloc (.cells #[.string pn, .string pv] 54))
          have hb9 := World.alloc_heap_new wr (.cells #[.string pn, .string pv] 54)
          obtain ⟨b9, hb9'⟩ : ∃ b, wr.heap.size = b := ⟨_, rfl⟩
          have hR9 : R + 1 + 1 + 1 < b9 := by rw [← hb9']; exact hO.out.lt
          obtain ⟨W1, hW1⟩ : ∃ W, wr.alloc (.cells #[.string pn, .string pv] 54) = W := ⟨_, rfl⟩
          rw [hW1, hb9'] at hb9
          rw [hW1] at hO1
          rw [hW1, hb9']
          clear hW1 hb9' hc1 hc2 hO
          have k1 : W1.cell? ⟨b9, 0, none⟩ = some (.string pn) := cell_of_row _ _ _ _ _ _ hb9
          obtain ⟨_, hpl⟩ := hO1.places
          have hlk := hpl.look keyS Tryd.underlying87 (zero3 W1) pn true
          rw [if_pos rfl] at hlk
          obtain ⟨pi, hpi⟩ : ∃ x, (placeF pn).getD (.int .i64 0) = x := ⟨_, rfl⟩
          obtain ⟨pk, hpk⟩ : ∃ x, (placeF pn).isSome = x := ⟨_, rfl⟩
          have Hpi := Lib.hid hpi
          have Hpk := Lib.hid hpk
          rw [hpi, hpk] at hlk
          have HO1 := Lib.hid hO1
          clear hpi hpk hpl hO1
          go_upto_region 10 with fail
          clear hlk
          have hO2 := HO1.out.of_new ((Mods.refl _ W1).alloc (.cells #[.string pn, .string ⟨#[]⟩] 54))
          have hb9 := ((Mods.refl (fun _ => False) W1).alloc (.cells #[.string pn, .string ⟨#[]⟩] 54)).heap hb9 id
          have hb12 := World.alloc_heap_new W1 (.cells #[.string pn, .string ⟨#[]⟩] 54)
          have hw12 : R + 1 + 1 + 1 < W1.heap.size := HO1.out.lt
          obtain ⟨b12, hb12'⟩ : ∃ b, W1.heap.size = b := ⟨_, rfl⟩
          obtain ⟨W2, hW2⟩ : ∃ W, W1.alloc (.cells #[.string pn, .string ⟨#[]⟩] 54) = W := ⟨_, rfl⟩
          rw [hW2, hb12'] at hb12
          rw [hW2] at hO2 hb9
          rw [hb12'] at hw12
          rw [hW2, hb12']
          clear hW2 hb12' k1 HO1
          have k1 : W2.cell? ⟨b9, 0, none⟩ = some (.string pn) := cell_of_row _ _ _ _ _ _ hb9
          have k2 : W2.cell? ⟨b9, 1, none⟩ = some (.string pv) := cell_of_row _ _ _ _ _ _ hb9
          have k3 : W2.cell? ⟨b12, 0, none⟩ = some (.string pn) := cell_of_row _ _ _ _ _ _ hb12
          have k4 : W2.cell? ⟨b12, 1, none⟩ = some (.string ⟨#[]⟩) := cell_of_row _ _ _ _ _ _ hb12
          have HO2 := Lib.hid hO2
          have HP : Hid (∀ W, Calls Tryd.prog 68 #[.string pn, .string ⟨#[58]⟩] W fun e w' => e = .returned (.bool (pseudoB pn)) ∧ w' = W) := Lib.hid fun W => Tryd.strings_HasPrefix pn ⟨#[58]⟩ W
          obtain ⟨ps, hps⟩ : ∃ x, pseudoB pn = x := ⟨_, rfl⟩
          have Hps := Lib.hid hps
          rw [hps] at HP
          clear hps hO2
          cases ps with
          | false =>
            have h1 : (k : Int) < (cap : Int) := by omega
            have h2 : ¬ cap = k := by omega
            go_wp2_with (go_at_call 68; refine (HP.out _).mono ?_; rintro e w' ⟨rfl, rfl⟩)
            exact ⟨st, L.drop k, _, Lib.hid (by rw [hgo.out, Hdrop.out, ofGo_stop Hps.out]), ⟨rfl, rfl, rfl, rfl, rfl, rfl, rfl⟩, HR.out.drop hkn, HO2.out⟩
          | true =>
            cases hi : idxOf pn with
            | none =>
              have Hi := Lib.hid hi
              obtain rfl : pk = false := by rw [← Hpk.out, placeF, hi]; rfl
              clear hi
              go_wp2_with (go_at_call 68; refine (HP.out _).mono ?_; rintro e w' ⟨rfl, rfl⟩)
              exact wp_goto (And.intro rfl ⟨Lib.hid (by rw [hgo.out, Hdrop.out]; exact ofGo_no Hps.out (.inl Hi.out)), ⟨rfl, rfl, rfl, rfl, rfl, rfl, rfl⟩, st, HO2.out⟩)
            | some i =>
              have Hi := Lib.hid hi
              obtain rfl : pk = true := by rw [← Hpk.out, placeF, hi]; rfl
              obtain rfl : pi = .int .i64 (i : Nat) := by rw [← Hpi.out, placeF, hi]; rfl
              clear hi
              obtain ⟨_, hsn⟩ := HO2.out.seen
              have hlk2 := hsn.look keyF Tryd.underlying86 (zero3 W2) ⟨pn, bNo⟩ false
              rw [if_neg (by simp), seenF_at st Hi.out] at hlk2
              have hlk2 : (Instr.lookup 86 (.map (some (R + 1 + 1))) (.agg #[.string pn, .string ⟨#[]⟩]) false).run Tryd.prog W2 = .ok (((st i).map fun _ => Value.int .i64 1).getD (.int .i64 0)) W2 := hlk2
              cases hst : st i with
              | some x =>
                have Hst := Lib.hid hst
                rw [hst] at hlk2
                have hlk2 : (Instr.lookup 86 (.map (some (R + 1 + 1))) (.agg #[.string pn, .string ⟨#[]⟩]) false).run Tryd.prog W2 = .ok (.int .i64 1) W2 := hlk2
                clear hst hsn
                go_wp2_with (go_at_call 68; refine (HP.out _).mono ?_; rintro e w' ⟨rfl, rfl⟩)
                exact wp_goto (And.intro rfl ⟨Lib.hid (by rw [hgo.out, Hdrop.out]; exact ofGo_no Hps.out (.inr ⟨i, Hi.out, .inl (by rw [Hst.out]; rfl)⟩)), ⟨rfl, rfl, rfl, rfl, rfl, rfl, rfl⟩, st, HO2.out⟩)
              | none =>
                have Hst := Lib.hid hst
                rw [hst] at hlk2
                have hlk2 : (Instr.lookup 86 (.map (some (R + 1 + 1))) (.agg #[.string pn, .string ⟨#[]⟩]) false).run Tryd.prog W2 = .ok (.int .i64 0) W2 := hlk2
                clear hst hsn
                go_wp2_with (go_at_call 68; refine (HP.out _).mono ?_; rintro e w' ⟨rfl, rfl⟩)
                refine (HV.out _).mono ?_
                rintro e W3 ⟨rfl, hN3⟩
                have hO3 := HO2.out.of_new hN3
                have hb9 := hN3.heap hb9 id
                have hb12 := hN3.heap hb12 id
                have HO3 := Lib.hid hO3
                clear hO3 hN3 HO2 hlk2 k1 k2 k3 k4
                cases hvb : valueB pv.data.toList with
                | false =>
                  have Hvb := Lib.hid hvb
                  clear hvb
                  go_wp2_with fail
                  exact wp_goto (And.intro rfl ⟨Lib.hid (by rw [hgo.out, Hdrop.out]; exact ofGo_no Hps.out (.inr ⟨i, Hi.out, .inr Hvb.out⟩)), ⟨rfl, rfl, rfl, rfl, rfl, rfl, rfl⟩, st, HO3.out⟩)
                | true =>
                  have Hvb := Lib.hid hvb
                  clear hvb
                  go_upto_region 13 with fail
                  have hi4 := idx_lt Hi.out
                  have hiz : (i : Int) < 4 := by omega
                  have hiz0 : (0 : Int) ≤ (i : Int) := by omega
                  have c0 := HO3.out.parts
                  refine wp_region_held (by kernel_rfl) (S := (fun W => W.cell? ⟨b9, 1, none⟩ = some (.string pv) ∧ W.cell? ⟨b12, 0, none⟩ = some (.string pn) ∧ W.cell? ⟨b12, 1, none⟩ = some (.string ⟨#[]⟩))) ?_
                  show wpAnyH _ _ _ _ _ _ _ _ W3.drew
                  have hOd := HO3.out.of_new ((Mods.refl _ _).drew)
                  have hb9 := ((Mods.refl (fun _ => False) W3).drew).heap hb9 id
                  have hb12 := ((Mods.refl (fun _ => False) W3).drew).heap hb12 id
                  obtain ⟨Wd, hWd⟩ : ∃ Wd, W3.drew = Wd := ⟨_, rfl⟩
                  rw [hWd] at hOd hb9 hb12 ⊢
                  have hS : (fun W => W.cell? ⟨b9, 1, none⟩ = some (.string pv) ∧ W.cell? ⟨b12, 0, none⟩ = some (.string pn) ∧ W.cell? ⟨b12, 1, none⟩ = some (.string ⟨#[]⟩)) Wd := ⟨cell_of_row _ _ _ _ _ _ hb9, cell_of_row _ _ _ _ _ _ hb12, cell_of_row _ _ _ _ _ _ hb12⟩
                  clear hWd HO3 c0
                  have hpc : Wd.cell? ⟨R + 1, i, none⟩ = some (.string (part st i)) := (cell_of_row _ _ _ _ _ _ hOd.parts).trans (partsA_at st hi4)
                  have hpf : Wd.frozen? ⟨R + 1, i, none⟩ = false := frozen_row hOd.parts
                  obtain ⟨_, hsn⟩ := hOd.seen
                  have hsn5 : MapFn Fd.v (Wd.setCell ⟨R + 1, i, none⟩ (.string pv)) (R + 1 + 1) _ (seenF st) := hsn.keep fun o ho => (setMods Wd (R + 1) i (.string pv)).heap ho (by omega)
                  obtain ⟨ob, hup, _, hsn6⟩ := hsn5.put keyF Tryd.underlying86 ⟨pn, bNo⟩ (.int .i64 1) (by rw [seenF_at st Hi.out, Hst.out]; rfl)
                  have hsn7 := hsn6.congr fun q => seenF_upd st Hi.out pv q
                  have hup : (Instr.mapUpdate 86 (.map (some (R + 1 + 1))) (.agg #[.string pn, .string ⟨#[]⟩]) (.int .i64 1)).run Tryd.prog (Wd.setCell ⟨R + 1, i, none⟩ (.string pv)) = .ok () ((Wd.setCell ⟨R + 1, i, none⟩ (.string pv)).putObj (R + 1 + 1) ob) := hup
                  have Hup := Lib.hid hup
                  clear hup hsn6 hsn5 hsn
                  refine anyH_take 0 (some 54) (.int .i64 (i : Nat)) rfl rfl (by kernel_rfl) (by kernel_rfl) (by kernel_rfl) (fun _ _ _ h => h.elim) (.inl ⟨by rfl, fun W hW => by go_simp⟩) hS ?_
                  simp only [Act.put, List.setIfInBounds_toArray, List.set_cons_succ, List.set_cons_zero]
                  refine anyH_take 1 (some 55) (.map (some (R + 1 + 1))) rfl rfl (by kernel_rfl) (by kernel_rfl) (by kernel_rfl) (fun _ _ _ h => h.elim) (.inl ⟨by rfl, fun W hW => by go_simp⟩) hS ?_
                  simp only [Act.put, List.setIfInBounds_toArray, List.set_cons_succ, List.set_cons_zero]
                  refine anyH_take 2 (some 56) (.agg #[.string pn, .string ⟨#[]⟩]) rfl rfl (by kernel_rfl) (by kernel_rfl) (by kernel_rfl) (fun _ _ _ h => h.elim) (.inl ⟨by rfl, fun W hW => by have h1 := hW.1; have h2 := hW.2.1; have h3 := hW.2.2; go_simp⟩) hS ?_
                  simp only [Act.put, List.setIfInBounds_toArray, List.set_cons_succ, List.set_cons_zero]
                  refine anyH_take 3 (some 57) (.pointer (some ⟨b9, 1, none⟩)) rfl rfl (by kernel_rfl) (by kernel_rfl) (by kernel_rfl) (fun _ _ _ h => h.elim) (.inl ⟨by rfl, fun W hW => by go_simp⟩) hS ?_
                  simp only [Act.put, List.setIfInBounds_toArray, List.set_cons_succ, List.set_cons_zero]
                  refine anyH_take 4 (some 58) (.string pv) rfl rfl (by kernel_rfl) (by kernel_rfl) (by kernel_rfl) (fun _ _ _ h => h.elim) (.inl ⟨by rfl, fun W hW => by have h1 := hW.1; have h2 := hW.2.1; have h3 := hW.2.2; go_simp⟩) hS ?_
                  simp only [Act.put, List.setIfInBounds_toArray, List.set_cons_succ, List.set_cons_zero]
                  refine anyH_take 5 (some 59) (.pointer (some ⟨R + 1, i, none⟩)) rfl rfl (by kernel_rfl) (by kernel_rfl) (by kernel_rfl) (fun _ _ _ h => h.elim) (.inl ⟨by rfl, fun W hW => by go_simp⟩) hS ?_
                  simp only [Act.put, List.setIfInBounds_toArray, List.set_cons_succ, List.set_cons_zero]
                  refine wpAnyH_all (rs := [6]) (by kernel_rfl) (by simp) ?_
                  simp only [List.mem_cons, List.not_mem_nil, or_false, forall_eq_or_imp, forall_eq]
                  refine opH_skip none (w' := Wd.setCell ⟨R + 1, i, none⟩ (.string pv)) rfl (by rfl) rfl (by have h1 := hpc; have h2 := hpf; go_simp) ?_
                  have hS : (fun W => W.cell? ⟨b9, 1, none⟩ = some (.string pv) ∧ W.cell? ⟨b12, 0, none⟩ = some (.string pn) ∧ W.cell? ⟨b12, 1, none⟩ = some (.string ⟨#[]⟩)) (Wd.setCell ⟨R + 1, i, none⟩ (.string pv)) := ⟨(setMods Wd (R + 1) i (.string pv)).cell hS.1 (fun e => by have e : b9 = R + 1 := e; omega), (setMods Wd (R + 1) i (.string pv)).cell hS.2.1 (fun e => by have e : b12 = R + 1 := e; omega), (setMods Wd (R + 1) i (.string pv)).cell hS.2.2 (fun e => by have e : b12 = R + 1 := e; omega)⟩
                  refine ⟨hS, ?_⟩
                  simp only [Act.put, List.setIfInBounds_toArray, List.set_cons_succ, List.set_cons_zero]
                  refine wpAnyH_all (rs := [7]) (by kernel_rfl) (by simp) ?_
                  simp only [List.mem_cons, List.not_mem_nil, or_false, forall_eq_or_imp, forall_eq]
                  refine opH_skip none (w' := (Wd.setCell ⟨R + 1, i, none⟩ (.string pv)).putObj (R + 1 + 1) ob) rfl (by rfl) rfl (by have hup := Hup.out; go_simp) ?_
                  refine ⟨⟨put_cell hS.1 (by omega), put_cell hS.2.1 (by omega), put_cell hS.2.2 (by omega)⟩, ?_⟩
                  simp only [Act.put, List.setIfInBounds_toArray, List.set_cons_succ, List.set_cons_zero]
                  refine wpAnyH_done (by kernel_rfl) ?_ _
                  have hO5 := Lib.hid (hOd.stored hRw hi4 pv (ob := ob) hsn7)
                  go_wp2_with fail
                  go_roundw
                  case rel => exact ⟨k + 1, upd st i pv, by omega, by go_num, rfl, Lib.hid (by rw [hgo.out, Hdrop.out]; exact ofGo_step Hps.out Hi.out (by rw [Hst.out]; rfl) Hvb.out), hO5⟩
                  case measure => simp [intOf]; omega
        · obtain rfl : k = n := by omega
          have hkd : decide ((k : Int) < (k : Int)) = false := decide_eq_false (by omega)
          have hnil : Hid (ofGo L ps0 = some (st, [])) := Lib.hid (by rw [hgo.out, List.drop_eq_nil_of_le (by rw [Hn.out]; exact Nat.le_refl _)]; rfl)
          clear hgo
          go_wp2_with fail
          exact ⟨st, [], _, hnil, ⟨rfl, rfl, rfl, rfl, rfl, rfl, rfl⟩, ReadsL.nil _ _ _, hO.out⟩
    case jump =>
      rintro t a' W' ⟨rfl, hno, hF, st, hO⟩
      rw [← HR0.out] at hF hO
      exact And.intro rfl ⟨_, _, _, hF, Lib.hid (ofR_none hno.out), hO.res, hO.new⟩
    case after =>
      rintro a' W' ⟨st, rest, rv, hgo, hF, hRr, hO⟩
      obtain ⟨u, rfl⟩ := hF.lit
      clear hF
      obtain ⟨hsp, hsr⟩ := ofGo_small L ps0 st rest HS.out (fun i => by show bNo.size < 4294967281; decide) hgo.out
      have HC : Hid (∀ W, New w W → Calls Tryd.prog 70 #[rv] W fun e w' => ∃ v', e = .returned v' ∧ OwnL W.heap.size w' v' rest ∧ New W w') := Lib.hid fun W hN => clone_any rv rest W (hRr.new hN)
      have HT : Hid (∀ W, New w W → Calls Tryd.prog 48 #[rv] W fun e w' => e = .returned (.bool (trailersB rest)) ∧ New W w') := Lib.hid fun W hN => trailers_any rv rest W (hRr.new hN) hsr
      have HMe := Lib.hid (fun W => method_any (part st 0) W (Nat.le_trans (Nat.le_of_lt (hsp 0)) (by decide)))
      have Hfine : Hid (fine st rest = ((st 1).isSome && (methodB (part st 0).data.toList && (!(part st 2).data.toList.isEmpty && trailersB rest)))) := Lib.hid rfl
      obtain ⟨rao, rcap, rfl⟩ := hRr.slice
      obtain ⟨rn, hrn⟩ : ∃ n, rest.length = n := ⟨_, rfl⟩
      have hrl := hRr.size
      rw [hrn] at HC HT hrl ⊢
      have HN := Lib.hid hO.new
      have hz : W'.heap[w.heap.size]? = some (.cells zeroR 56 (0, 0)) := by rw [HR0.out]; exact hO.res
      have hc0 : W'.cell? ⟨R + 1, 0, none⟩ = some (.string (part st 0)) := (cell_of_row _ _ _ _ _ _ hO.parts).trans (partsA_at st (by decide))
      have hc2 : W'.cell? ⟨R + 1, 2, none⟩ = some (.string (part st 2)) := (cell_of_row _ _ _ _ _ _ hO.parts).trans (partsA_at st (by decide))
      obtain ⟨_, hsn⟩ := hO.seen
      have hlk := hsn.look keyF Tryd.underlying86 (zero3 W') ⟨nScheme, bNo⟩ false
      rw [if_neg (by simp), seenF_at st (i := 1) (by decide)] at hlk
      have hlk : (Instr.lookup 86 (.map (some (R + 1 + 1))) (.agg #[.string ⟨#[58, 115, 99, 104, 101, 109, 101]⟩, .string ⟨#[]⟩]) false).run Tryd.prog W' = .ok (((st 1).map fun _ => Value.int .i64 1).getD (.int .i64 0)) W' := hlk
      have hemp : ((part st 2).toList == []) = (part st 2).data.toList.isEmpty := by rw [Lib.toList_data]; cases (part st 2).data.toList <;> rfl
      have HO := Lib.hid hO
      clear hrn hRr hsn hsp hsr hO
      obtain ⟨p0, hp0⟩ : ∃ p, part st 0 = p := ⟨_, rfl⟩
      obtain ⟨p2, hp2⟩ : ∃ p, part st 2 = p := ⟨_, rfl⟩
      have Hp0 := Lib.hid hp0
      have Hp2 := Lib.hid hp2
      rw [hp0] at HMe hc0
      rw [hp2] at hc2 hemp
      rw [hp0, hp2] at Hfine
      clear hp0 hp2
      cases hs1 : (st 1).isSome with
      | false =>
        have hlk0 : st 1 = none := by simpa using hs1
        rw [hlk0] at hlk
        rw [hs1] at Hfine
        have hlk : (Instr.lookup 86 (.map (some (R + 1 + 1))) (.agg #[.string ⟨#[58, 115, 99, 104, 101, 109, 101]⟩, .string ⟨#[]⟩]) false).run Tryd.prog W' = .ok (.int .i64 0) W' := hlk
        clear hs1 hlk0
        go_wp2_with fail
        exact wp_goto (And.intro rfl ⟨_, _, _, ⟨rfl, rfl, by rw [HR0.out]; rfl, rfl, rfl, rfl, rfl⟩, Lib.hid (ofR_no hgo.out (by rw [Hfine.out]; rfl)), hz, HN.out⟩)
      | true =>
        obtain ⟨x1, hlk0⟩ := Option.isSome_iff_exists.1 hs1
        rw [hlk0] at hlk
        rw [hs1] at Hfine
        have hlk : (Instr.lookup 86 (.map (some (R + 1 + 1))) (.agg #[.string ⟨#[58, 115, 99, 104, 101, 109, 101]⟩, .string ⟨#[]⟩]) false).run Tryd.prog W' = .ok (.int .i64 1) W' := hlk
        clear hs1 hlk0
        go_wp2_with fail
        refine (HMe.out _).mono ?_
        rintro e W4 ⟨rfl, hN4⟩
        have hz := hN4.heap hz id
        have hc2 := hN4.cell hc2 id
        have HO4 := Lib.hid (HO.out.of_new hN4)
        have HN4 := Lib.hid (HN.out.trans hN4)
        clear hc0 hlk hN4 HO HN
        cases hmb : methodB p0.data.toList with
        | false =>
          rw [hmb] at Hfine
          clear hmb
          go_wp2_with fail
          exact wp_goto (And.intro rfl ⟨_, _, _, ⟨rfl, rfl, by rw [HR0.out]; rfl, rfl, rfl, rfl, rfl⟩, Lib.hid (ofR_no hgo.out (by rw [Hfine.out]; rfl)), hz, HN4.out⟩)
        | true =>
          rw [hmb] at Hfine
          clear hmb
          cases hem : p2.data.toList.isEmpty with
          | true =>
            rw [hem] at Hfine hemp
            clear hem
            go_wp2_with fail
            exact wp_goto (And.intro rfl ⟨_, _, _, ⟨rfl, rfl, by rw [HR0.out]; rfl, rfl, rfl, rfl, rfl⟩, Lib.hid (ofR_no hgo.out (by rw [Hfine.out]; rfl)), hz, HN4.out⟩)
          | false =>
            rw [hem] at Hfine hemp
            clear hem
            go_wp2_with fail
            refine (HT.out _ HN4.out).mono ?_
            rintro e W5 ⟨rfl, hN5⟩
            have hz := hN5.heap hz id
            have HO5 := Lib.hid (HO4.out.of_new hN5)
            have HN5 := Lib.hid (HN4.out.trans hN5)
            clear hc2 hN5 HO4 HN4
            cases htb : trailersB rest with
            | false =>
              rw [htb] at Hfine
              clear htb
              go_wp2_with fail
              exact wp_goto (And.intro rfl ⟨_, _, _, ⟨rfl, rfl, by rw [HR0.out]; rfl, rfl, rfl, rfl, rfl⟩, Lib.hid (ofR_no hgo.out (by rw [Hfine.out]; rfl)), hz, HN5.out⟩)
            | true =>
              rw [htb] at Hfine
              clear htb
              have Hyes := Lib.hid (ofR_yes hgo.out (by rw [Hfine.out]; rfl))
              clear hemp
              go_upto_region 16 with fail
              refine piece (fun _ a' W' => (∃ v4 v5 v6, FrameOf (.pointer (some ⟨R, 0, none⟩)) (.bool true) v4 v5 v6 a') ∧ ∃ fv, W'.heap[R]? = some (.cells #[.string (part st 0), .string (part st 1), .string (part st 2), .string (part st 3), fv] 56 (0, 0)) ∧ OwnL w.heap.size W' fv rest ∧ New w W') ?region ?last
              case last =>
                rintro a' W9 ⟨⟨v4, v5, v6, hF⟩, fv, hz9, hOwn, hN9⟩
                obtain ⟨u, rfl⟩ := hF.lit
                clear hF
                go_wp2_with fail
                simp only [Exit.jump]
                refine bodyPost_ret (v := .tuple #[.agg #[.string (part st 0), .string (part st 1), .string (part st 2), .string (part st 3), fv], .bool true]) (results_row2 rfl _ _ R 56 _ (0, 0) _ rfl hz9 Tryd.underlying56 rfl info56 rfl) rfl ?_
                refine ⟨fv, ?_, ?_, hN9⟩
                · rw [Hyes.out]; rfl
                · rw [Hyes.out]; exact hOwn
              refine wp_region_held (by kernel_rfl) (S := fun W => Mods (fun b => b = R) W5.drew W) ?_
              show wpAnyH _ _ _ _ _ _ _ _ W5.drew
              have hOd := HO5.out.of_new ((Mods.refl _ _).drew)
              obtain ⟨Wd, hWd⟩ : ∃ Wd, W5.drew = Wd := ⟨_, rfl⟩
              rw [hWd] at hOd ⊢
              have hS : Mods (fun b => b = R) Wd Wd := Mods.refl _ _
              have hzd := hOd.res
              unfold zeroR at hzd
              have hNd := hOd.new
              have HCd : Hid (Calls Tryd.prog 70 #[.slice rao rn rcap] Wd fun e w' => ∃ v', e = .returned v' ∧ OwnL Wd.heap.size w' v' rest ∧ New Wd w') := Lib.hid (HC.out Wd hNd)
              have hp := hOd.parts
              obtain ⟨p0, hp0⟩ : ∃ p, part st 0 = p := ⟨_, rfl⟩
              obtain ⟨p1, hp1⟩ : ∃ p, part st 1 = p := ⟨_, rfl⟩
              obtain ⟨p2, hp2⟩ : ∃ p, part st 2 = p := ⟨_, rfl⟩
              obtain ⟨p3, hp3⟩ : ∃ p, part st 3 = p := ⟨_, rfl⟩
              unfold partsA at hp
              rw [hp0, hp1, hp2, hp3] at hp
              have hd0 : Wd.cell? ⟨R + 1, 0, none⟩ = some (.string p0) := cell_of_row _ _ _ _ _ _ hp
              have hd1 : Wd.cell? ⟨R + 1, 1, none⟩ = some (.string p1) := cell_of_row _ _ _ _ _ _ hp
              have hd2 : Wd.cell? ⟨R + 1, 2, none⟩ = some (.string p2) := cell_of_row _ _ _ _ _ _ hp
              have hd3 : Wd.cell? ⟨R + 1, 3, none⟩ = some (.string p3) := cell_of_row _ _ _ _ _ _ hp
              clear hWd hp hc2 hz HO5 HN5 hOd
              refine anyH_take 0 (some 81) (.pointer (some ⟨R + 1, 0, none⟩)) rfl rfl (by kernel_rfl) (by kernel_rfl) (by kernel_rfl) (fun _ _ _ h => h.elim) (.inl ⟨by rfl, fun W hW => by go_simp⟩) hS ?_
              simp only [Act.put, List.setIfInBounds_toArray, List.set_cons_succ, List.set_cons_zero]
              refine anyH_take 1 (some 82) (.string p0) rfl rfl (by kernel_rfl) (by kernel_rfl) (by kernel_rfl) (fun _ _ _ h => h.elim) (.inl ⟨by rfl, fun W hW => by have h : Mods (fun b => b = R) Wd W := hW; have c := h.cell hd0 (fun e => by have e : R + 1 = R := e; omega); go_simp⟩) hS ?_
              simp only [Act.put, List.setIfInBounds_toArray, List.set_cons_succ, List.set_cons_zero]
              refine anyH_take 2 (some 83) (.pointer (some ⟨R + 1, 1, none⟩)) rfl rfl (by kernel_rfl) (by kernel_rfl) (by kernel_rfl) (fun _ _ _ h => h.elim) (.inl ⟨by rfl, fun W hW => by go_simp⟩) hS ?_
              simp only [Act.put, List.setIfInBounds_toArray, List.set_cons_succ, List.set_cons_zero]
              refine anyH_take 3 (some 84) (.string p1) rfl rfl (by kernel_rfl) (by kernel_rfl) (by kernel_rfl) (fun _ _ _ h => h.elim) (.inl ⟨by rfl, fun W hW => by have h : Mods (fun b => b = R) Wd W := hW; have c := h.cell hd1 (fun e => by have e : R + 1 = R := e; omega); go_simp⟩) hS ?_
              simp only [Act.put, List.setIfInBounds_toArray, List.set_cons_succ, List.set_cons_zero]
              refine anyH_take 4 (some 85) (.pointer (some ⟨R + 1, 2, none⟩)) rfl rfl (by kernel_rfl) (by kernel_rfl) (by kernel_rfl) (fun _ _ _ h => h.elim) (.inl ⟨by rfl, fun W hW => by go_simp⟩) hS ?_
              simp only [Act.put, List.setIfInBounds_toArray, List.set_cons_succ, List.set_cons_zero]
              refine anyH_take 5 (some 86) (.string p2) rfl rfl (by kernel_rfl) (by kernel_rfl) (by kernel_rfl) (fun _ _ _ h => h.elim) (.inl ⟨by rfl, fun W hW => by have h : Mods (fun b => b = R) Wd W := hW; have c := h.cell hd2 (fun e => by have e : R + 1 = R := e; omega); go_simp⟩) hS ?_
              simp only [Act.put, List.setIfInBounds_toArray, List.set_cons_succ, List.set_cons_zero]
              refine anyH_take 6 (some 87) (.pointer (some ⟨R + 1, 3, none⟩)) rfl rfl (by kernel_rfl) (by kernel_rfl) (by kernel_rfl) (fun _ _ _ h => h.elim) (.inl ⟨by rfl, fun W hW => by go_simp⟩) hS ?_
              simp only [Act.put, List.setIfInBounds_toArray, List.set_cons_succ, List.set_cons_zero]
              refine anyH_take 7 (some 88) (.string p3) rfl rfl (by kernel_rfl) (by kernel_rfl) (by kernel_rfl) (fun _ _ _ h => h.elim) (.inl ⟨by rfl, fun W hW => by have h : Mods (fun b => b = R) Wd W := hW; have c := h.cell hd3 (fun e => by have e : R + 1 = R := e; omega); go_simp⟩) hS ?_
              simp only [Act.put, List.setIfInBounds_toArray, List.set_cons_succ, List.set_cons_zero]
              refine anyH_take 8 (some 89) (.slice rao rn rcap) rfl rfl (by kernel_rfl) (by kernel_rfl) (by kernel_rfl) (fun _ _ _ h => h.elim) (.inl ⟨by rfl, fun W hW => by go_simp⟩) hS ?_
              simp only [Act.put, List.setIfInBounds_toArray, List.set_cons_succ, List.set_cons_zero]
              refine wpAnyH_all (rs := [9]) (by kernel_rfl) (by simp) ?_
              simp only [List.mem_cons, List.not_mem_nil, or_false, forall_eq_or_imp, forall_eq]
              refine opH_call (some 90) rfl (by rfl) rfl 70 #[.slice rao rn rcap] (by go_simp) (HCd.out.mono ?_)
              rintro e W7 ⟨v', rfl, hOwn, hN7⟩
              obtain ⟨vao, vcap, rfl⟩ := hOwn.1.slice
              have hS : Mods (fun b => b = R) Wd W7 := Mods.ofNew hN7
              refine ⟨_, rfl, hS, ?_⟩
              have hz7 := hN7.heap hzd id
              simp only [Act.put, List.setIfInBounds_toArray, List.set_cons_succ, List.set_cons_zero]
              refine anyH_take 10 (some 91) (.agg #[.string p0, .string p1, .string p2, .string p3, .slice vao rest.length vcap]) rfl rfl (by kernel_rfl) (by kernel_rfl) (by kernel_rfl) (fun _ _ _ h => h.elim) (.inl ⟨by rfl, fun W hW => by go_simp⟩) hS ?_
              simp only [Act.put, List.setIfInBounds_toArray, List.set_cons_succ, List.set_cons_zero]
              refine wpAnyH_all (rs := [11]) (by kernel_rfl) (by simp) ?_
              simp only [List.mem_cons, List.not_mem_nil, or_false, forall_eq_or_imp, forall_eq]
              have hone : ∀ u ∈ ([.string p0, .string p1, .string p2, .string p3, .slice vao rest.length vcap] : List Value), u.oneCell' = true := by
                intro u hu
                simp at hu
                rcases hu with rfl | rfl | rfl | rfl | rfl <;> rfl
              refine opH_skip none (w' := W7.setRow R #[.string p0, .string p1, .string p2, .string p3, .slice vao rest.length vcap]) rfl (by rfl) rfl (run_store_row 56 (.tmp 2) (.tmp 91) rfl R rfl 56 [.string ⟨#[]⟩, .string ⟨#[]⟩, .string ⟨#[]⟩, .string ⟨#[]⟩, .slice none 0 0] [.string p0, .string p1, .string p2, .string p3, .slice vao rest.length vcap] rfl hz7 info56 rfl hone) ?_
              have hz8 := setRow_heap W7 R _ #[.string p0, .string p1, .string p2, .string p3, .slice vao rest.length vcap] 56 (0, 0) hz7
              have hmr := mods_setRow hz7 #[.string p0, .string p1, .string p2, .string p3, .slice vao rest.length vcap]
              have hS : Mods (fun b => b = R) Wd (W7.setRow R #[.string p0, .string p1, .string p2, .string p3, .slice vao rest.length vcap]) := hS.trans hmr
              refine ⟨hS, ?_⟩
              simp only [Act.put, List.setIfInBounds_toArray, List.set_cons_succ, List.set_cons_zero]
              refine anyH_take 12 (some 3) (.bool true) rfl rfl (by kernel_rfl) (by kernel_rfl) (by kernel_rfl) (fun _ _ _ h => h.elim) (.inl ⟨by rfl, fun W hW => by go_simp⟩) hS ?_
              simp only [Act.put, List.setIfInBounds_toArray, List.set_cons_succ, List.set_cons_zero]
              refine wpAnyH_done (by kernel_rfl) ?_ _
              refine ⟨⟨_, _, _, rfl, rfl, rfl, rfl, rfl, rfl, rfl⟩, _, by rw [hp0, hp1, hp2, hp3]; exact hz8, ⟨?_, fun g hg => Nat.le_trans hNd.size (hOwn.2 g hg)⟩, (hNd.trans hN7).setRow hRw _⟩
              exact ReadsF.kept0 hOwn.1 hmr fun _ g hg e => by have h1 := hOwn.2 g hg; have h2 := (Array.getElem?_eq_some_iff.1 hzd).1; have e : g = R := e; omega
end Go.Proofs.YtkjghojdfjhhkaaDoor
