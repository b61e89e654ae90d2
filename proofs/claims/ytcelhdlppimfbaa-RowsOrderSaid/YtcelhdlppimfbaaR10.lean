/- The first one of all is taken. -/
import Derived.Test.YtcelhdlppimfbaaR9
import Derived.Deep.RegionHeld3
namespace Go.Proofs.Ytcelhdlppimfbaa
open Go.RowKit Go.Shelf Go.Cs
attribute [local go_sem] Oper.semAt_some
theorem results_row3 {P : Program} {fn : Func} {p q r : Tmp} {ty : TypeId} (h : fn.results = #[.cell p ty, .tmp q, .tmp r]) (tmps : Array Value) (w : World) (g : Nat) (t : TypeId) (cs : Array Value) (fr : Nat × Nat) (d : TypeDesc)
    (hp : tmps.getD p undef = .pointer (some ⟨g, 0, none⟩)) (hg : w.heap[g]? = some (.cells cs t fr))
    (hu : P.underlying ty = some d) (hd : (match d with | .struct _ | .array _ _ => true | _ => false) = true) (hi : (P.info? ty).map (·.size) = some cs.size) {v u : Value} (hq : tmps.getD q undef = v) (hr : tmps.getD r undef = u) :
    (results fn tmps).run P w = .ok (.tuple #[.agg cs, v, u]) w := by
  subst hq hr
  have hp' : tmps[p]?.getD undef = .pointer (some ⟨g, 0, none⟩) := by simpa using hp
  simp [results, h, hp', asAddr, run_loadVar_row w g t ty cs fr d hg hu hd hi]
def bestR (X : Nat → List Int) : (Nat → List Int) × Int × Bool := match allF X with
  | [] => (X, 0, false)
  | n :: _ => (outR X n, n, (findR X n).isSome)
/-- Eight cells. -/
def C8 (W : World) (B : Nat) (v0 v1 v2 v3 v4 v5 v6 v7 : Value) : Prop := W.cell? ⟨B, 0, none⟩ = some v0 ∧ W.cell? ⟨B, 1, none⟩ = some v1 ∧ W.cell? ⟨B, 2, none⟩ = some v2 ∧ W.cell? ⟨B, 3, none⟩ = some v3 ∧ W.cell? ⟨B, 4, none⟩ = some v4 ∧ W.cell? ⟨B, 5, none⟩ = some v5 ∧ W.cell? ⟨B, 6, none⟩ = some v6 ∧ W.cell? ⟨B, 7, none⟩ = some v7
theorem cells8 {W : World} {B : Nat} {T : TypeId} {v0 v1 v2 v3 v4 v5 v6 v7 : Value} (h : W.heap[B]? = some (.cells [v0, v1, v2, v3, v4, v5, v6, v7].toArray T (0, 0))) : C8 W B v0 v1 v2 v3 v4 v5 v6 v7 := by
  refine ⟨?_, ?_, ?_, ?_, ?_, ?_, ?_, ?_⟩ <;> simp [World.cell?, h]
/-- Eight stores are one. -/
theorem set8 {W : World} {B : Nat} {T : TypeId} {cs : Array Value} (h : W.heap[B]? = some (.cells cs T (0, 0))) (hs : cs.size = 8) (a0 a1 a2 a3 a4 a5 a6 a7 : Value) :
    (((((((W.setCell ⟨B, 0, none⟩ a0).setCell ⟨B, 1, none⟩ a1).setCell ⟨B, 2, none⟩ a2).setCell ⟨B, 3, none⟩ a3).setCell ⟨B, 4, none⟩ a4).setCell ⟨B, 5, none⟩ a5).setCell ⟨B, 6, none⟩ a6).setCell ⟨B, 7, none⟩ a7 = W.setRow B #[a0, a1, a2, a3, a4, a5, a6, a7] := by
  obtain ⟨l⟩ := cs
  obtain ⟨v0, v1, v2, v3, v4, v5, v6, v7, rfl⟩ := eight8 hs
  have h0 := setCell_eq_setRow W B 0 _ T (0, 0) a0 h
  rw [h0]
  have g0 := setRow_heap W B _ (#[v0, v1, v2, v3, v4, v5, v6, v7].setIfInBounds 0 a0) T (0, 0) h
  have step : ∀ (cur : Array Value) (i : Nat) (a : Value) (_ : (W.setRow B cur).heap[B]? = some (.cells cur T (0, 0))), (W.setRow B cur).setCell ⟨B, i, none⟩ a = W.setRow B (cur.setIfInBounds i a) := fun cur i a hc => by
    rw [setCell_eq_setRow _ B i cur T (0, 0) a hc, setRow_setRow]
  have heap : ∀ cur : Array Value, (W.setRow B cur).heap[B]? = some (.cells cur T (0, 0)) := fun cur => setRow_heap W B _ cur T (0, 0) h
  rw [step _ 1 a1 (heap _), step _ 2 a2 (heap _), step _ 3 a3 (heap _), step _ 4 a4 (heap _), step _ 5 a5 (heap _), step _ 6 a6 (heap _), step _ 7 a7 (heap _)]
  simp only [List.setIfInBounds_toArray, List.set_cons_zero, List.set_cons_succ]
theorem own8 {base : Nat} {ws : List Value} {X : Nat → List Int} {W : World} (h : OwnTo base ws X 8 W) (hl : ws.length = 8) : ∃ (p0 : Option Addr) (n0 k0 : Nat) (p1 : Option Addr) (n1 k1 : Nat) (p2 : Option Addr) (n2 k2 : Nat) (p3 : Option Addr) (n3 k3 : Nat) (p4 : Option Addr) (n4 k4 : Nat) (p5 : Option Addr) (n5 k5 : Nat) (p6 : Option Addr) (n6 k6 : Nat) (p7 : Option Addr) (n7 k7 : Nat), ws = [.slice p0 n0 k0, .slice p1 n1 k1, .slice p2 n2 k2, .slice p3 n3 k3, .slice p4 n4 k4, .slice p5 n5 k5, .slice p6 n6 k6, .slice p7 n7 k7] := by
  obtain ⟨b0, b1, b2, b3, b4, b5, b6, b7, rfl⟩ := eight8 hl
  obtain ⟨p0, k0, e0⟩ := owns_slice (h.1 0 (by omega))
  obtain ⟨p1, k1, e1⟩ := owns_slice (h.1 1 (by omega))
  obtain ⟨p2, k2, e2⟩ := owns_slice (h.1 2 (by omega))
  obtain ⟨p3, k3, e3⟩ := owns_slice (h.1 3 (by omega))
  obtain ⟨p4, k4, e4⟩ := owns_slice (h.1 4 (by omega))
  obtain ⟨p5, k5, e5⟩ := owns_slice (h.1 5 (by omega))
  obtain ⟨p6, k6, e6⟩ := owns_slice (h.1 6 (by omega))
  obtain ⟨p7, k7, e7⟩ := owns_slice (h.1 7 (by omega))
  simp only [List.getD_cons_zero, List.getD_cons_succ] at e0 e1 e2 e3 e4 e5 e6 e7
  subst e0 e1 e2 e3 e4 e5 e6 e7
  exact ⟨_, _, _, _, _, _, _, _, _, _, _, _, _, _, _, _, _, _, _, _, _, _, _, _, rfl⟩
theorem allF_in {X : Nat → List Int} (hx : In64 X) {n : Int} (h : n ∈ allF X) : -9223372036854775808 ≤ n ∧ n ≤ 9223372036854775807 := by
  unfold allF at h
  split at h
  · obtain ⟨u, _, hu⟩ := fl_mem.1 h
    exact hx u n hu
  · cases h
set_option maxRecDepth 100000 in
set_option maxHeartbeats 4000000 in
theorem best_any (vs : List Value) (hl : vs.length = 8) (X : Nat → List Int) (w : World) (hr : Rd w vs X) (hx : In64 X) (hX : ∀ u, u < 8 → (X u).length ≤ 1000000) :
    Calls Try.prog 11 #[.agg vs.toArray] w fun e w' => ∃ ws : List Value, e = .returned (.tuple #[.agg ws.toArray, .int .i64 (bestR X).2.1, .bool (bestR X).2.2]) ∧ ws.length = 8 ∧ OwnTo w.heap.size ws (bestR X).1 8 w' ∧ New w w' := by
  have HO := Lib.hid (fun w hr => own_any vs hl X w hr (fun u hu => by have := hX u hu; omega))
  have HA := Lib.hid (fun w hr => all_any vs hl X w hr hx)
  have HT := Lib.hid (fun n w hr => out_any vs hl X n w hr hx hX)
  obtain ⟨⟨Y1, Y2, Y3⟩, hY⟩ : ∃ Y, bestR X = Y := ⟨_, rfl⟩
  rw [hY]
  dsimp only
  have HY := Lib.hid hY
  obtain ⟨L, hL⟩ : ∃ L, allF X = L := ⟨_, rfl⟩
  rw [hL] at HA
  have HL := Lib.hid hL
  have Hi := Lib.hid (show (Try.prog.info? 23).map (·.size) = some vs.toArray.size by rw [List.size_toArray, hl]; exact info23)
  have Hl := Lib.hid hl
  clear hl hX hY hL hx
  have hh0 : ((w.alloc (.cells vs.toArray 23)).alloc (.cells nil8.toArray 23)).heap[w.heap.size]? = some (.cells vs.toArray 23 (0, 0)) := ((Mods.refl (fun _ => False) _).alloc _).heap (World.alloc_heap_new w _) id
  go_enter Try.func11, Try.ntmps11
  go_wp2_with (refine op_value rfl (run_load_row 23 (.tmp 1) rfl w.heap.size rfl 23 vs.toArray (0, 0) _ hh0 Try.underlying23 rfl Hi.out) ?_)
  obtain ⟨W0, hW0⟩ : ∃ W0, (w.alloc (.cells vs.toArray 23)).alloc (.cells nil8.toArray 23) = W0 := ⟨_, rfl⟩
  have hN0 : New w W0 := by rw [← hW0]; exact ((Mods.refl _ _).alloc _).alloc _
  have hsz : w.heap.size + 2 ≤ W0.heap.size ∧ W0.heap.size ≤ w.heap.size + 2 := by rw [← hW0]; simp
  have hb1 : W0.heap[w.heap.size + 1]? = some (.cells nil8.toArray 23 (0, 0)) := by rw [← hW0]; have := World.alloc_heap_new (w.alloc (.cells vs.toArray 23)) (.cells nil8.toArray 23); rwa [World.size_alloc] at this
  have hh1 : W0.heap[w.heap.size]? = some (.cells vs.toArray 23 (0, 0)) := by rw [← hW0]; exact hh0
  unfold nil8 at hW0
  rw [hW0]
  have hr0 := hr.new hN0
  clear hW0 hh0
  refine (HA.out _ hr0).mono ?_
  rintro e w1 ⟨v, rfl, hown, hN1⟩
  have hB := hN1.heap hh1 id
  have hB1 := hN1.heap hb1 id
  have hr1 := hr0.new hN1
  have hNw := hN0.trans hN1
  have hsz1 := hN1.size
  clear hh1 hb1 hr0 hN0 hN1 HA
  cases L with
  | nil =>
    obtain ⟨rfl, rfl, rfl⟩ : X = Y1 ∧ Y2 = 0 ∧ Y3 = false := by have := HY.out; rw [bestR, HL.out] at this; simp only [Prod.mk.injEq] at this; exact ⟨this.1, this.2.1.symm, this.2.2.symm⟩
    obtain ⟨ao, cap, rfl⟩ := owns_slice hown
    rw [show ([] : List Int).length = 0 from rfl]
    have Hr1 := Lib.hid hr1
    clear hown hr1
    go_wp2_with (refine op_value rfl (run_load_row 23 (.tmp 1) rfl w.heap.size rfl 23 vs.toArray (0, 0) _ hB Try.underlying23 rfl Hi.out) ?_)
    refine (HO.out _ Hr1.out).mono ?_
    rintro e w2 ⟨ws, rfl, hwl, hO, hN2⟩
    have hB1 := hN2.heap hB1 id
    have hone := hO.one hwl
    have hres := setRow_heap w2 (w.heap.size + 1) nil8.toArray ws.toArray 23 (0, 0) hB1
    have hNr : New w (w2.setRow (w.heap.size + 1) ws.toArray) := mrow (hNw.trans hN2) (.inl (by omega)) _ (fun o ho => by rw [hB1] at ho; cases ho; rfl)
    have hMo : Mods (fun b => b = w.heap.size + 1) w2 (w2.setRow (w.heap.size + 1) ws.toArray) := mrow (S := fun b => b = w.heap.size + 1) (Mods.refl _ _) (.inr rfl) _ (fun o ho => by rw [hB1] at ho; cases ho; rfl)
    have HO4 := Lib.hid ((hO.kept hMo (fun g hg e => by omega)).base_le (show w.heap.size ≤ _ by omega))
    have HNr := Lib.hid hNr
    have Hres := Lib.hid hres
    have hi1 : Hid ((Try.prog.info? 23).map (·.size) = some ws.length) := Lib.hid (by rw [hwl]; exact info23)
    have hi2 : Hid ((Try.prog.info? 23).map (·.size) = some ws.toArray.size) := Lib.hid (by rw [List.size_toArray, hwl]; exact info23)
    have Hwl := Lib.hid hwl
    clear hMo hNr hres hwl hO hN2 hNw hr
    go_wp2_with (refine op_skip rfl (run_store_row 23 (.tmp 2) (.tmp 12) rfl (w.heap.size + 1) rfl 23 nil8 ws rfl hB1 hi1.out (by rw [Hwl.out]; rfl) hone) ?_)
    exact bodyPost_ret (v := .tuple #[.agg ws.toArray, .int .i64 0, .bool false]) (results_row3 rfl _ _ (w.heap.size + 1) 23 ws.toArray (0, 0) _ rfl Hres.out Try.underlying23 rfl hi2.out rfl rfl) rfl ⟨ws, rfl, Hwl.out, HO4.out, HNr.out⟩
  | cons n l =>
    obtain ⟨hX', rfl, hok⟩ : outR X n = Y1 ∧ n = Y2 ∧ (findR X n).isSome = Y3 := by have := HY.out; rw [bestR, HL.out] at this; simpa only [Prod.mk.injEq] using this
    have HT := Lib.hid (HT.out n)
    rw [hX', hok] at HT
    clear hX' hok HY
    have hrv := ReadsI.ofOwns hown
    obtain ⟨hlen, ao, cap, rfl, hc⟩ := hrv
    obtain ⟨g, o, rfl, hc0⟩ := hc 0 (by simp)
    rw [Nat.add_zero, show (n :: l).getD 0 0 = n from rfl] at hc0
    obtain ⟨m, hm, hm1⟩ : ∃ m, (n :: l).length = m ∧ 1 ≤ m := ⟨_, rfl, by simp⟩
    rw [hm] at hlen ⊢
    have hm0 : ((m : Int) == 0) = false := beq_eq_false_iff_ne.2 (by omega)
    have hm2 : (0 : Int) < (m : Int) := by omega
    have hm3 : 0 < m := by omega
    obtain ⟨v0, v1, v2, v3, v4, v5, v6, v7, rfl⟩ := eight8 Hl.out
    obtain ⟨a0, a1, a2, a3, a4, a5, a6, a7⟩ := cells8 hB
    have Hr1 := Lib.hid hr1
    have HB1 := Lib.hid hB1
    have hgb : w.heap.size + 2 ≤ g := by have := (hown.lt g rfl).1; omega
    clear hown hr1 hc hm hB hB1 hr HO
    go_wp2_with fail
    go_upto_region 4 with fail
    go_cut [4] from 13 to 20 (fun b wx => b = .bool Y3 ∧ ∃ ws : List Value, ws.length = 8 ∧ wx.heap[w.heap.size + 1]? = some (.cells ws.toArray 23 (0, 0)) ∧ OwnTo W0.heap.size ws Y1 8 wx ∧ New w wx ∧ wx.cell? ⟨g, o, none⟩ = some (.int .i64 n))
    case first =>
      have d0 : w1.drew.cell? ⟨w.heap.size, 0, none⟩ = some v0 := a0
      have d1 : w1.drew.cell? ⟨w.heap.size, 1, none⟩ = some v1 := a1
      have d2 : w1.drew.cell? ⟨w.heap.size, 2, none⟩ = some v2 := a2
      have d3 : w1.drew.cell? ⟨w.heap.size, 3, none⟩ = some v3 := a3
      have d4 : w1.drew.cell? ⟨w.heap.size, 4, none⟩ = some v4 := a4
      have d5 : w1.drew.cell? ⟨w.heap.size, 5, none⟩ = some v5 := a5
      have d6 : w1.drew.cell? ⟨w.heap.size, 6, none⟩ = some v6 := a6
      have d7 : w1.drew.cell? ⟨w.heap.size, 7, none⟩ = some v7 := a7
      have d8 : w1.drew.cell? ⟨g, o, none⟩ = some (.int .i64 n) := hc0
      go_region_held3 (fun w' => w'.cell? ⟨w.heap.size, 0, none⟩ = some v0 ∧ w'.cell? ⟨w.heap.size, 1, none⟩ = some v1 ∧ w'.cell? ⟨w.heap.size, 2, none⟩ = some v2 ∧ w'.cell? ⟨w.heap.size, 3, none⟩ = some v3 ∧ w'.cell? ⟨w.heap.size, 4, none⟩ = some v4 ∧ w'.cell? ⟨w.heap.size, 5, none⟩ = some v5 ∧ w'.cell? ⟨w.heap.size, 6, none⟩ = some v6 ∧ w'.cell? ⟨w.heap.size, 7, none⟩ = some v7 ∧ w'.cell? ⟨g, o, none⟩ = some (.int .i64 n))
        (first | with_reducible exact ⟨f0, f1, f2, f3, f4, f5, f6, f7, f8⟩ | with_reducible exact ⟨e0, e1, e2, e3, e4, e5, e6, e7, e8⟩ | with_reducible exact ⟨d0, d1, d2, d3, d4, d5, d6, d7, d8⟩)
        ((go_at_call 10; refine (HT.out _ (Hr1.out.new ((Mods.refl _ _).drew))).mono ?_; rintro e w3 ⟨ws, rfl, hwl, hO, hN⟩; obtain ⟨p0, n0, k0, p1, n1, k1, p2, n2, k2, p3, n3, k3, p4, n4, k4, p5, n5, k5, p6, n6, k6, p7, n7, k7, rfl⟩ := own8 hO hwl; have hB3 := hN.heap (show w1.drew.heap[w.heap.size + 1]? = some (.cells nil8.toArray 23 (0, 0)) from HB1.out) id; obtain ⟨c0, c1, c2, c3, c4, c5, c6, c7⟩ := cells8 (show w3.heap[w.heap.size + 1]? = some (.cells [.slice none 0 0, .slice none 0 0, .slice none 0 0, .slice none 0 0, .slice none 0 0, .slice none 0 0, .slice none 0 0, .slice none 0 0].toArray 23 (0, 0)) from hB3); have e0 := hN.cell d0 id; have e1 := hN.cell d1 id; have e2 := hN.cell d2 id; have e3 := hN.cell d3 id; have e4 := hN.cell d4 id; have e5 := hN.cell d5 id; have e6 := hN.cell d6 id; have e7 := hN.cell d7 id; have e8 := hN.cell d8 id; have hfz : ∀ i, w3.frozen? ⟨w.heap.size + 1, i, none⟩ = false := (fun i => by simp [World.frozen?, hB3]); have hM8 := mset (o := 7) (mset (o := 6) (mset (o := 5) (mset (o := 4) (mset (o := 3) (mset (o := 2) (mset (o := 1) (mset (o := 0) (Mods.refl (fun b => b = w.heap.size + 1) w3) (.slice p0 n0 k0)) (.slice p1 n1 k1)) (.slice p2 n2 k2)) (.slice p3 n3 k3)) (.slice p4 n4 k4)) (.slice p5 n5 k5)) (.slice p6 n6 k6)) (.slice p7 n7 k7); have f0 := hM8.cell e0 (by simp); have f1 := hM8.cell e1 (by simp); have f2 := hM8.cell e2 (by simp); have f3 := hM8.cell e3 (by simp); have f4 := hM8.cell e4 (by simp); have f5 := hM8.cell e5 (by simp); have f6 := hM8.cell e6 (by simp); have f7 := hM8.cell e7 (by simp); have f8 := hM8.cell e8 (by simp; omega); have HB3 := Lib.hid hB3; clear hB3))
      all_goals
        have hs8 := set8 HB3.out rfl (.slice p0 n0 k0) (.slice p1 n1 k1) (.slice p2 n2 k2) (.slice p3 n3 k3) (.slice p4 n4 k4) (.slice p5 n5 k5) (.slice p6 n6 k6) (.slice p7 n7 k7)
        have hh8 : (((((((((w3.setCell ⟨w.heap.size + 1, 0, none⟩ (.slice p0 n0 k0)).setCell ⟨w.heap.size + 1, 1, none⟩ (.slice p1 n1 k1)).setCell ⟨w.heap.size + 1, 2, none⟩ (.slice p2 n2 k2)).setCell ⟨w.heap.size + 1, 3, none⟩ (.slice p3 n3 k3)).setCell ⟨w.heap.size + 1, 4, none⟩ (.slice p4 n4 k4)).setCell ⟨w.heap.size + 1, 5, none⟩ (.slice p5 n5 k5)).setCell ⟨w.heap.size + 1, 6, none⟩ (.slice p6 n6 k6)).setCell ⟨w.heap.size + 1, 7, none⟩ (.slice p7 n7 k7))).heap[w.heap.size + 1]? = some (.cells [.slice p0 n0 k0, .slice p1 n1 k1, .slice p2 n2 k2, .slice p3 n3 k3, .slice p4 n4 k4, .slice p5 n5 k5, .slice p6 n6 k6, .slice p7 n7 k7].toArray 23 (0, 0)) := by
          rw [hs8]; exact setRow_heap w3 (w.heap.size + 1) nil8.toArray _ 23 (0, 0) HB3.out
        have hO8 := Lib.hid ((hO.kept hM8 (fun g hg e => by have : W0.heap.size ≤ w1.drew.heap.size := hsz1; omega)).base_le (show W0.heap.size ≤ _ from hsz1))
        have hN8 : New w (((((((((w3.setCell ⟨w.heap.size + 1, 0, none⟩ (.slice p0 n0 k0)).setCell ⟨w.heap.size + 1, 1, none⟩ (.slice p1 n1 k1)).setCell ⟨w.heap.size + 1, 2, none⟩ (.slice p2 n2 k2)).setCell ⟨w.heap.size + 1, 3, none⟩ (.slice p3 n3 k3)).setCell ⟨w.heap.size + 1, 4, none⟩ (.slice p4 n4 k4)).setCell ⟨w.heap.size + 1, 5, none⟩ (.slice p5 n5 k5)).setCell ⟨w.heap.size + 1, 6, none⟩ (.slice p6 n6 k6)).setCell ⟨w.heap.size + 1, 7, none⟩ (.slice p7 n7 k7))) := ((Mods.ofNew (hNw.drew.trans hN)).trans hM8).new (fun k hk => by omega)
        have HH8 := Lib.hid hh8
        have HN8 := Lib.hid hN8
        have HF8 := Lib.hid f8
        clear hs8 hh8 hN8 hM8 hO e0 e1 e2 e3 e4 e5 e6 e7 e8 f0 f1 f2 f3 f4 f5 f6 f7 f8 d0 d1 d2 d3 d4 d5 d6 d7 d8 hfz c0 c1 c2 c3 c4 c5 c6 c7
        go_wp2_with fail
        go_meet
        exact ⟨rfl, _, rfl, HH8.out, hO8.out, HN8.out, HF8.out⟩
    case rest =>
      obtain ⟨rfl, ws, hwl, hh, hO, hN, hc⟩ := hcut
      obtain ⟨p0, n0, k0, p1, n1, k1, p2, n2, k2, p3, n3, k3, p4, n4, k4, p5, n5, k5, p6, n6, k6, p7, n7, k7, rfl⟩ := own8 hO hwl
      obtain ⟨c0, c1, c2, c3, c4, c5, c6, c7⟩ := cells8 hh
      have d0 : wc.drew.cell? ⟨w.heap.size + 1, 0, none⟩ = some (.slice p0 n0 k0) := c0
      have d1 : wc.drew.cell? ⟨w.heap.size + 1, 1, none⟩ = some (.slice p1 n1 k1) := c1
      have d2 : wc.drew.cell? ⟨w.heap.size + 1, 2, none⟩ = some (.slice p2 n2 k2) := c2
      have d3 : wc.drew.cell? ⟨w.heap.size + 1, 3, none⟩ = some (.slice p3 n3 k3) := c3
      have d4 : wc.drew.cell? ⟨w.heap.size + 1, 4, none⟩ = some (.slice p4 n4 k4) := c4
      have d5 : wc.drew.cell? ⟨w.heap.size + 1, 5, none⟩ = some (.slice p5 n5 k5) := c5
      have d6 : wc.drew.cell? ⟨w.heap.size + 1, 6, none⟩ = some (.slice p6 n6 k6) := c6
      have d7 : wc.drew.cell? ⟨w.heap.size + 1, 7, none⟩ = some (.slice p7 n7 k7) := c7
      have d8 : wc.drew.cell? ⟨g, o, none⟩ = some (.int .i64 n) := hc
      have hh' : wc.drew.heap[w.heap.size + 1]? = some (.cells [.slice p0 n0 k0, .slice p1 n1 k1, .slice p2 n2 k2, .slice p3 n3 k3, .slice p4 n4 k4, .slice p5 n5 k5, .slice p6 n6 k6, .slice p7 n7 k7].toArray 23 (0, 0)) := hh
      have hfz : ∀ i, wc.frozen? ⟨w.heap.size + 1, i, none⟩ = false := (fun i => by simp [World.frozen?, hh])
      have hW8 : ((((((((wc.setCell ⟨w.heap.size + 1, 0, none⟩ (.slice p0 n0 k0)).setCell ⟨w.heap.size + 1, 1, none⟩ (.slice p1 n1 k1)).setCell ⟨w.heap.size + 1, 2, none⟩ (.slice p2 n2 k2)).setCell ⟨w.heap.size + 1, 3, none⟩ (.slice p3 n3 k3)).setCell ⟨w.heap.size + 1, 4, none⟩ (.slice p4 n4 k4)).setCell ⟨w.heap.size + 1, 5, none⟩ (.slice p5 n5 k5)).setCell ⟨w.heap.size + 1, 6, none⟩ (.slice p6 n6 k6)).setCell ⟨w.heap.size + 1, 7, none⟩ (.slice p7 n7 k7)) = wc := by rw [set8 hh rfl]; exact setRow_self _ _ _ 23 (0, 0) hh
      have HHd := Lib.hid hh'
      have HO := Lib.hid hO
      have HN := Lib.hid hN
      clear hh hh' hO hN hc a0 a1 a2 a3 a4 a5 a6 a7 hc0 HB1 Hr1 HT
      go_wp2_with fail
      go_region_held3 (fun w' => w'.cell? ⟨w.heap.size + 1, 0, none⟩ = some (.slice p0 n0 k0) ∧ w'.cell? ⟨w.heap.size + 1, 1, none⟩ = some (.slice p1 n1 k1) ∧ w'.cell? ⟨w.heap.size + 1, 2, none⟩ = some (.slice p2 n2 k2) ∧ w'.cell? ⟨w.heap.size + 1, 3, none⟩ = some (.slice p3 n3 k3) ∧ w'.cell? ⟨w.heap.size + 1, 4, none⟩ = some (.slice p4 n4 k4) ∧ w'.cell? ⟨w.heap.size + 1, 5, none⟩ = some (.slice p5 n5 k5) ∧ w'.cell? ⟨w.heap.size + 1, 6, none⟩ = some (.slice p6 n6 k6) ∧ w'.cell? ⟨w.heap.size + 1, 7, none⟩ = some (.slice p7 n7 k7) ∧ w'.cell? ⟨g, o, none⟩ = some (.int .i64 n))
        (with_reducible exact ⟨d0, d1, d2, d3, d4, d5, d6, d7, d8⟩) (fail)
      all_goals
        go_wp2_with fail
        refine bodyPost_ret (v := .tuple #[.agg [.slice p0 n0 k0, .slice p1 n1 k1, .slice p2 n2 k2, .slice p3 n3 k3, .slice p4 n4 k4, .slice p5 n5 k5, .slice p6 n6 k6, .slice p7 n7 k7].toArray, .int .i64 n, .bool Y3]) (results_row3 (fn := Try.f11) (p := 2) (q := 3) (r := 4) (v := .int .i64 n) (u := .bool Y3) rfl _ _ (w.heap.size + 1) 23 [.slice p0 n0 k0, .slice p1 n1 k1, .slice p2 n2 k2, .slice p3 n3 k3, .slice p4 n4 k4, .slice p5 n5 k5, .slice p6 n6 k6, .slice p7 n7 k7].toArray (0, 0) _ rfl HHd.out Try.underlying23 rfl (by rw [List.size_toArray]; exact info23) rfl rfl) rfl ⟨_, rfl, rfl, ?_, HN.out.drew⟩
        exact (HO.out.kept ((Mods.refl (fun _ => False) wc).drew) (fun _ _ f => f)).base_le (by omega)
end Go.Proofs.Ytcelhdlppimfbaa
