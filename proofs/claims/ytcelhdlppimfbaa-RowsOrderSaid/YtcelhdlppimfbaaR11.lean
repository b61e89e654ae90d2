/- A slot is put into another row. -/
import Derived.Test.YtcelhdlppimfbaaR10
namespace Go.Proofs.Ytcelhdlppimfbaa
open Go.RowKit Go.Shelf Go.Cs
attribute [local go_sem] Oper.semAt_some
def turnOk (X : Nat → List Int) (s u : Int) : Bool := match findR X s with
  | none => false
  | some v => !(((v : Int) == u) || !eightB u) && pushOk (outR X s) s u
def turnR (X : Nat → List Int) (s u : Int) : Nat → List Int := match findR X s with
  | none => X
  | some v => if ((v : Int) == u) || !eightB u then X else pushR (outR X s) s u
theorem outR_at (X : Nat → List Int) (s : Int) (u : Nat) : outR X s u = X u ∨ outR X s u = (X u).erase s := by
  unfold outR
  cases findR X s with
  | none => exact .inl rfl
  | some v =>
    dsimp only
    by_cases h : u = v
    · rw [if_pos h]; exact .inr rfl
    · rw [if_neg h]; exact .inl rfl
theorem outR_in {X : Nat → List Int} (hx : In64 X) (s : Int) : In64 (outR X s) := fun u n h => by
  rcases outR_at X s u with e | e
  · rw [e] at h; exact hx u n h
  · rw [e] at h; exact hx u n (List.mem_of_mem_erase h)
theorem outR_le {X : Nat → List Int} (s : Int) (u : Nat) : (outR X s u).length ≤ (X u).length := by
  rcases outR_at X s u with e | e
  · rw [e]; exact Nat.le_refl _
  · rw [e]; exact List.length_erase_le
def badT (f : Option Nat) (u : Int) (b : Bool) : Bool := match f with
  | none => true
  | some v => ((v : Int) == u) || !b
set_option maxRecDepth 100000 in
set_option maxHeartbeats 4000000 in
theorem turn_any (vs : List Value) (hl : vs.length = 8) (X : Nat → List Int) (s u : Int) (w : World) (hr : Rd w vs X) (hx : In64 X) (hX : ∀ u, u < 8 → (X u).length ≤ 1000000)
    (s1 : -9223372036854775808 ≤ s) (s2 : s ≤ 9223372036854775807) (u1 : -9223372036854775808 ≤ u) (u2 : u ≤ 9223372036854775807) :
    Calls Try.prog 9 #[.agg vs.toArray, .int .i64 s, .int .i64 u] w (RetR w (turnR X s u) (turnOk X s u)) := by
  have HO := Lib.hid (fun w hr => own_any vs hl X w hr (fun u hu => by have := hX u hu; omega))
  have HF := Lib.hid (fun w hr => find_any vs hl X s w hr hx)
  have HT := Lib.hid (fun w hr => out_any vs hl X s w hr hx hX)
  have HP := Lib.hid (fun ws (hl : List.length ws = 8) w hr => push_any ws hl (outR X s) s u w hr (outR_in hx s) (fun i hi => Nat.le_trans (outR_le s i) (hX i hi)) s1 s2 u1 u2)
  have HU := Lib.hid (eight_any u u1 u2)
  obtain ⟨Y, hY⟩ : ∃ Y, turnR X s u = Y := ⟨_, rfl⟩
  obtain ⟨ok, hok⟩ : ∃ ok, turnOk X s u = ok := ⟨_, rfl⟩
  rw [hY, hok]
  have HY := Lib.hid hY
  have Hok := Lib.hid hok
  obtain ⟨f, hf⟩ : ∃ f, findR X s = f := ⟨_, rfl⟩
  rw [hf] at HF HT
  have Hf := Lib.hid hf
  obtain ⟨b, hb⟩ : ∃ b, eightB u = b := ⟨_, rfl⟩
  rw [hb] at HU
  have Hb := Lib.hid hb
  have Hi := Lib.hid (show (Try.prog.info? 23).map (·.size) = some vs.toArray.size by rw [List.size_toArray, hl]; exact info23)
  have Hl := Lib.hid hl
  clear hl hX hx hf hb hY hok
  have hh0 : ((w.alloc (.cells vs.toArray 23)).alloc (.cells nil8.toArray 23)).heap[w.heap.size]? = some (.cells vs.toArray 23 (0, 0)) := ((Mods.refl (fun _ => False) _).alloc _).heap (World.alloc_heap_new w _) id
  go_enter Try.func9, Try.ntmps9
  go_wp2_with (refine op_value rfl (run_load_row 23 (.tmp 3) rfl w.heap.size rfl 23 vs.toArray (0, 0) _ hh0 Try.underlying23 rfl Hi.out) ?_)
  obtain ⟨W0, hW0⟩ : ∃ W0, (w.alloc (.cells vs.toArray 23)).alloc (.cells nil8.toArray 23) = W0 := ⟨_, rfl⟩
  have hN0 : New w W0 := by rw [← hW0]; exact ((Mods.refl _ _).alloc _).alloc _
  have hsz : w.heap.size + 2 ≤ W0.heap.size ∧ W0.heap.size ≤ w.heap.size + 2 := by rw [← hW0]; simp
  have hb1 : W0.heap[w.heap.size + 1]? = some (.cells nil8.toArray 23 (0, 0)) := by rw [← hW0]; have := World.alloc_heap_new (w.alloc (.cells vs.toArray 23)) (.cells nil8.toArray 23); rwa [World.size_alloc] at this
  have hh1 : W0.heap[w.heap.size]? = some (.cells vs.toArray 23 (0, 0)) := by rw [← hW0]; exact hh0
  unfold nil8 at hW0
  rw [hW0]
  have hr0 := hr.new hN0
  clear hW0 hh0
  refine (HF.out _ hr0).mono ?_
  rintro e w1 ⟨rfl, hN1⟩
  have hB := hN1.heap hh1 id
  have hB1 := hN1.heap hb1 id
  have hr1 := hr0.new hN1
  have hNw := hN0.trans hN1
  have hsz1 := hN1.size
  have Hr1 := Lib.hid hr1
  clear hh1 hb1 hr0 hN0 hN1 HF hr1 hr
  unfold optT
  obtain ⟨bad, hbad⟩ : ∃ bad, badT f u b = bad := ⟨_, rfl⟩
  have Hbad := Lib.hid hbad
  clear hbad
  go_upto_region 2 with fail
  go_cut [29] from 18 to 29 (fun t wx => t = .bool bad ∧ wx = w1)
  case first =>
    cases f with
    | none =>
      obtain rfl : true = bad := Hbad.out
      go_wp2_with fail
      go_meet
      exact ⟨rfl, rfl⟩
    | some v =>
      cases h : ((v : Int) == u) with
      | true =>
        obtain rfl : bad = true := by rw [← Hbad.out, badT, h]; rfl
        go_wp2_with fail
        go_meet
        exact ⟨rfl, rfl⟩
      | false =>
        go_wp2_with fail
        refine (HU.out _).mono ?_
        rintro e w2 ⟨rfl, rfl⟩
        obtain rfl : bad = !b := by rw [← Hbad.out, badT, h]; rfl
        cases b
        all_goals
          go_wp2_with fail
          go_meet
          exact ⟨rfl, rfl⟩
  case rest =>
    obtain ⟨rfl, rfl⟩ := hcut
    cases bad with
    | true =>
      have hR : X = Y ∧ ok = false := by
        have e1 := HY.out
        have e2 := Hok.out
        have e3 := Hbad.out
        rw [turnR, Hf.out] at e1
        rw [turnOk, Hf.out] at e2
        rw [← Hb.out] at e3
        rw [badT.eq_def] at e3
        cases f with
        | none => exact ⟨e1, e2.symm⟩
        | some v =>
          dsimp only at e1 e2 e3
          rw [if_pos e3] at e1
          rw [e3] at e2
          exact ⟨e1, e2.symm⟩
      obtain ⟨rfl, rfl⟩ := hR
      clear HY Hok Hbad
      go_wp2_with (refine op_value rfl (run_load_row 23 (.tmp 3) rfl w.heap.size rfl 23 vs.toArray (0, 0) _ hB Try.underlying23 rfl Hi.out) ?_)
      refine (HO.out _ Hr1.out).mono ?_
      rintro e w2 ⟨ws, rfl, hwl, hO, hN2⟩
      have hB1 := hN2.heap hB1 id
      have hone := hO.one hwl
      have hres := setRow_heap w2 (w.heap.size + 1) nil8.toArray ws.toArray 23 (0, 0) hB1
      have hNr : New w (w2.setRow (w.heap.size + 1) ws.toArray) := mrow (hNw.trans hN2) (.inl (by omega)) _ (fun o ho => by rw [hB1] at ho; cases ho; rfl)
      have hMo : Mods (fun b => b = w.heap.size + 1) w2 (w2.setRow (w.heap.size + 1) ws.toArray) := mrow (S := fun b => b = w.heap.size + 1) (Mods.refl _ _) (.inr rfl) _ (fun o ho => by rw [hB1] at ho; cases ho; rfl)
      have HO4 := Lib.hid ((hO.kept hMo (fun g hg e => by omega)).base_le (show w.heap.size ≤ _ by omega))
      have HNr := Lib.hid hNr
      have Hres := Lib.hid hres
      have hi1 : Hid ((Try.prog.info? 23).map (·.size) = some ws.length) := Lib.hid (by rw [hwl]; exact info23)
      have hi2 : Hid ((Try.prog.info? 23).map (·.size) = some ws.toArray.size) := Lib.hid (by rw [List.size_toArray, hwl]; exact info23)
      have Hwl := Lib.hid hwl
      clear hMo hNr hres hwl hO hN2 hNw
      go_wp2_with (refine op_skip rfl (run_store_row 23 (.tmp 6) (.tmp 31) rfl (w.heap.size + 1) rfl 23 nil8 ws rfl hB1 hi1.out (by rw [Hwl.out]; rfl) hone) ?_)
      exact bodyPost_ret (v := .tuple #[.agg ws.toArray, .bool false]) (results_row2 (fn := Try.f9) (p := 6) (q := 7) (v := .bool false) rfl _ _ (w.heap.size + 1) 23 ws.toArray (0, 0) _ rfl Hres.out Try.underlying23 rfl hi2.out rfl) rfl ⟨ws, rfl, Hwl.out, HO4.out, HNr.out⟩
    | false =>
      obtain ⟨v, rfl, hv⟩ : ∃ v, f = some v ∧ (((v : Int) == u) || !b) = false := by
        have e3 := Hbad.out
        cases f with
        | none => cases e3
        | some v => exact ⟨v, rfl, e3⟩
      have hR : pushR (outR X s) s u = Y ∧ pushOk (outR X s) s u = ok := by
        have e1 := HY.out
        have e2 := Hok.out
        rw [turnR, Hf.out] at e1
        rw [turnOk, Hf.out] at e2
        rw [← Hb.out] at hv
        dsimp only at e1 e2
        rw [if_neg (by rw [hv]; exact Bool.false_ne_true)] at e1
        rw [hv, Bool.not_false, Bool.true_and] at e2
        exact ⟨e1, e2⟩
      obtain ⟨hR1, hR2⟩ := hR
      rw [hR1, hR2] at HP
      have HTr := Lib.hid (HT.out _ Hr1.out)
      clear HY Hok Hbad hv hR1 hR2 HT HU HO
      go_wp2_with (refine op_value rfl (run_load_row 23 (.tmp 3) rfl w.heap.size rfl 23 vs.toArray (0, 0) _ hB Try.underlying23 rfl Hi.out) ?_)
      refine HTr.out.mono ?_
      rintro e w2 ⟨ws, rfl, hwl, hO, hN2⟩
      have hB1 := hN2.heap hB1 id
      have hone := hO.one hwl
      have hN2w := hNw.trans hN2
      have hsz2 := hN2.size
      have hi1 : Hid ((Try.prog.info? 23).map (·.size) = some ws.length) := Lib.hid (by rw [hwl]; exact info23)
      have hi2 : Hid ((Try.prog.info? 23).map (·.size) = some ws.toArray.size) := Lib.hid (by rw [List.size_toArray, hwl]; exact info23)
      have Hwl := Lib.hid hwl
      have HO2 := Lib.hid hO
      have hb3 : (w2.alloc (.cells nil8.toArray 23)).heap[w2.heap.size]? = some (.cells nil8.toArray 23 (0, 0)) := World.alloc_heap_new w2 _
      have hb4 := setRow_heap _ w2.heap.size nil8.toArray ws.toArray 23 (0, 0) hb3
      clear hwl hO hN2 hNw HTr hB
      go_wp2_with (first | (refine op_skip rfl (run_store_row 23 (.tmp 10) (.tmp 36) rfl w2.heap.size rfl 23 nil8 ws rfl hb3 hi1.out (by rw [Hwl.out]; rfl) hone) ?_) | (refine op_value rfl (run_load_row 23 (.tmp 10) rfl w2.heap.size rfl 23 ws.toArray (0, 0) _ hb4 Try.underlying23 rfl hi2.out) ?_))
      obtain ⟨W3, hW3⟩ : ∃ W3, (w2.alloc (.cells nil8.toArray 23)).setRow w2.heap.size ws.toArray = W3 := ⟨_, rfl⟩
      have hN3 : New w2 W3 := by rw [← hW3]; exact mrow ((Mods.refl _ w2).alloc _) (.inl (Nat.le_refl _)) _ (fun o ho => by rw [hb3] at ho; cases ho; rfl)
      unfold nil8 at hW3
      rw [hW3]
      have hB5 := hN3.heap hB1 id
      have HPc := Lib.hid (HP.out ws Hwl.out _ (HO2.out.rd.new hN3))
      have hNw3 := hN2w.trans hN3
      have hsz3 := hN3.size
      clear hW3 hb3 hb4 hone hN2w hN3 hB1 HP hi1 hi2
      refine HPc.out.mono ?_
      rintro e w4 ⟨ws', rfl, hwl', hO', hN4⟩
      have hB6 := hN4.heap hB5 id
      have hone' := hO'.one hwl'
      have hres := setRow_heap w4 (w.heap.size + 1) nil8.toArray ws'.toArray 23 (0, 0) hB6
      have hNr : New w (w4.setRow (w.heap.size + 1) ws'.toArray) := mrow (hNw3.trans hN4) (.inl (by omega)) _ (fun o ho => by rw [hB6] at ho; cases ho; rfl)
      have hMo : Mods (fun b => b = w.heap.size + 1) w4 (w4.setRow (w.heap.size + 1) ws'.toArray) := mrow (S := fun b => b = w.heap.size + 1) (Mods.refl _ _) (.inr rfl) _ (fun o ho => by rw [hB6] at ho; cases ho; rfl)
      have HO4 := Lib.hid ((hO'.kept hMo (fun g hg e => by omega)).base_le (show w.heap.size ≤ _ by omega))
      have HNr := Lib.hid hNr
      have Hres := Lib.hid hres
      have hi3 : Hid ((Try.prog.info? 23).map (·.size) = some ws'.length) := Lib.hid (by rw [hwl']; exact info23)
      have hi4 : Hid ((Try.prog.info? 23).map (·.size) = some ws'.toArray.size) := Lib.hid (by rw [List.size_toArray, hwl']; exact info23)
      have Hwl' := Lib.hid hwl'
      clear hMo hNr hres hwl' hO' hN4 hNw3 hB5 HPc
      go_wp2_with (refine op_skip rfl (run_store_row 23 (.tmp 6) (.tmp 42) rfl (w.heap.size + 1) rfl 23 nil8 ws' rfl hB6 hi3.out (by rw [Hwl'.out]; rfl) hone') ?_)
      exact bodyPost_ret (v := .tuple #[.agg ws'.toArray, .bool ok]) (results_row2 (fn := Try.f9) (p := 6) (q := 7) (v := .bool ok) rfl _ _ (w.heap.size + 1) 23 ws'.toArray (0, 0) _ rfl Hres.out Try.underlying23 rfl hi4.out rfl) rfl ⟨ws', rfl, Hwl'.out, HO4.out, HNr.out⟩
end Go.Proofs.Ytcelhdlppimfbaa
