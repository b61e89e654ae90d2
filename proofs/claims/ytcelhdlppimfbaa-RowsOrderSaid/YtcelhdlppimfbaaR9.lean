/- A slot is taken out, walked. -/
import Derived.Test.YtcelhdlppimfbaaR8
namespace Go.Proofs.Ytcelhdlppimfbaa
open Go.RowKit Go.Shelf Go.Cs
attribute [local go_sem] Oper.semAt_some
set_option maxRecDepth 100000 in
set_option maxHeartbeats 2000000 in
theorem out_any (vs : List Value) (hl : vs.length = 8) (X : Nat → List Int) (s : Int) (w : World) (hr : Rd w vs X) (hx : In64 X) (hX : ∀ u, u < 8 → (X u).length ≤ 1000000) :
    Calls Try.prog 10 #[.agg vs.toArray, .int .i64 s] w (RetR w (outR X s) (findR X s).isSome) := by
  have HO := Lib.hid (fun w hr => own_any vs hl X w hr (fun u hu => by have := hX u hu; omega))
  have HF := Lib.hid (fun ws (hl : List.length ws = 8) w hr => find_any ws hl X s w hr hx)
  obtain ⟨X', hX'⟩ : ∃ X', outR X s = X' := ⟨_, rfl⟩
  rw [hX']
  have HX' := Lib.hid hX'
  obtain ⟨f, hf⟩ : ∃ f, findR X s = f := ⟨_, rfl⟩
  rw [hf] at HF ⊢
  have Hf := Lib.hid hf
  have Hi := Lib.hid (show (Try.prog.info? 23).map (·.size) = some vs.toArray.size by rw [List.size_toArray, hl]; exact info23)
  have Hl := Lib.hid hl
  have HX := Lib.hid hX
  clear hl hX hx hf hX'
  have hh0 : ((w.alloc (.cells vs.toArray 23)).alloc (.cells nil8.toArray 23)).heap[w.heap.size]? = some (.cells vs.toArray 23 (0, 0)) := ((Mods.refl (fun _ => False) _).alloc _).heap (World.alloc_heap_new w _) id
  go_enter Try.func10, Try.ntmps10
  go_wp2_with (refine op_value rfl (run_load_row 23 (.tmp 2) rfl w.heap.size rfl 23 vs.toArray (0, 0) _ hh0 Try.underlying23 rfl Hi.out) ?_)
  obtain ⟨W0, hW0⟩ : ∃ W0, (w.alloc (.cells vs.toArray 23)).alloc (.cells nil8.toArray 23) = W0 := ⟨_, rfl⟩
  have hN0 : New w W0 := by rw [← hW0]; exact ((Mods.refl _ _).alloc _).alloc _
  have hsz : w.heap.size + 2 ≤ W0.heap.size ∧ W0.heap.size ≤ w.heap.size + 2 := by rw [← hW0]; simp
  have hb1 : W0.heap[w.heap.size + 1]? = some (.cells nil8.toArray 23 (0, 0)) := by rw [← hW0]; have := World.alloc_heap_new (w.alloc (.cells vs.toArray 23)) (.cells nil8.toArray 23); rwa [World.size_alloc] at this
  have hh1 : W0.heap[w.heap.size]? = some (.cells vs.toArray 23 (0, 0)) := by rw [← hW0]; exact hh0
  unfold nil8 at hW0
  rw [hW0]
  have hr0 := hr.new hN0
  clear hW0 hh0
  refine (HO.out _ hr0).mono ?_
  rintro e w1 ⟨ws, rfl, hwl, hO, hN1⟩
  have hB := hN1.heap hh1 id
  have hB1 := hN1.heap hb1 id
  have hone := hO.one hwl
  have hi1 : Hid ((Try.prog.info? 23).map (·.size) = some ws.length) := Lib.hid (by rw [hwl]; exact info23)
  have hi2 : Hid ((Try.prog.info? 23).map (·.size) = some ws.toArray.size) := Lib.hid (by rw [List.size_toArray, hwl]; exact info23)
  have hlen : Hid (ws.length = vs.length) := Lib.hid (by rw [hwl, Hl.out])
  have hK : w1.heap[w.heap.size]? = some (.cells vs.toArray 23 (0, 0)) := hB
  have Hsr := setRow_heap w1 w.heap.size vs.toArray ws.toArray 23 (0, 0) hK
  have Hcont := Lib.hid (show True from trivial)
  go_wp2_with (first | (refine op_skip rfl (run_store_row 23 (.tmp 2) (.tmp 10) rfl w.heap.size rfl 23 vs ws rfl hK hi1.out hlen.out hone) ?_) | (refine op_value rfl (run_load_row 23 (.tmp 2) rfl w.heap.size rfl 23 ws.toArray (0, 0) _ Hsr Try.underlying23 rfl hi2.out) ?_))
  have hNW : New w (w1.setRow w.heap.size ws.toArray) := mrow (hN0.trans hN1) (.inl (Nat.le_refl _)) _ (fun o ho => by rw [hK] at ho; cases ho; rfl)
  have hMW : Mods (fun b => b = w.heap.size) w1 (w1.setRow w.heap.size ws.toArray) := mrow (S := fun b => b = w.heap.size) (Mods.refl _ _) (.inr rfl) _ (fun o ho => by rw [hK] at ho; cases ho; rfl)
  have hO1 := hO.kept hMW (fun g hg e => by omega)
  have hB1' := hMW.heap hB1 (by omega)
  obtain ⟨W1, hW1⟩ : ∃ W1, w1.setRow w.heap.size ws.toArray = W1 := ⟨_, rfl⟩
  rw [hW1] at Hsr hNW hO1 hB1' ⊢
  clear hW1 hMW hO hB1 hB hK hN0 hN1 hb1 hh1 hr0 Hcont hlen
  refine (HF.out ws hwl _ hO1.rd).mono ?_
  rintro e w2 ⟨rfl, hN2⟩
  have hB2 := hN2.heap Hsr id
  have hB3 := hN2.heap hB1' id
  have hO2 := hO1.new hN2
  have hNW2 := hNW.trans hN2
  have Hwl := Lib.hid hwl
  have HO2 := Lib.hid hO2
  clear Hsr hB1' hO1 hN2 hNW hwl hO2 HF HO
  unfold optT
  cases f with
  | none =>
    obtain rfl : X = X' := by rw [← HX'.out, outR, Hf.out]
    have hres := setRow_heap w2 (w.heap.size + 1) nil8.toArray ws.toArray 23 (0, 0) hB3
    have hNr : New w (w2.setRow (w.heap.size + 1) ws.toArray) := mrow hNW2 (.inl (by omega)) _ (fun o ho => by rw [hB3] at ho; cases ho; rfl)
    have hMo : Mods (fun b => b = w.heap.size + 1) w2 (w2.setRow (w.heap.size + 1) ws.toArray) := mrow (S := fun b => b = w.heap.size + 1) (Mods.refl _ _) (.inr rfl) _ (fun o ho => by rw [hB3] at ho; cases ho; rfl)
    have HO4 := Lib.hid ((HO2.out.kept hMo (fun g hg e => by omega)).base_le (show w.heap.size ≤ _ by omega))
    have HNr := Lib.hid hNr
    have Hres := Lib.hid hres
    clear hMo hNr hres
    go_wp2_with (first | (refine op_value rfl (run_load_row 23 (.tmp 2) rfl w.heap.size rfl 23 ws.toArray (0, 0) _ hB2 Try.underlying23 rfl hi2.out) ?_) | (refine op_skip rfl (run_store_row 23 (.tmp 4) (.tmp 19) rfl (w.heap.size + 1) rfl 23 nil8 ws rfl hB3 hi1.out (by rw [Hwl.out]; rfl) hone) ?_))
    exact bodyPost_ret (v := .tuple #[.agg ws.toArray, .bool false]) (results_row2 rfl _ _ (w.heap.size + 1) 23 ws.toArray (0, 0) _ rfl Hres.out Try.underlying23 rfl hi2.out rfl) rfl ⟨ws, rfl, Hwl.out, HO4.out, HNr.out⟩
  | some u' =>
    obtain ⟨hu8, hmem, _⟩ := findR_some Hf.out
    obtain ⟨k, hk, hkl, hke⟩ := idxI_mem hmem
    have hown := HO2.out.1 u' hu8
    have hlenX := HX.out u' hu8
    have HX2 := Lib.hid (show X' = fun i => if i = u' then (X u').take k ++ (X u').drop (k + 1) else X i by
      rw [← HX'.out, outR, Hf.out, hke]; funext i; dsimp only; split
      · rename_i e; rw [e]
      · rfl)
    obtain ⟨v, hv⟩ : ∃ v, ws.getD u' undef = v := ⟨_, rfl⟩
    have hcell := cell_of_row w2 w.heap.size u' ws.toArray 23 (0, 0) hB2
    have hce : w2.cell? ⟨w.heap.size, u', none⟩ = some v := by rw [hcell, ← hv]; have := Hwl.out; simp [List.getD, show u' < ws.length by omega]
    rw [hv] at hown
    have Hv := Lib.hid hv
    have HB2 := Lib.hid hB2
    have HB3 := Lib.hid hB3
    have hne : ∀ k, v.ownBlock = some k → w.heap.size + 1 < k := fun k hk => by have := hown.lt k hk; omega
    have Hne := Lib.hid hne
    have HI := Lib.hid (fun w hr => index_any v (X u') s w hr)
    rw [hk] at HI
    have Hown := Lib.hid hown
    have hk2 : (k : Int) + 1 ≤ 1000001 := by omega
    clear hcell hv hB2 hB3 hr hone hne hk hke hmem hown
    obtain ⟨ao, cap, rfl⟩ := owns_slice Hown.out
    have HIc := Lib.hid (HI.out w2 (.ofOwns Hown.out))
    clear HI
    go_wp2_with fail
    refine HIc.out.mono ?_
    rintro e w3 ⟨rfl, hN3⟩
    have hce := hN3.cell hce id
    have HO3 := Lib.hid (HO2.out.new hN3)
    have HB2 := Lib.hid (hN3.heap HB2.out id)
    have HB3 := Lib.hid (hN3.heap HB3.out id)
    have hNW3 := hNW2.trans hN3
    have HD := Lib.hid (delete_any (.slice ao (X u').length cap) (X u') k w3 (hN3.ownsRow Hown.out (fun _ _ f => f)) hkl (by omega))
    rw [show (((k + 1 : Nat)) : Int) = (k : Int) + 1 from rfl] at HD
    clear HIc hN3 Hown HO2 hNW2
    go_wp2_with fail
    refine HD.out.mono ?_
    rintro e w4 ⟨v', rfl, hown4, hbk, hM4⟩
    have hnB : ¬ (Value.slice ao (X u').length cap).ownBlock = some w.heap.size := fun e => by have := Hne.out _ e; omega
    have hnB1 : ¬ (Value.slice ao (X u').length cap).ownBlock = some (w.heap.size + 1) := fun e => by have := Hne.out _ e; omega
    have HA := HO3.out.put (B := w.heap.size) Hwl.out hu8 hown4 (by rw [Hv.out]; exact hM4) (by rw [Hv.out]; exact hbk) (by omega)
    have hBw := hM4.heap HB2.out hnB
    have hBv := hM4.heap HB3.out hnB1
    have hce2 := hM4.cell hce hnB
    have hfr2 : w4.frozen? ⟨w.heap.size, u', none⟩ = false := by simp [World.frozen?, hBw]
    have hN2 : New w w4 := ((Mods.ofNew hNW3).trans hM4).new (fun b hb => by have := Hne.out b hb; omega)
    have hN3 := hN2.setCell (p := ⟨w.heap.size, u', none⟩) (.inl (Nat.le_refl _)) v'
    have hB5 : (w4.setCell ⟨w.heap.size, u', none⟩ v').heap[w.heap.size]? = some (.cells (ws.set u' v').toArray 23 (0, 0)) := by rw [heap_setCell_same w4 w.heap.size u' ws.toArray 23 v' hBw]; simp
    have hB6 : (w4.setCell ⟨w.heap.size, u', none⟩ v').heap[w.heap.size + 1]? = some (.cells nil8.toArray 23 (0, 0)) := (heap_setCell_other w4 _ _ v' (by simp)).trans hBv
    obtain ⟨ao', cap', rfl⟩ := owns_slice hown4
    have hwl' : (ws.set u' (.slice ao' ((X u').take k ++ (X u').drop (k + 1)).length cap')).length = 8 := by rw [List.length_set]; exact Hwl.out
    have hone' := HA.one hwl'
    obtain ⟨n', hn'⟩ : ∃ n', ((X u').take k ++ (X u').drop (k + 1)).length = n' := ⟨_, rfl⟩
    rw [hn'] at hwl' hone' HA hB5 hB6 hN3 ⊢
    clear hn' hown4 hbk
    obtain ⟨ws', hws'⟩ : ∃ l, ws.set u' (.slice ao' n' cap') = l := ⟨_, rfl⟩
    rw [hws'] at HA hB5 hwl' hone'
    have hi3 : Hid ((Try.prog.info? 23).map (·.size) = some ws'.length) := Lib.hid (by rw [hwl']; exact info23)
    have hi4 : Hid ((Try.prog.info? 23).map (·.size) = some ws'.toArray.size) := Lib.hid (by rw [List.size_toArray, hwl']; exact info23)
    have hl4 : Hid (ws'.length = nil8.length) := Lib.hid (by rw [hwl']; rfl)
    have hres := setRow_heap _ (w.heap.size + 1) nil8.toArray ws'.toArray 23 (0, 0) hB6
    have hNr := mrow hN3 (.inl (show w.heap.size ≤ w.heap.size + 1 by omega)) ws'.toArray (fun o ho => by rw [hB6] at ho; cases ho; rfl)
    have hMo := mrow (S := fun b => b = w.heap.size + 1) (Mods.refl _ _) (.inr rfl) ws'.toArray (fun o ho => by rw [hB6] at ho; cases ho; rfl)
    have HO4 := Lib.hid ((HA.kept hMo (fun g hg e => by omega)).base_le (show w.heap.size ≤ _ by omega))
    have HNr := Lib.hid hNr
    have Hres := Lib.hid hres
    have Hwl' := Lib.hid hwl'
    clear hMo hNr hres HA hws' hwl' hBw hBv hN2 hN3 hM4 hce HO3
    go_wp2_with (first | (refine op_value rfl (run_load_row 23 (.tmp 2) rfl w.heap.size rfl 23 ws'.toArray (0, 0) _ hB5 Try.underlying23 rfl hi4.out) ?_) | (refine op_skip rfl (run_store_row 23 (.tmp 4) (.tmp 34) rfl (w.heap.size + 1) rfl 23 nil8 ws' rfl hB6 hi3.out hl4.out hone') ?_))
    refine bodyPost_ret (v := .tuple #[.agg ws'.toArray, .bool true]) (results_row2 rfl _ _ (w.heap.size + 1) 23 ws'.toArray (0, 0) _ rfl Hres.out Try.underlying23 rfl hi4.out rfl) rfl ⟨ws', rfl, Hwl'.out, ?_, HNr.out⟩
    rw [HX2.out]
    exact HO4.out
end Go.Proofs.Ytcelhdlppimfbaa
