/- A slot is pushed. -/
import Derived.Test.YtcelhdlppimfbaaR6
import Derived.Deep.CutRange
import Derived.Deep.CutBlock
import Derived.Deep.DeepCutAuto
import Derived.Maps.AppendAt
namespace Go.Proofs.Ytcelhdlppimfbaa
open Go.RowKit Go.Shelf Go.Cs
attribute [local go_sem] Oper.semAt_some
theorem results_row2 {P : Program} {fn : Func} {p q : Tmp} {ty : TypeId} (h : fn.results = #[.cell p ty, .tmp q]) (tmps : Array Value) (w : World) (g : Nat) (t : TypeId) (cs : Array Value) (fr : Nat × Nat) (d : TypeDesc)
    (hp : tmps.getD p undef = .pointer (some ⟨g, 0, none⟩)) (hg : w.heap[g]? = some (.cells cs t fr))
    (hu : P.underlying ty = some d) (hd : (match d with | .struct _ | .array _ _ => true | _ => false) = true) (hi : (P.info? ty).map (·.size) = some cs.size) {v : Value} (hq : tmps.getD q undef = v) :
    (results fn tmps).run P w = .ok (.tuple #[.agg cs, v]) w := by
  subst hq
  have hp' : tmps[p]?.getD undef = .pointer (some ⟨g, 0, none⟩) := by simpa using hp
  simp [results, h, hp', asAddr, run_loadVar_row w g t ty cs fr d hg hu hd hi]
theorem op_value_g {P : Program} {ops : Array Oper} {Q : Exit → Act → World → Prop} {rest : List Oper} {o : Oper} {a : Act} {w w' : World} {v : Value} (hg : Region.wanted o (yielded ops a.tmps) = true) (hr : (execOp a.eval o).run P w = .ok (.value v) w') (h : wpList P ops Q rest (a.put o.dst v) w') : wpList P ops Q (o :: rest) a w :=
  wpList_step fun K hK => by
    simp only [hg, if_true]
    unfold Oper.wp; rw [hr]; exact hK _ _ h
/-- A number appended to one of the rows. -/
theorem OwnTo.app {base u B : Nat} {ws : List Value} {X : Nat → List Int} {W W2 : World} {o : Obj} {v' : Value} {s : Int} (h : OwnTo base ws X 8 W) (hl : ws.length = 8) (hu : u < 8)
    (hown : W2.ownsRow base 3 1 v' ((X u).length + 1) ((X u).map (Value.int .i64) ++ [.int .i64 s])) (hg : (W.alloc o).grownBy W2 (ws.getD u undef).ownBlock)
    (hb : v'.ownBlock = (ws.getD u undef).ownBlock ∨ v'.ownBlock = some (W.alloc o).heap.size) (hB : B < base) :
    OwnTo base (ws.set u v') (fun i => if (i : Int) = (u : Int) then X i ++ [s] else X i) 8 (W2.setCell ⟨B, u, none⟩ v') := by
  have hM : Mods (fun b => b = B) W2 (W2.setCell ⟨B, u, none⟩ v') := mset (Mods.refl _ _) v'
  have e1 : (ws.set u v').getD u undef = v' := by simp [List.getD, show u < ws.length by omega]
  have e2 : ∀ i, i ≠ u → (ws.set u v').getD i undef = ws.getD i undef := fun i hi => by simp [List.getD, Ne.symm hi]
  have hnew : ∀ i g, i < 8 → i ≠ u → (ws.getD i undef).ownBlock = some g → v'.ownBlock = some g → False := fun i g hi hne h1 h2 => by
    rcases hb with hb | hb
    · exact hne (h.2 i u g hi hu h1 (by rw [← hb]; exact h2))
    · rw [hb] at h2
      simp only [Option.some.injEq, World.size_alloc] at h2
      have := (h.1 i hi).lt g h1
      omega
  refine ⟨fun i hi => ?_, fun i j g hi hj hgi hgj => ?_⟩
  · dsimp only
    by_cases e : i = u
    · subst e
      rw [e1, if_pos rfl, List.length_append, List.map_append]
      exact hM.ownsRow hown (fun g hg e => by have := hown.lt g hg; omega)
    · rw [e2 i e, if_neg (by omega)]
      have h1 := ((h.1 i hi).alloc o).kept hg (by
        cases hx : (ws.getD i undef).ownBlock with
        | none => exact .inl rfl
        | some g =>
          refine .inr fun e' => ?_
          exact e (h.2 i u g hi hu hx e'.symm))
      exact hM.ownsRow h1 (fun g hg e => by have := h1.lt g hg; omega)
  · by_cases ei : i = u <;> by_cases ej : j = u
    · omega
    · subst ei
      rw [e1] at hgi
      rw [e2 j ej] at hgj
      exact (hnew j g hj ej hgj hgi).elim
    · subst ej
      rw [e1] at hgj
      rw [e2 i ei] at hgi
      exact (hnew i g hi ei hgi hgj).elim
    · rw [e2 i ei] at hgi
      rw [e2 j ej] at hgj
      exact h.2 i j g hi hj hgi hgj
/-- What is answered: rows in memory of their own, and whether it went. -/
def RetR (w : World) (X : Nat → List Int) (ok : Bool) (e : Ending) (w' : World) : Prop := ∃ ws : List Value, e = .returned (.tuple #[.agg ws.toArray, .bool ok]) ∧ ws.length = 8 ∧ OwnTo w.heap.size ws X 8 w' ∧ New w w'
theorem last_yes {f r a b : Bool} (h : true = !(((f || r) || a) || !b)) : b = true := by cases b <;> simp_all
def pushOk (X : Nat → List Int) (s u : Int) : Bool := !(((findR X s).isSome || !rightR X) || !eightB s || !eightB u)
def pushR (X : Nat → List Int) (s u : Int) : Nat → List Int := if pushOk X s u then fun i : Nat => if (i : Int) = u then X i ++ [s] else X i else X
set_option maxRecDepth 100000 in
set_option maxHeartbeats 2000000 in
theorem push_any (vs : List Value) (hl : vs.length = 8) (X : Nat → List Int) (s u : Int) (w : World) (hr : Rd w vs X) (hx : In64 X) (hX : ∀ u, u < 8 → (X u).length ≤ 1000000)
    (s1 : -9223372036854775808 ≤ s) (s2 : s ≤ 9223372036854775807) (u1 : -9223372036854775808 ≤ u) (u2 : u ≤ 9223372036854775807) :
    Calls Try.prog 8 #[.agg vs.toArray, .int .i64 s, .int .i64 u] w (RetR w (pushR X s u) (pushOk X s u)) := by
  have HO := Lib.hid (fun w hr => own_any vs hl X w hr (fun u hu => by have := hX u hu; omega))
  have HF := Lib.hid (fun ws (hl : List.length ws = 8) w hr => find_any ws hl X s w hr hx)
  have HR := Lib.hid (fun ws (hl : List.length ws = 8) w hr => right_any ws hl X w hr hx)
  have HE := Lib.hid (eight_any s s1 s2)
  have HU := Lib.hid (eight_any u u1 u2)
  obtain ⟨f, hf⟩ : ∃ f, findR X s = f := ⟨_, rfl⟩
  obtain ⟨r, hrr⟩ : ∃ r, rightR X = r := ⟨_, rfl⟩
  obtain ⟨a, ha⟩ : ∃ a, eightB s = a := ⟨_, rfl⟩
  obtain ⟨b, hb⟩ : ∃ b, eightB u = b := ⟨_, rfl⟩
  obtain ⟨ok, hokk⟩ : ∃ ok, pushOk X s u = ok := ⟨_, rfl⟩
  have Hok := Lib.hid (show ok = !((f.isSome || !r) || !a || !b) by rw [← hokk, pushOk, hf, hrr, ha, hb])
  have HX' := Lib.hid (show pushR X s u = if ok then fun i : Nat => if (i : Int) = u then X i ++ [s] else X i else X by rw [pushR, hokk])
  rw [hokk]
  obtain ⟨X', hX'⟩ : ∃ X', pushR X s u = X' := ⟨_, rfl⟩
  rw [hX'] at HX' ⊢
  clear hokk hX'
  rw [hf] at HF
  rw [hrr] at HR
  rw [ha] at HE
  rw [hb] at HU
  have Hb := Lib.hid hb
  have Hi := Lib.hid (show (Try.prog.info? 23).map (·.size) = some vs.toArray.size by rw [List.size_toArray, hl]; exact info23)
  have Hl := Lib.hid hl
  have HX := Lib.hid hX
  clear hl hX hx hf hrr ha hb
  obtain ⟨i0, hi, hz0, hz1, hz2⟩ := info_parts info3
  have hh0 : ((w.alloc (.cells vs.toArray 23)).alloc (.cells nil8.toArray 23)).heap[w.heap.size]? = some (.cells vs.toArray 23 (0, 0)) := ((Mods.refl (fun _ => False) _).alloc _).heap (World.alloc_heap_new w _) id
  go_enter Try.func8, Try.ntmps8
  go_wp2_with (refine op_value rfl (run_load_row 23 (.tmp 3) rfl w.heap.size rfl 23 vs.toArray (0, 0) _ hh0 Try.underlying23 rfl Hi.out) ?_)
  obtain ⟨W0, hW0⟩ : ∃ W0, (w.alloc (.cells vs.toArray 23)).alloc (.cells nil8.toArray 23) = W0 := ⟨_, rfl⟩
  have hN0 : New w W0 := by rw [← hW0]; exact ((Mods.refl _ _).alloc _).alloc _
  have hsz : w.heap.size + 2 ≤ W0.heap.size ∧ W0.heap.size ≤ w.heap.size + 2 := by rw [← hW0]; simp
  have hb1 : W0.heap[w.heap.size + 1]? = some (.cells nil8.toArray 23 (0, 0)) := by rw [← hW0]; have := World.alloc_heap_new (w.alloc (.cells vs.toArray 23)) (.cells nil8.toArray 23); rwa [World.size_alloc] at this
  have hh1 : W0.heap[w.heap.size]? = some (.cells vs.toArray 23 (0, 0)) := by rw [← hW0]; exact hh0
  unfold nil8 at hW0
  rw [hW0]
  have hr0 := hr.new hN0
  clear hW0 hh0
  refine (HO.out _ hr0).mono ?_
  rintro e w1 ⟨ws, rfl, hwl, hO, hN1⟩
  have hB := hN1.heap hh1 id
  have hB1 := hN1.heap hb1 id
  have hone := hO.one hwl
  have hi1 : Hid ((Try.prog.info? 23).map (·.size) = some ws.length) := Lib.hid (by rw [hwl]; exact info23)
  have hi2 : Hid ((Try.prog.info? 23).map (·.size) = some ws.toArray.size) := Lib.hid (by rw [List.size_toArray, hwl]; exact info23)
  have hlen : Hid (ws.length = vs.length) := Lib.hid (by rw [hwl, Hl.out])
  have hK : w1.heap[w.heap.size]? = some (.cells vs.toArray 23 (0, 0)) := hB
  have Hsr := setRow_heap w1 w.heap.size vs.toArray ws.toArray 23 (0, 0) hK
  have Hcont := Lib.hid (show True from trivial)
  go_wp2_with (first | (refine op_skip rfl (run_store_row 23 (.tmp 3) (.tmp 11) rfl w.heap.size rfl 23 vs ws rfl hK hi1.out hlen.out hone) ?_) | (refine op_value rfl (run_load_row 23 (.tmp 3) rfl w.heap.size rfl 23 ws.toArray (0, 0) _ Hsr Try.underlying23 rfl hi2.out) ?_))
  have hNW : New w (w1.setRow w.heap.size ws.toArray) := mrow (hN0.trans hN1) (.inl (Nat.le_refl _)) _ (fun o ho => by rw [hK] at ho; cases ho; rfl)
  have hMW : Mods (fun b => b = w.heap.size) w1 (w1.setRow w.heap.size ws.toArray) := mrow (S := fun b => b = w.heap.size) (Mods.refl _ _) (.inr rfl) _ (fun o ho => by rw [hK] at ho; cases ho; rfl)
  have hO1 := hO.kept hMW (fun g hg e => by omega)
  have hB1' := hMW.heap hB1 (by omega)
  obtain ⟨W1, hW1⟩ : ∃ W1, w1.setRow w.heap.size ws.toArray = W1 := ⟨_, rfl⟩
  rw [hW1] at Hsr hNW hO1 hB1' ⊢
  clear hW1 hMW hO hB1 hB hK hN0 hN1 hb1 hh1 hr0 Hcont hlen
  refine (HF.out ws hwl _ hO1.rd).mono ?_
  rintro e w2 ⟨rfl, hN2⟩
  have hB2 := hN2.heap Hsr id
  have hB3 := hN2.heap hB1' id
  have hO2 := hO1.new hN2
  have hNW2 := hNW.trans hN2
  have Hwl := Lib.hid hwl
  have HO2 := Lib.hid hO2
  clear Hsr hB1' hO1 hN2 hNW hwl hO2 HF HO
  unfold optT
  go_upto_region 3 with fail
  go_cut [33] from 18 to 33 (fun t wx => t = .bool (!ok) ∧ New w2 wx)
  case first =>
    cases f with
    | some k =>
      obtain rfl : ok = false := by rw [Hok.out]; simp
      clear Hok
      go_wp2_with fail
      go_meet
      exact ⟨rfl, Mods.refl _ _⟩
    | none =>
      go_wp2_with (refine op_value_g rfl (run_load_row 23 (.tmp 3) rfl w.heap.size rfl 23 ws.toArray (0, 0) _ hB2 Try.underlying23 rfl hi2.out) ?_)
      refine (HR.out ws Hwl.out _ HO2.out.rd).mono ?_
      rintro e w3 ⟨rfl, hN3⟩
      cases r with
      | false =>
        obtain rfl : ok = false := by rw [Hok.out]; simp
        clear Hok
        go_wp2_with fail
        go_meet
        exact ⟨rfl, hN3⟩
      | true =>
        go_wp2_with fail
        refine (HE.out _).mono ?_
        rintro e w4 ⟨rfl, rfl⟩
        cases a with
        | false =>
          obtain rfl : ok = false := by rw [Hok.out]; simp
          clear Hok
          go_wp2_with fail
          go_meet
          exact ⟨rfl, hN3⟩
        | true =>
          go_wp2_with fail
          refine (HU.out _).mono ?_
          rintro e w5 ⟨rfl, rfl⟩
          obtain rfl : ok = b := by rw [Hok.out]; cases b <;> rfl
          clear Hok
          cases ok
          all_goals
            go_wp2_with fail
            go_meet
            exact ⟨rfl, hN3⟩
  case rest =>
    obtain ⟨rfl, hNc⟩ := hcut
    have hB2 := hNc.heap hB2 id
    have hB3 := hNc.heap hB3 id
    have HO3 := Lib.hid (HO2.out.new hNc)
    have hNW3 := hNW2.trans hNc
    clear HO2 hNW2 hNc HR HE HU
    cases ok with
    | false =>
      obtain rfl : X' = X := HX'.out
      have hres := setRow_heap wc (w.heap.size + 1) nil8.toArray ws.toArray 23 (0, 0) hB3
      have hNr : New w (wc.setRow (w.heap.size + 1) ws.toArray) := mrow hNW3 (.inl (by omega)) _ (fun o ho => by rw [hB3] at ho; cases ho; rfl)
      have hMo : Mods (fun b => b = w.heap.size + 1) wc (wc.setRow (w.heap.size + 1) ws.toArray) := mrow (S := fun b => b = w.heap.size + 1) (Mods.refl _ _) (.inr rfl) _ (fun o ho => by rw [hB3] at ho; cases ho; rfl)
      have HO4 := Lib.hid ((HO3.out.kept hMo (fun g hg e => by omega)).base_le (show w.heap.size ≤ _ by omega))
      have HNr := Lib.hid hNr
      have Hres := Lib.hid hres
      clear hMo hNr hres
      go_wp2_with (first | (refine op_value rfl (run_load_row 23 (.tmp 3) rfl w.heap.size rfl 23 ws.toArray (0, 0) _ hB2 Try.underlying23 rfl hi2.out) ?_) | (refine op_skip rfl (run_store_row 23 (.tmp 6) (.tmp 34) rfl (w.heap.size + 1) rfl 23 nil8 ws rfl hB3 hi1.out (by rw [Hwl.out]; rfl) hone) ?_))
      exact bodyPost_ret (v := .tuple #[.agg ws.toArray, .bool false]) (results_row2 rfl _ _ (w.heap.size + 1) 23 ws.toArray (0, 0) _ rfl Hres.out Try.underlying23 rfl hi2.out rfl) rfl ⟨ws, rfl, Hwl.out, HO4.out, HNr.out⟩
    | true =>
      obtain rfl : b = true := last_yes Hok.out
      have h8 := of_decide_eq_true Hb.out
      obtain ⟨u', rfl⟩ := Int.eq_ofNat_of_zero_le h8.1
      have hu8 : u' < 8 := by omega
      have hown := HO3.out.1 u' hu8
      have hlenX := HX.out u' hu8
      obtain ⟨v, hv⟩ : ∃ v, ws.getD u' undef = v := ⟨_, rfl⟩
      have hcell := cell_of_row wc w.heap.size u' ws.toArray 23 (0, 0) hB2
      have hce : wc.cell? ⟨w.heap.size, u', none⟩ = some v := by rw [hcell, ← hv]; have := Hwl.out; simp [List.getD, show u' < ws.length by omega]
      rw [hv] at hown
      have Hv := Lib.hid hv
      have HB2 := Lib.hid hB2
      have HB3 := Lib.hid hB3
      have hszc : W0.heap.size ≤ wc.heap.size := by have := (Array.getElem?_eq_some_iff.1 hB3).1; omega
      have hne : ∀ k, v.ownBlock = some k → w.heap.size + 1 < k := fun k hk => by have := hown.lt k hk; omega
      have Hne := Lib.hid hne
      clear hcell hv hB2 hB3 Hok hr hone hne
      go_wp2_with (at_builtin; refine wpList_append_own_at _ rfl _ _ 22 rfl W0.heap.size 3 i0 _ 1 8 Try.underlying22 hi hz0 hz1 hz2 rfl (by decide) _ _ _ rfl (hown.alloc _) ⟨wc.heap.size, 0, none⟩ 1 1 [.int .i64 s] rfl rfl ?c1 ?c2 ?c3 ?c4 ?c5 ?_)
      case c2 => simp [Value.oneCell']
      case c3 => unfold maxLen; omega
      case c4 => omega
      case c5 => omega
      intro v' W2 hown2 hgrow _ hblk
      have HA := HO3.out.app (B := w.heap.size) Hwl.out hu8 hown2 (by rw [Hv.out]; exact hgrow) (by rw [Hv.out, World.size_alloc]; exact hblk) (by omega)
      have hlt : w.heap.size + 1 < wc.heap.size := by omega
      have hBw : W2.heap[w.heap.size]? = some (.cells ws.toArray 23 (0, 0)) := (hgrow.block _ (by simp; omega) (fun e => by have := Hne.out _ e.symm; omega)).trans ((Below.heap_alloc _ _ _ (by omega)).trans HB2.out)
      have hBv : W2.heap[w.heap.size + 1]? = some (.cells nil8.toArray 23 (0, 0)) := (hgrow.block _ (by simp; omega) (fun e => by have := Hne.out _ e.symm; omega)).trans ((Below.heap_alloc _ _ _ (by omega)).trans HB3.out)
      have hcell := cell_of_row W2 w.heap.size u' ws.toArray 23 (0, 0) hBw
      have hce2 : W2.cell? ⟨w.heap.size, u', none⟩ = some v := by rw [hcell, ← Hv.out]; have := Hwl.out; simp [List.getD, show u' < ws.length by omega]
      have hfr2 : W2.frozen? ⟨w.heap.size, u', none⟩ = false := by simp [World.frozen?, hBw]
      have hN2 : New w W2 := (hNW3.alloc _).grown hgrow (fun k hk => .inl (by have := Hne.out k hk; omega))
      have hN3 := hN2.setCell (p := ⟨w.heap.size, u', none⟩) (.inl (Nat.le_refl _)) v'
      have hB5 : (W2.setCell ⟨w.heap.size, u', none⟩ v').heap[w.heap.size]? = some (.cells (ws.set u' v').toArray 23 (0, 0)) := by rw [heap_setCell_same W2 w.heap.size u' ws.toArray 23 v' hBw]; simp
      have hB6 : (W2.setCell ⟨w.heap.size, u', none⟩ v').heap[w.heap.size + 1]? = some (.cells nil8.toArray 23 (0, 0)) := (heap_setCell_other W2 _ _ v' (by simp)).trans hBv
      obtain ⟨ao', cap', rfl⟩ := owns_slice hown2
      have hwl' : (ws.set u' (.slice ao' ((X u').length + 1) cap')).length = 8 := by rw [List.length_set]; exact Hwl.out
      have hone' := HA.one hwl'
      obtain ⟨ws', hws'⟩ : ∃ l, ws.set u' (.slice ao' ((X u').length + 1) cap') = l := ⟨_, rfl⟩
      rw [hws'] at HA hB5 hwl' hone'
      have hi3 : Hid ((Try.prog.info? 23).map (·.size) = some ws'.length) := Lib.hid (by rw [hwl']; exact info23)
      have hi4 : Hid ((Try.prog.info? 23).map (·.size) = some ws'.toArray.size) := Lib.hid (by rw [List.size_toArray, hwl']; exact info23)
      have hl4 : Hid (ws'.length = nil8.length) := Lib.hid (by rw [hwl']; rfl)
      have hres := setRow_heap _ (w.heap.size + 1) nil8.toArray ws'.toArray 23 (0, 0) hB6
      have hNr := mrow hN3 (.inl (show w.heap.size ≤ w.heap.size + 1 by omega)) ws'.toArray (fun o ho => by rw [hB6] at ho; cases ho; rfl)
      have hMo := mrow (S := fun b => b = w.heap.size + 1) (Mods.refl _ _) (.inr rfl) ws'.toArray (fun o ho => by rw [hB6] at ho; cases ho; rfl)
      have HO4 := Lib.hid ((HA.kept hMo (fun g hg e => by omega)).base_le (show w.heap.size ≤ _ by omega))
      have HNr := Lib.hid hNr
      have Hres := Lib.hid hres
      have Hwl' := Lib.hid hwl'
      clear hMo hNr hres HA hws' hwl' hBw hBv hcell hN2 hN3 hown2 hgrow hblk hown hce HO3
      go_wp2_with (first | (refine op_value rfl (run_load_row 23 (.tmp 3) rfl w.heap.size rfl 23 ws'.toArray (0, 0) _ hB5 Try.underlying23 rfl hi4.out) ?_) | (refine op_skip rfl (run_store_row 23 (.tmp 6) (.tmp 43) rfl (w.heap.size + 1) rfl 23 nil8 ws' rfl hB6 hi3.out hl4.out hone') ?_))
      refine bodyPost_ret (v := .tuple #[.agg ws'.toArray, .bool true]) (results_row2 rfl _ _ (w.heap.size + 1) 23 ws'.toArray (0, 0) _ rfl Hres.out Try.underlying23 rfl hi4.out rfl) rfl ⟨ws', rfl, Hwl'.out, ?_, HNr.out⟩
      rw [HX'.out]
      exact HO4.out
end Go.Proofs.Ytcelhdlppimfbaa
