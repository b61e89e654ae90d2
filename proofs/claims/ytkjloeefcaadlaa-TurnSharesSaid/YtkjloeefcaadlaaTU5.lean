/- Nobody is ready; one is pushed, taken out. -/
import Derived.Test.YtkjloeefcaadlaaTU4
namespace Go.Proofs.Ytkjloeefcaadlaa
open Go.RowKit Go.Shelf Go.Cs
attribute [local go_sem] Oper.semAt_some
theorem hc_upd (h : Nat → Int) (u : Nat) (hu : u < 8) (v : Int) : (hc h).set u (.int .i64 v) = hc (upd h u v) := by
  apply List.ext_getElem?
  intro i
  by_cases hi : i < 8
  · rw [List.getElem?_set, hc_at (upd h u v) i hi, hc_at h i hi]
    unfold upd
    split
    · rename_i e; subst e; rw [if_pos (show u < (hc h).length from hu), if_pos rfl]
    · rename_i e; rw [if_neg (Ne.symm e)]
  · rw [List.getElem?_eq_none (by simp [hc]; omega), List.getElem?_eq_none (by simp [hc]; omega)]
theorem RAt.word {W : World} {B x : Nat} {h : Nat → Int} (hB : RAt W B x h) (y : Nat) : RAt (W.setCell ⟨B, 0, none⟩ (.int .u64 (y : Nat))) B y h := by
  unfold RAt
  rw [heap_setCell_same W B 0 _ 51 _ hB]
  rfl
theorem RAt.hold {W : World} {B x : Nat} {h : Nat → Int} (hB : RAt W B x h) {u : Nat} (hu : u < 8) (v : Int) : RAt (W.setCell ⟨B, 1 + u, none⟩ (.int .i64 v)) B x (upd h u v) := by
  unfold RAt
  rw [heap_setCell_same W B (1 + u) _ 51 _ hB, List.setIfInBounds_toArray, rc, Nat.add_comm, List.set_cons_succ, hc_upd h u hu]
  rfl
theorem RAt.row {W : World} {B x : Nat} {h : Nat → Int} (hB : RAt W B x h) (y : Nat) (k : Nat → Int) : RAt (W.setRow B (rc y k).toArray) B y k := setRow_heap W B _ _ 51 (0, 0) hB
theorem RAt.frozen {W : World} {B x : Nat} {h : Nat → Int} (hB : RAt W B x h) (u : Nat) : W.frozen? ⟨B, u, none⟩ = false := by
  unfold World.frozen?
  rw [hB]
  rfl
theorem RAt.otherRow {W : World} {B C x : Nat} {h : Nat → Int} (hB : RAt W B x h) (hne : B ≠ C) (cs : Array Value) : RAt (W.setRow C cs) B x h := by
  unfold RAt at hB ⊢
  rw [← hB]
  simp [World.setRow, Array.getElem?_modify, Ne.symm hne]
theorem RAt.other {W : World} {B C o x : Nat} {h : Nat → Int} (hB : RAt W B x h) (hne : B ≠ C) (v : Value) : RAt (W.setCell ⟨C, o, none⟩ v) B x h :=
  (Below.heap_setCell W ⟨C, o, none⟩ v B hne).trans hB
theorem _root_.Go.Cs.Mods.setRow {S : Nat → Prop} {a w : World} (h : Mods S a w) {B : Nat} (hp : a.heap.size ≤ B) (cs : Array Value) : Mods S a (w.setRow B cs) :=
  ⟨h.os, h.tape, h.output, by have := h.size; simpa [World.setRow] using this, fun k o hk ho => by
    have hw := h.block k o hk ho
    have := (Array.getElem?_eq_some_iff.1 hk).1
    rw [← hw]
    simp [World.setRow, Array.getElem?_modify, show ¬ B = k by omega]⟩
/-- A guarded operation that is wanted. -/
theorem op_value_g {ops : Array Oper} {Q : Exit → Act → World → Prop} {rest : List Oper} {o : Oper} {a : Act} {w w' : World} {v : Value} (hw : Region.wanted o (yielded ops a.tmps) = true) (hr : (execOp a.eval o).run Try.prog w = .ok (.value v) w') (h : wpList Try.prog ops Q rest (a.put o.dst v) w') : wpList Try.prog ops Q (o :: rest) a w :=
  wpList_step fun K hK => by rw [if_pos hw]; unfold Oper.wp; rw [hr]; exact hK _ _ h
theorem rc_one (x : Nat) (h : Nat → Int) : ∀ v ∈ rc x h, v.oneCell' = true := by
  intro v hv
  simp only [rc, hc, List.mem_cons, List.not_mem_nil, or_false] at hv
  rcases hv with rfl | rfl | rfl | rfl | rfl | rfl | rfl | rfl | rfl <;> rfl
theorem results_row2 {P : Program} {fn : Func} {p q : Tmp} {ty : TypeId} (h : fn.results = #[.cell p ty, .tmp q]) (tmps : Array Value) (w : World) (g : Nat) (t : TypeId) (cs : Array Value) (fr : Nat × Nat) (d : TypeDesc)
    (hp : tmps.getD p undef = .pointer (some ⟨g, 0, none⟩)) (hg : w.heap[g]? = some (.cells cs t fr))
    (hu : P.underlying ty = some d) (hd : (match d with | .struct _ | .array _ _ => true | _ => false) = true) (hi : (P.info? ty).map (·.size) = some cs.size) {v : Value} (hq : tmps.getD q undef = v) :
    (results fn tmps).run P w = .ok (.tuple #[.agg cs, v]) w := by
  subst hq
  have hp' : tmps[p]?.getD undef = .pointer (some ⟨g, 0, none⟩) := by simpa using hp
  simp [results, h, hp', asAddr, run_loadVar_row w g t ty cs fr d hg hu hd hi]
theorem infoR (x : Nat) (h : Nat → Int) : (Try.prog.info? 51).map (·.size) = some (rc x h).toArray.size := info51
theorem infoL (x : Nat) (h : Nat → Int) : (Try.prog.info? 51).map (·.size) = some (rc x h).length := info51
/-- No one, at all. -/
def zeroH : Nat → Int := fun _ => 0
/-- What a call leaves: who is ready, and whether it went. -/
def RetRT (w : World) (v : RS × Bool) (e : Ending) (w' : World) : Prop := e = .returned (.tuple #[.agg (rc v.1.x v.1.h).toArray, .bool v.2]) ∧ New w w'
set_option maxRecDepth 100000 in
set_option maxHeartbeats 1000000 in
theorem push_t (x : Nat) (h : Nat → Int) (s u : Int) (hx : x < 18446744073709551616) (hh : In8 h) (hs1 : -9223372036854775808 ≤ s) (hs2 : s ≤ 9223372036854775807) (hu1 : -9223372036854775808 ≤ u) (hu2 : u ≤ 9223372036854775807) (w : World) :
    Calls Try.prog 44 #[.agg (rc x h).toArray, .int .i64 s, .int .i64 u] w (RetRT w (⟨(pushT x h s u).1, h⟩, (pushT x h s u).2)) := by
  have HP := Lib.hid (push_any x s u hx hs1 hs2 hu1 hu2)
  have HO := Lib.hid (of_t x h s hx hh)
  have HR := Lib.hid (right_t x h hx hh)
  obtain ⟨q, hq⟩ : ∃ q, pushF x s u = q := ⟨_, rfl⟩
  obtain ⟨y, ok⟩ := q
  obtain ⟨o, ho⟩ : ∃ o, ofT x h s = o := ⟨_, rfl⟩
  obtain ⟨b, hb⟩ : ∃ b, rightT x h = b := ⟨_, rfl⟩
  have hp : pushT x h s u = if o.isNone && (ok && b) then (y, true) else (x, false) := by unfold pushT; rw [hq, ho, hb]
  obtain ⟨r, hr⟩ : ∃ r, pushT x h s u = r := ⟨_, rfl⟩
  rw [hr] at hp ⊢
  obtain ⟨z, zb⟩ := r
  rw [hq] at HP
  rw [ho] at HO
  rw [hb] at HR
  have Hp := Lib.hid hp
  have Hi := Lib.hid (infoR x h)
  have Hl := Lib.hid (infoL x h)
  have Ho := Lib.hid (rc_one x h)
  unfold pair at HP
  clear hp hr hq ho hb hh
  have hR0 : RAt ((w.alloc (.cells (rc x h).toArray 51)).alloc (.cells #[.int .u64 0, .int .i64 0, .int .i64 0, .int .i64 0, .int .i64 0, .int .i64 0, .int .i64 0, .int .i64 0, .int .i64 0] 51)) w.heap.size x h := ((Mods.refl (fun _ => False) _).alloc _).heap (World.alloc_heap_new w _) id
  have hQ0 : RAt ((w.alloc (.cells (rc x h).toArray 51)).alloc (.cells #[.int .u64 0, .int .i64 0, .int .i64 0, .int .i64 0, .int .i64 0, .int .i64 0, .int .i64 0, .int .i64 0, .int .i64 0] 51)) (w.heap.size + 1) 0 zeroH := by
    have := World.alloc_heap_new (w.alloc (.cells (rc x h).toArray 51)) (.cells #[.int .u64 0, .int .i64 0, .int .i64 0, .int .i64 0, .int .i64 0, .int .i64 0, .int .i64 0, .int .i64 0, .int .i64 0] 51)
    rw [World.size_alloc] at this
    exact this
  have c0 := hR0.cell
  go_enter Try.func44, Try.ntmps44
  go_wp2_with fail
  obtain ⟨W0, hW0⟩ : ∃ W0, (w.alloc (.cells (rc x h).toArray 51)).alloc (.cells #[.int .u64 0, .int .i64 0, .int .i64 0, .int .i64 0, .int .i64 0, .int .i64 0, .int .i64 0, .int .i64 0, .int .i64 0] 51) = W0 := ⟨_, rfl⟩
  have hN0 : New w W0 := by rw [← hW0]; exact ((Mods.refl _ _).alloc _).alloc _
  rw [hW0] at hR0 hQ0 ⊢
  clear hW0 c0
  refine (HP.out _).mono ?_
  rintro e w1 ⟨rfl, hN1⟩
  have hR1 := hR0.mods hN1 id
  have hQ1 := hQ0.mods hN1 id
  have hN1 := hN0.trans hN1
  clear hR0 hQ0 hN0
  go_wp2_with (refine op_value rfl (run_load_row 51 (.tmp 3) rfl w.heap.size rfl 51 (rc x h).toArray (0, 0) _ hR1 Try.underlying51 rfl Hi.out) ?_)
  refine (HO.out _).mono ?_
  rintro e w2 ⟨rfl, hN2⟩
  have hR2 := hR1.mods hN2 id
  have hQ2 := hQ1.mods hN2 id
  have hN2 := hN1.trans hN2
  have hsz : w.heap.size ≤ w.heap.size + 1 := by omega
  clear hR1 hQ1 hN1
  unfold pairO
  cases o with
  | some p =>
    simp only [Option.map_some, Option.getD_some, Option.isSome_some]
    obtain ⟨rfl, rfl⟩ : z = x ∧ zb = false := by have := Hp.out; simpa using this
    go_wp2_with (first | (with_reducible refine ⟨fun f hf => (by cases hf), ?_⟩) | (refine op_value rfl (run_load_row 51 (.tmp 3) rfl w.heap.size rfl 51 (rc z h).toArray (0, 0) _ hR2 Try.underlying51 rfl Hi.out) ?_) | (refine op_skip rfl (run_store_row 51 (.tmp 6) (.tmp 36) rfl (w.heap.size + 1) rfl 51 (rc 0 zeroH) (rc z h) rfl hQ2 Hl.out rfl Ho.out) ?_))
    exact bodyPost_ret (v := .tuple #[.agg (rc z h).toArray, .bool false]) (results_row2 (fn := Try.f44) (p := 6) (q := 7) (v := .bool false) rfl _ _ (w.heap.size + 1) 51 (rc z h).toArray (0, 0) _ rfl (hQ2.row z h) Try.underlying51 rfl Hi.out rfl) rfl ⟨rfl, hN2.setRow hsz _⟩
  | none =>
    simp only [Option.map_none, Option.getD_none, Option.isSome_none]
    cases ok with
    | false =>
      obtain ⟨rfl, rfl⟩ : z = x ∧ zb = false := by have := Hp.out; simpa using this
      go_wp2_with (first | (with_reducible refine ⟨fun f hf => (by cases hf), ?_⟩) | (refine op_value rfl (run_load_row 51 (.tmp 3) rfl w.heap.size rfl 51 (rc z h).toArray (0, 0) _ hR2 Try.underlying51 rfl Hi.out) ?_) | (refine op_skip rfl (run_store_row 51 (.tmp 6) (.tmp 36) rfl (w.heap.size + 1) rfl 51 (rc 0 zeroH) (rc z h) rfl hQ2 Hl.out rfl Ho.out) ?_))
      exact bodyPost_ret (v := .tuple #[.agg (rc z h).toArray, .bool false]) (results_row2 (fn := Try.f44) (p := 6) (q := 7) (v := .bool false) rfl _ _ (w.heap.size + 1) 51 (rc z h).toArray (0, 0) _ rfl (hQ2.row z h) Try.underlying51 rfl Hi.out rfl) rfl ⟨rfl, hN2.setRow hsz _⟩
    | true =>
      go_wp2_with (first | (refine op_value rfl (run_load_row 51 (.tmp 3) rfl w.heap.size rfl 51 (rc x h).toArray (0, 0) _ hR2 Try.underlying51 rfl Hi.out) ?_) | (refine op_value_g rfl (run_load_row 51 (.tmp 3) rfl w.heap.size rfl 51 (rc x h).toArray (0, 0) _ hR2 Try.underlying51 rfl Hi.out) ?_))
      refine (HR.out _).mono ?_
      rintro e w3 ⟨rfl, hN3⟩
      have hR3 := hR2.mods hN3 id
      have hQ3 := hQ2.mods hN3 id
      have hN3 := hN2.trans hN3
      clear hR2 hQ2 hN2
      cases b with
      | false =>
        obtain ⟨rfl, rfl⟩ : z = x ∧ zb = false := by have := Hp.out; simpa using this
        go_wp2_with (first | (refine op_value rfl (run_load_row 51 (.tmp 3) rfl w.heap.size rfl 51 (rc z h).toArray (0, 0) _ hR3 Try.underlying51 rfl Hi.out) ?_) | (refine op_skip rfl (run_store_row 51 (.tmp 6) (.tmp 36) rfl (w.heap.size + 1) rfl 51 (rc 0 zeroH) (rc z h) rfl hQ3 Hl.out rfl Ho.out) ?_))
        exact bodyPost_ret (v := .tuple #[.agg (rc z h).toArray, .bool false]) (results_row2 (fn := Try.f44) (p := 6) (q := 7) (v := .bool false) rfl _ _ (w.heap.size + 1) 51 (rc z h).toArray (0, 0) _ rfl (hQ3.row z h) Try.underlying51 rfl Hi.out rfl) rfl ⟨rfl, hN3.setRow hsz _⟩
      | true =>
        obtain ⟨rfl, rfl⟩ : z = y ∧ zb = true := by have := Hp.out; simpa using this
        have c1 := hR3.cell
        have f1 := hR3.frozen 0
        have hR4 := hR3.word z
        have hQ4 : RAt (w3.setCell ⟨w.heap.size, 0, none⟩ (.int .u64 (z : Nat))) (w.heap.size + 1) 0 zeroH := hQ3.other (by omega) _
        have hN4 : New w (w3.setCell ⟨w.heap.size, 0, none⟩ (.int .u64 (z : Nat))) := hN3.setCell (p := ⟨w.heap.size, 0, none⟩) (.inl (by simp)) _
        have Hi2 := Lib.hid (infoR z h)
        have Hl2 := Lib.hid (infoL z h)
        have Ho2 := Lib.hid (rc_one z h)
        go_wp2_with (first | (refine op_value rfl (run_load_row 51 (.tmp 3) rfl w.heap.size rfl 51 (rc z h).toArray (0, 0) _ hR4 Try.underlying51 rfl Hi2.out) ?_) | (refine op_skip rfl (run_store_row 51 (.tmp 6) (.tmp 39) rfl (w.heap.size + 1) rfl 51 (rc 0 zeroH) (rc z h) rfl hQ4 Hl2.out rfl Ho2.out) ?_))
        exact bodyPost_ret (v := .tuple #[.agg (rc z h).toArray, .bool true]) (results_row2 (fn := Try.f44) (p := 6) (q := 7) (v := .bool true) rfl _ _ (w.heap.size + 1) 51 (rc z h).toArray (0, 0) _ rfl (hQ4.row z h) Try.underlying51 rfl Hi2.out rfl) rfl ⟨rfl, hN4.setRow hsz _⟩
end Go.Proofs.Ytkjloeefcaadlaa
