/- A slot's urgency, how many are ready, the next one. -/
import Derived.Test.YtkjloeefcaadlaaP07
import Derived.Test.YtkjloeefcaadlaaP04
import Derived.MapKept
import Derived.Deep.CutRange
set_option linter.unusedSimpArgs false
set_option linter.unusedVariables false
namespace Go.Proofs.Ytkjloeefcaadlaa
open Go.RowKit Go.Shelf Go.Cs
attribute [local go_sem] Oper.semAt_some
theorem cnt_none (k : Nat) (W : World) : CntAt none k W := fun _ h => by cases h
theorem same1 (B : Nat) (t s : Int) (w : World) (hB : w.cell? ⟨B, 0, none⟩ = some (.int .i64 s)) : Calls Try.prog 87 #[.int .i64 t, .pointer (some ⟨B, 0, none⟩)] w fun e w' => e = .returned (.bool (t == s)) ∧ w = w' := by
  go_enter Try.func87, Try.ntmps87
  go_wp2
  go_ret
  exact ⟨rfl, rfl⟩
theorem any1 (t : Int) (w : World) : Calls Try.prog 86 #[.int .i64 t] w fun e w' => e = .returned (.bool true) ∧ w = w' := by
  go_enter Try.func86, Try.ntmps86
  go_wp2
  go_ret
  exact ⟨rfl, rfl⟩
theorem count1 (B k : Nat) (t : Int) (w : World) (hk : k < 1000) (hB : Boxed w B 3 (.int .i64 (k : Nat))) :
    Calls Try.prog 90 #[.int .i64 t, .pointer (some ⟨B, 0, none⟩)] w fun e w' => e = .returned (.bool false) ∧ w.setCell ⟨B, 0, none⟩ (.int .i64 ((k + 1 : Nat) : Int)) = w' := by
  obtain ⟨c, f⟩ := hB.both
  go_enter Try.func90, Try.ntmps90
  go_wp2
  go_ret
  exact ⟨rfl, rfl⟩
def pairO (o : Option (Int × Nat)) : Value := .tuple #[.int .i64 ((o.map (·.2)).getD 0 : Nat), .bool o.isSome]
theorem of_t (x : Nat) (h : Nat → Int) (s : Int) (hx : x < 18446744073709551616) (hh : In8 h) (w : World) :
    Calls Try.prog 38 #[.agg (rc x h).toArray, .int .i64 s] w fun e w' => e = .returned (pairO (ofT x h s)) ∧ New w w' := by
  have hi51 : (Try.prog.info? 51).map (·.size) = some (rc x h).toArray.size := info51
  have hR0 : RAt ((w.alloc (.cells (rc x h).toArray 51)).alloc (.cells #[.int .i64 s] 3)) w.heap.size x h := ((Mods.refl (fun _ => False) _).alloc _).heap (World.alloc_heap_new w _) id
  have hb := boxed1 w (.cells (rc x h).toArray 51) 3 (.int .i64 s)
  have HF := Lib.hid (first_t x h hx hh 87 #[.pointer (some ⟨w.heap.size + 1, 0, none⟩)] (fun t => t == s) none ((w.alloc (.cells (rc x h).toArray 51)).alloc (.cells #[.int .i64 s] 3)) (enters_of Try.func87 (by kernel_rfl) rfl) (cnt_none _ _)
    (fun _ k p W hp _ hM => (same1 _ p.1 s W (hM.boxed hb (by simp)).cell).mono fun e w' ⟨he, hw⟩ => ⟨he, cnt_none _ _, hw ▸ Mods.refl _ _⟩))
  clear hb
  obtain ⟨r, hr⟩ : ∃ r, ofT x h s = r := ⟨_, rfl⟩
  have hr' : firstT x h (fun t => t == s) = r := hr
  rw [hr'] at HF
  rw [hr]
  clear hr hr'
  go_enter Try.func38, Try.ntmps38
  go_wp2_with (refine op_value rfl (run_load_row 51 (.tmp 2) rfl w.heap.size rfl 51 (rc x h).toArray (0, 0) _ hR0 Try.underlying51 rfl hi51) ?_)
  refine HF.out.mono ?_
  rintro e w1 ⟨rfl, hN, _⟩
  have hN1 : New w w1 := (((Mods.refl _ w).alloc (.cells (rc x h).toArray 51)).alloc (.cells #[.int .i64 s] 3)).trans (hN.mono fun b h => by cases h)
  unfold tripT
  go_wp2_with fail
  go_ret2
  exact ⟨rfl, hN1⟩
theorem next_t (x : Nat) (h : Nat → Int) (hx : x < 18446744073709551616) (hh : In8 h) (w : World) :
    Calls Try.prog 37 #[.agg (rc x h).toArray] w fun e w' => e = .returned (tripT (nextT x h)) ∧ New w w' := by
  have hi51 : (Try.prog.info? 51).map (·.size) = some (rc x h).toArray.size := info51
  have hR0 : RAt (w.alloc (.cells (rc x h).toArray 51)) w.heap.size x h := World.alloc_heap_new w _
  have HF := Lib.hid (first_t x h hx hh 86 #[] (fun _ => true) none (w.alloc (.cells (rc x h).toArray 51)) (enters_of Try.func86 (by kernel_rfl) rfl) (cnt_none _ _)
    (fun _ k p W hp _ hM => (any1 p.1 W).mono fun e w' ⟨he, hw⟩ => ⟨he, cnt_none _ _, hw ▸ Mods.refl _ _⟩))
  obtain ⟨r, hr⟩ : ∃ r, nextT x h = r := ⟨_, rfl⟩
  have hr' : firstT x h (fun _ => true) = r := hr
  rw [hr'] at HF
  rw [hr]
  clear hr hr'
  go_enter Try.func37, Try.ntmps37
  go_wp2_with (refine op_value rfl (run_load_row 51 (.tmp 1) rfl w.heap.size rfl 51 (rc x h).toArray (0, 0) _ hR0 Try.underlying51 rfl hi51) ?_)
  refine HF.out.mono ?_
  rintro e w1 ⟨rfl, hN, _⟩
  have hN1 : New w w1 := ((Mods.refl _ w).alloc (.cells (rc x h).toArray 51)).trans (hN.mono fun b h => by cases h)
  unfold tripT
  go_wp2_with fail
  go_ret3
  exact ⟨rfl, hN1⟩
theorem many_len {x : Nat} {h : Nat → Int} (hr : rightT x h = true) : (allT x h).length ≤ 8 := by
  simp only [rightT, Bool.and_eq_true, decide_eq_true_eq] at hr
  have h8 : ∀ p, p ∈ allT x h → 0 ≤ p.1 ∧ p.1 < 8 := fun p hp => ⟨(all_in8 hr.1.2 hp).1, (all_in8 hr.1.2 hp).2.1⟩
  have hd : ((allT x h).map fun p => p.1.toNat).Nodup := by
    have := hr.2
    rw [List.Nodup, List.pairwise_map] at this ⊢
    refine List.Pairwise.imp_of_mem ?_ this
    intro a b ha hb hab e
    have := h8 a ha
    have := h8 b hb
    omega
  have := nodup_le 8 _ hd (fun a ha => by
    obtain ⟨p, hp, rfl⟩ := List.mem_map.1 ha
    have := h8 p hp
    omega)
  simpa using this
theorem many_t (x : Nat) (h : Nat → Int) (hx : x < 18446744073709551616) (hh : In8 h) (w : World) :
    Calls Try.prog 40 #[.agg (rc x h).toArray] w fun e w' => e = .returned (.int .i64 (manyT x h : Nat)) ∧ New w w' := by
  have hi51 : (Try.prog.info? 51).map (·.size) = some (rc x h).toArray.size := info51
  have hR0 : RAt ((w.alloc (.cells (rc x h).toArray 51)).alloc (.cells #[.int .i64 0] 3)) w.heap.size x h := ((Mods.refl (fun _ => False) _).alloc _).heap (World.alloc_heap_new w _) id
  have hb := boxed1 w (.cells (rc x h).toArray 51) 3 (.int .i64 0)
  have HF := Lib.hid (first_t x h hx hh 90 #[.pointer (some ⟨w.heap.size + 1, 0, none⟩)] (fun _ => false) (some (w.heap.size + 1)) ((w.alloc (.cells (rc x h).toArray 51)).alloc (.cells #[.int .i64 0] 3)) (enters_of Try.func90 (by kernel_rfl) rfl) (fun B hB => by cases hB; exact hb)
    (fun hr k p W hp hc hM => by
      have hk : k < 1000 := by
        have := many_len hr
        have := (List.getElem?_eq_some_iff.1 hp).1
        omega
      refine (count1 _ k p.1 W hk (hc _ rfl)).mono fun e w' ⟨he, hw⟩ => ⟨he, ?_, ?_⟩
      · intro B hB
        cases hB
        rw [← hw]
        exact (hc _ rfl).set _
      · rw [← hw]
        exact (Mods.refl (fun b => some (w.heap.size + 1) = some b) W).setCell (p := ⟨w.heap.size + 1, 0, none⟩) (.inr rfl) _))
  have Hl := Lib.hid (fun hr => many_len (x := x) (h := h) hr)
  obtain ⟨m, hm⟩ : ∃ m, manyT x h = m := ⟨_, rfl⟩
  have Hm := Lib.hid hm
  rw [hm]
  clear hb hm
  go_enter Try.func40, Try.ntmps40
  go_wp2_with (refine op_value rfl (run_load_row 51 (.tmp 1) rfl w.heap.size rfl 51 (rc x h).toArray (0, 0) _ hR0 Try.underlying51 rfl hi51) ?_)
  refine HF.out.mono ?_
  rintro e w1 ⟨rfl, hN, k, hc, hk⟩
  have hN1 : New w w1 := ((Mods.ofNew (((Mods.refl _ w).alloc (.cells (rc x h).toArray 51)).alloc (.cells #[.int .i64 0] 3))).trans hN).new (fun k hk => by cases hk; omega)
  obtain rfl : k = m := by
    rw [← Hm.out, manyT]
    rcases hk with ⟨h1, h2⟩ | ⟨h1, ⟨p, _, h2⟩ | h2⟩
    · rw [h1, h2]; rfl
    · cases h2
    · rw [h1, h2]; rfl
  have hb := hc _ rfl
  obtain ⟨c, f⟩ := hb.both
  clear hc hN hk HF
  go_wp2_with fail
  have q := (hb.set (.int .i64 (k : Nat))).cell
  refine bodyPost_ret (v := .int .i64 (k : Nat)) ?_ rfl ⟨rfl, hN1.setCell (p := ⟨w.heap.size + 1, 0, none⟩) (.inl (by simp)) _⟩
  simp [results, Try.f40, go_sem, q]
end Go.Proofs.Ytkjloeefcaadlaa
/- Nobody is ready; one is pushed, taken out. -/
namespace Go.Proofs.Ytkjloeefcaadlaa
open Go.RowKit Go.Shelf Go.Cs
attribute [local go_sem] Oper.semAt_some
theorem hc_upd (h : Nat → Int) (u : Nat) (hu : u < 8) (v : Int) : (hc h).set u (.int .i64 v) = hc (upd h u v) := by
  apply List.ext_getElem?
  intro i
  by_cases hi : i < 8
  · rw [List.getElem?_set, hc_at (upd h u v) i hi, hc_at h i hi]
    unfold upd
    split
    · rename_i e; subst e; rw [if_pos (show u < (hc h).length from hu), if_pos rfl]
    · rename_i e; rw [if_neg (Ne.symm e)]
  · rw [List.getElem?_eq_none (by simp [hc]; omega), List.getElem?_eq_none (by simp [hc]; omega)]
theorem RAt.word {W : World} {B x : Nat} {h : Nat → Int} (hB : RAt W B x h) (y : Nat) : RAt (W.setCell ⟨B, 0, none⟩ (.int .u64 (y : Nat))) B y h := by
  unfold RAt
  rw [heap_setCell_same W B 0 _ 51 _ hB]
  rfl
theorem RAt.hold {W : World} {B x : Nat} {h : Nat → Int} (hB : RAt W B x h) {u : Nat} (hu : u < 8) (v : Int) : RAt (W.setCell ⟨B, 1 + u, none⟩ (.int .i64 v)) B x (upd h u v) := by
  unfold RAt
  rw [heap_setCell_same W B (1 + u) _ 51 _ hB, List.setIfInBounds_toArray, rc, Nat.add_comm, List.set_cons_succ, hc_upd h u hu]
  rfl
theorem RAt.row {W : World} {B x : Nat} {h : Nat → Int} (hB : RAt W B x h) (y : Nat) (k : Nat → Int) : RAt (W.setRow B (rc y k).toArray) B y k := setRow_heap W B _ _ 51 (0, 0) hB
theorem RAt.frozen {W : World} {B x : Nat} {h : Nat → Int} (hB : RAt W B x h) (u : Nat) : W.frozen? ⟨B, u, none⟩ = false := by
  unfold World.frozen?
  rw [hB]
  rfl
theorem RAt.otherRow {W : World} {B C x : Nat} {h : Nat → Int} (hB : RAt W B x h) (hne : B ≠ C) (cs : Array Value) : RAt (W.setRow C cs) B x h := by
  unfold RAt at hB ⊢
  rw [← hB]
  simp [World.setRow, Array.getElem?_modify, Ne.symm hne]
theorem RAt.other {W : World} {B C o x : Nat} {h : Nat → Int} (hB : RAt W B x h) (hne : B ≠ C) (v : Value) : RAt (W.setCell ⟨C, o, none⟩ v) B x h :=
  (Below.heap_setCell W ⟨C, o, none⟩ v B hne).trans hB
theorem _root_.Go.Cs.Mods.setRow {S : Nat → Prop} {a w : World} (h : Mods S a w) {B : Nat} (hp : a.heap.size ≤ B) (cs : Array Value) : Mods S a (w.setRow B cs) :=
  ⟨h.os, h.tape, h.output, by have := h.size; simpa [World.setRow] using this, fun k o hk ho => by
    have hw := h.block k o hk ho
    have := (Array.getElem?_eq_some_iff.1 hk).1
    rw [← hw]
    simp [World.setRow, Array.getElem?_modify, show ¬ B = k by omega]⟩
/-- A guarded operation that is wanted. -/
theorem op_value_g {ops : Array Oper} {Q : Exit → Act → World → Prop} {rest : List Oper} {o : Oper} {a : Act} {w w' : World} {v : Value} (hw : Region.wanted o (yielded ops a.tmps) = true) (hr : (execOp a.eval o).run Try.prog w = .ok (.value v) w') (h : wpList Try.prog ops Q rest (a.put o.dst v) w') : wpList Try.prog ops Q (o :: rest) a w :=
  wpList_step fun K hK => by rw [if_pos hw]; unfold Oper.wp; rw [hr]; exact hK _ _ h
theorem rc_one (x : Nat) (h : Nat → Int) : ∀ v ∈ rc x h, v.oneCell' = true := by
  intro v hv
  simp only [rc, hc, List.mem_cons, List.not_mem_nil, or_false] at hv
  rcases hv with rfl | rfl | rfl | rfl | rfl | rfl | rfl | rfl | rfl <;> rfl
theorem results_row2 {P : Program} {fn : Func} {p q : Tmp} {ty : TypeId} (h : fn.results = #[.cell p ty, .tmp q]) (tmps : Array Value) (w : World) (g : Nat) (t : TypeId) (cs : Array Value) (fr : Nat × Nat) (d : TypeDesc)
    (hp : tmps.getD p undef = .pointer (some ⟨g, 0, none⟩)) (hg : w.heap[g]? = some (.cells cs t fr))
    (hu : P.underlying ty = some d) (hd : (match d with | .struct _ | .array _ _ => true | _ => false) = true) (hi : (P.info? ty).map (·.size) = some cs.size) {v : Value} (hq : tmps.getD q undef = v) :
    (results fn tmps).run P w = .ok (.tuple #[.agg cs, v]) w := by
  subst hq
  have hp' : tmps[p]?.getD undef = .pointer (some ⟨g, 0, none⟩) := by simpa using hp
  simp [results, h, hp', asAddr, run_loadVar_row w g t ty cs fr d hg hu hd hi]
theorem infoR (x : Nat) (h : Nat → Int) : (Try.prog.info? 51).map (·.size) = some (rc x h).toArray.size := info51
theorem infoL (x : Nat) (h : Nat → Int) : (Try.prog.info? 51).map (·.size) = some (rc x h).length := info51
/-- No one, at all. -/
def zeroH : Nat → Int := fun _ => 0
/-- What a call leaves: who is ready, and whether it went. -/
def RetRT (w : World) (v : RS × Bool) (e : Ending) (w' : World) : Prop := e = .returned (.tuple #[.agg (rc v.1.x v.1.h).toArray, .bool v.2]) ∧ New w w'
set_option maxRecDepth 100000 in
set_option maxHeartbeats 1000000 in
theorem push_t (x : Nat) (h : Nat → Int) (s u : Int) (hx : x < 18446744073709551616) (hh : In8 h) (hs1 : -9223372036854775808 ≤ s) (hs2 : s ≤ 9223372036854775807) (hu1 : -9223372036854775808 ≤ u) (hu2 : u ≤ 9223372036854775807) (w : World) :
    Calls Try.prog 44 #[.agg (rc x h).toArray, .int .i64 s, .int .i64 u] w (RetRT w (⟨(pushT x h s u).1, h⟩, (pushT x h s u).2)) := by
  have HP := Lib.hid (push_any x s u hx hs1 hs2 hu1 hu2)
  have HO := Lib.hid (of_t x h s hx hh)
  have HR := Lib.hid (right_t x h hx hh)
  obtain ⟨q, hq⟩ : ∃ q, pushF x s u = q := ⟨_, rfl⟩
  obtain ⟨y, ok⟩ := q
  obtain ⟨o, ho⟩ : ∃ o, ofT x h s = o := ⟨_, rfl⟩
  obtain ⟨b, hb⟩ : ∃ b, rightT x h = b := ⟨_, rfl⟩
  have hp : pushT x h s u = if o.isNone && (ok && b) then (y, true) else (x, false) := by unfold pushT; rw [hq, ho, hb]
  obtain ⟨r, hr⟩ : ∃ r, pushT x h s u = r := ⟨_, rfl⟩
  rw [hr] at hp ⊢
  obtain ⟨z, zb⟩ := r
  rw [hq] at HP
  rw [ho] at HO
  rw [hb] at HR
  have Hp := Lib.hid hp
  have Hi := Lib.hid (infoR x h)
  have Hl := Lib.hid (infoL x h)
  have Ho := Lib.hid (rc_one x h)
  unfold pair at HP
  clear hp hr hq ho hb hh
  have hR0 : RAt ((w.alloc (.cells (rc x h).toArray 51)).alloc (.cells #[.int .u64 0, .int .i64 0, .int .i64 0, .int .i64 0, .int .i64 0, .int .i64 0, .int .i64 0, .int .i64 0, .int .i64 0] 51)) w.heap.size x h := ((Mods.refl (fun _ => False) _).alloc _).heap (World.alloc_heap_new w _) id
  have hQ0 : RAt ((w.alloc (.cells (rc x h).toArray 51)).alloc (.cells #[.int .u64 0, .int .i64 0, .int .i64 0, .int .i64 0, .int .i64 0, .int .i64 0, .int .i64 0, .int .i64 0, .int .i64 0] 51)) (w.heap.size + 1) 0 zeroH := by
    have := World.alloc_heap_new (w.alloc (.cells (rc x h).toArray 51)) (.cells #[.int .u64 0, .int .i64 0, .int .i64 0, .int .i64 0, .int .i64 0, .int .i64 0, .int .i64 0, .int .i64 0, .int .i64 0] 51)
    rw [World.size_alloc] at this
    exact this
  have c0 := hR0.cell
  go_enter Try.func44, Try.ntmps44
  go_wp2_with fail
  obtain ⟨W0, hW0⟩ : ∃ W0, (w.alloc (.cells (rc x h).toArray 51)).alloc (.cells #[.int .u64 0, .int .i64 0, .int .i64 0, .int .i64 0, .int .i64 0, .int .i64 0, .int .i64 0, .int .i64 0, .int .i64 0] 51) = W0 := ⟨_, rfl⟩
  have hN0 : New w W0 := by rw [← hW0]; exact ((Mods.refl _ _).alloc _).alloc _
  rw [hW0] at hR0 hQ0 ⊢
  clear hW0 c0
  refine (HP.out _).mono ?_
  rintro e w1 ⟨rfl, hN1⟩
  have hR1 := hR0.mods hN1 id
  have hQ1 := hQ0.mods hN1 id
  have hN1 := hN0.trans hN1
  clear hR0 hQ0 hN0
  go_wp2_with (refine op_value rfl (run_load_row 51 (.tmp 3) rfl w.heap.size rfl 51 (rc x h).toArray (0, 0) _ hR1 Try.underlying51 rfl Hi.out) ?_)
  refine (HO.out _).mono ?_
  rintro e w2 ⟨rfl, hN2⟩
  have hR2 := hR1.mods hN2 id
  have hQ2 := hQ1.mods hN2 id
  have hN2 := hN1.trans hN2
  have hsz : w.heap.size ≤ w.heap.size + 1 := by omega
  clear hR1 hQ1 hN1
  unfold pairO
  cases o with
  | some p =>
    simp only [Option.map_some, Option.getD_some, Option.isSome_some]
    obtain ⟨rfl, rfl⟩ : z = x ∧ zb = false := by have := Hp.out; simpa using this
    go_wp2_with (first | (with_reducible refine ⟨fun f hf => (by cases hf), ?_⟩) | (refine op_value rfl (run_load_row 51 (.tmp 3) rfl w.heap.size rfl 51 (rc z h).toArray (0, 0) _ hR2 Try.underlying51 rfl Hi.out) ?_) | (refine op_skip rfl (run_store_row 51 (.tmp 6) (.tmp 36) rfl (w.heap.size + 1) rfl 51 (rc 0 zeroH) (rc z h) rfl hQ2 Hl.out rfl Ho.out) ?_))
    exact bodyPost_ret (v := .tuple #[.agg (rc z h).toArray, .bool false]) (results_row2 (fn := Try.f44) (p := 6) (q := 7) (v := .bool false) rfl _ _ (w.heap.size + 1) 51 (rc z h).toArray (0, 0) _ rfl (hQ2.row z h) Try.underlying51 rfl Hi.out rfl) rfl ⟨rfl, hN2.setRow hsz _⟩
  | none =>
    simp only [Option.map_none, Option.getD_none, Option.isSome_none]
    cases ok with
    | false =>
      obtain ⟨rfl, rfl⟩ : z = x ∧ zb = false := by have := Hp.out; simpa using this
      go_wp2_with (first | (with_reducible refine ⟨fun f hf => (by cases hf), ?_⟩) | (refine op_value rfl (run_load_row 51 (.tmp 3) rfl w.heap.size rfl 51 (rc z h).toArray (0, 0) _ hR2 Try.underlying51 rfl Hi.out) ?_) | (refine op_skip rfl (run_store_row 51 (.tmp 6) (.tmp 36) rfl (w.heap.size + 1) rfl 51 (rc 0 zeroH) (rc z h) rfl hQ2 Hl.out rfl Ho.out) ?_))
      exact bodyPost_ret (v := .tuple #[.agg (rc z h).toArray, .bool false]) (results_row2 (fn := Try.f44) (p := 6) (q := 7) (v := .bool false) rfl _ _ (w.heap.size + 1) 51 (rc z h).toArray (0, 0) _ rfl (hQ2.row z h) Try.underlying51 rfl Hi.out rfl) rfl ⟨rfl, hN2.setRow hsz _⟩
    | true =>
      go_wp2_with (first | (refine op_value rfl (run_load_row 51 (.tmp 3) rfl w.heap.size rfl 51 (rc x h).toArray (0, 0) _ hR2 Try.underlying51 rfl Hi.out) ?_) | (refine op_value_g rfl (run_load_row 51 (.tmp 3) rfl w.heap.size rfl 51 (rc x h).toArray (0, 0) _ hR2 Try.underlying51 rfl Hi.out) ?_))
      refine (HR.out _).mono ?_
      rintro e w3 ⟨rfl, hN3⟩
      have hR3 := hR2.mods hN3 id
      have hQ3 := hQ2.mods hN3 id
      have hN3 := hN2.trans hN3
      clear hR2 hQ2 hN2
      cases b with
      | false =>
        obtain ⟨rfl, rfl⟩ : z = x ∧ zb = false := by have := Hp.out; simpa using this
        go_wp2_with (first | (refine op_value rfl (run_load_row 51 (.tmp 3) rfl w.heap.size rfl 51 (rc z h).toArray (0, 0) _ hR3 Try.underlying51 rfl Hi.out) ?_) | (refine op_skip rfl (run_store_row 51 (.tmp 6) (.tmp 36) rfl (w.heap.size + 1) rfl 51 (rc 0 zeroH) (rc z h) rfl hQ3 Hl.out rfl Ho.out) ?_))
        exact bodyPost_ret (v := .tuple #[.agg (rc z h).toArray, .bool false]) (results_row2 (fn := Try.f44) (p := 6) (q := 7) (v := .bool false) rfl _ _ (w.heap.size + 1) 51 (rc z h).toArray (0, 0) _ rfl (hQ3.row z h) Try.underlying51 rfl Hi.out rfl) rfl ⟨rfl, hN3.setRow hsz _⟩
      | true =>
        obtain ⟨rfl, rfl⟩ : z = y ∧ zb = true := by have := Hp.out; simpa using this
        have c1 := hR3.cell
        have f1 := hR3.frozen 0
        have hR4 := hR3.word z
        have hQ4 : RAt (w3.setCell ⟨w.heap.size, 0, none⟩ (.int .u64 (z : Nat))) (w.heap.size + 1) 0 zeroH := hQ3.other (by omega) _
        have hN4 : New w (w3.setCell ⟨w.heap.size, 0, none⟩ (.int .u64 (z : Nat))) := hN3.setCell (p := ⟨w.heap.size, 0, none⟩) (.inl (by simp)) _
        have Hi2 := Lib.hid (infoR z h)
        have Hl2 := Lib.hid (infoL z h)
        have Ho2 := Lib.hid (rc_one z h)
        go_wp2_with (first | (refine op_value rfl (run_load_row 51 (.tmp 3) rfl w.heap.size rfl 51 (rc z h).toArray (0, 0) _ hR4 Try.underlying51 rfl Hi2.out) ?_) | (refine op_skip rfl (run_store_row 51 (.tmp 6) (.tmp 39) rfl (w.heap.size + 1) rfl 51 (rc 0 zeroH) (rc z h) rfl hQ4 Hl2.out rfl Ho2.out) ?_))
        exact bodyPost_ret (v := .tuple #[.agg (rc z h).toArray, .bool true]) (results_row2 (fn := Try.f44) (p := 6) (q := 7) (v := .bool true) rfl _ _ (w.heap.size + 1) 51 (rc z h).toArray (0, 0) _ rfl (hQ4.row z h) Try.underlying51 rfl Hi2.out rfl) rfl ⟨rfl, hN4.setRow hsz _⟩
end Go.Proofs.Ytkjloeefcaadlaa
/- What deeds do: the map of them. -/
namespace Go.Proofs.Ytkjloeefcaadlaa
open Go.RowKit Go.Shelf Go.Cs
attribute [local go_sem] Oper.semAt_some
def fn (g : Nat) : Value := .func (.func g) #[] #[]
theorem plain_any (g : Nat) (w : World) : Calls Try.prog 165 #[fn g] w fun e w' => e = .returned (.func (.func 166) #[] #[.pointer (some ⟨w.heap.size, 0, none⟩)]) ∧ w.alloc (.cells #[fn g] 33) = w' := by
  unfold fn
  go_enter Try.func165, Try.ntmps165
  go_wp2
  go_ret
  exact ⟨rfl, rfl⟩
def clo (b : Nat) : Value := .func (.func 166) #[] #[.pointer (some ⟨b, 0, none⟩)]
def ent (k : Nat) (val : Value) (i : Nat) : MapEntry := { key := .int .u8 (k : Nat), val := val, born := i }
theorem findNow_none (k : Nat) : ∀ (l : List MapEntry) (i : Nat), (∀ e, e ∈ l → ∃ j : Nat, e.key = .int .u8 j ∧ j ≠ k) → Instr.findNow (.int .u8) (.int .u8 (k : Nat)) l i = some none
  | [], _, _ => rfl
  | e :: l, i, hl => by
    obtain ⟨j, hj, hne⟩ := hl e (by simp)
    have hb : ((k : Int) == (j : Int)) = false := by simp; omega
    simp only [Instr.findNow, hj, Instr.sameNow, if_true, hb]
    exact findNow_none k l _ fun e he => hl e (by simp [he])
/-- A map of deeds under way: one entry more. -/
theorem run_put (w : World) (B : Nat) (es : List MapEntry) (k : Nat) (val : Value) (h : w.heap[B]? = some (.map es.toArray es.length)) (hn : ∀ e, e ∈ es → ∃ j : Nat, e.key = .int .u8 j ∧ j ≠ k) :
    (Instr.mapUpdate 178 (.map (some B)) (.int .u8 (k : Nat)) val).run Try.prog w = .ok () (w.putObj B (.map (es ++ [ent k val es.length]).toArray (es.length + 1))) := by
  have hf := findNow_none k es 0 hn
  have hd : Try.prog.underlying 178 = some (.map 5 91) := Try.underlying178
  have hg := MapKept.run_getObj_map (P := Try.prog) h
  have hs := fun o => MapKept.run_setObj_map (P := Try.prog) o h
  have hc := MapKept.run_checkKey (P := Try.prog) (w := w) (k := .int .u8 (k : Nat)) Try.underlying5 rfl false 9999
  have hk := MapKept.run_findKey (P := Try.prog) (w := w) Try.underlying5 hf
  simp only [Instr.mapUpdate, Sem.run_bind, run_underlying hd w, Result.andThen_ok, hg, hc, hk, hs]
  simp [World.putObj, ent]
/-- What a deed is looked up as. -/
theorem run_look (w : World) (B : Nat) (es : List MapEntry) (c k i : Nat) (val : Value) (hne : es ≠ []) (h : w.heap[B]? = some (.map es.toArray c)) (hf : Instr.findNow (.int .u8) (.int .u8 (k : Nat)) es 0 = some (some (i, val))) :
    (Instr.lookup 178 (.map (some B)) (.int .u8 (k : Nat)) false).run Try.prog w = .ok val w := by
  have hd : Try.prog.underlying 178 = some (.map 5 91) := Try.underlying178
  have hg := MapKept.run_getObj_map (P := Try.prog) h
  have he : es.toArray.isEmpty = false := by simp [hne]
  have hc := MapKept.run_checkKey (P := Try.prog) (w := w) (k := .int .u8 (k : Nat)) Try.underlying5 rfl false 9999
  have hk := MapKept.run_findKey (P := Try.prog) (w := w) Try.underlying5 hf
  simp only [Instr.lookup, Sem.run_bind, run_underlying hd w, Result.andThen_ok, hg, Sem.run_pure, he, hc, hk]
  simp
theorem run_look_none (w : World) (B : Nat) (es : List MapEntry) (c k : Nat) (hne : es ≠ []) (h : w.heap[B]? = some (.map es.toArray c)) (hf : Instr.findNow (.int .u8) (.int .u8 (k : Nat)) es 0 = some none) :
    (Instr.lookup 178 (.map (some B)) (.int .u8 (k : Nat)) false).run Try.prog w = .ok .nilFunc w := by
  have hd : Try.prog.underlying 178 = some (.map 5 91) := Try.underlying178
  have hg := MapKept.run_getObj_map (P := Try.prog) h
  have he : es.toArray.isEmpty = false := by simp [hne]
  have hc := MapKept.run_checkKey (P := Try.prog) (w := w) (k := .int .u8 (k : Nat)) Try.underlying5 rfl false 9999
  have hk := MapKept.run_findKey (P := Try.prog) (w := w) Try.underlying5 hf
  have hz : (zeroValue 91).run Try.prog w = .ok .nilFunc w := by kernel_rfl
  simp only [Instr.lookup, Sem.run_bind, run_underlying hd w, Result.andThen_ok, hg, Sem.run_pure, he, hc, hk, hz]
  simp
end Go.Proofs.Ytkjloeefcaadlaa
/- The map of what deeds do, made. -/
namespace Go.Proofs.Ytkjloeefcaadlaa
open Go.RowKit Go.Shelf Go.Cs
attribute [local go_sem] Oper.semAt_some
theorem run_insert {o : Oper} {a : Act} {w : World} (m v : Operand) (k : Nat) (ho : o.op = .insert 178 m (.const (.int .u8 (k : Nat))) v) (B : Nat) (es : List MapEntry) (val : Value) (hm : a.eval m = .map (some B)) (hv : a.eval v = val)
    (h : w.heap[B]? = some (.map es.toArray es.length)) (hn : ∀ e, e ∈ es → ∃ j : Nat, e.key = .int .u8 j ∧ j ≠ k) :
    (execOp a.eval o).run Try.prog w = .ok .skip (w.putObj B (.map (es ++ [ent k val es.length]).toArray (es.length + 1))) := by
  have hp := run_put w B es k val h hn
  have hc : a.eval (.const (.int .u8 (k : Nat))) = .int .u8 (k : Nat) := rfl
  unfold execOp
  simp only [ho, hm, hv, hc, Sem.run_bind, hp]
  rfl
/-- What deeds do. -/
structure DoesAt (W : World) (M b1 b3 b4 : Nat) : Prop where
  map : W.heap[M]? = some (.map [ent 1 (clo b1) 0, ent 3 (clo b3) 1, ent 4 (clo b4) 2, ent 2 (fn 168) 3].toArray 4)
  push : Boxed W b1 33 (fn 71)
  turn : Boxed W b3 33 (fn 76)
  out : Boxed W b4 33 (fn 167)
theorem DoesAt.new {W W' : World} {M b1 b3 b4 : Nat} (h : DoesAt W M b1 b3 b4) (hN : New W W') : DoesAt W' M b1 b3 b4 :=
  ⟨hN.heap h.map id, hN.boxed h.push id, hN.boxed h.turn id, hN.boxed h.out id⟩
theorem put_same {w : World} {B : Nat} {o o' : Obj} (h : w.heap[B]? = some o) : (w.putObj B o').heap[B]? = some o' := World.putObj_heap_same (Array.getElem?_eq_some_iff.1 h).1
theorem boxed_put {w : World} {B b : Nat} {t : TypeId} {v : Value} (h : Boxed w b t v) (hne : b ≠ B) (o : Obj) : Boxed (w.putObj B o) b t v := (World.putObj_heap_other hne).trans h
set_option maxRecDepth 100000 in
set_option maxHeartbeats 1000000 in
theorem does_any (w : World) : Calls Try.prog 139 #[] w fun e w' => ∃ M b1 b3 b4, e = .returned (.map (some M)) ∧ DoesAt w' M b1 b3 b4 ∧ New w w' := by
  have HP := Lib.hid plain_any
  have hmm := @run_makeMap Try.prog
  go_enter Try.func139, Try.ntmps139
  go_wp2_with fail
  obtain ⟨W0, hW0⟩ : ∃ W, w.alloc (.map #[] 0) = W := ⟨_, rfl⟩
  obtain ⟨M, hM⟩ : ∃ M, w.heap.size = M := ⟨_, rfl⟩
  have m0 : W0.heap[M]? = some (.map ([] : List MapEntry).toArray ([] : List MapEntry).length) := by rw [← hW0, ← hM]; exact World.alloc_heap_new w _
  have n0 : New w W0 := by rw [← hW0]; exact (Mods.refl _ _).alloc _
  have s0 : W0.heap.size = M + 1 := by rw [← hW0, ← hM]; simp
  have hMw : w.heap.size ≤ M := by omega
  rw [hW0, hM]
  clear hW0 hM
  refine (HP.out 71 _).mono ?_
  rintro e w1 ⟨rfl, hw⟩
  obtain ⟨b1, hb⟩ : ∃ b, W0.heap.size = b := ⟨_, rfl⟩
  have hN : New W0 w1 := by rw [← hw]; exact (Mods.refl _ _).alloc _
  have x0 : Boxed w1 b1 33 (fn 71) := by rw [← hw, ← hb]; exact Boxed.new W0 _ _
  have m11 := hN.heap m0 id
  have n11 := n0.trans hN
  have s11 : M + 1 ≤ w1.heap.size := by have := hN.size; omega
  have t0 : M < b1 := by omega
  rw [hb]
  clear hw hb hN m0 n0 s0
  go_wp2_with (refine op_skip rfl (run_insert (.tmp 2) (.tmp 4) 1 rfl M ([] : List MapEntry) (clo b1) rfl rfl m11 (fun e he => by simp at he)) ?_)
  obtain ⟨W1, hW⟩ : ∃ W, w1.putObj M (.map (([] : List MapEntry) ++ [ent 1 (clo b1) ([] : List MapEntry).length]).toArray (([] : List MapEntry).length + 1)) = W := ⟨_, rfl⟩
  have m1 : W1.heap[M]? = some (.map ([ent 1 (clo b1) 0] : List MapEntry).toArray ([ent 1 (clo b1) 0] : List MapEntry).length) := by rw [← hW]; exact put_same m11
  have n1 : New w W1 := by rw [← hW]; exact n11.putObj hMw _
  have s1 : M + 1 ≤ W1.heap.size := by rw [← hW]; simp; exact s11
  have x0 : Boxed W1 b1 33 (fn 71) := by rw [← hW]; exact boxed_put x0 (by omega) _
  have hW' : w1.putObj M (.map [ent 1 (clo b1) 0].toArray 1) = W1 := hW
  first | rw [hW'] | rw [hW]
  clear hW hW' m11 n11 s11
  refine (HP.out 76 _).mono ?_
  rintro e w2 ⟨rfl, hw⟩
  obtain ⟨b3, hb⟩ : ∃ b, W1.heap.size = b := ⟨_, rfl⟩
  have hN : New W1 w2 := by rw [← hw]; exact (Mods.refl _ _).alloc _
  have x1 : Boxed w2 b3 33 (fn 76) := by rw [← hw, ← hb]; exact Boxed.new W1 _ _
  have x0 := hN.boxed x0 id
  have m12 := hN.heap m1 id
  have n12 := n1.trans hN
  have s12 : M + 1 ≤ w2.heap.size := by have := hN.size; omega
  have t1 : M < b3 := by omega
  rw [hb]
  clear hw hb hN m1 n1 s1
  go_wp2_with (refine op_skip rfl (run_insert (.tmp 2) (.tmp 6) 3 rfl M ([ent 1 (clo b1) 0] : List MapEntry) (clo b3) rfl rfl m12 (fun e he => by simp at he; subst he; exact ⟨_, rfl, by decide⟩)) ?_)
  obtain ⟨W2, hW⟩ : ∃ W, w2.putObj M (.map (([ent 1 (clo b1) 0] : List MapEntry) ++ [ent 3 (clo b3) ([ent 1 (clo b1) 0] : List MapEntry).length]).toArray (([ent 1 (clo b1) 0] : List MapEntry).length + 1)) = W := ⟨_, rfl⟩
  have m2 : W2.heap[M]? = some (.map ([ent 1 (clo b1) 0, ent 3 (clo b3) 1] : List MapEntry).toArray ([ent 1 (clo b1) 0, ent 3 (clo b3) 1] : List MapEntry).length) := by rw [← hW]; exact put_same m12
  have n2 : New w W2 := by rw [← hW]; exact n12.putObj hMw _
  have s2 : M + 1 ≤ W2.heap.size := by rw [← hW]; simp; exact s12
  have x0 : Boxed W2 b1 33 (fn 71) := by rw [← hW]; exact boxed_put x0 (by omega) _
  have x1 : Boxed W2 b3 33 (fn 76) := by rw [← hW]; exact boxed_put x1 (by omega) _
  have hW' : w2.putObj M (.map [ent 1 (clo b1) 0, ent 3 (clo b3) 1].toArray 2) = W2 := hW
  first | rw [hW'] | rw [hW]
  clear hW hW' m12 n12 s12
  refine (HP.out 167 _).mono ?_
  rintro e w3 ⟨rfl, hw⟩
  obtain ⟨b4, hb⟩ : ∃ b, W2.heap.size = b := ⟨_, rfl⟩
  have hN : New W2 w3 := by rw [← hw]; exact (Mods.refl _ _).alloc _
  have x2 : Boxed w3 b4 33 (fn 167) := by rw [← hw, ← hb]; exact Boxed.new W2 _ _
  have x0 := hN.boxed x0 id
  have x1 := hN.boxed x1 id
  have m13 := hN.heap m2 id
  have n13 := n2.trans hN
  have s13 : M + 1 ≤ w3.heap.size := by have := hN.size; omega
  have t2 : M < b4 := by omega
  rw [hb]
  clear hw hb hN m2 n2 s2
  have m14 : (w3.putObj M (.map (([ent 1 (clo b1) 0, ent 3 (clo b3) 1] : List MapEntry) ++ [ent 4 (clo b4) ([ent 1 (clo b1) 0, ent 3 (clo b3) 1] : List MapEntry).length]).toArray (([ent 1 (clo b1) 0, ent 3 (clo b3) 1] : List MapEntry).length + 1))).heap[M]? = some (.map ([ent 1 (clo b1) 0, ent 3 (clo b3) 1, ent 4 (clo b4) 2] : List MapEntry).toArray ([ent 1 (clo b1) 0, ent 3 (clo b3) 1, ent 4 (clo b4) 2] : List MapEntry).length) := put_same m13
  go_wp2_with (first | (refine op_skip rfl (run_insert (.tmp 2) (.tmp 8) 4 rfl M ([ent 1 (clo b1) 0, ent 3 (clo b3) 1] : List MapEntry) (clo b4) rfl rfl m13 (fun e he => by simp at he; rcases he with rfl | rfl <;> exact ⟨_, rfl, by decide⟩)) ?_) | (refine op_skip rfl (run_insert (.tmp 2) (.func 168) 2 rfl M ([ent 1 (clo b1) 0, ent 3 (clo b3) 1, ent 4 (clo b4) 2] : List MapEntry) (fn 168) rfl rfl m14 (fun e he => by simp at he; rcases he with rfl | rfl | rfl <;> exact ⟨_, rfl, by decide⟩)) ?_))
  go_ret
  refine ⟨M, b1, b3, b4, rfl, ⟨put_same m14, ?_, ?_, ?_⟩, (n13.putObj hMw _).putObj hMw _⟩
  · exact boxed_put (boxed_put x0 (by omega) _) (by omega) _
  · exact boxed_put (boxed_put x1 (by omega) _) (by omega) _
  · exact boxed_put (boxed_put x2 (by omega) _) (by omega) _
end Go.Proofs.Ytkjloeefcaadlaa
/- Each deed done to a word. -/
namespace Go.Proofs.Ytkjloeefcaadlaa
open Go.RowKit Go.Shelf Go.Cs
attribute [local go_sem] Oper.semAt_some
/-- A word and an answer. -/
def ansV (y : Nat) (slot : Nat) (ok : Bool) : Value := .tuple #[.int .u64 (y : Nat), .agg #[.int .i64 (slot : Nat), .bool ok]]
/-- A deed, as a value. -/
def dv (d : Nat) (s u : Int) : Value := .agg #[.int .u8 (d : Nat), .int .i64 s, .int .i64 u]
theorem info89 : (Try.prog.info? 89).map (·.size) = some 2 := by kernel_rfl
theorem info93 : (Try.prog.info? 93).map (·.size) = some 3 := by kernel_rfl
theorem results_2cell {P : Program} {fn : Func} {p q : Tmp} {ty : TypeId} (h : fn.results = #[.tmp q, .cell p ty]) (tmps : Array Value) (w : World) (g : Nat) (t : TypeId) (cs : Array Value) (fr : Nat × Nat) (d : TypeDesc)
    (hp : tmps.getD p undef = .pointer (some ⟨g, 0, none⟩)) (hg : w.heap[g]? = some (.cells cs t fr))
    (hu : P.underlying ty = some d) (hd : (match d with | .struct _ | .array _ _ => true | _ => false) = true) (hi : (P.info? ty).map (·.size) = some cs.size) {v : Value} (hq : tmps.getD q undef = v) :
    (results fn tmps).run P w = .ok (.tuple #[v, .agg cs]) w := by
  subst hq
  have hp' : tmps[p]?.getD undef = .pointer (some ⟨g, 0, none⟩) := by simpa using hp
  simp [results, h, hp', asAddr, run_loadVar_row w g t ty cs fr d hg hu hd hi]
theorem outS1 (x : Nat) (s u : Int) (hx : x < 18446744073709551616) (w : World) : Calls Try.prog 167 #[.int .u64 x, .int .i64 s, .int .i64 u] w fun e w' => e = .returned (pair (outF x s)) ∧ New w w' := by
  have HO := Lib.hid (out_any x s hx)
  obtain ⟨⟨y, b⟩, hy⟩ : ∃ y, outF x s = y := ⟨_, rfl⟩
  rw [hy] at HO ⊢
  clear hy
  go_enter Try.func167, Try.ntmps167
  go_wp2_with fail
  refine (HO.out _).mono ?_
  rintro e w1 ⟨rfl, hN⟩
  unfold pair
  go_wp2_with fail
  go_ret2
  exact ⟨rfl, hN⟩
set_option maxHeartbeats 1000000 in
theorem clo_any (g : Nat) (b x d : Nat) (s u : Int) (r : Nat × Bool) (w : World) (hb : Boxed w b 33 (fn g)) (eg : ∀ args w, (callFunc g args).run Try.prog w = .ok (.enter g args) w)
    (hg : ∀ w, Calls Try.prog g #[.int .u64 x, .int .i64 s, .int .i64 u] w fun e w' => e = .returned (pair r) ∧ New w w') :
    Calls Try.prog 166 #[.int .u64 x, dv d s u, .pointer (some ⟨b, 0, none⟩)] w fun e w' => e = .returned (ansV r.1 0 r.2) ∧ New w w' := by
  have HG := Lib.hid hg
  obtain ⟨y, ok⟩ := r
  have h0 : ((w.alloc (.cells #[.int .u8 (d : Nat), .int .i64 s, .int .i64 u] 93)).alloc (.cells #[.int .i64 0, .bool false] 89)).heap[w.heap.size + 1]? = some (.cells #[.int .i64 0, .bool false] 89 (0, 0)) := by
    have := World.alloc_heap_new (w.alloc (.cells #[.int .u8 (d : Nat), .int .i64 s, .int .i64 u] 93)) (.cells #[.int .i64 0, .bool false] 89)
    rw [World.size_alloc] at this
    exact this
  have hN0 : New w ((w.alloc (.cells #[.int .u8 (d : Nat), .int .i64 s, .int .i64 u] 93)).alloc (.cells #[.int .i64 0, .bool false] 89)) := ((Mods.refl _ _).alloc _).alloc _
  have hbn := (hN0.boxed hb id).cell
  have hlt : b < w.heap.size := (Array.getElem?_eq_some_iff.1 hb).1
  clear hg hb
  unfold dv fn at *
  go_enter Try.func166, Try.ntmps166
  go_wp2_with fail
  obtain ⟨W0, hW0⟩ : ∃ W0, (w.alloc (.cells #[.int .u8 (d : Nat), .int .i64 s, .int .i64 u] 93)).alloc (.cells #[.int .i64 0, .bool false] 89) = W0 := ⟨_, rfl⟩
  rw [hW0] at h0 hN0 ⊢
  clear hW0 hbn
  refine (HG.out _).mono ?_
  rintro e w1 ⟨rfl, hN1⟩
  have h1 := hN1.heap h0 id
  have hNN := hN0.trans hN1
  unfold pair
  have c0 : w1.cell? ⟨w.heap.size + 1, 0, none⟩ = some (.int .i64 0) := by rw [cell_of_row _ _ _ _ _ _ h1]; rfl
  have c1 : w1.cell? ⟨w.heap.size + 1, 1, none⟩ = some (.bool false) := by rw [cell_of_row _ _ _ _ _ _ h1]; rfl
  go_wp2_with (refine op_skip rfl (run_store_row 89 (.tmp 6) (.tmp 21) rfl (w.heap.size + 1) rfl 89 [.int .i64 0, .bool false] [.int .i64 0, .bool ok] rfl h1 info89 rfl (by simp [Value.oneCell'])) ?_)
  have h2 := setRow_heap w1 (w.heap.size + 1) _ [.int .i64 0, .bool ok].toArray 89 (0, 0) h1
  exact bodyPost_ret (v := .tuple #[.int .u64 (y : Nat), .agg #[.int .i64 0, .bool ok]]) (results_2cell (fn := Try.f166) (p := 6) (q := 5) (v := .int .u64 (y : Nat)) rfl _ _ (w.heap.size + 1) 89 _ (0, 0) _ rfl h2 Try.underlying89 rfl info89 rfl) rfl ⟨rfl, hNN.setRow (by omega) _⟩
set_option maxHeartbeats 1000000 in
theorem bestS1 (x d : Nat) (s u : Int) (hx : x < 18446744073709551616) (w : World) :
    Calls Try.prog 168 #[.int .u64 x, dv d s u] w fun e w' => e = .returned (ansV (bestF x).1 (bestF x).2.1 (bestF x).2.2) ∧ New w w' := by
  have HG := Lib.hid (best_any x hx)
  obtain ⟨⟨y, sl, ok⟩, hy⟩ : ∃ y, bestF x = y := ⟨_, rfl⟩
  rw [hy] at HG ⊢
  clear hy
  have h0 : ((w.alloc (.cells #[.int .u8 (d : Nat), .int .i64 s, .int .i64 u] 93)).alloc (.cells #[.int .i64 0, .bool false] 89)).heap[w.heap.size + 1]? = some (.cells #[.int .i64 0, .bool false] 89 (0, 0)) := by
    have := World.alloc_heap_new (w.alloc (.cells #[.int .u8 (d : Nat), .int .i64 s, .int .i64 u] 93)) (.cells #[.int .i64 0, .bool false] 89)
    rw [World.size_alloc] at this
    exact this
  have hN0 : New w ((w.alloc (.cells #[.int .u8 (d : Nat), .int .i64 s, .int .i64 u] 93)).alloc (.cells #[.int .i64 0, .bool false] 89)) := ((Mods.refl _ _).alloc _).alloc _
  unfold dv
  go_enter Try.func168, Try.ntmps168
  go_wp2_with fail
  obtain ⟨W0, hW0⟩ : ∃ W0, (w.alloc (.cells #[.int .u8 (d : Nat), .int .i64 s, .int .i64 u] 93)).alloc (.cells #[.int .i64 0, .bool false] 89) = W0 := ⟨_, rfl⟩
  rw [hW0] at h0 hN0 ⊢
  clear hW0
  refine (HG.out _).mono ?_
  rintro e w1 ⟨rfl, hN1⟩
  have h1 := hN1.heap h0 id
  have hNN := hN0.trans hN1
  unfold trip'
  go_wp2_with (refine op_skip rfl (run_store_row 89 (.tmp 5) (.tmp 18) rfl (w.heap.size + 1) rfl 89 [.int .i64 0, .bool false] [.int .i64 (sl : Nat), .bool ok] rfl h1 info89 rfl (by simp [Value.oneCell'])) ?_)
  have h2 := setRow_heap w1 (w.heap.size + 1) _ [.int .i64 (sl : Nat), .bool ok].toArray 89 (0, 0) h1
  exact bodyPost_ret (v := .tuple #[.int .u64 (y : Nat), .agg #[.int .i64 (sl : Nat), .bool ok]]) (results_2cell (fn := Try.f168) (p := 5) (q := 4) (v := .int .u64 (y : Nat)) rfl _ _ (w.heap.size + 1) 89 _ (0, 0) _ rfl h2 Try.underlying89 rfl info89 rfl) rfl ⟨rfl, hNN.setRow (by omega) _⟩
end Go.Proofs.Ytkjloeefcaadlaa
/- Which deeds there are. -/
namespace Go.Proofs.Ytkjloeefcaadlaa
open Go.RowKit Go.Shelf Go.Cs
attribute [local go_sem] Oper.semAt_some
/-- A call in a region whose order is open. -/
theorem opIn_call' {P : Program} {ops : Array Oper} {Q : Exit → Act → World → Prop} {r : Option Nat} {i : Nat} {o : Oper} (d : Option Tmp) {a : Act} {w : World} {K : Act → World → Prop} (hp : plainOp o = true) (hi : ops[i]? = some o) (hg : o.guard = none) (hd : o.dst = d)
    (f : FuncId) (args : Array Value) (h : (execOp a.eval o).run P w = .ok (.enter f args) w) (hc : Calls P f args w fun e w' => ∃ v, e = .returned v ∧ K (a.put d v) w') : wpOpIn (Fr r) 0 P ops Q i K a w := by
  subst hd
  unfold Go.wpOpIn
  simp only [hi, Region.wanted, hg, if_true, Oper.wpIn, semAt_plain hp, h]
  refine ⟨fun _ _ => trivial, fun h => by simp [Fence.wide] at h, (callsIn_wide (n := 0)).2 (hc.mono ?_)⟩
  rintro e w' ⟨v, rfl, hk⟩
  exact hk
/-- What a deed is looked up as. -/
def dval (d b1 b3 b4 : Nat) : Value := if d = 1 then clo b1 else if d = 3 then clo b3 else if d = 4 then clo b4 else if d = 2 then fn 168 else .nilFunc
def isDeed (d : Nat) : Bool := decide (d = 1) || (decide (d = 3) || (decide (d = 4) || decide (d = 2)))
theorem look_deed {W : World} {M b1 b3 b4 : Nat} (h : DoesAt W M b1 b3 b4) (d : Nat) : (Instr.lookup 178 (.map (some M)) (.int .u8 (d : Nat)) false).run Try.prog W = .ok (dval d b1 b3 b4) W := by
  unfold dval
  by_cases h1 : d = 1
  · subst h1; exact run_look W M _ 4 1 0 _ (by simp) h.map rfl
  by_cases h3 : d = 3
  · subst h3; exact run_look W M _ 4 3 1 _ (by simp) h.map rfl
  by_cases h4 : d = 4
  · subst h4; exact run_look W M _ 4 4 2 _ (by simp) h.map rfl
  by_cases h2 : d = 2
  · subst h2; exact run_look W M _ 4 2 3 _ (by simp) h.map rfl
  rw [if_neg h1, if_neg h3, if_neg h4, if_neg h2]
  refine run_look_none W M _ 4 d (by simp) h.map (findNow_none d _ 0 ?_)
  intro e he
  simp at he
  rcases he with rfl | rfl | rfl | rfl
  · exact ⟨1, rfl, fun e => h1 e.symm⟩
  · exact ⟨3, rfl, fun e => h3 e.symm⟩
  · exact ⟨4, rfl, fun e => h4 e.symm⟩
  · exact ⟨2, rfl, fun e => h2 e.symm⟩
theorem neqF (v : Value) (w : World) (hv : (∃ f l m, v = .func f l m) ∨ v = .nilFunc) : (binOp .neq 91 v .nilFunc).run Try.prog w = ((Op.equalIn 10000 91 v .nilFunc).run Try.prog w).andThen fun b w' => .ok (.bool (!b)) w' := by
  rcases hv with ⟨f, l, m, rfl⟩ | rfl
  · simp only [binOp]
    simp [Op.equal, Op.maxDepth]
  · simp only [binOp]
    simp [Op.equal, Op.maxDepth]
theorem eqF (d : Nat) (f : Fn) (l m : Array Value) (w : World) : (Op.equalIn (d + 1) 91 (.func f l m) .nilFunc).run Try.prog w = .ok false w := by
  simp only [Op.equalIn, Sem.run_bind, run_underlying Try.underlying91 w, Result.andThen_ok]
  rfl
theorem eqN (d : Nat) (w : World) : (Op.equalIn (d + 1) 91 .nilFunc .nilFunc).run Try.prog w = .ok true w := by
  simp only [Op.equalIn, Sem.run_bind, run_underlying Try.underlying91 w, Result.andThen_ok]
  rfl
theorem run_neq_nil {o : Oper} {a : Act} {w : World} (x : Operand) (ho : o.op = .binOp .neq 91 x (.const .nilFunc) 91) (d b1 b3 b4 : Nat) (hx : a.eval x = dval d b1 b3 b4) :
    (execOp a.eval o).run Try.prog w = .ok (.value (.bool (isDeed d))) w := by
  have hc : a.eval (.const .nilFunc) = .nilFunc := rfl
  have hv : ((∃ f l m, dval d b1 b3 b4 = .func f l m) ∧ isDeed d = true) ∨ (dval d b1 b3 b4 = .nilFunc ∧ isDeed d = false) := by
    unfold dval isDeed
    by_cases h1 : d = 1
    · subst h1; exact .inl ⟨⟨_, _, _, rfl⟩, rfl⟩
    by_cases h3 : d = 3
    · subst h3; exact .inl ⟨⟨_, _, _, rfl⟩, rfl⟩
    by_cases h4 : d = 4
    · subst h4; exact .inl ⟨⟨_, _, _, rfl⟩, rfl⟩
    by_cases h2 : d = 2
    · subst h2; exact .inl ⟨⟨_, _, _, rfl⟩, rfl⟩
    rw [if_neg h1, if_neg h3, if_neg h4, if_neg h2, decide_eq_false h1, decide_eq_false h3, decide_eq_false h4, decide_eq_false h2]
    exact .inr ⟨rfl, rfl⟩
  unfold execOp
  simp only [ho, hx, hc]
  rcases hv with ⟨⟨f, l, m, hv⟩, hd⟩ | ⟨hv, hd⟩
  · rw [hv, hd]
    have h1 := neqF (.func f l m) w (.inl ⟨f, l, m, rfl⟩)
    have h2 := eqF 9999 f l m w
    simp [go_sem, h1, h2]
  · rw [hv, hd]
    have h1 := neqF .nilFunc w (.inr rfl)
    have h2 := eqN 9999 w
    simp [go_sem, h1, h2]
set_option maxHeartbeats 1000000 in
theorem deed_any (d : Nat) (s u : Int) (w : World) : Calls Try.prog 106 #[dv d s u] w fun e w' => e = .returned (.bool (isDeed d)) ∧ New w w' := by
  have HD := Lib.hid does_any
  have hN0 : New w (w.alloc (.cells #[.int .u8 (d : Nat), .int .i64 s, .int .i64 u] 93)) := (Mods.refl _ _).alloc _
  have hc0 : (w.alloc (.cells #[.int .u8 (d : Nat), .int .i64 s, .int .i64 u] 93)).cell? ⟨w.heap.size, 0, none⟩ = some (.int .u8 (d : Nat)) := by rw [cell_of_row _ _ _ _ _ _ (World.alloc_heap_new w _)]; rfl
  unfold dv
  go_enter Try.func106, Try.ntmps106
  go_upto_region 1 with fail
  obtain ⟨W0, hW0⟩ : ∃ W0, w.alloc (.cells #[.int .u8 (d : Nat), .int .i64 s, .int .i64 u] 93) = W0 := ⟨_, rfl⟩
  rw [hW0] at hN0 hc0 ⊢
  clear hW0
  obtain ⟨B, hB⟩ : ∃ B, w.heap.size = B := ⟨_, rfl⟩
  rw [hB] at hc0 ⊢
  clear hB
  refine (wpIn_wide (n := 0)).1 ?_
  refine wpIn_region_any (by kernel_rfl) ?_
  show wpAnyIn _ _ _ _ _ _ _ _ _ W0.drew
  have hNd : New w W0.drew := hN0.drew
  have hcd : W0.drew.cell? ⟨B, 0, none⟩ = some (.int .u8 (d : Nat)) := hc0
  obtain ⟨Wd, hWd⟩ : ∃ W, W0.drew = W := ⟨_, rfl⟩
  rw [hWd] at hNd hcd ⊢
  clear hWd hN0 hc0
  refine any_take 1 (some 4) (.pointer (some ⟨B, 0, none⟩)) rfl rfl (by kernel_rfl) (by kernel_rfl) (by kernel_rfl) (fun _ _ _ h => h) (.value rfl fun w => by go_simp) ?_
  simp only [Act.put, List.setIfInBounds_toArray, List.set_cons_succ, List.set_cons_zero]
  refine wpAnyIn_all (rs := [0, 2]) (by kernel_rfl) (by simp) ?_
  simp only [List.mem_cons, List.not_mem_nil, or_false, forall_eq_or_imp, forall_eq]
  refine ⟨?ord1, ?ord2⟩
  case' ord1 =>
    refine opIn_call' (some 3) rfl rfl rfl rfl 139 #[] (by go_simp) ((HD.out _).mono ?_)
    rintro e w1 ⟨M, b1, b3, b4, rfl, hM, hN1⟩
    refine ⟨_, rfl, ?_⟩
    have hc1 := hN1.cell hcd id
    refine wpAnyIn_all (rs := [2]) (by kernel_rfl) (by simp) ?_
    simp only [List.mem_cons, List.not_mem_nil, or_false, forall_eq]
    refine opIn_value (some 5) (v := .int .u8 (d : Nat)) (w' := w1) rfl rfl rfl rfl (by go_simp) ?_
  case' ord2 =>
    refine opIn_value (some 5) (v := .int .u8 (d : Nat)) (w' := Wd) rfl rfl rfl rfl (by go_simp) ?_
    refine wpAnyIn_all (rs := [0]) (by kernel_rfl) (by simp) ?_
    simp only [List.mem_cons, List.not_mem_nil, or_false, forall_eq]
    refine opIn_call' (some 3) rfl rfl rfl rfl 139 #[] (by go_simp) ((HD.out _).mono ?_)
    rintro e w1 ⟨M, b1, b3, b4, rfl, hM, hN1⟩
    refine ⟨_, rfl, ?_⟩
  all_goals
    simp only [Act.put, List.setIfInBounds_toArray, List.set_cons_succ, List.set_cons_zero]
    refine wpAnyIn_all (rs := [3]) (by kernel_rfl) (by simp) ?_
    simp only [List.mem_cons, List.not_mem_nil, or_false, forall_eq]
    have hlk := look_deed hM d
    refine opIn_value (some 6) (v := dval d b1 b3 b4) (w' := w1) rfl rfl rfl rfl (by go_simp) ?_
    simp only [Act.put, List.setIfInBounds_toArray, List.set_cons_succ, List.set_cons_zero]
    refine wpAnyIn_all (rs := [4]) (by kernel_rfl) (by simp) ?_
    simp only [List.mem_cons, List.not_mem_nil, or_false, forall_eq]
    refine opIn_value (some 7) (v := .bool (isDeed d)) (w' := w1) rfl rfl rfl rfl (run_neq_nil (.tmp 6) rfl d b1 b3 b4 rfl) ?_
    simp only [Act.put, List.setIfInBounds_toArray, List.set_cons_succ, List.set_cons_zero]
    refine wpAnyIn_all (rs := [5]) (by kernel_rfl) (by simp) ?_
    simp only [List.mem_cons, List.not_mem_nil, or_false, forall_eq]
    refine opIn_value (some 2) (v := .bool (isDeed d)) (w' := w1) rfl rfl rfl rfl (by go_simp) ?_
    simp only [Act.put, List.setIfInBounds_toArray, List.set_cons_succ, List.set_cons_zero]
    refine wpAnyIn_done (by kernel_rfl) ?_ _
    go_wp2_with fail
    go_ret
    exact ⟨rfl, hNd.trans hN1⟩
end Go.Proofs.Ytkjloeefcaadlaa
