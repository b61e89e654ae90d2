/- A row that says 'leaving', from a run of one goroutine. -/
import Derived.Test.YtkjloeefcaadlaaP01
import Derived.Conc.Holds
import Derived.ProofKit
import Derived.Test.YtkjloeefcaadlaaRows
import Derived.Test.YtkjloeefcaadlaaP19
import Derived.Test.YtkjloeefcaadlaaP23
import Derived.JoinedCond
import Derived.OrdersHeld
set_option linter.unusedSimpArgs false
set_option linter.unusedVariables false
namespace Go.Cs
open Go.RowKit
/-- Nobody else is there: so everybody else is only leaving. -/
theorem leaving_of_handed {a : Assume} {C : Checked} {os : Os} {f : FuncId} {r : Reach} {Pre : World → Array Value → Prop} {Post : World → Array Value → Value → World → Prop} (h : ReturnsInHanded a C os f r Pre Post) : ReturnsInLeavingWide a C os f r Pre Post := fun enter => by
  obtain ⟨e, o, s, wit, runs⟩ := h enter
  refine ⟨e, o, s, wit, fun w tape i hf => ?_⟩
  obtain ⟨n, v, w', h1, h2, h3, h4, ⟨j, last, h5, h6, hq, hh, he⟩, h7⟩ := runs w tape i hf
  refine ⟨n, v, w', h1, h2, h3, h4, ⟨j, last, h5, h6, hh, ⟨fun g hg => ⟨0, ?_⟩, hq.2⟩, he⟩, h7⟩
  have := hq.1
  unfold Machine.othersDone at this
  rw [List.all_eq_true] at this
  exact eq_of_beq (this g hg)
end Go.Cs
/- The second form of rows: what a bound on the bulk gives; slices of slices of deeds opened; a row that says 'leaving'. -/
namespace Go.Proofs.Ytkjloeefcaadlaa
open Go.RowKit Go.Shelf Go.Cs Go.ChangeShapes Go.WideShapes Go.ChangeAt Go.Deep
theorem alone_leaving {P : Program} {last : Machine} {w : World} {t : Trace} (h : aloneAtReturn P last w t) : leavingAtReturn P last w t := by
  obtain ⟨hq, hh, he⟩ := h
  refine ⟨hh, ⟨fun g hg => ⟨0, ?_⟩, hq.2⟩, he⟩
  have := hq.1
  unfold Machine.othersDone at this
  rw [List.all_eq_true] at this
  exact eq_of_beq (this g hg)
set_option maxRecDepth 100000 in
/-- A row that is held where everybody else is gone is held where they are leaving. -/
theorem holds_turned {p : Pinned} {s : OpenSpec} {c : OpenClaim} (hst : c.start = .entering) (hsp : c.stops = []) (hwf : c.wf s = true) (hl : c.leaving = true) (h : ({ c with leaving := false } : OpenClaim).holds p s) : c.holds p s := by
  obtain ⟨_, h1, h2, h3, h4, h5, h6, h7, f, fn, k1, k2, k3, k4, k5, k6, k7, k8, k9, k10, k11, k12, k13, k14, k15, k16, k17, k18, k19, k20, k21, L, hL, hform⟩ := h
  refine ⟨hwf, h1, h2, h3, h4, h5, h6, h7, f, fn, k1, k2, k3, k4, k5, k6, k7, k8, k9, k10, k11, k12, k13, k14, k15, k16, k17, k18, k19, k20, k21, L, hL, fun os st q H enc inj => ?_⟩
  have hf := hform os st q H enc inj
  unfold OpenClaim.form at hf ⊢
  simp only [hst, hsp] at hf ⊢
  intro F
  refine ReturnsInOpen.mono (fun last w' t hh => ?_) (fun _ x => x) (hf F)
  unfold OpenClaim.atReturn
  rw [hl]
  exact alone_leaving hh
section
variable {H : Type}
theorem bulk_one (d : DataW H) : 1 ≤ Rows.uptoBulk d := by
  cases d with
  | lit l => cases l <;> simp [Rows.uptoBulk]
  | nil => simp [Rows.uptoBulk]
  | ptr d => simp [Rows.uptoBulk]
  | slice elems spare => simp [Rows.uptoBulk]
  | agg parts => simp [Rows.uptoBulk]
  | iface t d => simp [Rows.uptoBulk]
  | map entries => simp [Rows.uptoBulk]
  | held h => simp [Rows.uptoBulk]
theorem bulk_part {d : DataW H} {l : List (DataW H)} (h : d ∈ l) : Rows.uptoBulk d ≤ Rows.uptoBulkAll l := by
  induction l with
  | nil => cases h
  | cons x r ih =>
    simp only [Rows.uptoBulkAll]
    cases List.mem_cons.1 h with
    | inl e => subst e; omega
    | inr e => have := ih e; omega
theorem bulk_len (l : List (DataW H)) : l.length ≤ Rows.uptoBulkAll l := by
  induction l with
  | nil => simp [Rows.uptoBulkAll]
  | cons x r ih => have := bulk_one x; simp only [Rows.uptoBulkAll, List.length_cons]; omega
variable {enc : TypeId × Value → H} {w : World} {base : Nat} {spare : Nat → Bool} {held : Bool}
set_option maxRecDepth 100000 in
theorem open_len' {t e fuel : Nat} {ao : Option Addr} {len cap : Nat} {x : DataW H × List MemPlace} (ht : Try.prog.underlying t = some (.slice e)) (h : DataW.trod enc Try.prog w base spare held fuel t [.slice ao len cap] = some x) : len ≤ Rows.uptoBulk x.1 := by
  rcases open_slice ht h with ⟨h1, _⟩ | ⟨a, len', cap', m, n, D, Pl, hcs, hb, hl, hm, hmm, hx, hi⟩
  · simp only [List.cons.injEq, and_true, Value.slice.injEq] at h1
    omega
  · simp only [List.cons.injEq, and_true, Value.slice.injEq] at hcs
    rw [hx]
    simp only [Rows.uptoBulk]
    have := bulk_len ((List.range len').map D)
    rw [List.length_map, List.length_range] at this
    omega
theorem c73 : Try.prog.cellsOf 85 = 1 := c85
theorem many_le {ls : List (List Dn)} (h : ∀ l ∈ ls, l.length ≤ 1048576) : manyL ls ≤ ls.length * 1048576 := by
  induction ls with
  | nil => simp [manyL]
  | cons l ls ih =>
    have h1 := h l (by simp)
    have h2 := ih fun l hl => h l (by simp [hl])
    unfold manyL at *
    simp only [List.map_cons, List.sum_cons, List.length_cons]
    omega
set_option maxRecDepth 100000 in
/-- Threads' deeds, come in. -/
theorem open_lists {v : Value} {d : DataW H} {ps : List MemPlace} {r : Reach} {b0 : Nat} (hv : Value.okWide Try.prog w r b0 73 v) (h : DataW.Trod enc Try.prog w base spare held 73 v d ps) (hk : Rows.uptoBulk d ≤ 1048576) :
    ∃ ls : List (List Dn), ReadsLs w v ls ∧ (∀ k, k ≤ ls.length → manyTo ls k ≤ 4000000000000000000) ∧ ∀ l ∈ ls, InLs l := by
  obtain ⟨a0, len0, cap0, rfl⟩ := okWide_slice Try.underlying73 hv
  obtain ⟨fuel, hf⟩ := h
  have hf : DataW.trod enc Try.prog w base spare held fuel 73 [.slice a0 len0 cap0] = some (d, ps) := hf
  have hlen : len0 ≤ Rows.uptoBulk d := open_len' Try.underlying73 hf
  have hcell : ∀ i, i < len0 → ∃ l : List Dn, (∃ b o lv, a0 = some ⟨b, o, none⟩ ∧ w.cell? ⟨b, o + i, none⟩ = some lv ∧ ReadsE w lv l) ∧ l.length ≤ 1048576 ∧ InLs l := by
    intro i hi
    rcases open_slice Try.underlying73 hf with ⟨h1, _⟩ | ⟨a, len', cap', m, n, D, Pl, hcs, hb, hl, hm, hmm, hx, hii⟩
    · simp only [List.cons.injEq, and_true, Value.slice.injEq] at h1
      omega
    · simp only [List.cons.injEq, and_true, Value.slice.injEq] at hcs
      obtain ⟨rfl, rfl, rfl⟩ := hcs
      obtain ⟨cs', hc, ht'⟩ := hii i (by rw [hmm]; split <;> omega)
      obtain ⟨_, hcl, hat⟩ := World.cells?_some hc
      rw [c85] at hcl hat
      obtain ⟨cs0, hc0, _⟩ := hii 0 (by rw [hmm]; split <;> omega)
      obtain ⟨_, hcl0, hat0⟩ := World.cells?_some hc0
      rw [c85] at hcl0 hat0
      obtain ⟨b, o, sp⟩ := a
      have hs := hat0 0 (by decide)
      rw [List.getElem?_eq_getElem (by omega)] at hs
      obtain rfl : sp = none := by simpa [Addr.add] using spot_none hs
      obtain ⟨lv, rfl⟩ : ∃ lv, cs' = [lv] := by
        match cs', hcl with
        | [lv], _ => exact ⟨lv, rfl⟩
      obtain ⟨ao, L, cap, rfl, _, _, hR, hI⟩ := open_deeds ht'
      have hL : L.length ≤ Rows.uptoBulk (D i) := open_len' Try.underlying85 ht'
      have hD : Rows.uptoBulk (D i) ≤ Rows.uptoBulk d := by
        have hx : d = .slice ((List.range len0).map D) ((List.range (m - len0)).map fun j => D (len0 + j)) := congrArg Prod.fst hx
        rw [hx]
        simp only [Rows.uptoBulk]
        have := bulk_part (d := D i) (l := (List.range len0).map D) (List.mem_map.2 ⟨i, List.mem_range.2 hi, rfl⟩)
        omega
      refine ⟨L, ⟨b, o, _, rfl, ?_, hR (by omega)⟩, by omega, hI⟩
      have := hat 0 (by decide)
      rw [Addr.add_mid, Addr.add_mid] at this
      simpa using this
  obtain ⟨ls, rfl, hR⟩ := choose_list len0 (fun i (l : List Dn) => (∃ b o lv, a0 = some ⟨b, o, none⟩ ∧ w.cell? ⟨b, o + i, none⟩ = some lv ∧ ReadsE w lv l) ∧ l.length ≤ 1048576 ∧ InLs l) [] hcell
  have hget : ∀ l ∈ ls, l.length ≤ 1048576 ∧ InLs l := fun l hl => by
    obtain ⟨i, hi, rfl⟩ := List.getElem_of_mem hl
    have := (hR i hi).2
    simpa [List.getD, hi] using this
  refine ⟨ls, ⟨by omega, a0, cap0, rfl, fun i hi => (hR i hi).1⟩, fun k hk => ?_, fun l hl => (hget l hl).2⟩
  unfold manyTo
  have := many_le (ls := ls.take k) (fun l hl => (hget l (List.mem_of_mem_take hl)).1)
  rw [List.length_take] at this
  have h2 : min k ls.length * 1048576 ≤ 1048576 * 1048576 := Nat.mul_le_mul_right _ (by omega)
  omega
end
end Go.Proofs.Ytkjloeefcaadlaa
/- What the document tells of two threads: plain. -/
namespace Go.Proofs.Ytkjloeefcaadlaa
open Go.RowKit Go.Shelf Go.Cs
def wl : List Dn := [⟨1, 3, 2⟩, ⟨2, 0, 0⟩]
def wm0 : Ma := newM 0 [wl, wl]
def wm1 : Ma := (runM DS rightB wm0 [0, 1, 0, 1, 1, 1]).1
def wm2 : Ma := (runM DS rightB wm1 [0, 0, 1, 1, 1, 1]).1
def wbad : List Mo := wm1.hist.set 0 { wm1.hist.getD 0 .no with slot := 0, ok := false }
theorem wk_ok : newOk rightB 0 [wl, wl] = true := by decide +kernel
theorem wk_n : (runM DS rightB wm0 [0, 1, 0, 1, 1, 1]).2 = 6 := by decide +kernel
theorem wk_step : (stepM DS rightB wm0 2).2 = false := by decide +kernel
theorem wk_does : DS wm1.word ⟨2, 0, 0⟩ = (0, 3, true) := by decide +kernel
theorem wk_len : wm1.hist.length = 2 ∧ wm2.hist.length = 4 ∧ wm1.ths.length = 2 ∧ wm1.clock = 6 := by decide +kernel
theorem wk_h0 : (wm1.hist.getD 0 .no).en = 3 ∧ (wm1.hist.getD 0 .no).ok = true ∧ (wm1.hist.getD 1 .no).en = 6 ∧ (wm1.hist.getD 1 .no).ok = false := by decide +kernel
theorem wk_right : rightM rightB wm2 = true := by decide +kernel
theorem wk_lin2 : linM DS rightB 0 wm2.hist wm2.word = true := by decide +kernel
theorem wk_lin1 : linM DS rightB 0 wm1.hist wm1.word = true := by decide +kernel
theorem wk_bad : linM DS rightB 0 wbad wm1.word = false := by decide +kernel
theorem wk_same : sameM wm2 wm2 = true ∧ sameM wm2 wm1 = false := by decide +kernel
/-- In range, the history, too. -/
def InMH (m : Ma) : Prop := InM m ∧ InH m.hist
theorem InMH.step {m : Ma} (h : InMH m) (i : Int) : InMH (stepM DS rightB m i).1 := by
  refine ⟨h.1.step i, ?_⟩
  by_cases hm : mayM rightB m i = true
  · obtain ⟨hr, k, rfl, hk, hl⟩ := mayM_iff.1 hm
    rw [stepM_go hm]
    unfold goM
    split
    · next hld =>
      unfold swapM
      split
      · exact h.2
      · intro q hq
        rw [List.length_set] at hq
        rw [getD_set]
        split
        · next e =>
          obtain ⟨e1, e2⟩ := e
          exact h.2 _ (by rw [e1]; exact e2)
        · exact h.2 q hq
    · unfold readM
      dsimp only
      split
      · intro q hq
        rw [List.length_append, List.length_singleton] at hq
        rw [getD_snoc]
        split
        · next e => exact h.2 q e
        · split
          · exact h.1.left k hk 0 hl
          · omega
      · exact h.2
  · rw [stepM_no (by simpa using hm)]
    exact h.2
theorem InMH.run {m : Ma} (h : InMH m) (is : List Int) : InMH (runM DS rightB m is).1 := by
  induction is generalizing m with
  | nil => exact h
  | cons i is ih =>
    rw [runM_cons]
    exact ih (h.step i)
theorem InMH.new {x : Nat} {ls : List (List Dn)} (hx : x < 18446744073709551616) (hl : ∀ l ∈ ls, InLs l) : InMH (newM x ls) := by
  have hg : ∀ i, i < (newM x ls).ths.length → ∃ l ∈ ls, (newM x ls).ths.getD i .no = newT l := by
    intro i hi
    have hi : i < ls.length := by simpa [newM] using hi
    refine ⟨ls[i], List.getElem_mem hi, ?_⟩
    show (ls.map newT).getD i .no = _
    simp [List.getD, hi]
  refine ⟨⟨hx, ?_, ?_⟩, fun i hi => by simp [newM] at hi⟩
  · intro i hi
    obtain ⟨l, _, e⟩ := hg i hi
    rw [e]
    exact Nat.zero_lt_succ _
  · intro i hi
    obtain ⟨l, hm, e⟩ := hg i hi
    rw [e]
    exact hl l hm
theorem wl_in : InLs wl := by
  intro i hi
  have : i = 0 ∨ i = 1 := by have : i < 2 := hi; omega
  rcases this with rfl | rfl <;> exact ⟨by decide, by decide⟩
theorem wm0_in : InMH wm0 := InMH.new (Nat.zero_lt_succ _) fun l hl => by
  simp at hl
  subst hl
  exact wl_in
theorem wm1_in : InMH wm1 := wm0_in.run _
theorem wm2_in : InMH wm2 := wm1_in.run _
theorem wbad_in : InH wbad := by
  intro i hi
  unfold wbad at hi ⊢
  rw [List.length_set] at hi
  rw [getD_set]
  split
  · exact wm1_in.2 0 (by rw [wk_len.1]; decide)
  · exact wm1_in.2 i hi
/-- A call in a region whose loads are taken first. -/
theorem opH_call {P : Program} {ops : Array Oper} {Q : Exit → Act → World → Prop} {i : Nat} {o : Oper} (d : Option Tmp) {a : Act} {w : World} {K : Act → World → Prop} (hi : ops[i]? = some o) (hw : Region.wanted o (yielded ops a.tmps) = true) (hd : o.dst = d)
    (f : FuncId) (args : Array Value) (h : (execOp a.eval o).run P w = .ok (.enter f args) w) (hc : Calls P f args w fun e w' => ∃ v, e = .returned v ∧ K (a.put d v) w') : wpOp P ops Q i K a w := by
  subst hd
  unfold Go.wpOp
  simp only [hi, hw, if_true, Oper.wp, h, Oper.upon]
  refine .inl (hc.mono ?_)
  rintro e w' ⟨v, rfl, hk⟩
  exact hk
theorem opH_value {P : Program} {ops : Array Oper} {Q : Exit → Act → World → Prop} {i : Nat} {o : Oper} (d : Option Tmp) {v : Value} {a : Act} {w w' : World} {K : Act → World → Prop} (hi : ops[i]? = some o) (hw : Region.wanted o (yielded ops a.tmps) = true) (hd : o.dst = d)
    (h : (execOp a.eval o).run P w = .ok (.value v) w') (hK : K (a.put d v) w') : wpOp P ops Q i K a w := by
  subst hd
  unfold Go.wpOp
  simp only [hi, hw, if_true, Oper.wp, h, Oper.upon]
  first | exact hK | exact .inl hK
theorem opH_skip {P : Program} {ops : Array Oper} {Q : Exit → Act → World → Prop} {i : Nat} {o : Oper} (d : Option Tmp) {a : Act} {w w' : World} {K : Act → World → Prop} (hi : ops[i]? = some o) (hw : Region.wanted o (yielded ops a.tmps) = true) (hd : o.dst = d)
    (h : (execOp a.eval o).run P w = .ok .skip w') (hK : K (a.put d undef) w') : wpOp P ops Q i K a w := by
  subst hd
  unfold Go.wpOp
  simp only [hi, hw, if_true, Oper.wp, h, Oper.upon]
  first | exact hK | exact .inl hK
/-- Number i goes first, where it yields v in every world that meets S. -/
theorem anyH_take {P : Program} {ops : Array Oper} {Q : Exit → Act → World → Prop} {md : Region.Mode} {S : World → Prop} (i : Nat) {oi : Oper} (d : Option Tmp) (v : Value) {fuel : Nat} {listed : Array Bool} {a : Act} {w : World} (hi : ops[i]? = some oi) (hd : oi.dst = d)
    (hs : Region.noSelect ops = true) (hf : Region.free md ops listed i = true) (hr : (Region.ready md ops listed).contains i = true)
    (hQ : ∀ c a w, Q (.panic c) (a.put d v) w → Q (.panic c) a w) (hy : YieldsIf P ops S oi v a) (hS : S w)
    (h : wpAnyH P md ops Q S fuel (listed.setIfInBounds i true) (a.put d v) w) : wpAnyH P md ops Q S (fuel + 1) listed a w := by
  subst hd
  exact wpAnyH_take hi hs hf hr hQ hy hS h
end Go.Proofs.Ytkjloeefcaadlaa
/- Machines that are too great. -/
namespace Go.Proofs.Ytkjloeefcaadlaa
open Go.RowKit Go.Shelf Go.Cs
attribute [local go_sem] Oper.semAt_some
def greatB (m : Ma) : Bool := ((List.range (min m.ths.length 6)).any fun i => decide (20 < (m.ths.getD i .no).left.length)) || (decide (5 < m.ths.length) || decide (40 < m.hist.length))
set_option maxRecDepth 100000 in
set_option maxHeartbeats 4000000 in
theorem great_S (v : Value) (m : Ma) (w : World) (hv : ReadsM w v m) : Calls Try.prog 56 #[v] w fun e w' => e = .returned (.bool (greatB m)) ∧ New w w' := by
  obtain ⟨tv, hh, lv, rfl, hR⟩ := hv
  obtain ⟨⟨ao, cap, rfl⟩, ⟨ho, hcap, rfl⟩⟩ := hR.slices
  have hsm := hR.ths.1
  have HR := Lib.hid hR
  have hB : MB (w.alloc (.cells (maV m (.slice ao m.ths.length cap) (.slice ho m.hist.length hcap)).toArray 77)) w.heap.size m.word m.clock (.slice ao m.ths.length cap) (.slice ho m.hist.length hcap) := World.alloc_heap_new w _
  have hN : New w (w.alloc (.cells (maV m (.slice ao m.ths.length cap) (.slice ho m.hist.length hcap)).toArray 77)) := (Mods.refl _ _).alloc _
  obtain ⟨W, hW⟩ : ∃ W, w.alloc (.cells (maV m (.slice ao m.ths.length cap) (.slice ho m.hist.length hcap)).toArray 77) = W := ⟨_, rfl⟩
  have hW' : w.alloc (.cells #[.int .u64 (m.word : Nat), .int .i64 m.clock, .slice ao m.ths.length cap, .slice ho m.hist.length hcap] 77) = W := hW
  rw [hW] at hB hN
  obtain ⟨r, hr⟩ : ∃ r, greatB m = r := ⟨_, rfl⟩
  have Hr := Lib.hid hr
  rw [hr]
  have HB := Lib.hid hB
  have c2 := hB.c2
  have c3 := hB.c3
  have hRW := Lib.hid (hR.new hN)
  clear hr hR hB hW
  unfold maV
  go_enter Try.func56, Try.ntmps56
  go_wp2_with fail
  try rw [hW']
  clear hW'
  go_loop [3] (fun c => ∃ k : Nat, k ≤ m.ths.length ∧ k ≤ 6 ∧ c = .int .i64 (k : Nat) ∧ Hid (∀ q, q < k → (m.ths.getD q .no).left.length ≤ 20)) (fun c => 7 - (intOf c).toNat)
  case atStart => exact ⟨0, Nat.zero_le _, by decide, rfl, Lib.hid (fun i hi => by omega)⟩
  case round =>
    obtain ⟨k, hk, hk6, rfl, hbef⟩ := hrel
    by_cases hkn : k < m.ths.length
    · have hkd : decide ((k : Int) < (m.ths.length : Int)) = true := decide_eq_true (by omega)
      by_cases h5 : k ≤ 5
      · have h5d : decide ((k : Int) ≤ 5) = true := decide_eq_true (by omega)
        have k0 : (0 : Int) ≤ (k : Int) := by omega
        have k1 : (k : Int) < (m.ths.length : Int) := by omega
        obtain ⟨b, o, cap', hv, hra⟩ := hRW.out.thread hkn
        cases hv
        obtain ⟨_, la, lc, hle, _⟩ := hRW.out.left k hkn
        obtain ⟨t, ht⟩ : ∃ t, m.ths.getD k .no = t := ⟨_, rfl⟩
        rw [ht] at hra hle
        have Ht := Lib.hid ht
        have a0 : W.cell? ⟨b, o + k * 4, none⟩ = some (.slice la t.left.length lc) := by
          have := hra 0 (lv k) rfl
          rw [hle] at this
          exact this
        clear hra hle ht
        by_cases h20 : 20 < t.left.length
        · have d20 : decide ((20 : Int) < (t.left.length : Int)) = true := decide_eq_true (by omega)
          have hrf : Hid (r = true) := Lib.hid (by
            rw [← Hr.out]
            unfold greatB
            rw [Bool.or_eq_true]
            left
            rw [List.any_eq_true]
            exact ⟨k, List.mem_range.2 (by omega), by rw [Ht.out]; exact decide_eq_true h20⟩)
          have HN := Lib.hid hN
          go_wp2_with fail
          go_ret
          exact ⟨by rw [hrf.out]; rfl, HN.out⟩
        · have d20 : decide ((20 : Int) < (t.left.length : Int)) = false := decide_eq_false (by omega)
          have hnx : Hid (∀ q, q < k + 1 → (m.ths.getD q .no).left.length ≤ 20) := Lib.hid (fun q hq => by
            by_cases hqk : q < k
            · exact hbef.out q hqk
            · obtain rfl : q = k := by omega
              rw [Ht.out]; omega)
          go_wp2_with fail
          go_round
          case rel => exact ⟨k + 1, by omega, by omega, by go_num, hnx⟩
          case measure => simp [intOf]; omega
      · have h5d : decide ((k : Int) ≤ 5) = false := decide_eq_false (by omega)
        have h5n : decide ((5 : Int) < (m.ths.length : Int)) = true := decide_eq_true (by omega)
        have hrf : Hid (r = true) := Lib.hid (by
          rw [← Hr.out]
          unfold greatB
          rw [decide_eq_true (by omega : 5 < m.ths.length)]
          simp)
        have HN := Lib.hid hN
        go_wp2_with fail
        go_ret
        exact ⟨by rw [hrf.out]; rfl, HN.out⟩
    · obtain rfl : k = m.ths.length := by omega
      have hkd : decide ((m.ths.length : Int) < (m.ths.length : Int)) = false := decide_eq_false (by omega)
      have hany : ((List.range (min m.ths.length 6)).any fun i => decide (20 < (m.ths.getD i .no).left.length)) = false := by
        rw [List.any_eq_false]
        intro q hq
        have := hbef.out q (by have := List.mem_range.1 hq; omega)
        simp only [decide_eq_true_eq]
        omega
      have hrv : r = (decide (5 < m.ths.length) || decide (40 < m.hist.length)) := by rw [← Hr.out]; unfold greatB; rw [hany]; rfl
      have HN := Lib.hid hN
      by_cases h5 : 5 < m.ths.length
      · have h5d : decide ((5 : Int) < (m.ths.length : Int)) = true := decide_eq_true (by omega)
        have hrf : Hid (r = true) := Lib.hid (by rw [hrv, decide_eq_true h5]; rfl)
        clear hrv hany
        go_wp2_with fail
        go_ret
        exact ⟨by rw [hrf.out]; rfl, HN.out⟩
      · have h5d : decide ((5 : Int) < (m.ths.length : Int)) = false := decide_eq_false (by omega)
        have hrf : Hid (r = decide (40 < m.hist.length)) := Lib.hid (by rw [hrv, decide_eq_false h5]; rfl)
        have hcast : decide ((40 : Int) < (m.hist.length : Int)) = decide (40 < m.hist.length) := by
          by_cases h : 40 < m.hist.length
          · rw [decide_eq_true h, decide_eq_true (by omega)]
          · rw [decide_eq_false h, decide_eq_false (by omega)]
        clear hrv hany
        go_wp2_with fail
        go_ret
        exact ⟨by rw [hrf.out]; simp, HN.out⟩
end Go.Proofs.Ytkjloeefcaadlaa
