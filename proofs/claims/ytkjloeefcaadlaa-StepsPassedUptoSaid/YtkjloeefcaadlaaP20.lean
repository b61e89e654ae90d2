/- A run. -/
import Derived.Test.YtkjloeefcaadlaaP19
set_option linter.unusedSimpArgs false
set_option linter.unusedVariables false
namespace Go.Proofs.Ytkjloeefcaadlaa
open Go.RowKit Go.Shelf Go.Cs
attribute [local go_sem] Oper.semAt_some
theorem done_any (m : Ma) (tv hh : Value) (a : Option Addr) (n c : Nat) (w : World) : Calls Try.prog 108 #[.agg (maV m tv hh).toArray, .slice a n c] w fun e w' => e = .returned (.func (.func 152) #[] #[.pointer (some ⟨w.heap.size + 1, 0, none⟩), .pointer (some ⟨w.heap.size, 0, none⟩)]) ∧ (w.alloc (.cells (maV m tv hh).toArray 77)).alloc (.cells #[.slice a n c] 44) = w' := by
  unfold maV
  go_enter Try.func108, Try.ntmps108
  go_wp2
  go_ret
  exact ⟨rfl, rfl⟩
theorem range_quiet {B : Nat} {W W' : World} {b o : Nat} {cs : List Value} (h : W.rangeAt b o cs) (hq : Quiet B W W') : W'.rangeAt b o cs := fun j v hv => Stab.cell (B := B) _ _ _ _ (h j v hv) hq
theorem ReadsF.quiet {B : Nat} {W W' : World} {v : Value} {n sz : Nat} {f : Nat → List Value} (h : ReadsF W v n sz f) (hq : Quiet B W W') : ReadsF W' v n sz f := by
  obtain ⟨hl, ao, cap, rfl, hc⟩ := h
  refine ⟨hl, ao, cap, rfl, fun i hi => ?_⟩
  obtain ⟨b, o, rfl, h⟩ := hc i hi
  exact ⟨b, o, rfl, range_quiet h hq⟩
theorem ReadsE.quiet {B : Nat} {W W' : World} {v : Value} {L : List Dn} (h : ReadsE W v L) (hq : Quiet B W W') : ReadsE W' v L := by
  obtain ⟨hl, ao, cap, rfl, hc⟩ := h
  refine ⟨hl, ao, cap, rfl, fun i hi => ?_⟩
  obtain ⟨b, o, rfl, h⟩ := hc i hi
  exact ⟨b, o, rfl, range_quiet h hq⟩
theorem MaR.quiet {B : Nat} {W W' : World} {m : Ma} {tv hh : Value} {lv : Nat → Value} (h : MaR W m tv hh lv) (hq : Quiet B W W') : MaR W' m tv hh lv :=
  ⟨h.ths.quiet hq, fun i hi => (h.left i hi).quiet hq, h.hist.quiet hq⟩
/-- No row lies in the block. -/
structure NotIn (m : Ma) (tv hh : Value) (lv : Nat → Value) (M : Nat) : Prop where
  ths : 0 < m.ths.length → tv.ownBlock ≠ some M
  left : ∀ i, i < m.ths.length → 0 < (m.ths.getD i .no).left.length → (lv i).ownBlock ≠ some M
  hist : 0 < m.hist.length → hh.ownBlock ≠ some M
theorem MaR.notIn {W : World} {m : Ma} {tv hh : Value} {lv : Nat → Value} (h : MaR W m tv hh lv) {M : Nat} (hM : NB W M) : NotIn m tv hh lv M :=
  ⟨fun h0 hg => h.ths.no h0 (r := 1) rfl (.inl ⟨_, rfl⟩) hg hM, fun i hi h0 hg => (h.left i hi).no h0 hg hM, fun h0 hg => h.hist.no h0 (r := 1) rfl (.inr ⟨_, rfl⟩) hg hM⟩
theorem MaR.keptI {W W' : World} {m : Ma} {tv hh : Value} {lv : Nat → Value} (h : MaR W m tv hh lv) {M : Nat} (hn : NotIn m tv hh lv M) (hN : Mods (fun b => b = M) W W') : MaR W' m tv hh lv :=
  ⟨h.ths.kept0 hN fun h0 g hg e => hn.ths h0 (by rw [hg, e]), fun i hi => (h.left i hi).kept0 hN fun h0 g hg e => hn.left i hi h0 (by rw [hg, e]), h.hist.kept0 hN fun h0 g hg e => hn.hist h0 (by rw [hg, e])⟩
/-- What holds behind k rounds: the result's machine, its count. -/
def RunI (m : Ma) (is : List Int) (R C M : Nat) (W0 : World) (k : Nat) (W : World) : Prop :=
  ∃ tv hh lv, MB W R ((m :: ysM m is).getD k m).word ((m :: ysM m is).getD k m).clock tv hh ∧ MaR W ((m :: ysM m is).getD k m) tv hh lv ∧ NotIn ((m :: ysM m is).getD k m) tv hh lv M ∧ Boxed W C 3 (.int .i64 (k : Nat)) ∧ Mods (fun b => (b = R ∨ b = C) ∨ b = M) W0 W
theorem RunI.mods {m : Ma} {is : List Int} {R C M : Nat} {W0 : World} (hR : R ≠ M) (hC : C ≠ M) : ∀ k A A', RunI m is R C M W0 k A → Mods (fun b => b = M) A A' → RunI m is R C M W0 k A' := by
  rintro k A A' ⟨tv, hh, lv, hB, hr, hn, hb, hm⟩ hN
  exact ⟨tv, hh, lv, hN.heap hB hR, hr.keptI hn hN, hn, hN.boxed hb hC, hm.trans (hN.mono fun _ e => .inr e)⟩
theorem RunI.good {m : Ma} {is : List Int} {R C M : Nat} {W0 : World} : ∀ k A, RunI m is R C M W0 k A → NB A R ∧ NB A C := by
  rintro k A ⟨tv, hh, lv, hB, hr, hn, hb, hm⟩
  obtain ⟨⟨_, _, rfl⟩, ⟨_, _, rfl⟩⟩ := hr.slices
  refine ⟨hB.nb, NB.of_row (cs := [.int .i64 (k : Nat)]) hb ?_⟩
  intro v hv
  simp only [List.mem_cons, List.not_mem_nil, or_false] at hv
  subst hv
  exact ⟨(fun _ e => by cases e), (fun _ e => by cases e)⟩
theorem RunI.stab {m : Ma} {is : List Int} {R C M : Nat} {W0 : World} {B : Nat} (hB0 : W0.heap.size ≤ B) : ∀ k, Stab B (RunI m is R C M W0 k) := by
  rintro k W W' ⟨tv, hh, lv, hB, hr, hn, hb, hm⟩ hq
  exact ⟨tv, hh, lv, hq.block _ _ hB (.inr rfl), hr.quiet hq, hn, hq.block _ _ hb (.inr rfl), Stab.mods hB0 _ _ hm hq⟩
theorem results_2c {P : Program} {fn : Func} {p q : Tmp} {ty ty2 : TypeId} (h : fn.results = #[.cell p ty, .cell q ty2]) (tmps : Array Value) (w : World) (g : Nat) (t : TypeId) (cs : Array Value) (fr : Nat × Nat) (d : TypeDesc)
    (hp : tmps.getD p undef = .pointer (some ⟨g, 0, none⟩)) (hg : w.heap[g]? = some (.cells cs t fr))
    (hu : P.underlying ty = some d) (hd : (match d with | .struct _ | .array _ _ => true | _ => false) = true) (hi : (P.info? ty).map (·.size) = some cs.size) (c : Nat) (hq : tmps.getD q undef = .pointer (some ⟨c, 0, none⟩)) {v : Value} (hl : (loadVar ty2 ⟨c, 0, none⟩).run P w = .ok v w) :
    (results fn tmps).run P w = .ok (.tuple #[.agg cs, v]) w := by
  have hp' : tmps[p]?.getD undef = .pointer (some ⟨g, 0, none⟩) := by simpa using hp
  have hq' : tmps[q]?.getD undef = .pointer (some ⟨c, 0, none⟩) := by simpa using hq
  simp [results, h, hp', hq', asAddr, run_loadVar_row w g t ty cs fr d hg hu hd hi, hl]
theorem load_boxed3 {w : World} {c : Nat} {v : Value} (hb : Boxed w c 3 v) : (loadVar 3 ⟨c, 0, none⟩).run Try.prog w = .ok v w := by
  have hc := hb.cell
  go_simp
theorem runM_le {m : Ma} {is : List Int} : (runM DS rightB m is).2 ≤ is.length := by
  induction is generalizing m with
  | nil => exact Nat.le_refl _
  | cons i is ih =>
    rw [runM_cons]
    have := ih (m := (stepM DS rightB m i).1)
    simp only [List.length_cons]
    split <;> omega
def RunPost (w : World) (r : Ma × Nat) (e : Ending) (w' : World) : Prop := ∃ v', e = .returned (.tuple #[v', .int .i64 (r.2 : Nat)]) ∧ ReadsM w' v' r.1 ∧ New w w'
set_option maxRecDepth 100000 in
set_option maxHeartbeats 4000000 in
theorem run_S (v pv : Value) (m : Ma) (is : List Int) (w : World) (hv : ReadsM w v m) (hp : ReadsI .i64 w pv is) (hin : InM m) (hlen : m.hist.length + is.length < 2000000) :
    Calls Try.prog 53 #[v, pv] w (RunPost w (runM DS rightB m is)) := by
  obtain ⟨tv, hh, lv, rfl, hR⟩ := hv
  obtain ⟨⟨ao, cap, rfl⟩, ⟨ho, hcap, rfl⟩⟩ := hR.slices
  have HO := Lib.hid (own_any · m)
  have Hlen := Lib.hid hlen
  have HR := Lib.hid hR
  have HP := Lib.hid hp
  have Hin := Lib.hid hin
  obtain ⟨hpl, pao, pcap, rfl, _⟩ := hp
  clear hlen hR hin
  obtain ⟨W0, hW0⟩ : ∃ W, ((w.alloc (.cells #[.int .u64 (m.word : Nat), .int .i64 m.clock, .slice ao m.ths.length cap, .slice ho m.hist.length hcap] 77)).alloc (.cells #[.int .u64 0, .int .i64 0, .slice none 0 0, .slice none 0 0] 77)).alloc (.cells #[.int .i64 0] 3) = W := ⟨_, rfl⟩
  have hB : MB W0 w.heap.size m.word m.clock (.slice ao m.ths.length cap) (.slice ho m.hist.length hcap) := by
    rw [← hW0]
    exact MB.new (World.alloc_heap_new w _) (((Mods.refl _ _).alloc _).alloc _)
  have hC : MB W0 (w.heap.size + 1) 0 0 (.slice none 0 0) (.slice none 0 0) := by
    rw [← hW0]
    have := World.alloc_heap_new (w.alloc (.cells #[.int .u64 (m.word : Nat), .int .i64 m.clock, .slice ao m.ths.length cap, .slice ho m.hist.length hcap] 77)) (.cells #[.int .u64 0, .int .i64 0, .slice none 0 0, .slice none 0 0] 77)
    rw [World.size_alloc] at this
    exact MB.new this ((Mods.refl _ _).alloc _)
  have hb : Boxed W0 (w.heap.size + 2) 3 (.int .i64 0) := by rw [← hW0]; exact boxed2 w _ _ _ _
  have hN : New w W0 := by rw [← hW0]; exact (((Mods.refl _ _).alloc _).alloc _).alloc _
  have hl77 : (Try.prog.info? 77).map (·.size) = some (#[.int .u64 (m.word : Nat), .int .i64 m.clock, .slice ao m.ths.length cap, .slice ho m.hist.length hcap] : Array Value).size := info77
  have hRM : ReadsM W0 (.agg #[.int .u64 (m.word : Nat), .int .i64 m.clock, .slice ao m.ths.length cap, .slice ho m.hist.length hcap]) m := ⟨_, _, lv, rfl, HR.out.new hN⟩
  refine calls_of_marks Try.func53 rfl ?_
  unfold maV
  simp only [Try.ntmps53, List.size_toArray, List.length_cons, List.length_nil, Nat.reduceAdd, Nat.reduceSub, Array.replicate_succ, Array.replicate_zero, List.push_toArray, List.append_toArray, List.nil_append, List.cons_append]
  go_upto_region 1 with fail
  try rw [hW0]
  clear hW0
  go_wp2_with (refine op_value rfl (run_load_row 77 (.tmp 2) rfl w.heap.size rfl 77 #[.int .u64 (m.word : Nat), .int .i64 m.clock, .slice ao m.ths.length cap, .slice ho m.hist.length hcap] (0, 0) _ hB Try.underlying77 rfl hl77) ?_)
  refine (HO.out _ _ hRM).mono ?_
  rintro e w1 ⟨tv', hh', lv', rfl, hM, hN1⟩
  obtain ⟨ta, tc, rfl⟩ := owns_slice hM.ths
  obtain ⟨ha, hc', rfl⟩ := owns_slice hM.hist
  have hB1 := hB.new hN1
  have hC1 : w1.heap[w.heap.size + 1]? = some (.cells #[.int .u64 0, .int .i64 0, .slice none 0 0, .slice none 0 0] 77 (0, 0)) := hC.new hN1
  have hb1 := hN1.boxed hb id
  have hone := maV_one hM
  have hl2 : (Try.prog.info? 77).map (·.size) = some (maV m (.slice ta m.ths.length tc) (.slice ha m.hist.length hc')).length := info77
  have hSt := mods_setRow hC1 (maV m (.slice ta m.ths.length tc) (.slice ha m.hist.length hc')).toArray
  have hnbR : NB w1 (w.heap.size + 1) := MB.nb (show MB w1 (w.heap.size + 1) 0 0 (.slice none 0 0) (.slice none 0 0) from hC1)
  have hB2 : MB (w1.setRow (w.heap.size + 1) (maV m (.slice ta m.ths.length tc) (.slice ha m.hist.length hc')).toArray) w.heap.size m.word m.clock (.slice ao m.ths.length cap) (.slice ho m.hist.length hcap) := hSt.heap hB1 (by omega)
  have hR2 := hM.reads.keptN hSt fun b e => by subst e; exact hnbR
  have hRB : MB (w1.setRow (w.heap.size + 1) (maV m (.slice ta m.ths.length tc) (.slice ha m.hist.length hc')).toArray) (w.heap.size + 1) m.word m.clock (.slice ta m.ths.length tc) (.slice ha m.hist.length hc') := setRow_heap w1 (w.heap.size + 1) _ _ 77 (0, 0) hC1
  have hb2 := hSt.boxed hb1 (by omega)
  have hN2 : New w (w1.setRow (w.heap.size + 1) (maV m (.slice ta m.ths.length tc) (.slice ha m.hist.length hc')).toArray) := (hN.trans hN1).setRow (by omega) _
  have F2 := Lib.hid (And.intro hB2 (And.intro hR2 (And.intro hRB (And.intro hb2 hN2))))
  clear hB2 hR2 hRB hb2 hN2 hSt hB1 hM hN1 hN hB hC hb hRM HO
  go_upto_region 2 with (refine op_skip rfl (run_store_row 77 (.tmp 4) (.tmp 8) rfl (w.heap.size + 1) rfl 77 [.int .u64 0, .int .i64 0, .slice none 0 0, .slice none 0 0] (maV m (.slice ta m.ths.length tc) (.slice ha m.hist.length hc')) rfl hC1 hl2 rfl hone) ?_)
  obtain ⟨hB2, hR2, hRB, hb2, hN2⟩ := F2.out
  obtain ⟨w2, hw2⟩ : ∃ W, w1.setRow (w.heap.size + 1) (maV m (.slice ta m.ths.length tc) (.slice ha m.hist.length hc')).toArray = W := ⟨_, rfl⟩
  rw [hw2] at hB2 hR2 hRB hb2 hN2 ⊢
  clear hw2 F2 hnbR hC1 hb1 hone hl2
  go_wp2_with (refine op_value rfl (run_load_row 77 (.tmp 2) rfl w.heap.size rfl 77 #[.int .u64 (m.word : Nat), .int .i64 m.clock, .slice ao m.ths.length cap, .slice ho m.hist.length hcap] (0, 0) _ hB2 Try.underlying77 rfl hl77) ?_)
  refine (done_any m (.slice ao m.ths.length cap) (.slice ho m.hist.length hcap) pao is.length pcap _).mono ?_
  rintro e w3 ⟨rfl, hw3⟩
  have hN3 : New w2 w3 := by rw [← hw3]; exact ((Mods.refl _ _).alloc _).alloc _
  obtain ⟨M, hMM⟩ : ∃ M, w2.heap.size = M := ⟨_, rfl⟩
  have hMB : MB w3 M m.word m.clock (.slice ao m.ths.length cap) (.slice ho m.hist.length hcap) := by
    rw [← hw3, ← hMM]
    exact MB.new (World.alloc_heap_new w2 _) ((Mods.refl _ _).alloc _)
  have hPB : Boxed w3 (M + 1) 44 (.slice pao is.length pcap) := by rw [← hw3, ← hMM]; exact boxed1 _ _ _ _
  have hwM : w.heap.size + 1 + 1 < M := by
    rw [← hMM]
    exact (Array.getElem?_eq_some_iff.1 hb2).1
  have hNw := hN2.trans hN3
  have hR3 := hR2.new hN3
  have hRB3 := hRB.new hN3
  have hb3 := hN3.boxed hb2 id
  rw [hMM]
  clear hw3 hB2 hR2 hRB hb2 hN2 hN3 hMM hl77
  have hk : ∀ A A', ReadsI .i64 A (.slice pao is.length pcap) is → Mods (fun b => b = w.heap.size + 1 ∨ b = w.heap.size + 1 + 1 ∨ b = M) A A' → ReadsI .i64 A' (.slice pao is.length pcap) is := by
    intro A A' hA hm
    obtain ⟨_, a0, c0, e0, h0⟩ := HP.out
    cases e0
    obtain ⟨q1, a1, c1, e1, q2⟩ := hA
    cases e1
    refine ⟨q1, pao, pcap, rfl, fun i hi => ?_⟩
    obtain ⟨b, o, rfl, hcell⟩ := q2 i hi
    obtain ⟨b', o', e2, hcell'⟩ := h0 i hi
    cases e2
    have := World.block_lt_of_cell? w _ hcell'
    dsimp only at this
    exact ⟨b, o, rfl, hm.cell hcell (by rintro (e | e | e) <;> (dsimp only at e; omega))⟩
  have hnM : NB w3 M := hMB.nb
  have hI0 : RunI m is (w.heap.size + 1) (w.heap.size + 1 + 1) M w3 0 w3 := ⟨_, _, _, hRB3, hR3, hR3.notIn hnM, hb3, Mods.refl _ _⟩
  have hit : ∀ W, New w3 W → IterAtV Try.prog 152 #[.pointer (some ⟨M + 1, 0, none⟩), .pointer (some ⟨M, 0, none⟩)] (ysM m is).length (VM m is M) (fun A => NB A (w.heap.size + 1) ∧ NB A (w.heap.size + 1 + 1)) (fun b => b = w.heap.size + 1 ∨ b = w.heap.size + 1 + 1) (fun b => b = M) (fun _ => True) W := fun W hW =>
    done_iter (M + 1) M (w.heap.size + 1) (w.heap.size + 1 + 1) is (.slice pao is.length pcap) m W (by omega) (by omega) (by omega) (by omega) (by omega) Hin.out Hlen.out ⟨_, _, lv, hMB.new hW, (HR.out.new hNw).new hW⟩ (hW.boxed hPB id) (HP.out.new (hNw.trans hW)) hk
  have HNw := Lib.hid hNw
  have Hit := Lib.hid hit
  have HI0 := Lib.hid hI0
  clear hit hI0 hk hnM hR3 hRB3 hb3 hMB hPB hNw
  go_wp2_with fail
  refine wp_rangeListV (gf := 152) (lb := #[.pointer (some ⟨M + 1, 0, none⟩), .pointer (some ⟨M, 0, none⟩)]) rfl (enters_of Try.func152 (by kernel_rfl) rfl) (ysM m is).length (VM m is M) (fun A => NB A (w.heap.size + 1) ∧ NB A (w.heap.size + 1 + 1)) (fun b => b = w.heap.size + 1 ∨ b = w.heap.size + 1 + 1) (fun b => b = M) (fun _ => True) (.pure _)
    Hit.out (fun k x W ⟨m', v, _, hx, _⟩ => by rw [hx]; rfl) (RunI m is (w.heap.size + 1) (w.heap.size + 1 + 1) M w3) (fun _ _ _ => False) (RunI.mods (by omega) (by omega)) (fun _ _ _ _ h _ => h.elim) RunI.good (RunI.stab (Nat.le_refl _)) (fun _ _ => .pure _) HI0.out ?round ?done ?stop
  case stop => exact fun _ _ _ _ h _ => h.elim
  case round =>
    rintro lp k x W hkn ⟨m', v, hval, rfl, ⟨t1, h1, l1, rfl, hR1⟩, hnM⟩ hlp _ hI
    have hone := maV_oneR hR1
    gi_wp2_with (refine opIn_skip1 rfl rfl (run_store_new 77 (.tmp 6) (.tmp 12) rfl 77 [.int .u64 0, .int .i64 0, .slice none 0 0, .slice none 0 0] (maV m' t1 h1) rfl rfl info77 rfl hone) ?_)
    refine ⟨(Mods.refl _ _).alloc _, ?_⟩
    rintro W2 hq _
    have hNa : New W (W.alloc (.cells (maV m' t1 h1).toArray 77)) := (Mods.refl _ _).alloc _
    have hI2 := RunI.stab (Nat.le_refl _) k _ _ (RunI.mods (by omega) (by omega) k _ _ hI (Mods.ofNew hNa)) hq
    have hX := hq.block _ _ (World.alloc_heap_new W (.cells (maV m' t1 h1).toArray 77)) (.inr rfl)
    have hR2 := (hR1.new hNa).quiet hq
    have hni := hR1.notIn hnM
    have hWl : w.heap.size + 1 + 1 < W.heap.size := by
      obtain ⟨_, _, _, _, _, _, hb, _⟩ := hI
      exact (Array.getElem?_eq_some_iff.1 hb).1
    obtain ⟨X, hXX⟩ : ∃ X, W.heap.size = X := ⟨_, rfl⟩
    rw [hXX] at hX hWl ⊢
    have hval' : (m :: ysM m is).getD (k + 1) m = m' := by simp [List.getD, hval]
    obtain ⟨t2, h2, l2, hRB, hR0, _, hb, hMd⟩ := hI2
    have hnR : NB W2 (w.heap.size + 1) := by
      obtain ⟨⟨_, _, rfl⟩, ⟨_, _, rfl⟩⟩ := hR0.slices
      exact hRB.nb
    have hRB' : W2.heap[w.heap.size + 1]? = some (.cells (maV ((m :: ysM m is).getD k m) t2 h2).toArray 77 (0, 0)) := hRB
    have hl1 : (Try.prog.info? 77).map (·.size) = some (maV m' t1 h1).toArray.size := info77
    have hl2 : (Try.prog.info? 77).map (·.size) = some (maV m' t1 h1).length := info77
    have hl3 : (maV ((m :: ysM m is).getD k m) t2 h2).length = (maV m' t1 h1).length := rfl
    have hSt := mods_setRow hRB' (maV m' t1 h1).toArray
    have hR3 := hR2.keptN hSt fun b e => by subst e; exact hnR
    have hB3 : MB (W2.setRow (w.heap.size + 1) (maV m' t1 h1).toArray) (w.heap.size + 1) m'.word m'.clock t1 h1 := setRow_heap W2 (w.heap.size + 1) _ _ 77 (0, 0) hRB'
    have hb3 := hSt.boxed hb (by omega)
    have c3 := hb3.cell
    have f3 := hb3.frozen
    have hnC : NB (W2.setRow (w.heap.size + 1) (maV m' t1 h1).toArray) (w.heap.size + 1 + 1) := NB.of_row (cs := [.int .i64 (k : Nat)]) hb3 (by
      intro v hv
      simp only [List.mem_cons, List.not_mem_nil, or_false] at hv
      subst hv
      exact ⟨(fun _ e => by cases e), (fun _ e => by cases e)⟩)
    have hCt := setMods (W2.setRow (w.heap.size + 1) (maV m' t1 h1).toArray) (w.heap.size + 1 + 1) 0 (.int .i64 ((k + 1 : Nat) : Int))
    have hfin : Hid (RunI m is (w.heap.size + 1) (w.heap.size + 1 + 1) M w3 (k + 1) ((W2.setRow (w.heap.size + 1) (maV m' t1 h1).toArray).setCell ⟨w.heap.size + 1 + 1, 0, none⟩ (.int .i64 ((k + 1 : Nat) : Int)))) := Lib.hid (by
      unfold RunI
      rw [hval']
      refine ⟨t1, h1, l1, hCt.heap hB3 (by omega), hR3.keptN hCt fun b e => by subst e; exact hnC, hni, ?_, ?_⟩
      · exact heap_setCell_same _ _ _ _ _ _ hb3
      · exact (hMd.trans (hSt.mono fun _ e => .inl (.inl e))).trans (hCt.mono fun _ e => .inl (.inr e)))
    have hMo : Hid (Mods (fun b => b = w.heap.size + 1 ∨ b = w.heap.size + 1 + 1) W2 ((W2.setRow (w.heap.size + 1) (maV m' t1 h1).toArray).setCell ⟨w.heap.size + 1 + 1, 0, none⟩ (.int .i64 ((k + 1 : Nat) : Int)))) := Lib.hid ((hSt.mono fun _ e => .inl e).trans (hCt.mono fun _ e => .inr e))
    have hkl : (k : Int) + 1 ≤ 2000000 := by
      have h1 := ysM_len m is
      have h2 := runM_le (m := m) (is := is)
      have := Hlen.out
      omega
    clear hCt hnC hb3 hB3 hR3 hSt hMd hR0 hb hRB hval' hval hni hR2 hq hI hNa hR1 hnR hXX hnM HI0 Hit
    gi_wp2_with (first | (refine opIn_value1 rfl rfl (run_load_row 77 (.tmp 6) rfl X rfl 77 (maV m' t1 h1).toArray (0, 0) _ hX Try.underlying77 rfl hl1) ?_) | (refine opIn_skip1 rfl rfl (run_store_row 77 (.tmp 4) (.tmp 13) rfl (w.heap.size + 1) rfl 77 (maV ((m :: ysM m is).getD k m) t2 h2) (maV m' t1 h1) rfl hRB' hl2 hl3 hone) ?_))
    have ek : ((k + 1 : Nat) : Int) = (k : Int) + 1 := by omega
    have hMo' := hMo.out
    have hfin' := hfin.out
    rw [ek] at hMo' hfin'
    exact ⟨hMo', hfin'⟩
  case done =>
    rintro W hI _ hD
    have hlast := ysM_last m is
    have hlen := ysM_len m is
    obtain ⟨n, hn⟩ : ∃ n, (ysM m is).length = n := ⟨_, rfl⟩
    rw [hn] at hI hlen hlast
    obtain ⟨t1, h1, l1, hB, hR, _, hb, hMd⟩ := hI
    rw [hlast] at hB hR
    obtain ⟨m', hm'⟩ : ∃ x, (runM DS rightB m is).1 = x := ⟨_, rfl⟩
    rw [hm'] at hB hR
    have Hr : Hid (runM DS rightB m is = (m', n)) := Lib.hid (by rw [← hm', hlen])
    obtain ⟨⟨qa, qc, rfl⟩, ⟨ra, rc, rfl⟩⟩ := hR.slices
    have HR1 := Lib.hid hR
    have HMd := Lib.hid hMd
    have HD := Lib.hid hD
    have HB := Lib.hid hB
    have Hb := Lib.hid hb
    clear hlast hlen hn hm' hR hMd hD HI0 Hit hB hb HR
    go_upto_region 6 with fail
    refine piece (fun a a' W' => a' = (a.put (some 16) (.agg (maV m' (.slice qa m'.ths.length qc) (.slice ra m'.hist.length rc)).toArray) |>.put (some 17) (.int .i64 (n : Nat))) ∧ W' = W.drew.setCell ⟨w.heap.size + 1 + 1, 0, none⟩ (.int .i64 (n : Nat))) ?_ ?_
    · refine (wpIn_wide (n := 0)).1 ?_
      refine wpIn_region_any (by kernel_rfl) ?_
      show wpAnyIn _ _ _ _ _ _ _ _ _ W.drew
      have hone := maV_oneR HR1.out
      have hl1 : (Try.prog.info? 77).map (·.size) = some (maV m' (.slice qa m'.ths.length qc) (.slice ra m'.hist.length rc)).toArray.size := info77
      have hB' : W.drew.heap[w.heap.size + 1]? = some (.cells (maV m' (.slice qa m'.ths.length qc) (.slice ra m'.hist.length rc)).toArray 77 (0, 0)) := HB.out
      have hbd : Boxed W.drew (w.heap.size + 1 + 1) 3 (.int .i64 (n : Nat)) := Hb.out
      obtain ⟨Wd, hWd⟩ : ∃ Wd, W.drew = Wd := ⟨_, rfl⟩
      rw [hWd] at hB' hbd ⊢
      have c1 := hbd.cell
      have f1 := hbd.frozen
      clear hbd hWd
      refine wpAnyIn_all (rs := [0, 1]) (by kernel_rfl) (by simp) ?_
      simp only [List.mem_cons, List.not_mem_nil, or_false, forall_eq_or_imp, forall_eq]
      refine ⟨?_, ?_⟩
      · refine opIn_value (some 16) (v := .agg (maV m' (.slice qa m'.ths.length qc) (.slice ra m'.hist.length rc)).toArray) (w' := Wd) rfl rfl rfl rfl (run_load_row 77 (.tmp 4) rfl (w.heap.size + 1) rfl 77 (maV m' (.slice qa m'.ths.length qc) (.slice ra m'.hist.length rc)).toArray (0, 0) _ hB' Try.underlying77 rfl hl1) ?_
        simp only [Act.put, List.setIfInBounds_toArray, List.set_cons_succ, List.set_cons_zero]
        refine wpAnyIn_all (rs := [1, 2]) (by kernel_rfl) (by simp) ?_
        simp only [List.mem_cons, List.not_mem_nil, or_false, forall_eq_or_imp, forall_eq]
        refine ⟨?_, ?_⟩
        · refine opIn_value (some 17) (v := .int .i64 (n : Nat)) (w' := Wd) rfl rfl rfl rfl (by go_simp) ?_
          simp only [Act.put, List.setIfInBounds_toArray, List.set_cons_succ, List.set_cons_zero]
          refine wpAnyIn_all (rs := [2]) (by kernel_rfl) (by simp) ?_
          simp only [List.mem_cons, List.not_mem_nil, or_false, forall_eq_or_imp, forall_eq]
          refine opIn_skip none rfl rfl rfl rfl (run_store_same 77 (.tmp 4) (.tmp 16) rfl (w.heap.size + 1) rfl 77 (maV m' (.slice qa m'.ths.length qc) (.slice ra m'.hist.length rc)) rfl hB' info77 hone) ?_
          simp only [Act.put, List.setIfInBounds_toArray, List.set_cons_succ, List.set_cons_zero]
          refine wpAnyIn_all (rs := [3]) (by kernel_rfl) (by simp) ?_
          simp only [List.mem_cons, List.not_mem_nil, or_false, forall_eq_or_imp, forall_eq]
          refine opIn_skip none rfl rfl rfl rfl (w' := Wd.setCell ⟨w.heap.size + 1 + 1, 0, none⟩ (.int .i64 (n : Nat))) (by go_simp) ?_
          simp only [Act.put, List.setIfInBounds_toArray, List.set_cons_succ, List.set_cons_zero]
          refine wpAnyIn_done (by kernel_rfl) ?_ _
          exact ⟨rfl, rfl⟩
        · refine opIn_skip none rfl rfl rfl rfl (run_store_same 77 (.tmp 4) (.tmp 16) rfl (w.heap.size + 1) rfl 77 (maV m' (.slice qa m'.ths.length qc) (.slice ra m'.hist.length rc)) rfl hB' info77 hone) ?_
          simp only [Act.put, List.setIfInBounds_toArray, List.set_cons_succ, List.set_cons_zero]
          refine wpAnyIn_all (rs := [1]) (by kernel_rfl) (by simp) ?_
          simp only [List.mem_cons, List.not_mem_nil, or_false, forall_eq_or_imp, forall_eq]
          refine opIn_value (some 17) (v := .int .i64 (n : Nat)) (w' := Wd) rfl rfl rfl rfl (by go_simp) ?_
          simp only [Act.put, List.setIfInBounds_toArray, List.set_cons_succ, List.set_cons_zero]
          refine wpAnyIn_all (rs := [3]) (by kernel_rfl) (by simp) ?_
          simp only [List.mem_cons, List.not_mem_nil, or_false, forall_eq_or_imp, forall_eq]
          refine opIn_skip none rfl rfl rfl rfl (w' := Wd.setCell ⟨w.heap.size + 1 + 1, 0, none⟩ (.int .i64 (n : Nat))) (by go_simp) ?_
          simp only [Act.put, List.setIfInBounds_toArray, List.set_cons_succ, List.set_cons_zero]
          refine wpAnyIn_done (by kernel_rfl) ?_ _
          exact ⟨rfl, rfl⟩
      · refine opIn_value (some 17) (v := .int .i64 (n : Nat)) (w' := Wd) rfl rfl rfl rfl (by go_simp) ?_
        simp only [Act.put, List.setIfInBounds_toArray, List.set_cons_succ, List.set_cons_zero]
        refine wpAnyIn_all (rs := [0]) (by kernel_rfl) (by simp) ?_
        simp only [List.mem_cons, List.not_mem_nil, or_false, forall_eq_or_imp, forall_eq]
        refine opIn_value (some 16) (v := .agg (maV m' (.slice qa m'.ths.length qc) (.slice ra m'.hist.length rc)).toArray) (w' := Wd) rfl rfl rfl rfl (run_load_row 77 (.tmp 4) rfl (w.heap.size + 1) rfl 77 (maV m' (.slice qa m'.ths.length qc) (.slice ra m'.hist.length rc)).toArray (0, 0) _ hB' Try.underlying77 rfl hl1) ?_
        simp only [Act.put, List.setIfInBounds_toArray, List.set_cons_succ, List.set_cons_zero]
        refine wpAnyIn_all (rs := [2]) (by kernel_rfl) (by simp) ?_
        simp only [List.mem_cons, List.not_mem_nil, or_false, forall_eq_or_imp, forall_eq]
        refine opIn_skip none rfl rfl rfl rfl (run_store_same 77 (.tmp 4) (.tmp 16) rfl (w.heap.size + 1) rfl 77 (maV m' (.slice qa m'.ths.length qc) (.slice ra m'.hist.length rc)) rfl hB' info77 hone) ?_
        simp only [Act.put, List.setIfInBounds_toArray, List.set_cons_succ, List.set_cons_zero]
        refine wpAnyIn_all (rs := [3]) (by kernel_rfl) (by simp) ?_
        simp only [List.mem_cons, List.not_mem_nil, or_false, forall_eq_or_imp, forall_eq]
        refine opIn_skip none rfl rfl rfl rfl (w' := Wd.setCell ⟨w.heap.size + 1 + 1, 0, none⟩ (.int .i64 (n : Nat))) (by go_simp) ?_
        simp only [Act.put, List.setIfInBounds_toArray, List.set_cons_succ, List.set_cons_zero]
        refine wpAnyIn_done (by kernel_rfl) ?_ _
        exact ⟨rfl, rfl⟩
    · rintro a' W' ⟨rfl, rfl⟩
      simp only [Act.put, List.setIfInBounds_toArray, List.set_cons_succ, List.set_cons_zero]
      have hnC : NB W.drew (w.heap.size + 1 + 1) := NB.of_row (cs := [.int .i64 (n : Nat)]) Hb.out (by
        intro v hv
        simp only [List.mem_cons, List.not_mem_nil, or_false] at hv
        subst hv
        exact ⟨(fun _ e => by cases e), (fun _ e => by cases e)⟩)
      have hCt := setMods W.drew (w.heap.size + 1 + 1) 0 (.int .i64 (n : Nat))
      have hR2 := (HR1.out.new (Mods.refl _ W).drew).keptN hCt fun b e => by subst e; exact hnC
      have hB2 : MB (W.drew.setCell ⟨w.heap.size + 1 + 1, 0, none⟩ (.int .i64 (n : Nat))) (w.heap.size + 1) m'.word m'.clock (.slice qa m'.ths.length qc) (.slice ra m'.hist.length rc) := hCt.heap (show W.drew.heap[w.heap.size + 1]? = some _ from HB.out) (by omega)
      have hb2 : Boxed (W.drew.setCell ⟨w.heap.size + 1 + 1, 0, none⟩ (.int .i64 (n : Nat))) (w.heap.size + 1 + 1) 3 (.int .i64 (n : Nat)) := heap_setCell_same _ _ _ _ _ _ (show W.drew.heap[w.heap.size + 1 + 1]? = some _ from Hb.out)
      have hD2 : (W.drew.setCell ⟨w.heap.size + 1 + 1, 0, none⟩ (.int .i64 (n : Nat))).heap[w3.heap.size]? = some (.deferred (some [])) := by
        refine (heap_setCell_other W.drew ⟨w.heap.size + 1 + 1, 0, none⟩ w3.heap.size _ ?_).trans HD.out
        intro e
        have e : w3.heap.size = w.heap.size + 1 + 1 := e
        rw [e, Hb.out] at HD
        exact absurd HD.out (by simp)
      have hNf : New w (W.drew.setCell ⟨w.heap.size + 1 + 1, 0, none⟩ (.int .i64 (n : Nat))) := ((((Mods.ofNew HNw.out).trans HMd.out).new (by rintro b ((e | e) | e) <;> omega)).drew).setCell (p := ⟨w.heap.size + 1 + 1, 0, none⟩) (.inl (by show w.heap.size ≤ w.heap.size + 1 + 1; omega)) _
      obtain ⟨W5, hW5⟩ : ∃ W5, W.drew.setCell ⟨w.heap.size + 1 + 1, 0, none⟩ (.int .i64 (n : Nat)) = W5 := ⟨_, rfl⟩
      rw [hW5] at hR2 hB2 hb2 hD2 hNf ⊢
      have HF := Lib.hid (And.intro hR2 (And.intro hB2 (And.intro hb2 (And.intro hD2 hNf))))
      clear hW5 hR2 hB2 hb2 hD2 hNf hCt hnC HB Hb HR1 HD
      go_wp2_with fail
      obtain ⟨hR2, hB2, hb2, hD2, hNf⟩ := HF.out
      have hq : Quiet 0 W5 (W5.putObj w3.heap.size (.deferred none)) := Quiet.putObj _ hD2 rfl (Nat.zero_le _)
      have hl1 : (Try.prog.info? 77).map (·.size) = some (maV m' (.slice qa m'.ths.length qc) (.slice ra m'.hist.length rc)).toArray.size := info77
      have hB3 : (W5.putObj w3.heap.size (.deferred none)).heap[w.heap.size + 1]? = some (.cells (maV m' (.slice qa m'.ths.length qc) (.slice ra m'.hist.length rc)).toArray 77 (0, 0)) := hq.block _ _ hB2 (.inr rfl)
      have hb3 : Boxed (W5.putObj w3.heap.size (.deferred none)) (w.heap.size + 1 + 1) 3 (.int .i64 (n : Nat)) := hq.block _ _ hb2 (.inr rfl)
      refine marks_one rfl hD2 (v := .tuple #[.agg (maV m' (.slice qa m'.ths.length qc) (.slice ra m'.hist.length rc)).toArray, .int .i64 (n : Nat)]) (results_2c rfl _ _ _ 77 _ (0, 0) _ rfl hB3 Try.underlying77 rfl hl1 _ rfl (load_boxed3 hb3)) ?_
      rw [Hr.out]
      exact ⟨_, rfl, ⟨_, _, l1, rfl, hR2.quiet hq⟩, hNf.putObj (by have := HNw.out.size; omega) _⟩
end Go.Proofs.Ytkjloeefcaadlaa
/- Whether machines are the same. -/
namespace Go.Proofs.Ytkjloeefcaadlaa
open Go.RowKit Go.Shelf Go.Cs
attribute [local go_sem] Oper.semAt_some
def eqT (L M : List Th) : Bool := decide (L.length = M.length) && (List.range L.length).all fun i => thEq (L.getD i .no) (M.getD i .no)
set_option maxRecDepth 100000 in
set_option maxHeartbeats 4000000 in
theorem equal_threads (tv tv' : Value) (L M : List Th) (lv lv' : Nat → Value) (w : World) (hv : ReadsF w tv L.length 4 (thsF L lv)) (hv' : ReadsF w tv' M.length 4 (thsF M lv')) (hl : ∀ i, i < L.length → ReadsE w (lv i) (L.getD i .no).left) (hl' : ∀ i, i < M.length → ReadsE w (lv' i) (M.getD i .no).left) :
    Calls Try.prog 142 #[tv, tv', .func (.func 140) #[] #[]] w fun e w' => e = .returned (.bool (eqT L M)) ∧ New w w' := by
  have HV := Lib.hid hv
  have HV' := Lib.hid hv'
  have HL := Lib.hid hl
  have HL' := Lib.hid hl'
  obtain ⟨s1, ao, cap, rfl, _⟩ := hv
  obtain ⟨s2, ao', cap', rfl, _⟩ := hv'
  clear hl hl'
  by_cases hlen : L.length = M.length
  · obtain ⟨r, hr⟩ : ∃ r, eqT L M = r := ⟨_, rfl⟩
    have Hr := Lib.hid hr
    rw [hr]
    rw [← hlen] at s2 HV' HL' ⊢
    obtain ⟨n, hn⟩ : ∃ n, L.length = n := ⟨_, rfl⟩
    have Hn := Lib.hid hn
    have Hlen := Lib.hid hlen
    rw [hn] at s1 s2 HV HV' HL HL' ⊢
    clear hr hn hlen
    go_enter Try.func142, Try.ntmps142
    go_wp2_with fail
    go_loopw [17] (fun c wr => ∃ k : Nat, k ≤ n ∧ c = .int .i64 k ∧ Hid (∀ i, i < k → thEq (L.getD i .no) (M.getD i .no) = true) ∧ Hid (New w wr)) (fun c _ => n - (intOf c).toNat)
    case atStart => exact ⟨0, Nat.zero_le _, rfl, Lib.hid (fun i hi => by omega), Lib.hid (Mods.refl _ _)⟩
    case round =>
      obtain ⟨k, hk, rfl, hbef, hN⟩ := hrel
      by_cases hkn : k < n
      · have hkd : decide ((k : Int) < (n : Int)) = true := decide_eq_true (by omega)
        have k0 : (0 : Int) ≤ (k : Int) := by omega
        have k1 : (k : Int) < (n : Int) := by omega
        obtain ⟨_, q1, q2, he, hc⟩ := HV.out
        cases he
        obtain ⟨_, q3, q4, he', hc'⟩ := HV'.out
        cases he'
        obtain ⟨b, o, rfl, hr⟩ := hc k hkn
        obtain ⟨b', o', rfl, hr'⟩ := hc' k hkn
        have hE := HL.out k hkn
        have hE' := HL'.out k hkn
        obtain ⟨x, hx⟩ : ∃ x, L.getD k .no = x := ⟨_, rfl⟩
        obtain ⟨y, hy⟩ : ∃ y, M.getD k .no = y := ⟨_, rfl⟩
        obtain ⟨xv, hxv⟩ : ∃ xv, lv k = xv := ⟨_, rfl⟩
        obtain ⟨yv, hyv⟩ : ∃ yv, lv' k = yv := ⟨_, rfl⟩
        unfold thsF at hr hr'
        rw [hx, hxv] at hr
        rw [hy, hyv] at hr'
        rw [hx, hxv] at hE
        rw [hy, hyv] at hE'
        have Hx := Lib.hid hx
        have Hy := Lib.hid hy
        have hone := th_one (t := x) hE
        have hone' := th_one (t := y) hE'
        replace hr : wr.rangeAt b (o + k * 4) (x.cs xv) := fun j v hv => hN.out.cell (hr j v hv) id
        have hNa : New wr (wr.alloc (.cells (x.cs xv).toArray 100)) := (Mods.refl _ _).alloc _
        have hX := World.alloc_heap_new wr (.cells (x.cs xv).toArray 100)
        replace hr' : (wr.alloc (.cells (x.cs xv).toArray 100)).rangeAt b' (o' + k * 4) (y.cs yv) := fun j v hv => (hN.out.trans hNa).cell (hr' j v hv) id
        have hNb : New (wr.alloc (.cells (x.cs xv).toArray 100)) ((wr.alloc (.cells (x.cs xv).toArray 100)).alloc (.cells (y.cs yv).toArray 100)) := (Mods.refl _ _).alloc _
        have hY := World.alloc_heap_new (wr.alloc (.cells (x.cs xv).toArray 100)) (.cells (y.cs yv).toArray 100)
        have hX2 := hNb.heap hX id
        have hNN := Lib.hid ((hN.out.trans hNa).trans hNb)
        have HT := Lib.hid (same_thread x y xv yv _ (hE.new hNN.out) (hE'.new hNN.out))
        obtain ⟨t, ht⟩ : ∃ t, thEq x y = t := ⟨_, rfl⟩
        rw [ht] at HT
        have Ht := Lib.hid ht
        have i1 : (Try.prog.info? 100).map (·.size) = some (x.cs xv).toArray.size := info100
        have i2 : (Try.prog.info? 100).map (·.size) = some (y.cs yv).toArray.size := info100
        clear hx hy hxv hyv hE hE' ht hX hNa hNb hc hc'
        go_upto_region 5 with fail
        go_upto_region 6 with (first | (refine op_value rfl (run_load_mid 100 (.tmp 20) rfl b (o + k * 4) rfl (x.cs xv) _ hr Try.underlying100 rfl info100) ?_) | (refine op_skip rfl (run_store_new 100 (.tmp 8) (.tmp 21) rfl 100 [.slice none 0 0, .bool false, .int .u64 0, .int .i64 0] (x.cs xv) rfl rfl info100 rfl hone) ?_))
        obtain ⟨X, hXX⟩ : ∃ X, wr.heap.size = X := ⟨_, rfl⟩
        obtain ⟨Wx, hWx⟩ : ∃ Wx, wr.alloc (.cells (x.cs xv).toArray 100) = Wx := ⟨_, rfl⟩
        rw [hWx] at hr' hY hX2 hNN HT ⊢
        rw [hXX] at hX2 ⊢
        clear hWx hXX hr
        go_upto_region 7 with (first | (refine op_value rfl (run_load_mid 100 (.tmp 24) rfl b' (o' + k * 4) rfl (y.cs yv) _ hr' Try.underlying100 rfl info100) ?_) | (refine op_skip rfl (run_store_new 100 (.tmp 9) (.tmp 25) rfl 100 [.slice none 0 0, .bool false, .int .u64 0, .int .i64 0] (y.cs yv) rfl rfl info100 rfl hone') ?_))
        obtain ⟨Y, hYY⟩ : ∃ Y, Wx.heap.size = Y := ⟨_, rfl⟩
        obtain ⟨Wy, hWy⟩ : ∃ Wy, Wx.alloc (.cells (y.cs yv).toArray 100) = Wy := ⟨_, rfl⟩
        rw [hWy] at hY hX2 hNN HT ⊢
        rw [hYY] at hY ⊢
        clear hWy hYY
        go_wp2_with (first | (refine op_value rfl (run_load_row 100 (.tmp 8) rfl X rfl 100 (x.cs xv).toArray (0, 0) _ hX2 Try.underlying100 rfl i1) ?_) | (refine op_value rfl (run_load_row 100 (.tmp 9) rfl Y rfl 100 (y.cs yv).toArray (0, 0) _ hY Try.underlying100 rfl i2) ?_))
        refine HT.out.mono ?_
        rintro e w1 ⟨rfl, hN1⟩
        have HN1 := Lib.hid (hNN.out.trans hN1)
        clear hX2 hY hN1 hr' hone hone' HT
        cases t with
        | true =>
          have hnext : Hid (∀ i, i < k + 1 → thEq (L.getD i .no) (M.getD i .no) = true) := Lib.hid (fun i hi => by
            by_cases h : i < k
            · exact hbef.out i h
            · obtain rfl : i = k := by omega
              rw [Hx.out, Hy.out]; exact Ht.out)
          go_wp2_with fail
          go_roundw
          case rel => exact ⟨k + 1, by omega, by go_num, hnext, HN1⟩
          case measure => simp [intOf]; omega
        | false =>
          have hb : Hid (r = false) := Lib.hid (by
            rw [← Hr.out]
            unfold eqT
            rw [Bool.and_eq_false_iff]
            right
            rw [List.all_eq_false]
            exact ⟨k, List.mem_range.2 (by rw [Hn.out]; exact hkn), by rw [Hx.out, Hy.out, Ht.out]; simp⟩)
          go_wp2_with fail
          go_ret
          exact ⟨by rw [hb.out]; rfl, HN1.out⟩
      · obtain rfl : k = n := by omega
        have hkd : decide ((k : Int) < (k : Int)) = false := decide_eq_false (by omega)
        have hb : Hid (r = true) := Lib.hid (by
          rw [← Hr.out]
          unfold eqT
          rw [Bool.and_eq_true, decide_eq_true_eq]
          refine ⟨Hlen.out, ?_⟩
          rw [List.all_eq_true]
          intro i hi
          exact hbef.out i (by have := List.mem_range.1 hi; rw [Hn.out] at this; exact this))
        go_wp2_with fail
        go_ret
        exact ⟨by rw [hb.out]; rfl, hN.out⟩
  · have hf : eqT L M = false := by unfold eqT; rw [decide_eq_false hlen]; rfl
    rw [hf]
    have d1 : ((L.length : Int) != (M.length : Int)) = true := by rw [bne_iff_ne]; omega
    clear hf
    go_enter Try.func142, Try.ntmps142
    go_wp2_with fail
    go_ret
    exact ⟨rfl, Mods.refl _ _⟩
def sameM (a b : Ma) : Bool := a.word == b.word && (a.clock == b.clock && (eqT a.ths b.ths && eqH a.hist b.hist))
set_option maxRecDepth 100000 in
set_option maxHeartbeats 4000000 in
theorem same_S (v v' : Value) (a b : Ma) (w : World) (hv : ReadsM w v a) (hv' : ReadsM w v' b) : Calls Try.prog 95 #[v, v'] w fun e w' => e = .returned (.bool (sameM a b)) ∧ New w w' := by
  obtain ⟨tv, hh, lv, rfl, hR⟩ := hv
  obtain ⟨tv', hh', lv', rfl, hR'⟩ := hv'
  have hN0 : New w ((w.alloc (.cells (maV a tv hh).toArray 77)).alloc (.cells (maV b tv' hh').toArray 77)) := ((Mods.refl _ _).alloc _).alloc _
  have HT := Lib.hid fun W (hN : New w W) => equal_threads tv tv' a.ths b.ths lv lv' W (hR.ths.new hN) (hR'.ths.new hN) (fun i hi => (hR.left i hi).new hN) (fun i hi => (hR'.left i hi).new hN)
  have HH := Lib.hid fun W (hN : New w W) => equal_moments hh hh' a.hist b.hist W (hR.hist.new hN) (hR'.hist.new hN)
  obtain ⟨⟨qa, qc, rfl⟩, ⟨ra, rc, rfl⟩⟩ := hR.slices
  obtain ⟨⟨qa', qc', rfl⟩, ⟨ra', rc', rfl⟩⟩ := hR'.slices
  clear hR hR'
  unfold sameM
  obtain ⟨r, hr⟩ : ∃ r, eqT a.ths b.ths = r := ⟨_, rfl⟩
  obtain ⟨q, hq⟩ : ∃ q, eqH a.hist b.hist = q := ⟨_, rfl⟩
  rw [hr] at HT ⊢
  rw [hq] at HH ⊢
  clear hr hq
  unfold maV at *
  by_cases h1 : a.word = b.word
  · have e1 : ((a.word : Int) == (b.word : Int)) = true := by rw [h1]; simp
    have e1' : (a.word == b.word) = true := by simpa using h1
    rw [e1', Bool.true_and]
    clear h1 e1'
    by_cases h2 : a.clock = b.clock
    · have e2 : (a.clock == b.clock) = true := by simpa using h2
      rw [e2, Bool.true_and]
      clear h2
      go_enter Try.func95, Try.ntmps95
      go_wp2_with fail
      refine (HT.out _ hN0).mono ?_
      rintro e w1 ⟨rfl, hN1⟩
      have hB := MB.new (show MB _ (w.heap.size + 1) b.word b.clock _ _ from (by have := World.alloc_heap_new (w.alloc (.cells #[.int .u64 (a.word : Nat), .int .i64 a.clock, .slice qa a.ths.length qc, .slice ra a.hist.length rc] 77)) (.cells #[.int .u64 (b.word : Nat), .int .i64 b.clock, .slice qa' b.ths.length qc', .slice ra' b.hist.length rc'] 77); rw [World.size_alloc] at this; exact this)) hN1
      have hA := MB.new (MB.new (show MB (w.alloc (.cells #[.int .u64 (a.word : Nat), .int .i64 a.clock, .slice qa a.ths.length qc, .slice ra a.hist.length rc] 77)) w.heap.size a.word a.clock (.slice qa a.ths.length qc) (.slice ra a.hist.length rc) from World.alloc_heap_new w _) ((Mods.refl _ _).alloc (.cells #[.int .u64 (b.word : Nat), .int .i64 b.clock, .slice qa' b.ths.length qc', .slice ra' b.hist.length rc'] 77))) hN1
      have hN2 := hN0.trans hN1
      have a3 := hA.c3
      have b3 := hB.c3
      clear hA hB hN1 hN0
      cases r with
      | false =>
        go_wp2_with fail
        go_ret
        exact ⟨by simp, hN2⟩
      | true =>
        go_wp2_with fail
        refine (HH.out _ hN2).mono ?_
        rintro e w2 ⟨rfl, hN3⟩
        go_wp2_with fail
        go_ret
        exact ⟨by simp, hN2.trans hN3⟩
    · have e2 : (a.clock == b.clock) = false := by simpa using h2
      rw [e2]
      clear h2
      go_enter Try.func95, Try.ntmps95
      go_wp2_with fail
      go_ret
      exact ⟨by simp, hN0⟩
  · have e1 : ((a.word : Int) == (b.word : Int)) = false := by simp; omega
    have e1' : (a.word == b.word) = false := by simpa using h1
    rw [e1']
    clear h1 e1'
    go_enter Try.func95, Try.ntmps95
    go_wp2_with fail
    go_ret
    exact ⟨by simp, hN0⟩
end Go.Proofs.Ytkjloeefcaadlaa
/- An order, looked for: what has ended, what must wait. -/
namespace Go.Proofs.Ytkjloeefcaadlaa
open Go.RowKit Go.Shelf Go.Cs
attribute [local go_sem] Oper.semAt_some
theorem bits_fin : ∀ x : Fin 256, ∀ k : Fin 8, bits .and .u8 ((x.val : Int) / 2 ^ k.val) 1 = if bit x.val k.val then 1 else 0 := by decide +kernel
theorem bits_one {x k : Nat} (hx : x < 256) (hk : k < 8) (h : bit x k = true) : bits .and .u8 ((x : Int) / 2 ^ k) 1 = 1 := by
  have := bits_fin ⟨x, hx⟩ ⟨k, hk⟩
  dsimp only at this
  rw [this, if_pos h]
theorem bits_none {x k : Nat} (hx : x < 256) (hk : k < 8) (h : bit x k = false) : bits .and .u8 ((x : Int) / 2 ^ k) 1 = 0 := by
  have := bits_fin ⟨x, hx⟩ ⟨k, hk⟩
  dsimp only at this
  rw [this, if_neg (by rw [h]; simp)]
theorem andNot_fin : ∀ x : Fin 256, ∀ k : Fin 8, bit x.val k.val = true → bits .andNot .u8 (x.val : Int) ((2 ^ k.val : Nat) : Int) = ((x.val - 2 ^ k.val : Nat) : Int) := by decide +kernel
set_option maxRecDepth 100000 in
set_option maxHeartbeats 4000000 in
theorem over_S (hh : Value) (H : List Mo) (tw left : Nat) (w : World) (hv : ReadsF w hh H.length 8 (mosF H)) (h8 : H.length ≤ 8) (hl : left < 256) :
    Calls Try.prog 150 #[.agg #[hh, .int .u64 tw], .int .u8 left] w fun e w' => e = .returned (.bool (overM H left)) ∧ New w w' := by
  have HV := Lib.hid hv
  obtain ⟨_, ao, cap, rfl, _⟩ := hv
  obtain ⟨r, hr⟩ : ∃ r, overM H left = r := ⟨_, rfl⟩
  have Hr := Lib.hid hr
  rw [hr]
  obtain ⟨n, hn⟩ : ∃ n, H.length = n := ⟨_, rfl⟩
  have Hn := Lib.hid hn
  rw [hn] at HV h8 ⊢
  have hN0 := Lib.hid (show New w (w.alloc (.cells #[.slice ao n cap, .int .u64 tw] 146)) from (Mods.refl _ _).alloc _)
  clear hr hn
  go_enter Try.func150, Try.ntmps150
  go_wp2_with fail
  go_loopw [10] (fun c wr => ∃ k : Nat, k ≤ n ∧ c = .int .i64 k ∧ Hid (∀ i, i < k → (bit left i && decide ((H.getD i .no).en ≠ -1)) = false) ∧ Hid (New w wr)) (fun c _ => n - (intOf c).toNat)
  case atStart => exact ⟨0, Nat.zero_le _, rfl, Lib.hid (fun i hi => by omega), hN0⟩
  case round =>
    obtain ⟨k, hk, rfl, hbef, hN⟩ := hrel
    clear hN0
    by_cases hkn : k < n
    · have hkd : decide ((k : Int) < (n : Int)) = true := decide_eq_true (by omega)
      have k0 : (0 : Int) ≤ (k : Int) := by omega
      have k1 : (k : Int) < (n : Int) := by omega
      have k8 : (k : Int) < 8 := by omega
      obtain ⟨_, q1, q2, he, hc⟩ := HV.out
      cases he
      obtain ⟨b, o, rfl, hra⟩ := hc k hkn
      obtain ⟨x, hx⟩ : ∃ x, H.getD k .no = x := ⟨_, rfl⟩
      unfold mosF at hra
      rw [hx] at hra
      have Hx := Lib.hid hx
      replace hra : wr.rangeAt b (o + k * 8) x.cs := fun j v hv => hN.out.cell (hra j v hv) id
      have hone := mo_one x
      have hNa := Lib.hid (hN.out.trans ((Mods.refl _ wr).alloc (.cells x.cs.toArray 95)))
      have hE := World.alloc_heap_new wr (.cells x.cs.toArray 95)
      clear hx hc
      go_upto_region 4 with (first | (refine op_value rfl (run_load_mid 95 (.tmp 13) rfl b (o + k * 8) rfl x.cs _ hra Try.underlying95 rfl info95) ?_) | (refine op_skip rfl (run_store_new 95 (.tmp 6) (.tmp 14) rfl 95 [.int .i64 0, .int .u8 0, .int .i64 0, .int .i64 0, .int .i64 0, .int .i64 0, .int .i64 0, .bool false] x.cs rfl rfl info95 rfl hone) ?_))
      obtain ⟨E, hEE⟩ : ∃ E, wr.heap.size = E := ⟨_, rfl⟩
      obtain ⟨W, hW⟩ : ∃ W, wr.alloc (.cells x.cs.toArray 95) = W := ⟨_, rfl⟩
      rw [hW] at hE hNa ⊢
      rw [hEE] at hE ⊢
      have e5 : W.cell? ⟨E, 5, none⟩ = some (.int .i64 x.en) := by rw [cell_of_row _ _ _ _ _ _ hE]; rfl
      clear hW hEE hE hra hone
      have hnext : ∀ c, (bit left k && decide (x.en ≠ -1)) = c → c = false → Hid (∀ i, i < k + 1 → (bit left i && decide ((H.getD i .no).en ≠ -1)) = false) := fun c h hc => Lib.hid (fun i hi => by
        by_cases hik : i < k
        · exact hbef.out i hik
        · obtain rfl : i = k := by omega
          rw [Hx.out, h, hc])
      cases hb : bit left k with
      | false =>
        have hbb := bits_none hl (by omega : k < 8) hb
        rw [hb] at hnext
        have hnx := hnext false rfl rfl
        clear hb hnext
        go_wp2_with fail
        go_roundw
        case rel => exact ⟨k + 1, by omega, by go_num, hnx, hNa⟩
        case measure => simp [intOf]; omega
      | true =>
        have hbb := bits_one hl (by omega : k < 8) hb
        have Hb := Lib.hid hb
        rw [hb] at hnext
        clear hb
        by_cases h1 : x.en = -1
        · have f1 : (x.en != -1) = false := by rw [bne_eq_false_iff_eq]; exact h1
          have hnx := hnext false (by simp [h1]) rfl
          clear hnext h1
          go_wp2_with fail
          go_roundw
          case rel => exact ⟨k + 1, by omega, by go_num, hnx, hNa⟩
          case measure => simp [intOf]; omega
        · have f1 : (x.en != -1) = true := by rw [bne_iff_ne]; exact h1
          have hrf : Hid (r = false) := Lib.hid (by
            rw [← Hr.out]
            unfold overM
            rw [List.all_eq_false]
            exact ⟨k, List.mem_range.2 (by rw [Hn.out]; exact hkn), by rw [Hb.out, Hx.out]; simpa using h1⟩)
          clear hnext h1
          go_wp2_with fail
          go_ret
          exact ⟨by rw [hrf.out]; rfl, hNa.out⟩
    · obtain rfl : k = n := by omega
      have hkd : decide ((k : Int) < (k : Int)) = false := decide_eq_false (by omega)
      have hrf : Hid (r = true) := Lib.hid (by
        rw [← Hr.out]
        unfold overM
        rw [List.all_eq_true]
        intro i hi
        rw [hbef.out i (by have := List.mem_range.1 hi; rw [Hn.out] at this; exact this)]
        rfl)
      go_wp2_with fail
      go_ret
      exact ⟨by rw [hrf.out]; rfl, hN.out⟩
end Go.Proofs.Ytkjloeefcaadlaa
/- An order, looked for: what must wait. -/
namespace Go.Proofs.Ytkjloeefcaadlaa
open Go.RowKit Go.Shelf Go.Cs
attribute [local go_sem] Oper.semAt_some
def SB (W : World) (B : Nat) (hh : Value) (tw : Nat) : Prop := W.heap[B]? = some (.cells #[hh, .int .u64 tw] 146 (0, 0))
theorem SB.c0 {W : World} {B : Nat} {hh : Value} {tw : Nat} (h : SB W B hh tw) : W.cell? ⟨B, 0, none⟩ = some hh := by rw [cell_of_row _ _ _ _ _ _ h]; rfl
theorem SB.c1 {W : World} {B : Nat} {hh : Value} {tw : Nat} (h : SB W B hh tw) : W.cell? ⟨B, 1, none⟩ = some (.int .u64 tw) := by rw [cell_of_row _ _ _ _ _ _ h]; rfl
def waits1 (l : List Mo) (i left k : Nat) : Bool := decide (k ≠ i) && (bit left k && (decide ((l.getD k .no).en ≠ -1) && decide ((l.getD k .no).en < (l.getD i .no).beg)))
set_option maxRecDepth 100000 in
set_option maxHeartbeats 4000000 in
theorem waits_S (hh : Value) (H : List Mo) (tw i left : Nat) (w : World) (hv : ReadsF w hh H.length 8 (mosF H)) (h8 : H.length ≤ 8) (hl : left < 256) (hi : i < H.length) :
    Calls Try.prog 151 #[.agg #[hh, .int .u64 tw], .int .i64 i, .int .u8 left] w fun e w' => e = .returned (.bool (waitsM H i left)) ∧ New w w' := by
  have HV := Lib.hid hv
  obtain ⟨_, ao, cap, rfl, hc⟩ := hv
  obtain ⟨b, o, rfl, hri⟩ := hc i hi
  obtain ⟨r, hr⟩ : ∃ r, waitsM H i left = r := ⟨_, rfl⟩
  have Hr := Lib.hid hr
  rw [hr]
  obtain ⟨n, hn⟩ : ∃ n, H.length = n := ⟨_, rfl⟩
  have Hn := Lib.hid hn
  rw [hn] at HV h8 hi ⊢
  have hN0 := Lib.hid (show New w (w.alloc (.cells #[.slice (some ⟨b, o, none⟩) n cap, .int .u64 tw] 146)) from (Mods.refl _ _).alloc _)
  have hB0 : Hid (SB (w.alloc (.cells #[.slice (some ⟨b, o, none⟩) n cap, .int .u64 tw] 146)) w.heap.size (.slice (some ⟨b, o, none⟩) n cap) tw) := Lib.hid (World.alloc_heap_new w _)
  have hb4 : w.cell? ⟨b, o + i * 8 + 4, none⟩ = some (.int .i64 (H.getD i .no).beg) := hri 4 _ rfl
  obtain ⟨bg, hbg⟩ : ∃ x, (H.getD i .no).beg = x := ⟨_, rfl⟩
  rw [hbg] at hb4
  have Hbg := Lib.hid hbg
  have Hb4 := Lib.hid hb4
  have i0 : (0 : Int) ≤ (i : Int) := by omega
  have i1 : (i : Int) < (n : Int) := by omega
  clear hr hn hc hri hb4 hbg
  go_enter Try.func151, Try.ntmps151
  go_wp2_with fail
  go_loopw [12] (fun c wr => ∃ k : Nat, k ≤ n ∧ c = .int .i64 k ∧ Hid (∀ q, q < k → waits1 H i left q = false) ∧ Hid (SB wr w.heap.size (.slice (some ⟨b, o, none⟩) n cap) tw) ∧ Hid (New w wr)) (fun c _ => n - (intOf c).toNat)
  case atStart => exact ⟨0, Nat.zero_le _, rfl, Lib.hid (fun i hi => by omega), hB0, hN0⟩
  case round =>
    obtain ⟨k, hk, rfl, hbef, hB, hN⟩ := hrel
    clear hN0 hB0
    by_cases hkn : k < n
    · have hkd : decide ((k : Int) < (n : Int)) = true := decide_eq_true (by omega)
      have k0 : (0 : Int) ≤ (k : Int) := by omega
      have k1 : (k : Int) < (n : Int) := by omega
      have k8 : (k : Int) < 8 := by omega
      obtain ⟨_, q1, q2, he, hc⟩ := HV.out
      cases he
      obtain ⟨b', o', he', hra⟩ := hc k hkn
      cases he'
      obtain ⟨x, hx⟩ : ∃ x, H.getD k .no = x := ⟨_, rfl⟩
      unfold mosF at hra
      rw [hx] at hra
      have Hx := Lib.hid hx
      replace hra : wr.rangeAt b (o + k * 8) x.cs := fun j v hv => hN.out.cell (hra j v hv) id
      have hone := mo_one x
      have hNa1 : New wr (wr.alloc (.cells x.cs.toArray 95)) := (Mods.refl _ wr).alloc (.cells x.cs.toArray 95)
      have hNa := Lib.hid (hN.out.trans hNa1)
      have hBa : Hid (SB (wr.alloc (.cells x.cs.toArray 95)) w.heap.size (.slice (some ⟨b, o, none⟩) n cap) tw) := Lib.hid (hNa1.heap hB.out id)
      have hE := World.alloc_heap_new wr (.cells x.cs.toArray 95)
      clear hx hc hNa1
      go_upto_region 4 with (first | (refine op_value rfl (run_load_mid 95 (.tmp 15) rfl b (o + k * 8) rfl x.cs _ hra Try.underlying95 rfl info95) ?_) | (refine op_skip rfl (run_store_new 95 (.tmp 8) (.tmp 16) rfl 95 [.int .i64 0, .int .u8 0, .int .i64 0, .int .i64 0, .int .i64 0, .int .i64 0, .int .i64 0, .bool false] x.cs rfl rfl info95 rfl hone) ?_))
      obtain ⟨E, hEE⟩ : ∃ E, wr.heap.size = E := ⟨_, rfl⟩
      obtain ⟨W, hW⟩ : ∃ W, wr.alloc (.cells x.cs.toArray 95) = W := ⟨_, rfl⟩
      rw [hW] at hE hNa hBa ⊢
      rw [hEE] at hE ⊢
      have e5 : W.cell? ⟨E, 5, none⟩ = some (.int .i64 x.en) := by rw [cell_of_row _ _ _ _ _ _ hE]; rfl
      have c0 := hBa.out.c0
      have g4 := hNa.out.cell Hb4.out id
      have hw1 : Hid (waits1 H i left k = (decide (k ≠ i) && (bit left k && (decide (x.en ≠ -1) && decide (x.en < bg))))) := Lib.hid (by unfold waits1; rw [Hx.out, Hbg.out])
      clear hW hEE hE hra hone
      have hnext : waits1 H i left k = false → Hid (∀ q, q < k + 1 → waits1 H i left q = false) := fun h => Lib.hid (fun q hq => by
        by_cases hik : q < k
        · exact hbef.out q hik
        · obtain rfl : q = k := by omega
          exact h)
      have Hnext := Lib.hid hnext
      have hyes : waits1 H i left k = true → Hid (r = true) := fun h => Lib.hid (by
        rw [← Hr.out]
        unfold waitsM
        rw [List.any_eq_true]
        exact ⟨k, List.mem_range.2 (by rw [Hn.out]; exact hkn), h⟩)
      have Hyes := Lib.hid hyes
      clear hnext hyes
      simp only [Act.put]
      by_cases h1 : k = i
      · have f1 : ((k : Int) != (i : Int)) = false := by rw [bne_eq_false_iff_eq, h1]
        have hnx := Hnext.out (by rw [hw1.out, decide_eq_false (by simp [h1])]; rfl)
        clear h1
        go_quiet (fail)
        go_wp2_with fail
        go_roundw
        case rel => exact ⟨k + 1, by omega, by go_num, hnx, Lib.hid (hBa.out), Lib.hid (hNa.out.drewN _)⟩
        case measure => simp [intOf]; omega
      · have f1 : ((k : Int) != (i : Int)) = true := by rw [bne_iff_ne]; omega
        have g1 : decide (k ≠ i) = true := by simpa using h1
        rw [g1, Bool.true_and] at hw1
        clear h1 g1
        cases hb : bit left k with
        | false =>
          have hbb := bits_none hl (by omega : k < 8) hb
          have hnx := Hnext.out (by rw [hw1.out, hb]; rfl)
          clear hb
          go_quiet (fail)
          go_wp2_with fail
          go_roundw
          case rel => exact ⟨k + 1, by omega, by go_num, hnx, Lib.hid (hBa.out), Lib.hid (hNa.out.drewN _)⟩
          case measure => simp [intOf]; omega
        | true =>
          have hbb := bits_one hl (by omega : k < 8) hb
          rw [hb, Bool.true_and] at hw1
          clear hb
          by_cases h2 : x.en = -1
          · have f2 : (x.en != -1) = false := by rw [bne_eq_false_iff_eq]; exact h2
            have hnx := Hnext.out (by rw [hw1.out, h2]; simp)
            clear h2
            go_quiet (fail)
            go_wp2_with fail
            go_roundw
            case rel => exact ⟨k + 1, by omega, by go_num, hnx, Lib.hid (hBa.out), Lib.hid (hNa.out.drewN _)⟩
            case measure => simp [intOf]; omega
          · have f2 : (x.en != -1) = true := by rw [bne_iff_ne]; exact h2
            have g2 : decide (x.en ≠ -1) = true := by simpa using h2
            rw [g2, Bool.true_and] at hw1
            clear h2 g2
            by_cases h3 : x.en < bg
            · have f3 : decide (x.en < bg) = true := decide_eq_true h3
              have hy := Hyes.out (by rw [hw1.out, f3])
              clear h3
              go_quiet (fail)
              have HN := Lib.hid (hNa.out.drewN nq)
              go_wp2_with fail
              go_ret
              exact ⟨by rw [hy.out]; rfl, HN.out⟩
            · have f3 : decide (x.en < bg) = false := decide_eq_false h3
              have hnx := Hnext.out (by rw [hw1.out, f3])
              clear h3
              go_quiet (fail)
              go_wp2_with fail
              go_roundw
              case rel => exact ⟨k + 1, by omega, by go_num, hnx, Lib.hid (hBa.out), Lib.hid (hNa.out.drewN _)⟩
              case measure => simp [intOf]; omega
    · obtain rfl : k = n := by omega
      have hkd : decide ((k : Int) < (k : Int)) = false := decide_eq_false (by omega)
      have hrf : Hid (r = false) := Lib.hid (by
        rw [← Hr.out]
        unfold waitsM
        rw [List.any_eq_false]
        intro q hq
        have := hbef.out q (by have := List.mem_range.1 hq; rw [Hn.out] at this; exact this)
        unfold waits1 at this
        rw [this]
        simp)
      go_wp2_with fail
      go_ret
      exact ⟨by rw [hrf.out]; rfl, hN.out⟩
end Go.Proofs.Ytkjloeefcaadlaa
/- An order, looked for: its parts. -/
namespace Go.Proofs.Ytkjloeefcaadlaa
open Go.RowKit Go.Shelf Go.Cs
attribute [local go_sem] Oper.semAt_some
theorem info146 : (Try.prog.info? 146).map (·.size) = some 2 := by kernel_rfl
theorem Sure.want {P : Program} {ops : Array Oper} {o : Oper} {v : Value} {a : Act} (hw : Region.wanted o (yielded ops a.tmps) = true) (h : ∀ w, (execOp a.eval o).run P w = .ok (.value v) w) : Sure P ops o v a := fun w => .inl ⟨hw, .inl (h w)⟩
theorem Sure.skip {P : Program} {ops : Array Oper} {o : Oper} {a : Act} (hw : Region.wanted o (yielded ops a.tmps) = false) : Sure P ops o undef a := fun w => .inr ⟨hw, rfl⟩
theorem opIn_valueg {P : Program} {ops : Array Oper} {Q : Exit → Act → World → Prop} {r : Option Nat} {i : Nat} {o : Oper} (d : Option Tmp) {v : Value} {a : Act} {w w' : World} {K : Act → World → Prop} (hp : plainOp o = true) (hi : ops[i]? = some o) (hw : Region.wanted o (yielded ops a.tmps) = true) (hd : o.dst = d)
    (h : (execOp a.eval o).run P w = .ok (.value v) w') (hK : K (a.put d v) w') : wpOpIn (Fr r) 0 P ops Q i K a w := by
  subst hd
  unfold Go.wpOpIn
  simp only [hi, hw, if_true, Oper.wpIn, semAt_plain hp, h]
  exact ⟨fun _ _ => trivial, hK⟩
theorem opIn_callg {P : Program} {ops : Array Oper} {Q : Exit → Act → World → Prop} {r : Option Nat} {i : Nat} {o : Oper} (d : Option Tmp) {a : Act} {w : World} {K : Act → World → Prop} (hp : plainOp o = true) (hi : ops[i]? = some o) (hw : Region.wanted o (yielded ops a.tmps) = true) (hd : o.dst = d)
    (f : FuncId) (args : Array Value) (h : (execOp a.eval o).run P w = .ok (.enter f args) w) (hc : Calls P f args w fun e w' => ∃ v, e = .returned v ∧ K (a.put d v) w') : wpOpIn (Fr r) 0 P ops Q i K a w := by
  subst hd
  unfold Go.wpOpIn
  simp only [hi, hw, if_true, Oper.wpIn, semAt_plain hp, h]
  refine ⟨fun _ _ => trivial, fun h => by simp [Fence.wide] at h, (callsIn_wide (n := 0)).2 (hc.mono ?_)⟩
  rintro e w' ⟨v, rfl, hk⟩
  exact hk
theorem run_shl8 {o : Oper} {a : Act} {w : World} (y : Operand) (ho : o.op = .binOp .shl 5 (.const (.int .u8 1)) y 3) (k : Nat) (hk : k < 8) (hy : a.eval y = .int .i64 (k : Nat)) : (execOp a.eval o).run Try.prog w = .ok (.value (.int .u8 ((2 ^ k : Nat) : Int))) w := by
  unfold execOp
  have h : k = 0 ∨ k = 1 ∨ k = 2 ∨ k = 3 ∨ k = 4 ∨ k = 5 ∨ k = 6 ∨ k = 7 := by omega
  have h1 : a.eval (.const (.int .u8 1)) = .int .u8 1 := rfl
  simp only [ho, hy, h1]
  rcases h with rfl | rfl | rfl | rfl | rfl | rfl | rfl | rfl <;> first | (go_simp; done) | (go_simp; rfl)
theorem run_andNot8 {o : Oper} {a : Act} {w : World} (x y : Operand) (ho : o.op = .binOp .andNot 5 x y 5) (left k : Nat) (hl : left < 256) (hk : k < 8) (hb : bit left k = true) (hx : a.eval x = .int .u8 (left : Nat)) (hy : a.eval y = .int .u8 ((2 ^ k : Nat) : Int)) : (execOp a.eval o).run Try.prog w = .ok (.value (.int .u8 ((left - 2 ^ k : Nat) : Int))) w := by
  have h := andNot_fin ⟨left, hl⟩ ⟨k, hk⟩ hb
  dsimp only at h
  rw [show ((2 ^ k : Nat) : Int) = (2 : Int) ^ k by simp] at h hy
  unfold execOp
  simp only [ho, hx, hy]
  go_simp
/-- How many are left. -/
def cnt (left : Nat) : Nat := ((List.range 8).filter (bit left)).length
theorem cnt_fin : ∀ x : Fin 256, ∀ i : Fin 8, bit x.val i.val = true → cnt (x.val - 2 ^ i.val) < cnt x.val := by decide +kernel
theorem cnt_le8 : ∀ x : Fin 256, cnt x.val ≤ 8 := by decide +kernel
def InH (H : List Mo) : Prop := ∀ i, i < H.length → InD (H.getD i .no).deed
def cand (H : List Mo) (tw f x left i : Nat) : Bool := (bit left i && !(waitsM H i left)) && (ansM (DS x (H.getD i .no).deed) (H.getD i .no) && fromM DS H tw f (DS x (H.getD i .no).deed).1 (left - 2 ^ i))
theorem fromM_succ (H : List Mo) (tw f x left : Nat) : fromM DS H tw (f + 1) x left = ((decide (x = tw) && overM H left) || (List.range H.length).any fun i => cand H tw f x left i) := rfl
end Go.Proofs.Ytkjloeefcaadlaa
