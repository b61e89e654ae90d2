/- Texts joined. -/
import Derived.Test.YtkiiameibdhdfaaGreatDoorQ11
import Derived.Test.YtkiiameibdhdfaaGreatDoorQ07
import Derived.Test.YtkiiameibdhdfaaGreatDoorQ06
set_option linter.unusedSimpArgs false
set_option linter.unusedVariables false
namespace Go.Proofs.YtkiiameibdhdfaaGreatDoor
open Go.RowKit Go.Shelf Go.Cs
attribute [local go_sem] Oper.semAt_some


theorem results_box_t {fn : Func} {p q : Tmp} {ty : TypeId} {e : TypeId} (hu : Tryz.prog.underlying ty = some (.slice e)) (h : fn.results = #[.cell p ty, .tmp q]) (tmps : Array Value) (w : World) (B : Nat) (v u : Value) (hp : tmps.getD p undef = .pointer (some ⟨B, 0, none⟩)) (hq : tmps.getD q undef = u) (hb : Boxed w B ty v) :
  (results fn tmps).run Tryz.prog w = .ok (.tuple #[v, u]) w := by
 have hp' : tmps[p]?.getD undef = .pointer (some ⟨B, 0, none⟩) := by simpa using hp
 have hq' : tmps[q]?.getD undef = u := by simpa using hq
 have c := hb.cell
 have hagg : (isAgg ty).run Tryz.prog w = .ok false w := by
  unfold isAgg
  rw [Sem.run_bind, run_underlying hu w]
  simp
 simp [results, h, hp', hq', asAddr, loadVar, c, go_sem, hagg]
theorem trimR_len (c : UInt8) (l : Bare.Bs) : (Bare.trimR c l).length ≤ l.length := by
 unfold Bare.trimR
 rw [List.length_reverse]
 have := Bare.drop_len (· == c) l.reverse
 rw [List.length_reverse] at this
 exact this
theorem opIn_value1 {r : Option Nat} {ops : Array Oper} {Q : Exit → Act → World → Prop} {rest : List Oper} {o : Oper} {a : Act} {w w' : World} {v : Value} (hp : plainOp o = true) (hg : o.guard = none) (hr : (execOp a.eval o).run Tryz.prog w = .ok (.value v) w') (h : wpListIn (Fr r) 0 Tryz.prog ops Q rest (a.put o.dst v) w') : wpListIn (Fr r) 0 Tryz.prog ops Q (o :: rest) a w := by
 simp only [wpListIn, Region.wanted, hg, if_true, Oper.wpIn, semAt_plain hp, hr]
 exact ⟨fun _ _ => trivial, h⟩
theorem opIn_got1 {r : Option Nat} {ops : Array Oper} {Q : Exit → Act → World → Prop} {rest : List Oper} {o : Oper} {a : Act} {w : World} {R : Value → World → Prop} (hp : plainOp o = true) (hg : o.guard = none) (hr : ∃ v w', (execOp a.eval o).run Tryz.prog w = .ok (.value v) w' ∧ R v w') (h : ∀ v w', R v w' → wpListIn (Fr r) 0 Tryz.prog ops Q rest (a.put o.dst v) w') : wpListIn (Fr r) 0 Tryz.prog ops Q (o :: rest) a w := by
 obtain ⟨v, w', h1, h2⟩ := hr
 exact opIn_value1 hp hg h1 (h v w' h2)
theorem opIn_skip1 {r : Option Nat} {ops : Array Oper} {Q : Exit → Act → World → Prop} {rest : List Oper} {o : Oper} {a : Act} {w w' : World} (hp : plainOp o = true) (hg : o.guard = none) (hd : o.dst = none) (hr : (execOp a.eval o).run Tryz.prog w = .ok .skip w') (h : wpListIn (Fr r) 0 Tryz.prog ops Q rest a w') : wpListIn (Fr r) 0 Tryz.prog ops Q (o :: rest) a w := by
 simp only [wpListIn, Region.wanted, hg, if_true, Oper.wpIn, semAt_plain hp, hr]
 refine ⟨fun _ _ => trivial, show wpListIn (Fr r) 0 Tryz.prog ops Q rest (a.put o.dst undef) w' from ?_⟩
 rw [hd]
 exact h
theorem run_store_mid {o : Oper} {a : Act} {w : World} (ty : TypeId) (x y : Operand) (ho : o.op = .store ty x y) (b off : Nat) (cells : List Value) (hx : a.eval x = .pointer (some ⟨b, off, none⟩)) (hy : a.eval y = .agg cells.toArray)
  (ht : w.there b off cells.length) (hi : (Tryz.prog.info? ty).map (·.size) = some cells.length) (h1 : ∀ v ∈ cells, v.oneCell' = true) : (execOp a.eval o).run Tryz.prog w = .ok .skip (w.setCells b off cells) := by
 have := run_storeAt_mid (P := Tryz.prog) w b off ty cells.toArray (by simpa using ht) (by simpa using hi) (all_oneCell_toArray h1)
 unfold execOp
 simp only [ho, hx, hy, this, Sem.run_bind, Result.andThen_ok]
 rfl
theorem OwM.there {base g cap n i : Nat} {W : World} {f : Nat → List Value} (h : OwM base W (.slice (some ⟨g, 0, none⟩) n cap) n f) (hi : i < n) : W.there g (i * 4) 4 := fun j hj => by
 obtain ⟨ao, cap', e, hc⟩ := rows_ofOwns (show 0 < 4 by decide) h.1 h.2.2
 cases e
 obtain ⟨b, o, e, hr⟩ := hc i hi
 cases e
 rw [Nat.zero_add] at hr
 obtain ⟨a, b, c, d, hf⟩ := len4 (h.1 i)
 rw [hf] at hr
 obtain ⟨c0, c1, c2, c3⟩ := cells4 hr
 have : j = 0 ∨ j = 1 ∨ j = 2 ∨ j = 3 := by omega
 refine ⟨?_, h.frozen rfl _⟩
 rcases this with rfl | rfl | rfl | rfl
 ·rw [Nat.add_zero, c0]; rfl
 ·rw [c1]; rfl
 ·rw [c2]; rfl
 ·rw [c3]; rfl
def PostD (s : Bare.Bs) (w : World) (e : Ending) (w' : World) : Prop := ∃ v z, e = .returned (.tuple #[v, .int .i64 z]) ∧ New w w' ∧ match Bare.parseD s with
 | some d => z = 0 ∧ RdD true w' v d ∧ d.length ≤ s.length
 | none => z = 130 ∧ v = .slice none 0 0
theorem lit32 (t : Array Value) (h : t.size = 32) : ∃ u : Nat → Value, t = (u 0 :: u 1 :: u 2 :: u 3 :: u 4 :: u 5 :: u 6 :: u 7 :: u 8 :: u 9 :: u 10 :: u 11 :: u 12 :: u 13 :: u 14 :: u 15 :: u 16 :: u 17 :: u 18 :: u 19 :: u 20 :: u 21 :: u 22 :: u 23 :: u 24 :: u 25 :: u 26 :: u 27 :: u 28 :: u 29 :: u 30 :: u 31 :: ([] : List Value)).toArray := ⟨fun i => t.getD i undef, range_lit t 32 h⟩
set_option maxHeartbeats 8000000 in
set_option maxRecDepth 100000 in
theorem parse_d (s : ByteArray) (w : World) (hs : s.size ≤ 1000000) (hT : Tab w) : Calls Tryz.prog 28 #[.string s] w (PostD (bl s) w) := by
 obtain ⟨t, ht⟩ : ∃ t, Bare.trimR 32 (Bare.skipB [32] (bl s)) = t := ⟨_, rfl⟩
 have htl : t.length ≤ s.size := by
  rw [← ht, ← bl_len]
  have h1 := Bare.skip_len [32] (bl s)
  have h2 := trimR_len 32 (Bare.skipB [32] (bl s))
  omega
 have hpd : Bare.parseD (bl s) = if (Bare.memsL t).2 then none else some ((Bare.memsL t).1.foldl Bare.setM []) := by
  unfold Bare.parseD
  rw [ht]
  exact Bare.readD_mems _ _ _ (Nat.le_refl _)
 have hcnt := memsL_count _ t (Nat.le_refl _)
 have hTr := Lib.hid (fun W => trim_any s W hs)
 rw [ht] at hTr
 have hbl := bl_len s
 unfold PostD
 rw [hpd]
 obtain ⟨L, hL⟩ : ∃ L, (Bare.memsL t).1 = L := ⟨_, rfl⟩
 obtain ⟨bd, hbd⟩ : ∃ b, (Bare.memsL t).2 = b := ⟨_, rfl⟩
 rw [hL, hbd]
 rw [hL] at hcnt
 have HL := Lib.hid hL
 have HBD := Lib.hid hbd
 have hfl := foldM_len L []
 simp only [List.length_nil, Nat.zero_add] at hfl
 clear hpd ht hL hbd
 refine calls_of_marks Tryz.func28 rfl ?_
 simp only [Tryz.ntmps28, List.size_toArray, List.length_cons, List.length_nil, Nat.reduceAdd, Nat.reduceSub, Array.replicate_succ, Array.replicate_zero, List.push_toArray, List.append_toArray, List.nil_append, List.cons_append]
 go_upto_region 1 with fail
 refine wp_scope_fwd 0 (fun a W => (a.tmps.size = 32 ∧ a.tmps.getD 2 undef = .pointer (some ⟨w.heap.size, 0, none⟩)) ∧ (∃ D, a.defers = [{ target := .collected D, args := #[] }] ∧ w.heap.size < D ∧ W.heap[D]? = some (.deferred (some []))) ∧ New w W ∧ (∃ v, Boxed W w.heap.size 51 v) ∧ bd = true) rfl ?first ?pass
 case pass =>
  rintro ⟨z, dfs⟩ W ⟨⟨hsz, hq2⟩, ⟨D, hd, hDl, hD⟩, hN, ⟨v, hb⟩, rfl⟩
  simp only at hsz hq2 hd
  subst hd
  obtain ⟨u, rfl⟩ := lit32 z hsz
  have hp2 : u 2 = .pointer (some ⟨w.heap.size, 0, none⟩) := hq2
  rw [hp2]
  obtain ⟨c0, f0⟩ := hb.both
  have HB := Lib.hid hb
  have HD := Lib.hid hD
  clear hb hD hsz hq2 hp2
  go_wp2_with fail
  have hb' := HB.out.set (.slice none 0 0)
  have hbp : Boxed ((W.setCell ⟨w.heap.size, 0, none⟩ (.slice none 0 0)).putObj D (.deferred none)) w.heap.size 51 (.slice none 0 0) := (World.putObj_heap_other (by omega)).trans hb'
  refine marks_one rfl ((setMods W w.heap.size 0 _).block _ _ HD.out (.inr rfl)) (v := .tuple #[.slice none 0 0, .int .i64 130]) (results_box_t Tryz.underlying51 rfl _ _ w.heap.size _ _ rfl rfl hbp) ⟨_, _, rfl, ?_, by simp⟩
  exact (hN.setCell (p := ⟨w.heap.size, 0, none⟩) (.inl (Nat.le_refl _)) _).putObj (by omega) _
 case first =>
  go_wp2_with fail
  refine (hTr.out _).mono ?_
  rintro e w2 ⟨rfl, hN2⟩
  have hb0 := Boxed.new w 51 (.slice none 0 0)
  have hN1 : New w (w.alloc (.cells #[.slice none 0 0] 51)) := (Mods.refl _ _).alloc _
  have hb2 := hN2.boxed hb0 id
  have hNN2 := hN1.trans hN2
  obtain ⟨B, hB⟩ : ∃ B, w.heap.size = B := ⟨_, rfl⟩
  have hBw : w.heap.size ≤ B := by omega
  rw [hB] at hb2 ⊢
  obtain ⟨T, hTx⟩ : ∃ x, tx t = x := ⟨_, rfl⟩
  have HTx := Lib.hid hTx
  rw [hTx]
  clear hb0 hN1 hN2 hTx hTr
  go_upto_region 2 with fail
  obtain ⟨w3, hW3⟩ : ∃ w3, w2.alloc (.cells #[.string T, .bool false] 105) = w3 := ⟨_, rfl⟩
  have hN3 : New w2 w3 := by rw [← hW3]; exact (Mods.refl _ _).alloc _
  have hr3 : Rdr w3 w2.heap.size t false := by unfold Rdr; rw [HTx.out, ← hW3]; exact World.alloc_heap_new _ _
  rw [hW3]
  have hb3 := hN3.boxed hb2 id
  have hNN3 := hNN2.trans hN3
  have hBl := hb2.lt
  obtain ⟨R, hR⟩ : ∃ R, w2.heap.size = R := ⟨_, rfl⟩
  rw [hR] at hr3 hBl ⊢
  clear hW3 hR hb2 hN3 hNN2
  go_wp2_with fail
  refine (members_any R w3).mono ?_
  rintro e w4 ⟨rfl, hw4⟩
  have hN4 : New w3 w4 := by rw [← hw4]; exact (Mods.refl _ _).alloc _
  have hbx : Boxed w4 w3.heap.size 102 (.pointer (some ⟨R, 0, none⟩)) := by rw [← hw4]; exact Boxed.new _ _ _
  have hsz4 : w4.heap.size = w3.heap.size + 1 := by rw [← hw4]; simp
  have hr4 := hr3.new hN4
  have hb4 := hN4.boxed hb3 id
  have hNN4 := hNN3.trans hN4
  have hRl := hr3.lt
  obtain ⟨X, hX⟩ : ∃ X, w3.heap.size = X := ⟨_, rfl⟩
  rw [hX] at hbx hsz4 hRl ⊢
  have hXl : X < w4.heap.size := by omega
  have hRl4 : R < w4.heap.size := by omega
  have hT4 := hT.new hNN4
  clear hw4 hX hr3 hb3 hNN3 hN4 hsz4
  go_wp2_with fail
  have hTl := hT.lt
  refine wp_rangeX2 (gf := 118) (lb := #[.pointer (some ⟨X, 0, none⟩)]) rfl (enters_of Tryz.func118 (by kernel_rfl) rfl) L.length (ElM L) (fun b => b = B ∨ w4.heap.size ≤ b) (fun A A' => ModR R A A' ∧ ∃ s bad, Rdr A R s bad) (fun W => ∃ s, Rdr W R s bd)
   (fun W W' ⟨s, h⟩ q => ⟨s, q.block R _ h (.inr rfl)⟩)
   (fun W hW => by
    have := members_iter R X t (fun b => b = B ∨ w4.heap.size ≤ b) W (by omega) (hr4.new hW) (hW.boxed hbx id) (hT4.new hW) (by omega) (by omega) (fun A A' hA hm => hA.modS hm (by omega) (by omega))
    rw [HL.out, HBD.out] at this
    exact this)
   (fun k x W h => by obtain ⟨v, rfl, _⟩ := h; rfl)
   (fun k W => ∃ v, Boxed W B 51 v ∧ OwD w4.heap.size W v ((L.take k).foldl Bare.setM []) ∧ (((L.take k).foldl Bare.setM []).map fun m : Bare.Mem => m.key).Nodup ∧ Mods (fun b => b = B ∨ b = R) w4 W)
   (fun _ _ _ => False)
   (fun A A' h k o hk ho => h.1.block k o hk (.inr ho))
   (fun k A A' ⟨v, h1, h2, h3, h4⟩ ⟨hm, s, bad, hr⟩ => ⟨v, hm.boxed h1 (by omega), h2.mods hm (fun g hg e => by have := (h2.lt hg).1; omega) (fun g cs t fr hg hc => by subst hg; rw [show A.heap[g]? = _ from hr] at hc; cases hc; decide), h3, h4.trans (hm.mono fun b hb => .inr hb)⟩)
   (fun c k A A' h _ => h)
   (fun k W W' ⟨v, h1, h2, h3, h4⟩ q => ⟨v, Stab.boxed (B := w4.heap.size) _ _ _ W W' h1 q, h2.quiet q, h3, Stab.mods (Nat.le_refl _) W W' h4 q⟩)
   (fun c k W W' h _ => h)
   ⟨.slice none 0 0, hb4, .nil _ _, by simp, Mods.refl _ _⟩ ?round ?done ?stop
  case stop => intro c k W hk h; exact h.elim
  case done =>
   rintro W ⟨v, hb, ho, hnd, hm⟩ ⟨s', hr⟩ hD
   rw [List.take_length] at ho
   obtain ⟨va, vc, rfl⟩ := ho.slice
   have HO := Lib.hid ho
   have HB := Lib.hid hb
   have HD := Lib.hid hD
   obtain ⟨⟨d0, d1⟩, g0, g1⟩ := hr.facts
   obtain ⟨c0, f0⟩ := hb.both
   have hNW : New w W := ((Mods.ofNew hNN4).trans hm).new (by omega)
   clear d0 g0 hD
   cases bd with
   | true =>
    go_wp2_with fail
    exact wp_goto (And.intro rfl ⟨⟨rfl, by rw [hB]; rfl⟩, ⟨_, rfl, by omega, HD.out⟩, hNW, ⟨_, by rw [hB]; exact HB.out⟩, rfl⟩)
   | false =>
    go_wp2_with fail
    simp only [Exit.jump]
    obtain ⟨V, hV⟩ : ∃ V, (Value.slice va (L.foldl Bare.setM []).length vc) = V := ⟨_, rfl⟩
    rw [hV] at HB HO ⊢
    have hbs := HB.out.set V
    have hbp : Boxed ((W.setCell ⟨B, 0, none⟩ V).putObj w4.heap.size (.deferred none)) B 51 V := (World.putObj_heap_other (by omega)).trans hbs
    have hDs := (setMods W B 0 V).block _ _ HD.out (.inr rfl)
    have ho2 : OwD w4.heap.size (W.setCell ⟨B, 0, none⟩ V) V (L.foldl Bare.setM []) := HO.out.mods (setMods W B 0 V) (fun g hg e => by have := (HO.out.lt hg).1; omega) (fun g cs t fr hg hc => by
     subst hg
     rw [show W.heap[g]? = _ from HB.out] at hc
     cases hc; decide)
    have ho3 := ho2.quiet (Quiet.putObj (.deferred none) hDs rfl (Nat.le_refl _))
    refine marks_one rfl hDs (v := .tuple #[V, .int .i64 0]) (results_box_t Tryz.underlying51 rfl _ _ B _ _ rfl rfl hbp) ⟨_, _, rfl, (hNW.setCell (p := ⟨B, 0, none⟩) (.inl hBw) _).putObj (by omega) _, ?_⟩
    exact ⟨rfl, ho3.reads (by omega), by omega⟩
  case round =>
   intro l k x W hk ⟨xv, hxe, hx⟩ hl hrl ⟨v, hb, ho, hnd, hm⟩
   subst hxe
   obtain ⟨m, hme⟩ : ∃ m, L.getD k noM = m := ⟨_, rfl⟩
   rw [hme] at hx
   obtain ⟨ia, il, ic, pa, pl, pc, rfl⟩ := hx.open
   have Hnx : Hid ((L.take (k + 1)).foldl Bare.setM [] = Bare.setM ((L.take k).foldl Bare.setM []) m) := Lib.hid (by
    rw [List.take_add_one, List.getElem?_eq_getElem hk, List.foldl_append]
    have : L[k] = m := by rw [← hme]; simp [List.getD, hk]
    rw [this]; rfl)
   have hdl : ((L.take k).foldl Bare.setM []).length ≤ 2000000 := by
    have := foldM_len (L.take k) []
    rw [List.length_take] at this
    simp at this; omega
   obtain ⟨d, hd⟩ : ∃ d, (L.take k).foldl Bare.setM [] = d := ⟨_, rfl⟩
   rw [hd] at ho hnd hdl Hnx
   obtain ⟨K, hK⟩ : ∃ x, tx m.key = x := ⟨_, rfl⟩
   obtain ⟨y, hy⟩ : ∃ x, m.inner = x := ⟨_, rfl⟩
   rw [hK, hy] at hx ⊢
   have HK := Lib.hid hK
   have HY := Lib.hid hy
   clear hd hK hy hme
   gi_wp2
   refine ⟨(Mods.refl _ _).alloc _, fun W2 hq hr2 => ?_⟩
   have hN1 : New W (W.alloc (.cells #[.string K, .bool y, .slice ia il ic, .slice pa pl pc] 64)) := (Mods.refl _ _).alloc _
   have r5 := hq.block _ _ (World.alloc_heap_new W (.cells #[.string K, .bool y, .slice ia il ic, .slice pa pl pc] 64)) (.inr rfl)
   have ho2 := (ho.new hN1).quiet hq
   have hb2 := Stab.boxed (B := w4.heap.size) _ _ _ _ _ (hN1.boxed hb id) hq
   have hx2 := (hx.new hN1).quiet hq
   have hm2 := Stab.mods (Nat.le_refl _) _ _ (hm.trans (Mods.ofNew hN1)) hq
   have hBW := hm.size
   obtain ⟨B5, hB5⟩ : ∃ B5, W.heap.size = B5 := ⟨_, rfl⟩
   rw [hB5] at r5 hBW ⊢
   obtain ⟨iv, pv, hxe, hxi, hxp⟩ := hx2
   obtain ⟨rfl, rfl⟩ : Value.slice ia il ic = iv ∧ Value.slice pa pl pc = pv := by
    unfold mcs at hxe
    injection hxe with hxe
    have := congrArg Array.toList hxe
    simp at this
    exact ⟨this.2.2.1, this.2.2.2⟩
   obtain ⟨va, vc, rfl⟩ := ho2.slice
   have hIdx : Hid (∀ W', W'.heap[B5]? = some (.cells #[.string K, .bool y, .slice ia il ic, .slice pa pl pc] 64 (0, 0)) → OwD w4.heap.size W' (.slice va d.length vc) d → Calls Tryz.prog 71 #[.slice va d.length vc, .func (.func 72) #[] #[.pointer (some ⟨B5, 0, none⟩)]] W' fun e w' => e = .returned (.int .i64 (firstFrom (fun i => decide ((d.getD i noM).key = m.key)) d.length)) ∧ New W' w') := Lib.hid fun W' h5 hd => by
    obtain ⟨iv', pv', q1, q2⟩ := hd
    refine index_M 72 #[.pointer (some ⟨B5, 0, none⟩)] d.length (fun i j => (mcs (d.getD i noM) (iv' i) (pv' i)).getD j undef) (fun W => W.heap[B5]? = some (.cells #[.string K, .bool y, .slice ia il ic, .slice pa pl pc] 64 (0, 0))) (fun W W' h hN => hN.heap h id) (fun i => decide ((d.getD i noM).key = m.key)) (fun i W1 hi hW => ?_) (enters_of Tryz.func72 (by kernel_rfl) rfl) _ W' (q1.row (by omega)) h5
    obtain ⟨a1, c1, e1⟩ := (q2 i hi).1.slice
    obtain ⟨a2, c2, e2⟩ := (q2 i hi).2.slice
    have := same_mem B5 m (d.getD i noM) a1 a2 (d.getD i noM).items.length c1 (d.getD i noM).params.length c2 [.bool y, .slice ia il ic, .slice pa pl pc] W1 (by rw [HK.out]; exact hW)
    rw [← e1, ← e2] at this
    exact this
   obtain ⟨c0, f0⟩ := hb2.both
   have HB2 := Lib.hid hb2
   have HO2 := Lib.hid ho2
   have HX := Lib.hid hxi
   have HP := Lib.hid hxp
   have HR5 := Lib.hid r5
   have HM2 := Lib.hid hm2
   clear hB5 hx hm hb ho hN1 hxe hq
   by_cases hex : ∃ i, i < d.length ∧ (d.getD i noM).key = m.key ∧ ∀ j, j < i → (d.getD j noM).key ≠ m.key
   ·obtain ⟨i0, hi0, hk0, hb0⟩ := hex
    have hix : firstFrom (fun i => decide ((d.getD i noM).key = m.key)) d.length = i0 := first_at _ _ i0 hi0 (fun j hj => decide_eq_false (hb0 j hj)) (decide_eq_true hk0)
    rw [hix] at hIdx
    have hset := Lib.hid (setM_set hnd hi0 hk0)
    obtain ⟨g, rfl⟩ : ∃ g, va = some ⟨g, 0, none⟩ := by
     obtain ⟨_, _, hq, _⟩ := HO2.out
     rcases hq.2.2.2 with ⟨h, h'⟩ | ⟨b', cap', cur, h, _⟩
     ·simp only [Value.slice.injEq] at h; omega
     ·simp only [Value.slice.injEq] at h; exact ⟨b', h.1⟩
    have hi0' : decide ((0 : Int) ≤ (i0 : Int)) = true := decide_eq_true (by omega)
    have hth : ∀ W3, New W2 W3 → W3.there g (i0 * 4) 4 := fun W3 hN => by
     obtain ⟨_, _, hq, _⟩ := HO2.out.new hN
     exact hq.there hi0
    have hgl := Lib.hid (HO2.out.lt rfl)
    clear hix hk0 hb0
    gi_wp2_with (first | (refine at_round (hIdx.out _ HR5.out HO2.out) ?_; rintro e W3 ⟨rfl, hN3⟩; have hb3 := hN3.boxed HB2.out id; obtain ⟨c3, f3⟩ := hb3.both; have r6 := hN3.heap HR5.out id; have k0 := cell_of_row _ _ 0 _ _ _ r6; have k1 := cell_of_row _ _ 1 _ _ _ r6; have k2 := cell_of_row _ _ 2 _ _ _ r6; have k3 := cell_of_row _ _ 3 _ _ _ r6; simp only [List.getElem?_toArray, List.getElem?_cons_succ, List.getElem?_cons_zero] at k0 k1 k2 k3; have hth3 := hth W3 hN3) | (refine opIn_skip1 rfl rfl rfl (run_store_mid 64 (.tmp 22) (.tmp 21) rfl g (i0 * 4) [.string K, .bool y, .slice ia il ic, .slice pa pl pc] rfl rfl hth3 sizeM (mcs_one _ _ _ _ _ _ _ _)) ?_))
    have hsm := setCells_mods g [.string K, .bool y, .slice ia il ic, .slice pa pl pc] W3 (i0 * 4)
    have hgl' := hgl.out.1
    have hput := (HO2.out.new hN3).put (m := m) hi0 (HX.out.new hN3) (HP.out.new hN3)
    have hmc : mcs m (.slice ia il ic) (.slice pa pl pc) = [.string K, .bool y, .slice ia il ic, .slice pa pl pc] := by unfold mcs; rw [HK.out, HY.out]
    rw [hmc, List.length_set] at hput
    refine ⟨(Mods.ofNew hN3).trans (hsm.mono fun b hb => .inr (by rw [hb]; exact hgl')), _, hsm.boxed hb3 (by omega), ?_, ?_, (HM2.out.trans (Mods.ofNew hN3)).trans' hsm hgl'⟩
    ·rw [Hnx.out, hset.out]; exact hput
    ·rw [Hnx.out]; exact setM_nodup hnd
   ·have hno : ∀ i, i < d.length → (d.getD i noM).key ≠ m.key := fun i hi he => by
     have : ∀ n i, i ≤ n → i < d.length → (d.getD i noM).key = m.key → False := fun n => by
      induction n with
      | zero =>
       intro i h0 hi he
       obtain rfl : i = 0 := by omega
       exact hex ⟨0, hi, he, fun j hj => by omega⟩
      | succ n ih =>
       intro i h0 hi he
       by_cases h : ∃ j, j < i ∧ (d.getD j noM).key = m.key
       ·obtain ⟨j, hj, hje⟩ := h
        exact ih j (by omega) (by omega) hje
       ·exact hex ⟨i, hi, he, fun j hj hje => h ⟨j, hj, hje⟩⟩
     exact this i i (Nat.le_refl _) hi he
    have hix : firstFrom (fun i => decide ((d.getD i noM).key = m.key)) d.length = -1 := first_none _ _ (fun j hj => decide_eq_false (hno j hj))
    rw [hix] at hIdx
    have hset := Lib.hid (setM_add hno)
    clear hix hex hno
    have hrun : ∀ W3, New W2 W3 → ∀ (o : Oper) (a : Act), o.op = .call { callee := .builtin .append, args := #[.tmp 23, .tmp 25], argTypes := #[51, 51] } → a.eval (.tmp 23) = .slice va d.length vc → a.eval (.tmp 25) = .slice (some ⟨W3.heap.size, 0, none⟩) 1 1 → ∃ v' W', (execOp a.eval o).run Tryz.prog (W3.alloc (.cells #[.string K, .bool y, .slice ia il ic, .slice pa pl pc] 64)) = .ok (.value v') W' ∧ (OwD w4.heap.size W' v' (d ++ [m]) ∧ ∀ (w0 : World) (S : Nat → Prop), Mods S w0 W3 → (∀ g, Value.ownBlock (.slice va d.length vc) = some g → w0.heap.size ≤ g ∨ S g) → Mods S w0 W') := fun W3 hN o a h1 h2 h3 => by
     refine run_append_D (m := m) (ia := ia) (il := il) (ic := ic) (pa := pa) (pl := pl) (pc := pc) h1 h2 h3 (by unfold mcs; rw [HK.out, HY.out]) (HO2.out.new hN) (HX.out.new hN) (HP.out.new hN) hdl ?_
     have := hN.size
     have := HM2.out.size
     omega
    gi_wp2_with (first | (refine at_round (hIdx.out _ HR5.out HO2.out) ?_; rintro e W3 ⟨rfl, hN3⟩; have hb3 := hN3.boxed HB2.out id; obtain ⟨c3, f3⟩ := hb3.both; have r6 := hN3.heap HR5.out id; have k0 := cell_of_row _ _ 0 _ _ _ r6; have k1 := cell_of_row _ _ 1 _ _ _ r6; have k2 := cell_of_row _ _ 2 _ _ _ r6; have k3 := cell_of_row _ _ 3 _ _ _ r6; simp only [List.getElem?_toArray, List.getElem?_cons_succ, List.getElem?_cons_zero] at k0 k1 k2 k3) | (gi_at_builtin; refine opIn_got1 rfl rfl (hrun _ hN3 _ _ rfl rfl rfl) ?_; rintro v' W' ⟨ho', hm'⟩; obtain ⟨a', c', rfl⟩ := ho'.slice; have hb4 := (hm' W3 (fun b => Value.ownBlock (.slice va d.length vc) = some b) (Mods.refl _ _) (fun g hg => .inr hg)).boxed hb3 (fun hg => by have := (HO2.out.lt hg).1; omega); obtain ⟨c4, f4⟩ := hb4.both))
    rw [List.length_append, List.length_singleton] at ho'
    obtain ⟨V, hV⟩ : ∃ V, (Value.slice a' (d.length + 1) c') = V := ⟨_, rfl⟩
    rw [hV] at ho' ⊢
    refine ⟨(hm' W2 _ (Mods.ofNew hN3) (fun g hg => .inr (.inr (HO2.out.lt hg).1))).trans ((setMods W' B 0 V).mono fun b hb => .inl hb), _, hb4.set V, ?_, ?_, (hm' w4 _ (HM2.out.trans (Mods.ofNew hN3)) (fun g hg => .inl (HO2.out.lt hg).1)).trans ((setMods W' B 0 V).mono fun b hb => .inl hb)⟩
    ·rw [Hnx.out, hset.out]
     exact ho'.mods (setMods W' B 0 V) (fun g hg e => by have := (ho'.lt hg).1; omega) (fun g cs t fr hg hc => by
      subst hg
      rw [show W'.heap[g]? = _ from hb4] at hc
      cases hc; decide)
    ·rw [Hnx.out]; exact setM_nodup hnd
end Go.Proofs.YtkiiameibdhdfaaGreatDoor
namespace Go.Proofs.YtkiiameibdhdfaaGreatDoor
open Go.RowKit Go.Shelf Go.Cs
attribute [local go_sem] Oper.semAt_some


theorem RowR.cells {W : World} {n sz cap : Nat} {f : Nat → List Value} {ao : Option Addr} (h0 : 0 < sz) (hf : ∀ i, (f i).length = sz) (h : RowR W (.slice ao n cap) n sz f) : (ao = none → n = 0) ∧ ∀ a, ao = some a → ∀ j u, (flatF n f)[j]? = some u → W.cell? (a.add j) = some u := by
 obtain ⟨hn, ao', cap', e, hc⟩ := h
 cases e
 refine ⟨fun e => ?_, ?_⟩
 ·subst e
  rcases Nat.eq_zero_or_pos n with h | h
  ·exact h
  ·obtain ⟨b, o, e, _⟩ := hc 0 h
   cases e
 ·rintro a rfl j u hj
  rw [flatF_at h0 hf] at hj
  split at hj
  ·rename_i hlt
   have hq : j / sz < n := Nat.div_lt_of_lt_mul (by rw [Nat.mul_comm]; exact hlt)
   obtain ⟨b, o, e, hr⟩ := hc _ hq
   cases e
   have := hr (j % sz) u hj
   rw [show (⟨b, o, none⟩ : Addr).add j = ⟨b, o + j, none⟩ by unfold Addr.add; split <;> simp_all]
   have e2 : o + j / sz * sz + j % sz = o + j := by
    have := Nat.div_add_mod j sz
    rw [Nat.mul_comm] at this
    omega
   rw [e2] at this
   exact this
  ·cases hj
set_option maxHeartbeats 2000000 in
set_option maxRecDepth 100000 in
theorem clone_P (v : Value) (n : Nat) (f : Nat → List Value) (w : World) (hf : ∀ i, (f i).length = 5) (h1 : ∀ i, i < n → ∀ u ∈ f i, u.oneCell' = true) (hv : RowR w v n 5 f) (hn : n ≤ 2513169434880) : Calls Tryz.prog 130 #[v] w fun e w' => ∃ v', e = .returned v' ∧ OwP w.heap.size w' v' n f ∧ New w w' := by
 obtain ⟨i0, hi, hz0, hz1, hz2⟩ := info_parts infoP
 obtain ⟨ao, cap, rfl⟩ := hv.slice
 obtain ⟨g1, g2⟩ := hv.cells (by decide) hf
 clear hv
 cases ao with
 | none =>
  obtain rfl : n = 0 := g1 rfl
  clear g1 g2
  have q : ∀ (w : World) (a : Option Addr) (n c n' c' : Nat), (binOp .eql 62 (.slice a n c) (.slice none n' c')).run Tryz.prog w = .ok (.bool a.isNone) w := fun w a n c n' c' => Lib.run_eql_slice_nil w _ _ a n c n' c' Tryz.underlying62
  go_enter Tryz.func130, Tryz.ntmps130
  go_wp2_with fail
  go_ret
  exact ⟨_, rfl, OwP.nil _ _ _ hf, Mods.refl _ _⟩
 | some a =>
  have hg2 := Lib.hid (g2 a rfl)
  have hfl := flatF_len hf n
  have hone := Lib.hid (flatF_one h1)
  have h1' := Lib.hid h1
  have hf' := Lib.hid hf
  obtain ⟨L, hL⟩ : ∃ L, flatF n f = L := ⟨_, rfl⟩
  have HL := Lib.hid hL
  rw [hL] at hg2 hfl hone
  clear g1 g2 hf h1 hL
  have q : ∀ (w : World) (a : Option Addr) (n c n' c' : Nat), (binOp .eql 62 (.slice a n c) (.slice none n' c')).run Tryz.prog w = .ok (.bool a.isNone) w := fun w a n c n' c' => Lib.run_eql_slice_nil w _ _ a n c n' c' Tryz.underlying62
  go_enter Tryz.func130, Tryz.ntmps130
  go_wp2_with (at_builtin; refine wpList_append_own _ rfl _ _ 62 rfl w.heap.size 73 i0 _ 5 56 Tryz.underlying62 hi hz0 hz1 hz2 rfl (by decide) _ _ _ rfl (World.ownsRow_made w #[] 0 (Nat.le_refl _) (Nat.zero_le _) rfl) a n cap L rfl ?qc1 ?qc2 ?qc3 ?qc4 ?qc5 ?qc6 ?_)
  case qc1 => omega
  case qc2 =>
   intro j u hj
   exact Lib.cell?_alloc_some _ (hg2.out j u hj)
  case qc3 => exact hone.out
  case qc4 => unfold maxLen; omega
  case qc5 => omega
  case qc6 => simp
  intro v' w1 hown hgrow hnil
  go_wp2_with fail
  go_ret
  refine ⟨v', rfl, ⟨hf'.out, h1'.out, ?_⟩, ((Mods.refl _ w).alloc _).grown hgrow (by intro k hk; simp [Value.ownBlock] at hk; exact .inl (by omega))⟩
  rw [HL.out]
  simpa using hown
set_option maxHeartbeats 2000000 in
set_option maxRecDepth 100000 in
theorem clone_X (v : Value) (n : Nat) (f : Nat → List Value) (w : World) (hf : ∀ i, (f i).length = 5) (h1 : ∀ i, i < n → ∀ u ∈ f i, u.oneCell' = true) (hv : RowR w v n 5 f) (hn : n ≤ 2199023255552) : Calls Tryz.prog 129 #[v] w fun e w' => ∃ v', e = .returned v' ∧ OwX w.heap.size w' v' n f ∧ New w w' := by
 obtain ⟨i0, hi, hz0, hz1, hz2⟩ := info_parts infoX
 obtain ⟨ao, cap, rfl⟩ := hv.slice
 obtain ⟨g1, g2⟩ := hv.cells (by decide) hf
 clear hv
 cases ao with
 | none =>
  obtain rfl : n = 0 := g1 rfl
  clear g1 g2
  have q : ∀ (w : World) (a : Option Addr) (n c n' c' : Nat), (binOp .eql 61 (.slice a n c) (.slice none n' c')).run Tryz.prog w = .ok (.bool a.isNone) w := fun w a n c n' c' => Lib.run_eql_slice_nil w _ _ a n c n' c' Tryz.underlying61
  go_enter Tryz.func129, Tryz.ntmps129
  go_wp2_with fail
  go_ret
  exact ⟨_, rfl, OwX.nil _ _ _ hf, Mods.refl _ _⟩
 | some a =>
  have hg2 := Lib.hid (g2 a rfl)
  have hfl := flatF_len hf n
  have hone := Lib.hid (flatF_one h1)
  have h1' := Lib.hid h1
  have hf' := Lib.hid hf
  obtain ⟨L, hL⟩ : ∃ L, flatF n f = L := ⟨_, rfl⟩
  have HL := Lib.hid hL
  rw [hL] at hg2 hfl hone
  clear g1 g2 hf h1 hL
  have q : ∀ (w : World) (a : Option Addr) (n c n' c' : Nat), (binOp .eql 61 (.slice a n c) (.slice none n' c')).run Tryz.prog w = .ok (.bool a.isNone) w := fun w a n c n' c' => Lib.run_eql_slice_nil w _ _ a n c n' c' Tryz.underlying61
  go_enter Tryz.func129, Tryz.ntmps129
  go_wp2_with (at_builtin; refine wpList_append_own _ rfl _ _ 61 rfl w.heap.size 71 i0 _ 5 64 Tryz.underlying61 hi hz0 hz1 hz2 rfl (by decide) _ _ _ rfl (World.ownsRow_made w #[] 0 (Nat.le_refl _) (Nat.zero_le _) rfl) a n cap L rfl ?qc1 ?qc2 ?qc3 ?qc4 ?qc5 ?qc6 ?_)
  case qc1 => omega
  case qc2 =>
   intro j u hj
   exact Lib.cell?_alloc_some _ (hg2.out j u hj)
  case qc3 => exact hone.out
  case qc4 => unfold maxLen; omega
  case qc5 => omega
  case qc6 => simp
  intro v' w1 hown hgrow hnil
  go_wp2_with fail
  go_ret
  refine ⟨v', rfl, ⟨hf'.out, h1'.out, ?_⟩, ((Mods.refl _ w).alloc _).grown hgrow (by intro k hk; simp [Value.ownBlock] at hk; exact .inl (by omega))⟩
  rw [HL.out]
  simpa using hown
end Go.Proofs.YtkiiameibdhdfaaGreatDoor
namespace Go.Proofs.YtkiiameibdhdfaaGreatDoor
open Go.RowKit Go.Shelf Go.Cs
attribute [local go_sem] Oper.semAt_some


noncomputable def reg_dict_own_1 : Code := ((Tryz.f80.body.bind (regionOf 1)).getD .skip)
set_option maxHeartbeats 4000000 in
set_option maxRecDepth 100000 in
theorem own1 (t : Array Value) (hs : t.size = 32) (w : World) {B n m ic pc : Nat} {ia pa : Option Addr} {x2 : Value} {q : ByteArray} {y : Bool} {f g : Nat → List Value}
  (hq1 : t.getD 1 undef = .pointer (some ⟨B, 0, none⟩))
  (hq2 : t.getD 2 undef = x2)
  (hB : w.heap[B]? = some (.cells #[.string q, .bool y, .slice ia n ic, .slice pa m pc] 64 (0, 0)))
  (HX : Hid (∀ W, New w W → Calls Tryz.prog 129 #[.slice ia n ic] W fun e w' => ∃ v', e = .returned v' ∧ OwX w.heap.size w' v' n f ∧ New W w'))
  (HP : Hid (∀ W, New w W → Calls Tryz.prog 130 #[.slice pa m pc] W fun e w' => ∃ v', e = .returned v' ∧ OwP w.heap.size w' v' m g ∧ New W w')) :
  reg_dict_own_1.wp Tryz.prog (Only fun a' W' => ∃ iv' pv', (a'.tmps.size = 32 ∧ a'.defers = [] ∧ a'.tmps.getD 1 undef = .pointer (some ⟨B, 0, none⟩) ∧ a'.tmps.getD 2 undef = x2) ∧ W'.heap[B]? = some (.cells #[.string q, .bool y, iv', pv'] 64 (0, 0)) ∧ OwX w.heap.size W' iv' n f ∧ OwP w.heap.size W' pv' m g ∧ Mods (fun b => b = B) w W') ⟨t, []⟩ w := by
 conv => arg 2; whnf
 obtain ⟨u, rfl⟩ := lit32 t hs
 have hq1 : u 1 = .pointer (some ⟨B, 0, none⟩) := hq1
 have hq2 : u 2 = x2 := hq2
 rw [hq1, hq2]
 clear hq1 hq2 hs
 have hN : New w w.drew := (Mods.refl _ _).drew
 have hS : Mods (fun b => b = B) w w.drew := (Mods.refl _ _).drew
 have hBl : B < w.heap.size := (Array.getElem?_eq_some_iff.1 hB).1
 have hBd : w.drew.heap[B]? = _ := hB
 have c2x := cell_of_row _ _ 2 _ _ _ hBd
 have c3x := cell_of_row _ _ 3 _ _ _ hBd
 simp only [List.getElem?_toArray, List.getElem?_cons_succ, List.getElem?_cons_zero] at c2x c3x
 refine wp_region_held (S := fun W => Mods (fun b => b = B) w W) (by kernel_rfl) ?_
 show wpAnyH _ _ _ _ _ 10 _ _ w.drew
 refine anyH_take 0 (some 4) (.pointer (some ⟨B, 2, none⟩)) rfl rfl (by kernel_rfl) (by kernel_rfl) (by kernel_rfl) (fun _ _ _ h => h.elim) (.inl ⟨by rfl, fun W hW => by go_simp⟩) hS ?_
 simp only [Act.put, List.setIfInBounds_toArray, List.set_cons_succ, List.set_cons_zero]
 refine anyH_take 3 (some 7) (.pointer (some ⟨B, 3, none⟩)) rfl rfl (by kernel_rfl) (by kernel_rfl) (by kernel_rfl) (fun _ _ _ h => h.elim) (.inl ⟨by rfl, fun W hW => by go_simp⟩) hS ?_
 simp only [Act.put, List.setIfInBounds_toArray, List.set_cons_succ, List.set_cons_zero]
 refine wpAnyH_all (rs := [1, 4]) (by kernel_rfl) (by simp) ?_
 intro i hi
 simp only [List.mem_cons, List.not_mem_nil, or_false] at hi
 rcases hi with rfl | rfl
 ·refine opH_value (some 5) (w' := w.drew) (v := .slice ia n ic) rfl (by rfl) rfl (by go_simp) ?_
  refine ⟨hS, ?_⟩
  simp only [Act.put, List.setIfInBounds_toArray, List.set_cons_succ, List.set_cons_zero]
  refine wpAnyH_all (rs := [2, 4]) (by kernel_rfl) (by simp) ?_
  intro i hi
  simp only [List.mem_cons, List.not_mem_nil, or_false] at hi
  rcases hi with rfl | rfl
  ·refine opH_call (some 6) rfl (by rfl) rfl 129 #[.slice ia n ic] (by go_simp) ((HX.out _ hN).mono ?_)
   rintro e w2 ⟨iv', rfl, hox, hk⟩
   have hN := hN.trans hk
   have hS : Mods (fun b => b = B) w w2 := Mods.ofNew hN
   obtain ⟨ja, jc, rfl⟩ := hox.slice
   have rB := hN.heap hB id
   have c2x := cell_of_row _ _ 2 _ _ _ rB
   have c3x := cell_of_row _ _ 3 _ _ _ rB
   simp only [List.getElem?_toArray, List.getElem?_cons_succ, List.getElem?_cons_zero] at c2x c3x
   clear hk
   refine ⟨_, rfl, hS, ?_⟩
   simp only [Act.put, List.setIfInBounds_toArray, List.set_cons_succ, List.set_cons_zero]
   refine wpAnyH_all (rs := [4]) (by kernel_rfl) (by simp) ?_
   simp only [List.mem_cons, List.not_mem_nil, or_false, forall_eq]
   refine opH_value (some 8) (w' := w2) (v := .slice pa m pc) rfl (by rfl) rfl (by go_simp) ?_
   refine ⟨hS, ?_⟩
   simp only [Act.put, List.setIfInBounds_toArray, List.set_cons_succ, List.set_cons_zero]
   refine anyH_take 6 (some 10) (.pointer (some ⟨B, 2, none⟩)) rfl rfl (by kernel_rfl) (by kernel_rfl) (by kernel_rfl) (fun _ _ _ h => h.elim) (.inl ⟨by rfl, fun W hW => by go_simp⟩) hS ?_
   simp only [Act.put, List.setIfInBounds_toArray, List.set_cons_succ, List.set_cons_zero]
   refine wpAnyH_all (rs := [5]) (by kernel_rfl) (by simp) ?_
   simp only [List.mem_cons, List.not_mem_nil, or_false, forall_eq]
   refine opH_call (some 9) rfl (by rfl) rfl 130 #[.slice pa m pc] (by go_simp) ((HP.out _ hN).mono ?_)
   rintro e w5 ⟨pv', rfl, hop, hk⟩
   have hox := hox.new hk
   have hN := hN.trans hk
   have hS : Mods (fun b => b = B) w w5 := Mods.ofNew hN
   obtain ⟨qa, qc, rfl⟩ := hop.slice
   have rB := hN.heap hB id
   have c2x := cell_of_row _ _ 2 _ _ _ rB
   have c3x := cell_of_row _ _ 3 _ _ _ rB
   simp only [List.getElem?_toArray, List.getElem?_cons_succ, List.getElem?_cons_zero] at c2x c3x
   have f2 := frozen_row (i := 2) rB
   clear hk
   refine ⟨_, rfl, hS, ?_⟩
   simp only [Act.put, List.setIfInBounds_toArray, List.set_cons_succ, List.set_cons_zero]
   refine wpAnyH_all (rs := [7]) (by kernel_rfl) (by simp) ?_
   simp only [List.mem_cons, List.not_mem_nil, or_false, forall_eq]
   refine opH_skip none (w' := w5.setCell ⟨B, 2, none⟩ (.slice ja n jc)) rfl (by rfl) rfl (by go_simp) ?_
   have hm1 := setMods w5 B 2 (.slice ja n jc)
   have rB1 := setCell_heap (i := 2) rB (.slice ja n jc)
   obtain ⟨w6, hw6⟩ : ∃ w6, w5.setCell ⟨B, 2, none⟩ (.slice ja n jc) = w6 := ⟨_, rfl⟩
   rw [hw6] at hm1 rB1 ⊢
   have rB1 : w6.heap[B]? = some (.cells #[.string q, .bool y, .slice ja n jc, .slice pa m pc] 64 (0, 0)) := rB1
   have hS := hS.trans hm1
   have c3y := cell_of_row _ _ 3 _ _ _ rB1
   simp only [List.getElem?_toArray, List.getElem?_cons_succ, List.getElem?_cons_zero] at c3y
   have f3 := frozen_row (i := 3) rB1
   refine ⟨hS, ?_⟩
   simp only [Act.put, List.setIfInBounds_toArray, List.set_cons_succ, List.set_cons_zero]
   refine anyH_take 8 (some 11) (.pointer (some ⟨B, 3, none⟩)) rfl rfl (by kernel_rfl) (by kernel_rfl) (by kernel_rfl) (fun _ _ _ h => h.elim) (.inl ⟨by rfl, fun W hW => by go_simp⟩) hS ?_
   simp only [Act.put, List.setIfInBounds_toArray, List.set_cons_succ, List.set_cons_zero]
   refine wpAnyH_all (rs := [9]) (by kernel_rfl) (by simp) ?_
   simp only [List.mem_cons, List.not_mem_nil, or_false, forall_eq]
   refine opH_skip none (w' := w6.setCell ⟨B, 3, none⟩ (.slice qa m qc)) rfl (by rfl) rfl (by go_simp) ?_
   have hm2 := setMods w6 B 3 (.slice qa m qc)
   have rB2 := setCell_heap (i := 3) rB1 (.slice qa m qc)
   refine ⟨hS.trans hm2, ?_⟩
   refine wpAnyH_done (by kernel_rfl) ?_ _
   have hmm := hm1.trans hm2
   exact ⟨.slice ja n jc, .slice qa m qc, ⟨rfl, rfl, rfl, rfl⟩, rB2, hox.mods hmm (fun g hg e => by have := (hox.lt hg).1; omega), hop.mods hmm (fun g hg e => by have := (hop.lt hg).1; omega), hS.trans hm2⟩
  ·refine opH_value (some 8) (w' := w.drew) (v := .slice pa m pc) rfl (by rfl) rfl (by go_simp) ?_
   refine ⟨hS, ?_⟩
   simp only [Act.put, List.setIfInBounds_toArray, List.set_cons_succ, List.set_cons_zero]
   refine wpAnyH_all (rs := [2]) (by kernel_rfl) (by simp) ?_
   simp only [List.mem_cons, List.not_mem_nil, or_false, forall_eq]
   refine opH_call (some 6) rfl (by rfl) rfl 129 #[.slice ia n ic] (by go_simp) ((HX.out _ hN).mono ?_)
   rintro e w2 ⟨iv', rfl, hox, hk⟩
   have hN := hN.trans hk
   have hS : Mods (fun b => b = B) w w2 := Mods.ofNew hN
   obtain ⟨ja, jc, rfl⟩ := hox.slice
   have rB := hN.heap hB id
   have c2x := cell_of_row _ _ 2 _ _ _ rB
   have c3x := cell_of_row _ _ 3 _ _ _ rB
   simp only [List.getElem?_toArray, List.getElem?_cons_succ, List.getElem?_cons_zero] at c2x c3x
   clear hk
   refine ⟨_, rfl, hS, ?_⟩
   simp only [Act.put, List.setIfInBounds_toArray, List.set_cons_succ, List.set_cons_zero]
   refine anyH_take 6 (some 10) (.pointer (some ⟨B, 2, none⟩)) rfl rfl (by kernel_rfl) (by kernel_rfl) (by kernel_rfl) (fun _ _ _ h => h.elim) (.inl ⟨by rfl, fun W hW => by go_simp⟩) hS ?_
   simp only [Act.put, List.setIfInBounds_toArray, List.set_cons_succ, List.set_cons_zero]
   refine wpAnyH_all (rs := [5]) (by kernel_rfl) (by simp) ?_
   simp only [List.mem_cons, List.not_mem_nil, or_false, forall_eq]
   refine opH_call (some 9) rfl (by rfl) rfl 130 #[.slice pa m pc] (by go_simp) ((HP.out _ hN).mono ?_)
   rintro e w5 ⟨pv', rfl, hop, hk⟩
   have hox := hox.new hk
   have hN := hN.trans hk
   have hS : Mods (fun b => b = B) w w5 := Mods.ofNew hN
   obtain ⟨qa, qc, rfl⟩ := hop.slice
   have rB := hN.heap hB id
   have c2x := cell_of_row _ _ 2 _ _ _ rB
   have c3x := cell_of_row _ _ 3 _ _ _ rB
   simp only [List.getElem?_toArray, List.getElem?_cons_succ, List.getElem?_cons_zero] at c2x c3x
   have f2 := frozen_row (i := 2) rB
   clear hk
   refine ⟨_, rfl, hS, ?_⟩
   simp only [Act.put, List.setIfInBounds_toArray, List.set_cons_succ, List.set_cons_zero]
   refine wpAnyH_all (rs := [7]) (by kernel_rfl) (by simp) ?_
   simp only [List.mem_cons, List.not_mem_nil, or_false, forall_eq]
   refine opH_skip none (w' := w5.setCell ⟨B, 2, none⟩ (.slice ja n jc)) rfl (by rfl) rfl (by go_simp) ?_
   have hm1 := setMods w5 B 2 (.slice ja n jc)
   have rB1 := setCell_heap (i := 2) rB (.slice ja n jc)
   obtain ⟨w6, hw6⟩ : ∃ w6, w5.setCell ⟨B, 2, none⟩ (.slice ja n jc) = w6 := ⟨_, rfl⟩
   rw [hw6] at hm1 rB1 ⊢
   have rB1 : w6.heap[B]? = some (.cells #[.string q, .bool y, .slice ja n jc, .slice pa m pc] 64 (0, 0)) := rB1
   have hS := hS.trans hm1
   have c3y := cell_of_row _ _ 3 _ _ _ rB1
   simp only [List.getElem?_toArray, List.getElem?_cons_succ, List.getElem?_cons_zero] at c3y
   have f3 := frozen_row (i := 3) rB1
   refine ⟨hS, ?_⟩
   simp only [Act.put, List.setIfInBounds_toArray, List.set_cons_succ, List.set_cons_zero]
   refine anyH_take 8 (some 11) (.pointer (some ⟨B, 3, none⟩)) rfl rfl (by kernel_rfl) (by kernel_rfl) (by kernel_rfl) (fun _ _ _ h => h.elim) (.inl ⟨by rfl, fun W hW => by go_simp⟩) hS ?_
   simp only [Act.put, List.setIfInBounds_toArray, List.set_cons_succ, List.set_cons_zero]
   refine wpAnyH_all (rs := [9]) (by kernel_rfl) (by simp) ?_
   simp only [List.mem_cons, List.not_mem_nil, or_false, forall_eq]
   refine opH_skip none (w' := w6.setCell ⟨B, 3, none⟩ (.slice qa m qc)) rfl (by rfl) rfl (by go_simp) ?_
   have hm2 := setMods w6 B 3 (.slice qa m qc)
   have rB2 := setCell_heap (i := 3) rB1 (.slice qa m qc)
   refine ⟨hS.trans hm2, ?_⟩
   refine wpAnyH_done (by kernel_rfl) ?_ _
   have hmm := hm1.trans hm2
   exact ⟨.slice ja n jc, .slice qa m qc, ⟨rfl, rfl, rfl, rfl⟩, rB2, hox.mods hmm (fun g hg e => by have := (hox.lt hg).1; omega), hop.mods hmm (fun g hg e => by have := (hop.lt hg).1; omega), hS.trans hm2⟩
 ·refine opH_value (some 8) (w' := w.drew) (v := .slice pa m pc) rfl (by rfl) rfl (by go_simp) ?_
  refine ⟨hS, ?_⟩
  simp only [Act.put, List.setIfInBounds_toArray, List.set_cons_succ, List.set_cons_zero]
  refine wpAnyH_all (rs := [1]) (by kernel_rfl) (by simp) ?_
  simp only [List.mem_cons, List.not_mem_nil, or_false, forall_eq]
  refine opH_value (some 5) (w' := w.drew) (v := .slice ia n ic) rfl (by rfl) rfl (by go_simp) ?_
  refine ⟨hS, ?_⟩
  simp only [Act.put, List.setIfInBounds_toArray, List.set_cons_succ, List.set_cons_zero]
  refine wpAnyH_all (rs := [2]) (by kernel_rfl) (by simp) ?_
  simp only [List.mem_cons, List.not_mem_nil, or_false, forall_eq]
  refine opH_call (some 6) rfl (by rfl) rfl 129 #[.slice ia n ic] (by go_simp) ((HX.out _ hN).mono ?_)
  rintro e w2 ⟨iv', rfl, hox, hk⟩
  have hN := hN.trans hk
  have hS : Mods (fun b => b = B) w w2 := Mods.ofNew hN
  obtain ⟨ja, jc, rfl⟩ := hox.slice
  have rB := hN.heap hB id
  have c2x := cell_of_row _ _ 2 _ _ _ rB
  have c3x := cell_of_row _ _ 3 _ _ _ rB
  simp only [List.getElem?_toArray, List.getElem?_cons_succ, List.getElem?_cons_zero] at c2x c3x
  clear hk
  refine ⟨_, rfl, hS, ?_⟩
  simp only [Act.put, List.setIfInBounds_toArray, List.set_cons_succ, List.set_cons_zero]
  refine anyH_take 6 (some 10) (.pointer (some ⟨B, 2, none⟩)) rfl rfl (by kernel_rfl) (by kernel_rfl) (by kernel_rfl) (fun _ _ _ h => h.elim) (.inl ⟨by rfl, fun W hW => by go_simp⟩) hS ?_
  simp only [Act.put, List.setIfInBounds_toArray, List.set_cons_succ, List.set_cons_zero]
  refine wpAnyH_all (rs := [5]) (by kernel_rfl) (by simp) ?_
  simp only [List.mem_cons, List.not_mem_nil, or_false, forall_eq]
  refine opH_call (some 9) rfl (by rfl) rfl 130 #[.slice pa m pc] (by go_simp) ((HP.out _ hN).mono ?_)
  rintro e w5 ⟨pv', rfl, hop, hk⟩
  have hox := hox.new hk
  have hN := hN.trans hk
  have hS : Mods (fun b => b = B) w w5 := Mods.ofNew hN
  obtain ⟨qa, qc, rfl⟩ := hop.slice
  have rB := hN.heap hB id
  have c2x := cell_of_row _ _ 2 _ _ _ rB
  have c3x := cell_of_row _ _ 3 _ _ _ rB
  simp only [List.getElem?_toArray, List.getElem?_cons_succ, List.getElem?_cons_zero] at c2x c3x
  have f2 := frozen_row (i := 2) rB
  clear hk
  refine ⟨_, rfl, hS, ?_⟩
  simp only [Act.put, List.setIfInBounds_toArray, List.set_cons_succ, List.set_cons_zero]
  refine wpAnyH_all (rs := [7]) (by kernel_rfl) (by simp) ?_
  simp only [List.mem_cons, List.not_mem_nil, or_false, forall_eq]
  refine opH_skip none (w' := w5.setCell ⟨B, 2, none⟩ (.slice ja n jc)) rfl (by rfl) rfl (by go_simp) ?_
  have hm1 := setMods w5 B 2 (.slice ja n jc)
  have rB1 := setCell_heap (i := 2) rB (.slice ja n jc)
  obtain ⟨w6, hw6⟩ : ∃ w6, w5.setCell ⟨B, 2, none⟩ (.slice ja n jc) = w6 := ⟨_, rfl⟩
  rw [hw6] at hm1 rB1 ⊢
  have rB1 : w6.heap[B]? = some (.cells #[.string q, .bool y, .slice ja n jc, .slice pa m pc] 64 (0, 0)) := rB1
  have hS := hS.trans hm1
  have c3y := cell_of_row _ _ 3 _ _ _ rB1
  simp only [List.getElem?_toArray, List.getElem?_cons_succ, List.getElem?_cons_zero] at c3y
  have f3 := frozen_row (i := 3) rB1
  refine ⟨hS, ?_⟩
  simp only [Act.put, List.setIfInBounds_toArray, List.set_cons_succ, List.set_cons_zero]
  refine anyH_take 8 (some 11) (.pointer (some ⟨B, 3, none⟩)) rfl rfl (by kernel_rfl) (by kernel_rfl) (by kernel_rfl) (fun _ _ _ h => h.elim) (.inl ⟨by rfl, fun W hW => by go_simp⟩) hS ?_
  simp only [Act.put, List.setIfInBounds_toArray, List.set_cons_succ, List.set_cons_zero]
  refine wpAnyH_all (rs := [9]) (by kernel_rfl) (by simp) ?_
  simp only [List.mem_cons, List.not_mem_nil, or_false, forall_eq]
  refine opH_skip none (w' := w6.setCell ⟨B, 3, none⟩ (.slice qa m qc)) rfl (by rfl) rfl (by go_simp) ?_
  have hm2 := setMods w6 B 3 (.slice qa m qc)
  have rB2 := setCell_heap (i := 3) rB1 (.slice qa m qc)
  refine ⟨hS.trans hm2, ?_⟩
  refine wpAnyH_done (by kernel_rfl) ?_ _
  have hmm := hm1.trans hm2
  exact ⟨.slice ja n jc, .slice qa m qc, ⟨rfl, rfl, rfl, rfl⟩, rB2, hox.mods hmm (fun g hg e => by have := (hox.lt hg).1; omega), hop.mods hmm (fun g hg e => by have := (hop.lt hg).1; omega), hS.trans hm2⟩
noncomputable def reg_dict_own_5 : Code := ((Tryz.f80.body.bind (regionOf 5)).getD .skip)
set_option maxHeartbeats 4000000 in
set_option maxRecDepth 100000 in
theorem own5 (t : Array Value) (hs : t.size = 32) (w : World) {base B g i n m ic pc : Nat} {pa : Option Addr} {x0 x2 x4 x5 x6 x7 x8 x9 x10 x11 x12 x13 x31 : Value} {f : Nat → List Value}
  (hq1 : t.getD 1 undef = .pointer (some ⟨B, 0, none⟩))
  (hq3 : t.getD 3 undef = .int .i64 i)
  (hq14 : t.getD 14 undef = .int .i64 n)
  (hq15 : t.getD 15 undef = .int .i64 i)
  (hq0 : t.getD 0 undef = x0)
  (hq2 : t.getD 2 undef = x2)
  (hq4 : t.getD 4 undef = x4)
  (hq5 : t.getD 5 undef = x5)
  (hq6 : t.getD 6 undef = x6)
  (hq7 : t.getD 7 undef = x7)
  (hq8 : t.getD 8 undef = x8)
  (hq9 : t.getD 9 undef = x9)
  (hq10 : t.getD 10 undef = x10)
  (hq11 : t.getD 11 undef = x11)
  (hq12 : t.getD 12 undef = x12)
  (hq13 : t.getD 13 undef = x13)
  (hq31 : t.getD 31 undef = x31)
  (c2 : w.cell? ⟨B, 2, none⟩ = some (.slice (some ⟨g, 0, none⟩) n ic)) (hi : i < n) (hgB : ¬ B = g) (hc : w.cell? ⟨g, i * 5 + 4, none⟩ = some (.slice pa m pc)) (hfz : Hid (∀ W, New w W → W.frozen? ⟨g, i * 5 + 4, none⟩ = false))
  (HP : Hid (∀ W, New w W → Calls Tryz.prog 130 #[.slice pa m pc] W fun e w' => ∃ v', e = .returned v' ∧ OwP base w' v' m f ∧ New W w')) :
  reg_dict_own_5.wp Tryz.prog (Only fun a' W' => ∃ pv' w2, (a'.tmps.size = 32 ∧ a'.defers = [] ∧ a'.tmps.getD 1 undef = .pointer (some ⟨B, 0, none⟩) ∧ a'.tmps.getD 3 undef = .int .i64 i ∧ a'.tmps.getD 14 undef = .int .i64 n ∧ a'.tmps.getD 15 undef = .int .i64 i ∧ a'.tmps.getD 0 undef = x0 ∧ a'.tmps.getD 2 undef = x2 ∧ a'.tmps.getD 4 undef = x4 ∧ a'.tmps.getD 5 undef = x5 ∧ a'.tmps.getD 6 undef = x6 ∧ a'.tmps.getD 7 undef = x7 ∧ a'.tmps.getD 8 undef = x8 ∧ a'.tmps.getD 9 undef = x9 ∧ a'.tmps.getD 10 undef = x10 ∧ a'.tmps.getD 11 undef = x11 ∧ a'.tmps.getD 12 undef = x12 ∧ a'.tmps.getD 13 undef = x13 ∧ a'.tmps.getD 31 undef = x31) ∧ W' = w2.setCell ⟨g, i * 5 + 4, none⟩ pv' ∧ New w w2 ∧ OwP base w2 pv' m f) ⟨t, []⟩ w := by
 conv => arg 2; whnf
 obtain ⟨u, rfl⟩ := lit32 t hs
 have hq1 : u 1 = .pointer (some ⟨B, 0, none⟩) := hq1
 have hq3 : u 3 = .int .i64 i := hq3
 have hq14 : u 14 = .int .i64 n := hq14
 have hq15 : u 15 = .int .i64 i := hq15
 have hq0 : u 0 = x0 := hq0
 have hq2 : u 2 = x2 := hq2
 have hq4 : u 4 = x4 := hq4
 have hq5 : u 5 = x5 := hq5
 have hq6 : u 6 = x6 := hq6
 have hq7 : u 7 = x7 := hq7
 have hq8 : u 8 = x8 := hq8
 have hq9 : u 9 = x9 := hq9
 have hq10 : u 10 = x10 := hq10
 have hq11 : u 11 = x11 := hq11
 have hq12 : u 12 = x12 := hq12
 have hq13 : u 13 = x13 := hq13
 have hq31 : u 31 = x31 := hq31
 rw [hq1, hq3, hq14, hq15, hq0, hq2, hq4, hq5, hq6, hq7, hq8, hq9, hq10, hq11, hq12, hq13, hq31]
 clear hq1 hq3 hq14 hq15 hq0 hq2 hq4 hq5 hq6 hq7 hq8 hq9 hq10 hq11 hq12 hq13 hq31 hs
 have hN : New w w.drew := (Mods.refl _ _).drew
 have hS : Mods (fun b => b = g) w w.drew := (Mods.refl _ _).drew
 have hid : decide ((i : Int) < (n : Int)) = true := decide_eq_true (by omega)
 have hc4 := hN.cell hc id
 have hCd : w.drew.cell? ⟨g, i * 5 + 4, none⟩ = _ := hc4
 refine wp_region_held (S := fun W => Mods (fun b => b = g) w W) (by kernel_rfl) ?_
 show wpAnyH _ _ _ _ _ 13 _ _ w.drew
 refine anyH_take 0 (some 18) (.pointer (some ⟨B, 2, none⟩)) rfl rfl (by kernel_rfl) (by kernel_rfl) (by kernel_rfl) (fun _ _ _ h => h.elim) (.inl ⟨by rfl, fun W hW => by go_simp⟩) hS ?_
 simp only [Act.put, List.setIfInBounds_toArray, List.set_cons_succ, List.set_cons_zero]
 refine anyH_take 1 (some 19) (.slice (some ⟨g, 0, none⟩) n ic) rfl rfl (by kernel_rfl) (by kernel_rfl) (by kernel_rfl) (fun _ _ _ h => h.elim) (.inl ⟨by rfl, fun W hW => by have hh : Mods (fun b => b = g) w W := hW; have q := hh.cell c2 hgB; go_simp⟩) hS ?_
 simp only [Act.put, List.setIfInBounds_toArray, List.set_cons_succ, List.set_cons_zero]
 refine anyH_take 2 (some 20) (.int .i64 i) rfl rfl (by kernel_rfl) (by kernel_rfl) (by kernel_rfl) (fun _ _ _ h => h.elim) (.inl ⟨by rfl, fun W hW => by go_simp⟩) hS ?_
 simp only [Act.put, List.setIfInBounds_toArray, List.set_cons_succ, List.set_cons_zero]
 refine anyH_take 3 (some 21) (.pointer (some ⟨B, 2, none⟩)) rfl rfl (by kernel_rfl) (by kernel_rfl) (by kernel_rfl) (fun _ _ _ h => h.elim) (.inl ⟨by rfl, fun W hW => by go_simp⟩) hS ?_
 simp only [Act.put, List.setIfInBounds_toArray, List.set_cons_succ, List.set_cons_zero]
 refine anyH_take 4 (some 22) (.slice (some ⟨g, 0, none⟩) n ic) rfl rfl (by kernel_rfl) (by kernel_rfl) (by kernel_rfl) (fun _ _ _ h => h.elim) (.inl ⟨by rfl, fun W hW => by have hh : Mods (fun b => b = g) w W := hW; have q := hh.cell c2 hgB; go_simp⟩) hS ?_
 simp only [Act.put, List.setIfInBounds_toArray, List.set_cons_succ, List.set_cons_zero]
 refine anyH_take 5 (some 23) (.int .i64 i) rfl rfl (by kernel_rfl) (by kernel_rfl) (by kernel_rfl) (fun _ _ _ h => h.elim) (.inl ⟨by rfl, fun W hW => by go_simp⟩) hS ?_
 simp only [Act.put, List.setIfInBounds_toArray, List.set_cons_succ, List.set_cons_zero]
 refine anyH_take 6 (some 24) (.pointer (some ⟨g, i * 5, none⟩)) rfl rfl (by kernel_rfl) (by kernel_rfl) (by kernel_rfl) (fun _ _ _ h => h.elim) (.inl ⟨by rfl, fun W hW => by go_simp⟩) hS ?_
 simp only [Act.put, List.setIfInBounds_toArray, List.set_cons_succ, List.set_cons_zero]
 refine anyH_take 7 (some 25) (.pointer (some ⟨g, i * 5 + 4, none⟩)) rfl rfl (by kernel_rfl) (by kernel_rfl) (by kernel_rfl) (fun _ _ _ h => h.elim) (.inl ⟨by rfl, fun W hW => by go_simp⟩) hS ?_
 simp only [Act.put, List.setIfInBounds_toArray, List.set_cons_succ, List.set_cons_zero]
 refine wpAnyH_all (rs := [8]) (by kernel_rfl) (by simp) ?_
 simp only [List.mem_cons, List.not_mem_nil, or_false, forall_eq]
 refine opH_value (some 26) (w' := w.drew) (v := .slice pa m pc) rfl (by rfl) rfl (by go_simp) ?_
 refine ⟨hS, ?_⟩
 simp only [Act.put, List.setIfInBounds_toArray, List.set_cons_succ, List.set_cons_zero]
 refine wpAnyH_all (rs := [9]) (by kernel_rfl) (by simp) ?_
 simp only [List.mem_cons, List.not_mem_nil, or_false, forall_eq]
 refine opH_call (some 27) rfl (by rfl) rfl 130 #[.slice pa m pc] (by go_simp) ((HP.out _ hN).mono ?_)
 rintro e w2 ⟨pv', rfl, hop, hk⟩
 have hcw := hk.cell hCd id
 have hN := hN.trans hk
 have hS : Mods (fun b => b = g) w w2 := Mods.ofNew hN
 obtain ⟨qa, qc, rfl⟩ := hop.slice
 have hfw := hfz.out w2 hN
 clear hk
 refine ⟨_, rfl, hS, ?_⟩
 simp only [Act.put, List.setIfInBounds_toArray, List.set_cons_succ, List.set_cons_zero]
 refine anyH_take 10 (some 28) (.pointer (some ⟨g, i * 5, none⟩)) rfl rfl (by kernel_rfl) (by kernel_rfl) (by kernel_rfl) (fun _ _ _ h => h.elim) (.inl ⟨by rfl, fun W hW => by go_simp⟩) hS ?_
 simp only [Act.put, List.setIfInBounds_toArray, List.set_cons_succ, List.set_cons_zero]
 refine anyH_take 11 (some 29) (.pointer (some ⟨g, i * 5 + 4, none⟩)) rfl rfl (by kernel_rfl) (by kernel_rfl) (by kernel_rfl) (fun _ _ _ h => h.elim) (.inl ⟨by rfl, fun W hW => by go_simp⟩) hS ?_
 simp only [Act.put, List.setIfInBounds_toArray, List.set_cons_succ, List.set_cons_zero]
 refine wpAnyH_all (rs := [12]) (by kernel_rfl) (by simp) ?_
 simp only [List.mem_cons, List.not_mem_nil, or_false, forall_eq]
 refine opH_skip none (w' := w2.setCell ⟨g, i * 5 + 4, none⟩ (.slice qa m qc)) rfl (by rfl) rfl (by go_simp) ?_
 refine ⟨hS.trans (setMods w2 g _ _), ?_⟩
 refine wpAnyH_done (by kernel_rfl) ?_ _
 exact ⟨.slice qa m qc, w2, ⟨rfl, rfl, rfl, rfl, rfl, rfl, rfl, rfl, rfl, rfl, rfl, rfl, rfl, rfl, rfl, rfl, rfl, rfl, rfl⟩, rfl, hN, hop⟩
end Go.Proofs.YtkiiameibdhdfaaGreatDoor
namespace Go.Proofs.YtkiiameibdhdfaaGreatDoor
open Go.RowKit Go.Shelf Go.Cs
attribute [local go_sem] Oper.semAt_some


def OwnM (base : Nat) (W : World) (v : Value) (m : Bare.Mem) : Prop := ∃ (ja pa : Option Addr) (jc pc : Nat) (ip : Nat → Value), v = .agg (mcs m (.slice ja m.items.length jc) (.slice pa m.params.length pc)).toArray ∧ OwX base W (.slice ja m.items.length jc) m.items.length (fun i => ics (m.items.getD i Bare.noI) (ip i)) ∧ (∀ i, i < m.items.length → OwP base W (ip i) (m.items.getD i Bare.noI).params.length (pf (m.items.getD i Bare.noI).params)) ∧ OwP base W (.slice pa m.params.length pc) m.params.length (pf m.params)
set_option maxHeartbeats 8000000 in
set_option maxRecDepth 100000 in
theorem own_any {τ : Bool} (v : Value) (m : Bare.Mem) (w : World) (h : RdM τ w v m) (hil : m.items.length ≤ 2199023255552) (hpl : m.params.length ≤ 2513169434880) (hipl : ∀ i, i < m.items.length → (m.items.getD i Bare.noI).params.length ≤ 2513169434880) :
  Calls Tryz.prog 80 #[v] w fun e w' => ∃ v', e = .returned v' ∧ OwnM w.heap.size w' v' m ∧ New w w' := by
 obtain ⟨iv, pv, rfl, ⟨ip, h1, -, h3⟩, hP⟩ := h
 obtain ⟨ia, ic, rfl⟩ := h1.slice
 obtain ⟨pa, pc, rfl⟩ := hP.slice
 obtain ⟨f, hf⟩ : ∃ f : Nat → List Value, (fun i => ics (m.items.getD i Bare.noI) (ip i)) = f := ⟨_, rfl⟩
 have HF := Lib.hid hf
 have hfl : ∀ i, (f i).length = 5 := fun i => by rw [← hf]; rfl
 have hone : ∀ i, i < m.items.length → ∀ u ∈ f i, u.oneCell' = true := fun i hi => by
  obtain ⟨a, c, e⟩ := (h3 i hi).slice
  rw [← hf]
  dsimp only
  rw [e]
  exact ics_one _ _ _ _
 rw [hf] at h1
 have HX := Lib.hid (fun (w0 : World) (hw : New w w0) (W : World) (hN : New w0 W) => (clone_X (.slice ia m.items.length ic) m.items.length f W hfl hone (h1.new (hw.trans hN)) hil).mono (R' := fun e w' => ∃ v', e = .returned v' ∧ OwX w0.heap.size w' v' m.items.length f ∧ New W w') (by
  rintro e w' ⟨v', rfl, ho, hk⟩; exact ⟨v', rfl, ho.mono hN.size, hk⟩))
 have HP := Lib.hid (fun (w0 : World) (hw : New w w0) (W : World) (hN : New w0 W) => (clone_P (.slice pa m.params.length pc) m.params.length (pf m.params) W (pf_len _) (fun i _ => pcs_one _) (hP.1.new (hw.trans hN)) hpl).mono (R' := fun e w' => ∃ v', e = .returned v' ∧ OwP w0.heap.size w' v' m.params.length (pf m.params) ∧ New W w') (by
  rintro e w' ⟨v', rfl, ho, hk⟩; exact ⟨v', rfl, ho.mono hN.size, hk⟩))
 have HPi := Lib.hid (fun (w0 : World) (hw : New w w0) (j : Nat) (hj : j < m.items.length) (wr : World) (hr : New w wr) (hb : w0.heap.size ≤ wr.heap.size) (W : World) (hN : New wr W) => (clone_P (ip j) (m.items.getD j Bare.noI).params.length (pf (m.items.getD j Bare.noI).params) W (pf_len _) (fun i _ => pcs_one _) ((h3 j hj).1.new (hr.trans hN)) (hipl j hj)).mono (R' := fun e w' => ∃ v', e = .returned v' ∧ OwP w0.heap.size w' v' (m.items.getD j Bare.noI).params.length (pf (m.items.getD j Bare.noI).params) ∧ New W w') (by
  rintro e w' ⟨v', rfl, ho, hk⟩; exact ⟨v', rfl, ho.mono (Nat.le_trans hb hN.size), hk⟩))
 have HS := Lib.hid (fun j hj => (h3 j hj).slice)
 obtain ⟨n, hn⟩ : ∃ n, m.items.length = n := ⟨_, rfl⟩
 obtain ⟨k, hk⟩ : ∃ k, m.params.length = k := ⟨_, rfl⟩
 obtain ⟨K, hK⟩ : ∃ K, tx m.key = K := ⟨_, rfl⟩
 obtain ⟨y, hy⟩ : ∃ y, m.inner = y := ⟨_, rfl⟩
 have Hn := Lib.hid hn
 have Hk := Lib.hid hk
 have HK := Lib.hid hK
 have HY := Lib.hid hy
 unfold OwnM mcs
 rw [hn, hk, hK, hy]
 rw [hn] at HX HPi HS hil hone
 rw [hk] at HP hpl
 clear h1 hP h3 hn hk hK hy hipl hf
 go_enter Tryz.func80, Tryz.ntmps80
 go_upto_region 1 with fail
 obtain ⟨W1, hW1⟩ : ∃ W1, ((w.alloc (.cells #[.string K, .bool y, .slice ia n ic, .slice pa k pc] 64)).alloc (.cells #[.string ⟨#[]⟩, .bool false, .slice none 0 0, .slice none 0 0] 64)) = W1 := ⟨_, rfl⟩
 have hN1 : New w W1 := by rw [← hW1]; exact ((Mods.refl _ _).alloc _).alloc _
 have rB : W1.heap[w.heap.size]? = some (.cells #[.string K, .bool y, .slice ia n ic, .slice pa k pc] 64 (0, 0)) := by rw [← hW1]; exact ((Mods.refl (fun _ => False) _).alloc _).heap (World.alloc_heap_new _ _) id
 have rR : W1.heap[w.heap.size + 1]? = some (.cells #[.string ⟨#[]⟩, .bool false, .slice none 0 0, .slice none 0 0] 64 (0, 0)) := by
  have := World.alloc_heap_new (w.alloc (.cells #[.string K, .bool y, .slice ia n ic, .slice pa k pc] 64)) (.cells #[.string ⟨#[]⟩, .bool false, .slice none 0 0, .slice none 0 0] 64)
  rw [hW1] at this
  simpa using this
 have hs1 : W1.heap.size = w.heap.size + 2 := by rw [← hW1]; simp
 rw [hW1]
 obtain ⟨b1, hb1⟩ : ∃ b1, W1.heap.size = b1 := ⟨_, rfl⟩
 obtain ⟨B, hB⟩ : ∃ B, w.heap.size = B := ⟨_, rfl⟩
 rw [hB] at rB rR hs1 ⊢
 obtain ⟨R, hR⟩ : ∃ R, B + 1 = R := ⟨_, rfl⟩
 rw [hR] at rR ⊢
 have hRB : ¬ R = B := by omega
 have HPi1 := Lib.hid (fun j hj (wr : World) hr (hb : b1 ≤ wr.heap.size) => by have := HPi.out W1 hN1 j hj wr hr (by rw [hb1]; exact hb); rw [hb1] at this; exact this)
 refine piece (fun _ => _) (own1 _ rfl W1 rfl rfl rB (Lib.hid (HX.out W1 hN1)) (Lib.hid (HP.out W1 hN1))) ?_
 rintro ⟨z, dfs⟩ W2 ⟨iv2, pv2, ⟨hs, hd, hq1, hq2⟩, rB2, hox, hop, hm2⟩
 simp only at hs hd hq1 hq2
 subst hd
 obtain ⟨uu, rfl⟩ := lit32 z hs
 have hp1 : uu 1 = .pointer (some ⟨B, 0, none⟩) := hq1
 have hp2 : uu 2 = .pointer (some ⟨R, 0, none⟩) := hq2
 rw [hp1, hp2]
 clear hp1 hq1 hp2 hq2 hs
 obtain ⟨ja, jc, rfl⟩ := hox.slice
 obtain ⟨qa, qc, rfl⟩ := hop.slice
 have rR2 := hm2.heap rR hRB
 have hbs : b1 ≤ W2.heap.size := by have := hm2.size; omega
 rw [hb1] at hox hop
 have hN2 : New w W2 := ((Mods.ofNew hN1).trans hm2).new (by omega)
 have c2 := cell_of_row _ _ 2 _ _ _ rB2
 simp only [List.getElem?_toArray, List.getElem?_cons_succ, List.getElem?_cons_zero] at c2
 have hox0 : OwX b1 W2 (.slice ja n jc) n (fun j => ics (m.items.getD j Bare.noI) (ip j)) := by rw [HF.out]; exact hox
 clear hW1 rB rR hm2 HX HP HPi hox hN1
 go_wp2_with fail
 go_loopw [15] (fun t wr => ∃ (i : Nat) (jv : Nat → Value), i ≤ n ∧ t = .int .i64 i ∧ wr.heap[B]? = some (.cells #[.string K, .bool y, .slice ja n jc, .slice qa k qc] 64 (0, 0)) ∧ wr.heap[R]? = some (.cells #[.string ⟨#[]⟩, .bool false, .slice none 0 0, .slice none 0 0] 64 (0, 0)) ∧ OwX b1 wr (.slice ja n jc) n (fun j => ics (m.items.getD j Bare.noI) (jv j)) ∧ Hid (∀ j, j < i → OwP b1 wr (jv j) (m.items.getD j Bare.noI).params.length (pf (m.items.getD j Bare.noI).params)) ∧ Hid (∀ j, i ≤ j → j < n → jv j = ip j) ∧ OwP b1 wr (.slice qa k qc) k (pf m.params) ∧ New w wr ∧ b1 ≤ wr.heap.size) (fun t _ => n - (intOf t).toNat)
 case atStart => exact ⟨0, ip, Nat.zero_le _, rfl, rB2, rR2, hox0, Lib.hid (fun j hj => by omega), Lib.hid (fun j _ _ => rfl), hop, hN2, hbs⟩
 case round =>
  clear rB2 rR2 hox0 hop hN2 hbs c2
  obtain ⟨i, jv, hin, rfl, rB, rR, hox, hnew, hold, hop, hN, hbs⟩ := hrel
  by_cases hlt : i < n
  ·have hkd : decide ((i : Int) < (n : Int)) = true := decide_eq_true (by omega)
   obtain ⟨g, rfl⟩ : ∃ g, ja = some ⟨g, 0, none⟩ := by
    rcases hox.2.2.2 with ⟨h, h'⟩ | ⟨b', cap', cur, h, _⟩
    ·simp only [Value.slice.injEq] at h; omega
    ·simp only [Value.slice.injEq] at h; exact ⟨b', h.1⟩
   obtain ⟨a4, l4, e4⟩ := HS.out i hlt
   have hji : jv i = .slice a4 (m.items.getD i Bare.noI).params.length l4 := by rw [hold.out i (Nat.le_refl _) hlt]; exact e4
   have hc : wr.cell? ⟨g, i * 5 + 4, none⟩ = some (.slice a4 (m.items.getD i Bare.noI).params.length l4) := by
    obtain ⟨b', o', e', hrw⟩ := (hox.row (by omega)).at.2.2 i hlt
    obtain ⟨rfl, rfl⟩ : b' = g ∧ o' = 0 := by cases e'; exact ⟨rfl, rfl⟩
    rw [Nat.zero_add] at hrw
    have := hrw 4 (jv i) rfl
    rw [hji] at this
    exact this
   have hgl : b1 ≤ g ∧ g < wr.heap.size := hox.lt rfl
   have hgB : ¬ B = g := by omega
   have c2 := cell_of_row _ _ 2 _ _ _ rB
   simp only [List.getElem?_toArray, List.getElem?_cons_succ, List.getElem?_cons_zero] at c2
   have HOX := Lib.hid hox
   have hfz : Hid (∀ W, New wr W → W.frozen? ⟨g, i * 5 + 4, none⟩ = false) := Lib.hid fun W hW => (HOX.out.new hW).frozen rfl _
   obtain ⟨pl, hpl'⟩ : ∃ pl, (m.items.getD i Bare.noI).params.length = pl := ⟨_, rfl⟩
   have HPL := Lib.hid hpl'
   have HPP := Lib.hid (HPi1.out i hlt wr hN hbs)
   rw [e4] at HPP
   rw [hpl'] at hc e4 HPP
   have HC := Lib.hid hc
   have HE4 := Lib.hid e4
   clear hpl' e4 hji hox hc
   go_upto_region 5 with fail
   refine piece (fun _ => _) (own5 _ rfl wr rfl rfl rfl rfl rfl rfl rfl rfl rfl rfl rfl rfl rfl rfl rfl rfl rfl c2 hlt hgB HC.out hfz HPP) ?_
   rintro ⟨z, dfs⟩ W3 ⟨pv3, w3, ⟨hs, hd, hq1, hq3, hq14, hq15, hq0, hq2, hq4, hq5, hq6, hq7, hq8, hq9, hq10, hq11, hq12, hq13, hq31⟩, hw, hk2, hop2⟩
   simp only at hs hd hq1 hq3 hq14 hq15 hq0 hq2 hq4 hq5 hq6 hq7 hq8 hq9 hq10 hq11 hq12 hq13 hq31
   subst hd
   obtain ⟨u, rfl⟩ := lit32 z hs
   have hp1 : u 1 = .pointer (some ⟨B, 0, none⟩) := hq1
   have hp3 : u 3 = .int .i64 i := hq3
   have hp14 : u 14 = .int .i64 n := hq14
   have hp15 : u 15 = .int .i64 i := hq15
   have hp0 : u 0 = uu 0 := hq0
   have hp2 : u 2 = .pointer (some ⟨R, 0, none⟩) := hq2
   have hp4 : u 4 = uu 4 := hq4
   have hp5 : u 5 = uu 5 := hq5
   have hp6 : u 6 = uu 6 := hq6
   have hp7 : u 7 = uu 7 := hq7
   have hp8 : u 8 = uu 8 := hq8
   have hp9 : u 9 = uu 9 := hq9
   have hp10 : u 10 = uu 10 := hq10
   have hp11 : u 11 = uu 11 := hq11
   have hp12 : u 12 = .pointer (some ⟨B, 2, none⟩) := hq12
   have hp13 : u 13 = .slice (some ⟨g, 0, none⟩) n jc := hq13
   have hp31 : u 31 = uu 31 := hq31
   rw [hp1, hp3, hp14, hp15, hp0, hp2, hp4, hp5, hp6, hp7, hp8, hp9, hp10, hp11, hp12, hp13, hp31]
   clear hp1 hq1 hp3 hq3 hp14 hq14 hp15 hq15 hp0 hq0 hp2 hq2 hp4 hq4 hp5 hq5 hp6 hq6 hp7 hq7 hp8 hq8 hp9 hq9 hp10 hq10 hp11 hq11 hp12 hq12 hp13 hq13 hp31 hq31 hs
   subst hw
   obtain ⟨qa3, qc3, rfl⟩ := hop2.slice
   go_wp2_with fail
   go_roundw
   case rel =>
    have hsm := setMods w3 g (i * 5 + 4) (.slice qa3 pl qc3)
    have hox3 := HOX.out.new hk2
    have hne : ∀ (v : Value), TagAt w3 v 73 → ∀ b, v.ownBlock = some b → ¬ b = g := fun v ht b hb e => by
     obtain ⟨cs, fr, h⟩ := ht b hb
     obtain ⟨cs', fr', h'⟩ := hox3.tag g rfl
     subst e
     rw [h] at h'
     cases h'
    have hgR : ¬ R = g := by omega
    refine ⟨i + 1, fun j => if j = i then .slice qa3 pl qc3 else jv j, by omega, by go_num, hsm.heap (hk2.heap rB id) hgB, hsm.heap (hk2.heap rR id) hgR, ?_, ?_, ?_, ?_, (hN.trans hk2).setCell (p := ⟨g, i * 5 + 4, none⟩) (.inl (by show _ ≤ g; omega)) _, by have := hsm.size; have := hk2.size; omega⟩
    ·refine OwX.congr (f := fun k => if k = i then (ics (m.items.getD i Bare.noI) (jv i)).set 4 (.slice qa3 pl qc3) else ics (m.items.getD k Bare.noI) (jv k)) ⟨set_len hox3.1, fun j hj => ?_, own_set hox3.1 hox3.2.2 hlt (by decide) _⟩ (fun _ => rfl) fun j hj => ?_
     ·dsimp only
      by_cases e : j = i
      ·rw [if_pos e]; exact ics_one _ _ _ _
      ·rw [if_neg e]; exact hox3.2.1 j hj
     ·dsimp only
      by_cases e : j = i
      ·subst e; rw [if_pos rfl, if_pos rfl]; rfl
      ·rw [if_neg e, if_neg e]
    ·refine Lib.hid fun j hj => ?_
     dsimp only
     by_cases e : j = i
     ·subst e
      rw [if_pos rfl, HPL.out]
      exact hop2.mods hsm fun b hb => hne _ hop2.tag b hb
     ·rw [if_neg e]
      have h3 := (hnew.out j (by omega)).new hk2
      exact h3.mods hsm fun b hb => hne _ h3.tag b hb
    ·refine Lib.hid fun j h1 h2 => ?_
     dsimp only
     rw [if_neg (by omega)]
     exact hold.out j (by omega) h2
    ·have h3 := hop.new hk2
     exact h3.mods hsm fun b hb => hne _ h3.tag b hb
   case measure => simp [intOf]; omega
  ·have hkd : decide ((i : Int) < (n : Int)) = false := decide_eq_false (by omega)
   obtain rfl : i = n := by omega
   clear hold
   have hone4 := mcs_one K y ja qa i jc k qc
   have c0 := cell_of_row _ _ 0 _ _ _ rR
   go_wp2_with (first | (refine op_value rfl (run_load_row 64 (.tmp 1) rfl B rfl 64 _ (0, 0) _ rB Tryz.underlying64 rfl sizeM) ?_) | (refine op_skip rfl (run_store_row 64 (.tmp 2) (.tmp 31) rfl R rfl 64 [.string ⟨#[]⟩, .bool false, .slice none 0 0, .slice none 0 0] [.string K, .bool y, .slice ja i jc, .slice qa k qc] rfl rR sizeM rfl hone4) ?_))
   have hmR := mods_setRow rR #[.string K, .bool y, .slice ja i jc, .slice qa k qc]
   have hrow : (wr.setRow R #[.string K, .bool y, .slice ja i jc, .slice qa k qc]).heap[R]? = some (.cells #[.string K, .bool y, .slice ja i jc, .slice qa k qc] 64 (0, 0)) := setRow_heap wr R _ _ _ _ rR
   refine bodyPost_ret (v := .agg #[.string K, .bool y, .slice ja i jc, .slice qa k qc]) (results_cell_row rfl _ _ R 64 _ (0, 0) _ rfl hrow Tryz.underlying64 rfl sizeM) rfl ?_
   refine ⟨_, rfl, ⟨ja, qa, jc, qc, jv, rfl, ?_, fun j hj => ?_, ?_⟩, (hN.setRow (by omega) _)⟩
   ·exact (hox.mods hmR fun b hb e => by have := (hox.lt hb).1; omega).mono (by omega)
   ·exact ((hnew.out j hj).mods hmR fun b hb e => by have := ((hnew.out j hj).lt hb).1; omega).mono (by omega)
   ·exact (hop.mods hmR fun b hb e => by have := (hop.lt hb).1; omega).mono (by omega)
end Go.Proofs.YtkiiameibdhdfaaGreatDoor
namespace Go.Proofs.YtkiiameibdhdfaaGreatDoor
open Go.RowKit Go.Shelf Go.Cs
attribute [local go_sem] Oper.semAt_some


def findM (d : List Bare.Mem) (k : Bare.Bs) : Option Bare.Mem := d.find? fun m => decide (m.key = k)
theorem findM_none {d : List Bare.Mem} {k : Bare.Bs} (h : ∀ j, j < d.length → (d.getD j noM).key ≠ k) : findM d k = none := by
 unfold findM
 rw [List.find?_eq_none]
 intro m hm
 obtain ⟨j, hj, rfl⟩ := List.mem_iff_getElem.1 hm
 have := h j hj
 rw [List.getD_eq_getElem?_getD, List.getElem?_eq_getElem hj] at this
 simpa using this
theorem findM_some {d : List Bare.Mem} {k : Bare.Bs} {i : Nat} (hi : i < d.length) (h : ∀ j, j < i → (d.getD j noM).key ≠ k) (hk : (d.getD i noM).key = k) : findM d k = some (d.getD i noM) := by
 unfold findM
 rw [List.find?_eq_some_iff_getElem]
 have e : d.getD i noM = d[i] := by rw [List.getD_eq_getElem?_getD, List.getElem?_eq_getElem hi]; rfl
 refine ⟨by simpa using hk, i, hi, e.symm, fun j hj => ?_⟩
 have := h j hj
 rw [List.getD_eq_getElem?_getD, List.getElem?_eq_getElem (by omega)] at this
 simpa using this
theorem OwnM.zero (base : Nat) (W : World) : OwnM base W (.agg #[.string ⟨#[]⟩, .bool false, .slice none 0 0, .slice none 0 0]) noM := ⟨none, none, 0, 0, fun _ => undef, rfl, OwX.nil _ _ _ (fun _ => rfl), (fun i hi => by simp [noM] at hi), OwP.nil _ _ _ (pf_len _)⟩
theorem OwnM.mods {base : Nat} {W W' : World} {v : Value} {m : Bare.Mem} (h : OwnM base W v m) {S : Nat → Prop} (hN : Mods S W W') (hS : ∀ g, S g → g < base) : OwnM base W' v m := by
 obtain ⟨ja, pa, jc, pc, ip, rfl, h1, h2, h3⟩ := h
 exact ⟨ja, pa, jc, pc, ip, rfl, h1.mods hN (fun g hg hs => by have := (h1.lt hg).1; have := hS g hs; omega), fun i hi => (h2 i hi).mods hN (fun g hg hs => by have := ((h2 i hi).lt hg).1; have := hS g hs; omega), h3.mods hN (fun g hg hs => by have := (h3.lt hg).1; have := hS g hs; omega)⟩
theorem OwnM.mono {base base' : Nat} {W : World} {v : Value} {m : Bare.Mem} (h : OwnM base W v m) (hb : base' ≤ base) : OwnM base' W v m := by
 obtain ⟨ja, pa, jc, pc, ip, rfl, h1, h2, h3⟩ := h
 exact ⟨ja, pa, jc, pc, ip, rfl, h1.mono hb, fun i hi => (h2 i hi).mono hb, h3.mono hb⟩
def Fits (m : Bare.Mem) : Prop := m.items.length ≤ 2199023255552 ∧ m.params.length ≤ 2513169434880 ∧ ∀ i, i < m.items.length → (m.items.getD i Bare.noI).params.length ≤ 2513169434880
set_option maxHeartbeats 8000000 in
set_option maxRecDepth 100000 in
theorem find_any {τ : Bool} (v : Value) (key : ByteArray) (d : List Bare.Mem) (w : World) (h : RdD τ w v d) (hf : ∀ m ∈ d, Fits m) :
  Calls Tryz.prog 35 #[v, .string key] w fun e w' => ∃ v', e = .returned (.tuple #[v', .bool (findM d (bl key)).isSome]) ∧ OwnM w.heap.size w' v' ((findM d (bl key)).getD noM) ∧ New w w' := by
 obtain ⟨ao, cap, rfl⟩ := h.slice
 have HD := Lib.hid h
 have hlen : d.length ≤ 281474976710656 := by obtain ⟨_, _, h1, _⟩ := h; exact h1.1
 clear h
 obtain ⟨Post, hPost⟩ : ∃ Post : Ending → World → Prop, (fun e w' => ∃ v', e = .returned (.tuple #[v', .bool (findM d (bl key)).isSome]) ∧ OwnM w.heap.size w' v' ((findM d (bl key)).getD noM) ∧ New w w') = Post := ⟨_, rfl⟩
 have HPost := Lib.hid hPost
 rw [hPost]
 clear hPost
 have hT := World.alloc_heap_new w (.cells #[.string ⟨#[]⟩, .bool false, .slice none 0 0, .slice none 0 0] 64)
 have hN0 : New w (w.alloc (.cells #[.string ⟨#[]⟩, .bool false, .slice none 0 0, .slice none 0 0] 64)) := (Mods.refl _ _).alloc _
 obtain ⟨n, hn⟩ : ∃ n, d.length = n := ⟨_, rfl⟩
 have Hn := Lib.hid hn
 rw [hn] at hlen ⊢
 go_enter Tryz.func35, Tryz.ntmps35
 go_upto_region 1 with fail
 obtain ⟨W1, hW1⟩ : ∃ W1, w.alloc (.cells #[.string ⟨#[]⟩, .bool false, .slice none 0 0, .slice none 0 0] 64) = W1 := ⟨_, rfl⟩
 rw [hW1] at hT hN0 ⊢
 have hb1 : W1.heap.size = w.heap.size + 1 := by rw [← hW1]; simp
 obtain ⟨R, hR⟩ : ∃ R, w.heap.size = R := ⟨_, rfl⟩
 rw [hR] at hT hb1 ⊢
 clear hW1 hn
 go_wp2_with fail
 go_loopw [10] (fun t wr => ∃ i : Nat, i ≤ n ∧ t = .int .i64 i ∧ wr.heap[R]? = some (.cells #[.string ⟨#[]⟩, .bool false, .slice none 0 0, .slice none 0 0] 64 (0, 0)) ∧ Hid (∀ j, j < i → (d.getD j noM).key ≠ bl key) ∧ New w wr ∧ R + 1 ≤ wr.heap.size) (fun t _ => n - (intOf t).toNat)
 case atStart => exact ⟨0, Nat.zero_le _, rfl, hT, Lib.hid fun j hj => by omega, hN0, by omega⟩
 case round =>
  clear hT hN0 hb1
  obtain ⟨i, hin, rfl, rR, hbef, hN, hbs⟩ := hrel
  by_cases hlt : i < n
  ·have hkd : decide ((i : Int) < (n : Int)) = true := decide_eq_true (by omega)
   have hld : i < d.length := by rw [Hn.out]; exact hlt
   have hd := HD.out.new hN
   obtain ⟨iv, pv, h1, -, h3⟩ := hd
   obtain ⟨b, o, rfl, hrow⟩ := h1.at.2.2 i hld
   obtain ⟨c0, c1, c2, c3⟩ := cells4 hrow
   obtain ⟨hi, hp⟩ := h3 i hld
   have HF := Lib.hid (hf _ (getD_mem (d := noM) hld))
   obtain ⟨ia, ic, hie⟩ := hi.slice
   obtain ⟨pa, pc, hpe⟩ := hp.slice
   have he := eq_tx (tx (d.getD i noM).key) key
   rw [bl_tx] at he
   have HO := Lib.hid (fun W (hW : New wr W) => own_any (τ := τ) (.agg (mcs (d.getD i noM) (iv i) (pv i)).toArray) (d.getD i noM) W ⟨_, _, rfl, hi.new hW, hp.new hW⟩ HF.out.1 HF.out.2.1 HF.out.2.2)
   rw [hie, hpe] at HO
   rw [hie] at c2
   rw [hpe] at c3
   obtain ⟨m, hm⟩ : ∃ m, d.getD i noM = m := ⟨_, rfl⟩
   have HM := Lib.hid hm
   rw [hm] at c0 c1 c2 c3 HO he
   obtain ⟨K, hK⟩ : ∃ K, tx m.key = K := ⟨_, rfl⟩
   unfold mcs at HO
   rw [hK] at c0 HO he
   obtain ⟨y, hy⟩ : ∃ y, m.inner = y := ⟨_, rfl⟩
   rw [hy] at c1 HO
   obtain ⟨il, hil⟩ : ∃ l, m.items.length = l := ⟨_, rfl⟩
   obtain ⟨pl, hpl⟩ : ∃ l, m.params.length = l := ⟨_, rfl⟩
   rw [hil] at c2 HO
   rw [hpl] at c3 HO
   clear hrow h1 h3 hi hp hie hpe hm hK hy hil hpl iv pv
   have hA : New wr (wr.alloc (.cells #[.string K, .bool y, .slice ia il ic, .slice pa pl pc] 64)) := (Mods.refl _ _).alloc _
   have r7 := World.alloc_heap_new wr (.cells #[.string K, .bool y, .slice ia il ic, .slice pa pl pc] 64)
   have rR7 := hA.heap rR id
   by_cases heq : m.key = bl key
   ·rw [show decide (m.key = bl key) = true from decide_eq_true heq] at he
    go_upto_region 4 with fail
    obtain ⟨W4, hW4⟩ : ∃ W4, wr.alloc (.cells #[.string K, .bool y, .slice ia il ic, .slice pa pl pc] 64) = W4 := ⟨_, rfl⟩
    rw [hW4] at hA r7 rR7 ⊢
    have hbs4 := hA.size
    obtain ⟨B4, hB4⟩ : ∃ B4, wr.heap.size = B4 := ⟨_, rfl⟩
    rw [hB4] at r7 ⊢
    have k0 := cell_of_row _ _ 0 _ _ _ r7
    simp only [List.getElem?_toArray, List.getElem?_cons_succ, List.getElem?_cons_zero] at k0
    clear hW4 c0 c1 c2 c3
    go_wp2_with (first | (refine op_value rfl (run_load_row 64 (.tmp 7) rfl B4 rfl 64 _ (0, 0) _ r7 Tryz.underlying64 rfl sizeM) ?_) | (go_at_call 80; refine (HO.out _ hA).mono ?_; rintro e W5 ⟨v', rfl, hov, hk5⟩; obtain ⟨ja, qa, jc, qc, ip', rfl, q1, q2, q3⟩ := hov; have rR5 := hk5.heap rR7 id) | (refine op_skip rfl (run_store_row 64 (.tmp 4) (.tmp 19) rfl R rfl 64 [.string ⟨#[]⟩, .bool false, .slice none 0 0, .slice none 0 0] (mcs m (.slice ja m.items.length jc) (.slice qa m.params.length qc)) rfl rR5 sizeM rfl (mcs_one _ _ _ _ _ _ _ _)) ?_))
    have hmR := mods_setRow rR5 (mcs m (.slice ja m.items.length jc) (.slice qa m.params.length qc)).toArray
    have hrow := setRow_heap W5 R _ (mcs m (.slice ja m.items.length jc) (.slice qa m.params.length qc)).toArray _ _ rR5
    refine bodyPost_ret (v := .tuple #[.agg (mcs m (.slice ja m.items.length jc) (.slice qa m.params.length qc)).toArray, .bool true]) (results_row2 rfl _ _ R 64 _ (0, 0) _ rfl hrow Tryz.underlying64 rfl sizeM rfl) rfl ?_
    have hfn := findM_some (k := bl key) hld hbef.out (by rw [HM.out]; exact heq)
    rw [HM.out] at hfn
    have hov : OwnM W4.heap.size W5 (.agg (mcs m (.slice ja m.items.length jc) (.slice qa m.params.length qc)).toArray) m := ⟨ja, qa, jc, qc, ip', rfl, q1, q2, q3⟩
    rw [← HPost.out]
    rw [hfn]
    exact ⟨_, rfl, (hov.mods hmR fun b hb => by rw [hb]; omega).mono (by omega), ((hN.trans hA).trans hk5).setRow (by omega) _⟩
   ·rw [show decide (m.key = bl key) = false from decide_eq_false heq] at he
    go_upto_region 4 with fail
    obtain ⟨W4, hW4⟩ : ∃ W4, wr.alloc (.cells #[.string K, .bool y, .slice ia il ic, .slice pa pl pc] 64) = W4 := ⟨_, rfl⟩
    rw [hW4] at hA r7 rR7 ⊢
    have hbs4 := hA.size
    obtain ⟨B4, hB4⟩ : ∃ B4, wr.heap.size = B4 := ⟨_, rfl⟩
    rw [hB4] at r7 ⊢
    have k0 := cell_of_row _ _ 0 _ _ _ r7
    simp only [List.getElem?_toArray, List.getElem?_cons_succ, List.getElem?_cons_zero] at k0
    clear hW4 c0 c1 c2 c3
    go_wp2_with fail
    go_roundw
    case rel => exact ⟨i + 1, by omega, by go_num, rR7, Lib.hid (fun j hj => by
     by_cases e : j = i
     ·subst e; rw [HM.out]; exact heq
     ·exact hbef.out j (by omega)), hN.trans hA, by omega⟩
    case measure => simp [intOf]; omega
  ·have hkd : decide ((i : Int) < (n : Int)) = false := decide_eq_false (by omega)
   go_wp2_with (refine op_skip rfl (run_store_row 64 (.tmp 4) (.tmp 21) rfl R rfl 64 [.string ⟨#[]⟩, .bool false, .slice none 0 0, .slice none 0 0] [.string ⟨#[]⟩, .bool false, .slice none 0 0, .slice none 0 0] rfl rR sizeM rfl (mcs_one _ _ _ _ _ _ _ _)) ?_)
   rw [setRow_same (cs := [.string ⟨#[]⟩, .bool false, .slice none 0 0, .slice none 0 0]) rR]
   refine bodyPost_ret (v := .tuple #[.agg #[.string ⟨#[]⟩, .bool false, .slice none 0 0, .slice none 0 0], .bool false]) (results_row2 rfl _ _ R 64 _ (0, 0) _ rfl rR Tryz.underlying64 rfl sizeM rfl) rfl ?_
   have hfn := findM_none (d := d) (k := bl key) (fun j hj => hbef.out j (by have := Hn.out; omega))
   rw [← HPost.out]
   rw [hfn]
   exact ⟨_, rfl, OwnM.zero _ _, hN⟩
end Go.Proofs.YtkiiameibdhdfaaGreatDoor
namespace Go.Proofs.YtkiiameibdhdfaaGreatDoor
open Go.RowKit Go.Shelf Go.Cs
attribute [local go_sem] Oper.semAt_some


def wf (l : List WP) : Nat → List Value := fun i => wcs (l.getD i noW)
def RdW (W : World) (v : Value) (l : List WP) : Prop := RowR W v l.length 3 (fun i => wcs (l.getD i noW))
theorem RdW.new {W W' : World} {v : Value} {l : List WP} (h : RdW W v l) (hN : New W W') : RdW W' v l := RowR.new h hN
theorem RdW.slice {W : World} {v : Value} {l : List WP} (h : RdW W v l) : ∃ ao cap, v = .slice ao l.length cap := RowR.slice h
def OwW (base : Nat) (W : World) (v : Value) (n : Nat) (f : Nat → List Value) : Prop := (∀ i, (f i).length = 3) ∧ (∀ i, i < n → ∀ u ∈ f i, u.oneCell' = true) ∧ W.ownsRow base 40 3 v n (flatF n f)
theorem OwW.nil (base : Nat) (W : World) (f : Nat → List Value) (hf : ∀ i, (f i).length = 3) : OwW base W (.slice none 0 0) 0 f := ⟨hf, (fun i hi => by omega), World.ownsRow_nil _ _ _ _⟩
theorem OwW.mods {base : Nat} {W W' : World} {v : Value} {n : Nat} {f : Nat → List Value} (h : OwW base W v n f) {S : Nat → Prop} (hN : Mods S W W') (hS : ∀ g, v.ownBlock = some g → ¬ S g) : OwW base W' v n f := ⟨h.1, h.2.1, Mods.ownsRow hN h.2.2 hS⟩
theorem OwW.new {base : Nat} {W W' : World} {v : Value} {n : Nat} {f : Nat → List Value} (h : OwW base W v n f) (hN : New W W') : OwW base W' v n f := h.mods hN fun _ _ h => h
theorem OwW.congr {base : Nat} {W : World} {v : Value} {n : Nat} {f g : Nat → List Value} (h : OwW base W v n f) (hg : ∀ i, (g i).length = 3) (he : ∀ i, i < n → f i = g i) : OwW base W v n g :=
 ⟨hg, (fun i hi => by rw [← he i hi]; exact h.2.1 i hi), by rw [← flatF_congr he]; exact h.2.2⟩
theorem OwW.slice {base : Nat} {W : World} {v : Value} {n : Nat} {f : Nat → List Value} (h : OwW base W v n f) : ∃ ao cap, v = .slice ao n cap := owns_slice h.2.2
theorem OwW.lt {base : Nat} {W : World} {v : Value} {n : Nat} {f : Nat → List Value} (h : OwW base W v n f) {g : Nat} (hg : v.ownBlock = some g) : base ≤ g ∧ g < W.heap.size := World.ownsRow.lt h.2.2 g hg
theorem OwW.row {base : Nat} {W : World} {v : Value} {n : Nat} {f : Nat → List Value} (h : OwW base W v n f) (hn : n ≤ 281474976710656) : RowR W v n 3 f :=
 ⟨hn, rows_ofOwns (by decide) h.1 h.2.2⟩
theorem OwW.tag {base : Nat} {W : World} {v : Value} {n : Nat} {f : Nat → List Value} (h : OwW base W v n f) : TagAt W v 40 := fun g hg => by
 rcases h.2.2.2 with ⟨rfl, _⟩ | ⟨b, cap, cur, rfl, _, hb, _⟩
 ·cases hg
 ·cases hg; exact ⟨_, _, hb⟩
theorem OwW.mono {base base' : Nat} {W : World} {v : Value} {n : Nat} {f : Nat → List Value} (h : OwW base W v n f) (hb : base' ≤ base) : OwW base' W v n f := ⟨h.1, h.2.1, owns_mono h.2.2 hb⟩
theorem OwW.frozen {base : Nat} {W : World} {v : Value} {n : Nat} {f : Nat → List Value} (h : OwW base W v n f) {g : Nat} (hg : v.ownBlock = some g) (o : Nat) : W.frozen? ⟨g, o, none⟩ = false := by
 rcases h.2.2.2 with ⟨rfl, _⟩ | ⟨b, cap, cur, rfl, _, hb, _⟩
 ·cases hg
 ·cases hg; exact frozen_row hb
theorem OwW.reads {base : Nat} {W : World} {v : Value} {l : List WP} (h : OwW base W v l.length (wf l)) (hl : l.length ≤ 2000000) : RdW W v l := h.row (by omega)
end Go.Proofs.YtkiiameibdhdfaaGreatDoor
namespace Go.Proofs.YtkiiameibdhdfaaGreatDoor
open Go.RowKit Go.Shelf Go.Cs Go.ChangeShapes Go.WideShapes Go.ChangeAt Go.WideMaps Go.WideElems Go.ChangeMaps

section
variable {H : Type} {enc : TypeId × Value → H} {w : World} {base : Nat} {spare : Nat → Bool} {held : Bool} {fuel : Nat}
set_option maxRecDepth 100000 in
theorem open_pr {cs : List Value} {x : DataW H × List MemPlace} (h : DataW.trod enc Tryz.prog w base spare held fuel 31 cs = some x) :
  ∃ (u : Nat) (i : Bool), cs = [.int .u8 u, .bool i] ∧ u < 256 := by
 obtain ⟨xs, n, rfl, rfl, hl, hn, hf⟩ := DataW.trod_struct Tryz.underlying31 h
 have cQ : Tryz.prog.cellsOf 31 = 2 := by kernel_rfl
 have c5 : Tryz.prog.cellsOf 5 = 1 := by kernel_rfl
 have c4 : Tryz.prog.cellsOf 4 = 1 := by kernel_rfl
 rw [cQ] at hl
 have hn : xs.length = 2 := hn
 obtain ⟨a0, a1, rfl⟩ := len_two hl
 obtain ⟨x0, x1, rfl⟩ := len_two hn
 have g0 : DataW.trod enc Tryz.prog w base spare held n 5 [a0] = some x0 := by
  have : (([a0, a1] : List Value).drop 0).take (Tryz.prog.cellsOf 5) = [a0] := by rw [c5]; rfl
  rw [← this]; exact hf 0 _ rfl
 have g1 : DataW.trod enc Tryz.prog w base spare held n 4 [a1] = some x1 := by
  have : (([a0, a1] : List Value).drop 1).take (Tryz.prog.cellsOf 4) = [a1] := by rw [c4]; rfl
  rw [← this]; exact hf 1 _ rfl
 obtain ⟨n0, e0, y0, w0⟩ := DataW.trod_int Tryz.underlying5 g0
 obtain ⟨y1, e1, y1'⟩ := DataW.trod_bool Tryz.underlying4 g1
 cases e0
 cases e1
 have := byte_of_wf w0
 exact ⟨n0.toNat, y1, by rw [Int.toNat_of_nonneg this.1], by omega⟩
end
end Go.Proofs.YtkiiameibdhdfaaGreatDoor
