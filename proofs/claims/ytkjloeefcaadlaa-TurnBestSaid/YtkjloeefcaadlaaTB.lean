/- TurnBest, walked. -/
import Derived.Test.YtkjloeefcaadlaaTD
import Derived.Test.YtkjloeefcaadlaaTR
import Derived.Test.YtkjloeefcaadlaaTW
import Derived.Deep.RegionHeld3
namespace Go.Proofs.Ytkjloeefcaadlaa
open Go.RowKit Go.Shelf Go.Cs
attribute [local go_sem] Oper.semAt_some
/-- A deed: what, which slot, which urgency, incremental, ready. -/
structure Dd where
  d : Int
  s : Int
  u : Int
  inc : Bool
  rdy : Bool
def Dd.cs (p : Dd) : List Value := [.int .i64 p.d, .int .i64 p.s, .int .i64 p.u, .bool p.inc, .bool p.rdy]
/-- A slice of deeds. -/
def ReadsT (W : World) (ao : Option Addr) (n : Nat) (D : Nat → Dd) : Prop :=
  ∀ i, i < n → ∃ b o, ao = some ⟨b, o, none⟩ ∧ W.rangeAt b (o + i * 5) (D i).cs ∧ (-9223372036854775808 ≤ (D i).s ∧ (D i).s ≤ 9223372036854775807) ∧ -9223372036854775808 ≤ (D i).u ∧ (D i).u ≤ 9223372036854775807
/-- Its nine cells. -/
theorem RAt.all {W : World} {B x : Nat} {h : Nat → Int} (hB : RAt W B x h) : W.cell? ⟨B, 0, none⟩ = some (.int .u64 (x : Nat)) ∧ W.cell? ⟨B, 1, none⟩ = some (.int .i64 (h 0)) ∧ W.cell? ⟨B, 2, none⟩ = some (.int .i64 (h 1)) ∧ W.cell? ⟨B, 3, none⟩ = some (.int .i64 (h 2)) ∧ W.cell? ⟨B, 4, none⟩ = some (.int .i64 (h 3)) ∧ W.cell? ⟨B, 5, none⟩ = some (.int .i64 (h 4)) ∧ W.cell? ⟨B, 6, none⟩ = some (.int .i64 (h 5)) ∧ W.cell? ⟨B, 7, none⟩ = some (.int .i64 (h 6)) ∧ W.cell? ⟨B, 8, none⟩ = some (.int .i64 (h 7)) :=
  ⟨hB.cell, hB.at (u := 0) (by decide), hB.at (u := 1) (by decide), hB.at (u := 2) (by decide), hB.at (u := 3) (by decide), hB.at (u := 4) (by decide), hB.at (u := 5) (by decide), hB.at (u := 6) (by decide), hB.at (u := 7) (by decide)⟩
theorem rc_nine (y : Nat) (h k : Nat → Int) : rc y (upd (upd (upd (upd (upd (upd (upd (upd h 0 (k 0)) 1 (k 1)) 2 (k 2)) 3 (k 3)) 4 (k 4)) 5 (k 5)) 6 (k 6)) 7 (k 7)) = rc y k := rfl
/-- Written cell by cell. -/
theorem RAt.nine {W : World} {B x : Nat} {h : Nat → Int} (hB : RAt W B x h) (y : Nat) (k : Nat → Int) : RAt (((((((((W.setCell ⟨B, 0, none⟩ (.int .u64 (y : Nat))).setCell ⟨B, 1, none⟩ (.int .i64 (k 0))).setCell ⟨B, 2, none⟩ (.int .i64 (k 1))).setCell ⟨B, 3, none⟩ (.int .i64 (k 2))).setCell ⟨B, 4, none⟩ (.int .i64 (k 3))).setCell ⟨B, 5, none⟩ (.int .i64 (k 4))).setCell ⟨B, 6, none⟩ (.int .i64 (k 5))).setCell ⟨B, 7, none⟩ (.int .i64 (k 6))).setCell ⟨B, 8, none⟩ (.int .i64 (k 7))) B y k := by
  have := ((((((((hB.word y).hold (u := 0) (by decide) (k 0)).hold (u := 1) (by decide) (k 1)).hold (u := 2) (by decide) (k 2)).hold (u := 3) (by decide) (k 3)).hold (u := 4) (by decide) (k 4)).hold (u := 5) (by decide) (k 5)).hold (u := 6) (by decide) (k 6)).hold (u := 7) (by decide) (k 7)
  unfold RAt at this ⊢
  rw [rc_nine] at this
  exact this
theorem Dd.cells {W : World} {b o : Nat} {p : Dd} (h : W.rangeAt b o p.cs) : W.cell? ⟨b, o, none⟩ = some (.int .i64 p.d) ∧ W.cell? ⟨b, o + 1, none⟩ = some (.int .i64 p.s) ∧ W.cell? ⟨b, o + 2, none⟩ = some (.int .i64 p.u) ∧ W.cell? ⟨b, o + 3, none⟩ = some (.bool p.inc) ∧ W.cell? ⟨b, o + 4, none⟩ = some (.bool p.rdy) :=
  ⟨h 0 _ rfl, h 1 _ rfl, h 2 _ rfl, h 3 _ rfl, h 4 _ rfl⟩
theorem opIn_call {P : Program} {ops : Array Oper} {Q : Exit → Act → World → Prop} {r : Option Nat} {i : Nat} {o : Oper} (d : Option Tmp) {a : Act} {w : World} {K : Act → World → Prop} (hp : plainOp o = true) (hi : ops[i]? = some o) (hg : o.guard = none) (hd : o.dst = d)
    (f : FuncId) (args : Array Value) (h : (execOp a.eval o).run P w = .ok (.enter f args) w) (hc : Calls P f args w fun e w' => ∃ v, e = .returned v ∧ K (a.put d v) w') : wpOpIn (Fr r) 0 P ops Q i K a w := by
  subst hd
  unfold Go.wpOpIn
  simp only [hi, Region.wanted, hg, if_true, Oper.wpIn, semAt_plain hp, h]
  refine ⟨fun _ _ => trivial, fun h => by simp [Fence.wide] at h, (callsIn_wide (n := 0)).2 (hc.mono ?_)⟩
  rintro e w' ⟨v, rfl, hk⟩
  exact hk
theorem mods_row {W : World} {B x : Nat} {h : Nat → Int} (hB : RAt W B x h) (cs : Array Value) : Mods (fun b => b = B) W (W.setRow B cs) :=
  ⟨rfl, rfl, rfl, by simp [World.setRow], fun k o hk ho => by
    by_cases e : k = B
    · subst e
      rcases ho with ho | ho
      · exact absurd rfl ho
      · rw [show W.heap[k]? = _ from hB] at hk
        cases hk
        cases ho
    · rw [← hk]
      simp [World.setRow, Array.getElem?_modify, Ne.symm e]⟩
theorem cnt_le (x : Nat) (h : Nat → Int) : ∀ n, cntT x h n ≤ n
  | 0 => by simp [cntT]
  | n + 1 => by
    have := cnt_le x h n
    rw [cntT]
    split <;> omega
theorem info55b : (Try.prog.info? 55).map (·.size) = some 5 := by kernel_rfl
theorem best_facts {r : RS} (hr : r.Ok) {o : Option (Int × Nat)} (ho : nextT r.x r.h = o) :
    (∀ (s : Int) (q : Int × Nat), ofT r.x r.h s = some q → ¬ (q.2 < (o.map (·.2)).getD 0) ∧ (s = (o.map (·.1)).getD 0 → o.isSome = true → q.2 = (o.map (·.2)).getD 0)) ∧
    (∀ s : Int, ofT r.x r.h s = none → s = (o.map (·.1)).getD 0 → o.isSome = true → False) ∧
    o.isSome = decide (0 < manyT r.x r.h) := by
  obtain ⟨l, e, hv⟩ := hr
  have hr := right_VT hv
  rw [← e] at hr
  cases o with
  | none =>
    have hA := next_none hr ho
    refine ⟨fun s q hq => ?_, fun s hs h1 h2 => (by cases h2), ?_⟩
    · have := (of_some hq).1
      rw [hA] at this
      cases this
    · rw [manyT, if_pos hr, hA]; rfl
  | some p =>
    obtain ⟨h1, h2, _⟩ := next_some ho
    refine ⟨fun s q hq => ?_, fun s hs h3 _ => ?_, ?_⟩
    · obtain ⟨h3, h4, _⟩ := of_some hq
      refine ⟨by have := h2 q h3; simp; omega, fun h5 _ => ?_⟩
      have hq2 : ofT r.x r.h s = some p := by
        rw [e]
        exact (of_iff hv).2 ⟨by rw [← e]; exact h1, by simpa using h5.symm⟩
      rw [hq] at hq2
      cases hq2
      rfl
    · have hq2 : ofT r.x r.h s = some p := by
        rw [e]
        exact (of_iff hv).2 ⟨by rw [← e]; exact h1, by simpa using h3.symm⟩
      rw [hs] at hq2
      cases hq2
    · have := List.length_pos_of_mem h1
      rw [manyT, if_pos hr]
      simp [this]
set_option maxRecDepth 100000 in
theorem best_long (ao : Option Addr) (n cap : Nat) (w : World) (hn : 40 < n) (hm : n ≤ 9223372036854775807) :
    Calls Try.prog 5 #[.slice ao n cap] w fun e w' => e = .returned (.bool true) ∧ New w w' := by
  have hd40 : decide ((40 : Int) < (n : Int)) = true := decide_eq_true (by omega)
  go_enter Try.func5, Try.ntmps5
  go_wp2_with fail
  refine (wakes_t _).mono ?_
  rintro e w2 ⟨rfl, hN2⟩
  go_wp2_with fail
  go_ret
  exact ⟨rfl, hN2⟩
set_option maxRecDepth 100000 in
set_option maxHeartbeats 4000000 in
theorem best_law (ao : Option Addr) (n cap : Nat) (D : Nat → Dd) (w : World) (hn : n ≤ 40) (hD : ReadsT w ao n D) :
    Calls Try.prog 5 #[.slice ao n cap] w fun e w' => e = .returned (.bool true) ∧ New w w' := by
  have HD := Lib.hid hD
  have hd40 : decide ((40 : Int) < (n : Int)) = false := decide_eq_false (by omega)
  clear hD
  go_enter Try.func5, Try.ntmps5
  go_wp2_with fail
  refine (new_t _).mono ?_
  rintro e w1 ⟨rfl, hN1⟩
  go_upto_region 4 with (refine op_skip rfl (run_store_new 51 (.tmp 3) (.tmp 16) rfl 51 (rc 0 zeroH) (rc 0 nobody) rfl rfl (infoL _ _) rfl (rc_one _ _)) ?_)
  obtain ⟨hB0, hN0⟩ := ratN hN1 0 nobody
  obtain ⟨W0, hW0⟩ : ∃ W0, w1.alloc (.cells (rc 0 nobody).toArray 51) = W0 := ⟨_, rfl⟩
  have hsz := hN1.size
  obtain ⟨B, hB⟩ : ∃ B, w1.heap.size = B := ⟨_, rfl⟩
  rw [hW0] at hB0 hN0 ⊢
  rw [hB] at hB0 hsz ⊢
  have HN0 := Lib.hid hN0
  clear hW0 hB hN1 hN0
  have hr0 : RS.Ok ⟨0, nobody⟩ := ⟨[], by decide +kernel, VT_nobody ⟨fun p hp => (by cases hp), List.Pairwise.nil⟩⟩
  go_wp2_with fail
  go_loopw [4, 5, 6, 7, 8, 9, 10, 11] (fun i _ _ _ _ _ _ _ wr => ∃ (k : Nat) (r : RS), k ≤ n ∧ i = .int .i64 k ∧ Hid r.Ok ∧ RAt wr B r.x r.h ∧ Mods (fun b => b = B) W0 wr) (fun i _ _ _ _ _ _ _ _ => n - (intOf i).toNat)
  case atStart => exact ⟨0, ⟨0, nobody⟩, Nat.zero_le _, rfl, hr0, hB0, Mods.refl _ _⟩
  case round =>
    clear hB0 hr0
    obtain ⟨k, r, hk, rfl, hr, hRr, hM⟩ := hrel
    by_cases hlt : k < n
    · obtain ⟨b, o, rfl, hcs, ⟨s1, s2⟩, u1, u2⟩ := HD.out k hlt
      have hMw : Hid (New w wr) := Lib.hid (((Mods.ofNew HN0.out).trans hM).new (fun j hj => by omega))
      have hcs : wr.rangeAt b (o + k * 5) (D k).cs := fun j v hv => hMw.out.cell (hcs j v hv) id
      obtain ⟨⟨d, s, u, inc, rdy⟩, hd⟩ : ∃ d, D k = d := ⟨_, rfl⟩
      rw [hd] at hcs s1 s2 u1 u2
      dsimp only at s1 s2 u1 u2
      have HDo := Lib.hid (does_t hr.out d s u inc rdy s1 s2 u1 u2)
      have hr' := Lib.hid (hr.out.does d s u inc rdy)
      obtain ⟨r', hrr⟩ : ∃ r', doesT r.x r.h d s u inc rdy = r' := ⟨_, rfl⟩
      rw [hrr] at HDo hr'
      obtain ⟨x, h⟩ := r
      dsimp only at HDo hRr
      clear hd hrr hr
      obtain ⟨y, m⟩ := r'
      go_upto_region 7 with fail
      have hL1 : wr.drew.rangeAt B 0 (rc x h) := fun j v hv => by rw [Nat.zero_add]; exact (cell_of_row wr B j _ 51 _ hRr).trans (by rw [List.getElem?_toArray]; exact hv)
      have hL2 : wr.drew.rangeAt b (o + k * 5) (Dd.cs ⟨d, s, u, inc, rdy⟩) := hcs
      refine (wpIn_wide (n := 0)).1 ?_
      refine wpIn_region_any (by kernel_rfl) ?_
      show wpAnyIn _ _ _ _ _ _ _ _ _ wr.drew
      refine any_take 1 (some 24) (.slice (some ⟨b, o, none⟩) n cap) rfl rfl (by kernel_rfl) (by kernel_rfl) (by kernel_rfl) (fun _ _ _ h => h) (.value rfl fun w => rfl) ?_
      refine any_take 2 (some 25) (.int .i64 k) rfl rfl (by kernel_rfl) (by kernel_rfl) (by kernel_rfl) (fun _ _ _ h => h) (.value rfl fun w => rfl) ?_
      refine any_take 3 (some 26) (.pointer (some ⟨b, o + k * 5, none⟩)) rfl rfl (by kernel_rfl) (by kernel_rfl) (by kernel_rfl) (fun _ _ _ h => h) (.value rfl fun w => by go_simp) ?_
      simp only [Act.put, List.setIfInBounds_toArray, List.set_cons_succ, List.set_cons_zero]
      refine wpAnyIn_all (rs := [0, 4]) (by kernel_rfl) (by simp) ?_
      simp only [List.mem_cons, List.not_mem_nil, or_false, forall_eq_or_imp, forall_eq]
      refine ⟨?ord1, ?ord2⟩
      case' ord1 =>
        refine opIn_value (some 23) (v := .agg (rc x h).toArray) (w' := wr.drew) rfl rfl rfl rfl (run_load_mid 51 (.tmp 3) rfl B 0 rfl (rc x h) _ hL1 Try.underlying51 rfl (infoL x h)) ?_
        refine wpAnyIn_all (rs := [4]) (by kernel_rfl) (by simp) ?_
        simp only [List.mem_cons, List.not_mem_nil, or_false, forall_eq]
        refine opIn_value (some 27) (v := .agg (Dd.cs ⟨d, s, u, inc, rdy⟩).toArray) (w' := wr.drew) rfl rfl rfl rfl (run_load_mid 55 (.tmp 26) rfl b (o + k * 5) rfl (Dd.cs ⟨d, s, u, inc, rdy⟩) _ hL2 Try.underlying55 rfl info55b) ?_
      case' ord2 =>
        refine opIn_value (some 27) (v := .agg (Dd.cs ⟨d, s, u, inc, rdy⟩).toArray) (w' := wr.drew) rfl rfl rfl rfl (run_load_mid 55 (.tmp 26) rfl b (o + k * 5) rfl (Dd.cs ⟨d, s, u, inc, rdy⟩) _ hL2 Try.underlying55 rfl info55b) ?_
        refine wpAnyIn_all (rs := [0]) (by kernel_rfl) (by simp) ?_
        simp only [List.mem_cons, List.not_mem_nil, or_false, forall_eq]
        refine opIn_value (some 23) (v := .agg (rc x h).toArray) (w' := wr.drew) rfl rfl rfl rfl (run_load_mid 51 (.tmp 3) rfl B 0 rfl (rc x h) _ hL1 Try.underlying51 rfl (infoL x h)) ?_
      all_goals
        simp only [Act.put, List.setIfInBounds_toArray, List.set_cons_succ, List.set_cons_zero]
        refine wpAnyIn_all (rs := [5]) (by kernel_rfl) (by simp) ?_
        simp only [List.mem_cons, List.not_mem_nil, or_false, forall_eq]
        refine opIn_call (some 28) rfl rfl rfl rfl 36 #[.agg (rc x h).toArray, .agg (Dd.cs ⟨d, s, u, inc, rdy⟩).toArray] (by go_simp) ((HDo.out _).mono ?_)
        rintro e w2 ⟨rfl, hN2⟩
        refine ⟨_, rfl, ?_⟩
        simp only [Act.put, List.setIfInBounds_toArray, List.set_cons_succ, List.set_cons_zero]
        refine wpAnyIn_all (rs := [6]) (by kernel_rfl) (by simp) ?_
        simp only [List.mem_cons, List.not_mem_nil, or_false, forall_eq]
        have hR2 : RAt w2 B x h := RAt.new (by exact hRr) hN2
        refine opIn_skip none (w' := w2.setRow B (rc y m).toArray) rfl rfl rfl rfl (run_store_row 51 (.tmp 3) (.tmp 28) rfl B rfl 51 (rc x h) (rc y m) rfl hR2 (infoL _ _) rfl (rc_one _ _)) ?_
        refine wpAnyIn_done (by kernel_rfl) ?_ _
        have hR3 := hR2.row y m
        have hM3 : Mods (fun b => b = B) W0 (w2.setRow B (rc y m).toArray) := (hM.trans (Mods.ofNew ((Mods.refl _ wr).drew.trans hN2))).trans (mods_row hR2 _)
        obtain ⟨w3, hw3⟩ : ∃ w3, w2.setRow B (rc y m).toArray = w3 := ⟨_, rfl⟩
        rw [hw3] at hR3 hM3 ⊢
        clear hw3 hR2 hN2 hL1 hL2 hcs hRr hM hMw
        have hMw : Hid (Mods (fun b => b = B) W0 w3) := Lib.hid hM3
        clear hM3
        simp only [Act.put, List.setIfInBounds_toArray, List.set_cons_succ, List.set_cons_zero]
        have HX := Lib.hid (next_t y m hr'.out.lt hr'.out.in8)
        obtain ⟨o2, ho2⟩ : ∃ o2, nextT y m = o2 := ⟨_, rfl⟩
        rw [ho2] at HX
        obtain ⟨F1, F2, F3⟩ := best_facts hr'.out ho2
        obtain ⟨sl, hsl⟩ : ∃ sl, (o2.map (·.1)).getD 0 = sl := ⟨_, rfl⟩
        obtain ⟨su, hsu⟩ : ∃ su, (o2.map (·.2)).getD 0 = su := ⟨_, rfl⟩
        obtain ⟨ok, hok⟩ : ∃ ok, o2.isSome = ok := ⟨_, rfl⟩
        unfold tripT at HX
        rw [hsl, hsu, hok] at HX
        rw [hsl, hsu, hok] at F1
        rw [hsl, hok] at F2
        rw [hok] at F3
        have HMy := Lib.hid (many_t y m hr'.out.lt hr'.out.in8)
        have hcnt := cnt_all hr'.out
        dsimp only at hcnt F3 F1 F2
        obtain ⟨mm, hmm⟩ : ∃ mm, manyT y m = mm := ⟨_, rfl⟩
        rw [hmm] at HMy hcnt F3
        have Hcnt := Lib.hid hcnt
        have d0 : decide ((0 : Int) < (mm : Int)) = ok := by rw [F3, decide_eq_decide]; omega
        have d0' : decide (0 < mm) = ok := F3.symm
        have F1 := Lib.hid F1
        have F2 := Lib.hid F2
        clear F3 hcnt hmm
        have HRt : Hid (∀ w, Calls Try.prog 39 #[.agg (rc y m).toArray] w fun e w' => e = .returned (.bool true) ∧ New w w') := Lib.hid (fun w => by
          obtain ⟨l, e, hv⟩ := hr'.out
          dsimp only at e hv
          rw [e]
          exact right_ref25 hv w)
        have HOf := Lib.hid (fun s => of_t y m s hr'.out.lt hr'.out.in8)
        clear ho2 hsl hsu hok
        go_wp2_with (refine op_value rfl (run_load_row 51 (.tmp 3) rfl B rfl 51 (rc y m).toArray (0, 0) _ hR3 Try.underlying51 rfl (infoR _ _)) ?_)
        refine (HX.out _).mono ?_
        rintro e w4 ⟨rfl, hN4⟩
        have hR4 := hR3.new hN4
        have HN4 := Lib.hid hN4
        clear hR3 hN4 HX
        go_wp2_with fail
        go_loopw [8, 9, 10, 11] (fun c8 c9 _ _ wi => ∃ j : Nat, j ≤ 8 ∧ c9 = .int .i64 j ∧ c8 = .int .i64 (cntT y m j : Nat) ∧ New w4 wi) (fun _ c9 _ _ _ => 8 - (intOf c9).toNat)
        case atStart => exact ⟨0, by omega, rfl, rfl, Mods.refl _ _⟩
        case round =>
          obtain ⟨j, hj, rfl, rfl, hNi⟩ := hrel
          have hRi := hR4.new hNi
          by_cases hj8 : j < 8
          · have hjd : decide ((j : Int) < 8) = true := by simp; omega
            have hc8 := cnt_le y m j
            have hnx : cntT y m (j + 1) = cntT y m j + if (ofT y m j).isSome then 1 else 0 := rfl
            have HOj := Lib.hid (HOf.out j)
            have F1j := F1.out j
            have F2j := F2.out j
            obtain ⟨o3, ho3⟩ : ∃ o3, ofT y m (j : Int) = o3 := ⟨_, rfl⟩
            rw [ho3] at HOj F1j F2j hnx
            obtain ⟨cj, hcj⟩ : ∃ cj, cntT y m j = cj := ⟨_, rfl⟩
            rw [hcj] at hnx hc8 ⊢
            clear ho3 hcj
            unfold pairO at HOj
            cases o3 with
            | none =>
              simp only [Option.map_none, Option.getD_none, Option.isSome_none] at HOj hnx
              have Hnx : Hid (cntT y m (j + 1) = cj) := Lib.hid (by simpa using hnx)
              have F2j' := F2j rfl
              clear F1j F2j hnx
              by_cases hsl : (j : Int) = sl
              · have e1 : ((j : Int) == sl) = true := by simpa using hsl
                obtain rfl : ok = false := by
                  cases ok with
                  | true => exact (F2j' hsl rfl).elim
                  | false => rfl
                clear hsl F2j'
                go_wp2_with (refine op_value rfl (run_load_row 51 (.tmp 3) rfl B rfl 51 (rc y m).toArray (0, 0) _ hRi Try.underlying51 rfl (infoR _ _)) ?_)
                refine (HOj.out _).mono ?_
                rintro e w5 ⟨rfl, hN5⟩
                go_wp2_with fail
                go_roundw
                case rel => exact ⟨j + 1, by omega, by go_num, by rw [Hnx.out], hNi.trans hN5⟩
                case measure => simp [intOf]; omega
              · have e1 : ((j : Int) == sl) = false := by simpa using hsl
                clear hsl F2j'
                go_wp2_with (refine op_value rfl (run_load_row 51 (.tmp 3) rfl B rfl 51 (rc y m).toArray (0, 0) _ hRi Try.underlying51 rfl (infoR _ _)) ?_)
                refine (HOj.out _).mono ?_
                rintro e w5 ⟨rfl, hN5⟩
                go_wp2_with fail
                go_roundw
                case rel => exact ⟨j + 1, by omega, by go_num, by rw [Hnx.out], hNi.trans hN5⟩
                case measure => simp [intOf]; omega
            | some q =>
              simp only [Option.map_some, Option.getD_some, Option.isSome_some] at HOj hnx
              have Hnx : Hid (cntT y m (j + 1) = cj + 1) := Lib.hid (by simpa using hnx)
              obtain ⟨f1, f2⟩ := F1j q rfl
              clear F1j F2j hnx
              obtain ⟨v, hv⟩ : ∃ v, q.2 = v := ⟨_, rfl⟩
              rw [hv] at HOj f1 f2
              have e0 : decide ((v : Int) < (su : Int)) = false := decide_eq_false (by omega)
              have e0' : decide (v < su) = false := decide_eq_false (by omega)
              clear hv f1
              by_cases hsl : (j : Int) = sl
              · have e1 : ((j : Int) == sl) = true := by simpa using hsl
                cases ok with
                | true =>
                  obtain rfl : v = su := f2 hsl rfl
                  clear hsl f2
                  go_wp2_with (refine op_value rfl (run_load_row 51 (.tmp 3) rfl B rfl 51 (rc y m).toArray (0, 0) _ hRi Try.underlying51 rfl (infoR _ _)) ?_)
                  refine (HOj.out _).mono ?_
                  rintro e w5 ⟨rfl, hN5⟩
                  go_wp2_with fail
                  go_roundw
                  case rel => exact ⟨j + 1, by omega, by go_num, by rw [Hnx.out]; go_num, hNi.trans hN5⟩
                  case measure => simp [intOf]; omega
                | false =>
                  clear hsl f2
                  go_wp2_with (refine op_value rfl (run_load_row 51 (.tmp 3) rfl B rfl 51 (rc y m).toArray (0, 0) _ hRi Try.underlying51 rfl (infoR _ _)) ?_)
                  refine (HOj.out _).mono ?_
                  rintro e w5 ⟨rfl, hN5⟩
                  go_wp2_with fail
                  go_roundw
                  case rel => exact ⟨j + 1, by omega, by go_num, by rw [Hnx.out]; go_num, hNi.trans hN5⟩
                  case measure => simp [intOf]; omega
              · have e1 : ((j : Int) == sl) = false := by simpa using hsl
                clear hsl f2
                go_wp2_with (refine op_value rfl (run_load_row 51 (.tmp 3) rfl B rfl 51 (rc y m).toArray (0, 0) _ hRi Try.underlying51 rfl (infoR _ _)) ?_)
                refine (HOj.out _).mono ?_
                rintro e w5 ⟨rfl, hN5⟩
                go_wp2_with fail
                go_roundw
                case rel => exact ⟨j + 1, by omega, by go_num, by rw [Hnx.out]; go_num, hNi.trans hN5⟩
                case measure => simp [intOf]; omega
          · obtain rfl : j = 8 := by omega
            rw [Hcnt.out]
            go_wp2_with (refine op_value rfl (run_load_row 51 (.tmp 3) rfl B rfl 51 (rc y m).toArray (0, 0) _ hRi Try.underlying51 rfl (infoR _ _)) ?_)
            refine (HRt.out _).mono ?_
            rintro e w5 ⟨rfl, hN5⟩
            have hR5 := hRi.new hN5
            go_wp2_with (first | (refine op_value rfl (run_load_row 51 (.tmp 3) rfl B rfl 51 (rc y m).toArray (0, 0) _ hR5 Try.underlying51 rfl (infoR _ _)) ?_) | (refine op_value_g rfl (run_load_row 51 (.tmp 3) rfl B rfl 51 (rc y m).toArray (0, 0) _ hR5 Try.underlying51 rfl (infoR _ _)) ?_))
            refine (HMy.out _).mono ?_
            rintro e w6 ⟨rfl, hN6⟩
            have hR6 := hR5.new hN6
            have hMf : Mods (fun b => b = B) W0 w6 := hMw.out.trans (Mods.ofNew (((HN4.out.trans hNi).trans hN5).trans hN6))
            go_wp2_with fail
            go_roundw
            case rel => exact ⟨k + 1, ⟨y, m⟩, by omega, by go_num, hr'.out, hR6, hMf⟩
            case measure => simp [intOf]; omega
    · go_wp2_with fail
      refine (wakes_t _).mono ?_
      rintro e w2 ⟨rfl, hN2⟩
      go_wp2_with fail
      go_ret
      exact ⟨rfl, (((Mods.ofNew HN0.out).trans hM).new (fun j hj => by omega)).trans hN2⟩
end Go.Proofs.Ytkjloeefcaadlaa
