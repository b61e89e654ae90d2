/- A turn begins, is over; a slot has another urgency; nobody is ready. -/
import Derived.Test.YtkjloeefcaadlaaTU6
import Derived.Test.YtkjloeefcaadlaaW6
namespace Go.Proofs.Ytkjloeefcaadlaa
open Go.RowKit Go.Shelf Go.Cs
attribute [local go_sem] Oper.semAt_some
theorem In8.upd {h : Nat → Int} (hh : In8 h) (u : Nat) {v : Int} (h1 : -9223372036854775808 ≤ v) (h2 : v ≤ 9223372036854775807) : In8 (upd h u v) := fun i hi => by
  unfold Ytkjloeefcaadlaa.upd
  split
  · exact ⟨h1, h2⟩
  · exact hh i hi
theorem outT_lt (x : Nat) (h : Nat → Int) (s : Int) (hx : x < 18446744073709551616) : (outT x h s).1.x < 18446744073709551616 := by
  unfold outT
  split
  · exact hx
  · split
    · exact hx
    · exact outF_lt x s hx
theorem outT_in {x : Nat} {h : Nat → Int} (s : Int) (hh : In8 h) : In8 (outT x h s).1.h := by
  unfold outT
  split
  · exact hh
  · split
    · exact hh.upd _ (by decide) (by decide)
    · exact hh
theorem pushT_lt (x : Nat) (h : Nat → Int) (s u : Int) (hx : x < 18446744073709551616) : (pushT x h s u).1 < 18446744073709551616 := by
  unfold pushT
  split
  · exact pushF_lt x s u hx
  · exact hx
theorem results_row4 {P : Program} {fn : Func} {p q q2 q3 : Tmp} {ty : TypeId} (h : fn.results = #[.cell p ty, .tmp q, .tmp q2, .tmp q3]) (tmps : Array Value) (w : World) (g : Nat) (t : TypeId) (cs : Array Value) (fr : Nat × Nat) (d : TypeDesc)
    (hp : tmps.getD p undef = .pointer (some ⟨g, 0, none⟩)) (hg : w.heap[g]? = some (.cells cs t fr))
    (hu : P.underlying ty = some d) (hd : (match d with | .struct _ | .array _ _ => true | _ => false) = true) (hi : (P.info? ty).map (·.size) = some cs.size) {v v2 v3 : Value} (hq : tmps.getD q undef = v) (hq2 : tmps.getD q2 undef = v2) (hq3 : tmps.getD q3 undef = v3) :
    (results fn tmps).run P w = .ok (.tuple #[.agg cs, v, v2, v3]) w := by
  subst hq hq2 hq3
  have hp' : tmps[p]?.getD undef = .pointer (some ⟨g, 0, none⟩) := by simpa using hp
  simp [results, h, hp', asAddr, run_loadVar_row w g t ty cs fr d hg hu hd hi]
set_option maxRecDepth 100000 in
set_option maxHeartbeats 1000000 in
theorem begin_t (x : Nat) (h : Nat → Int) (hx : x < 18446744073709551616) (hh : In8 h) (w : World) :
    Calls Try.prog 42 #[.agg (rc x h).toArray] w fun e w' => e = .returned (.tuple #[.agg (rc (beginT x h).1.x (beginT x h).1.h).toArray, .int .i64 (beginT x h).2.1, .int .i64 ((beginT x h).2.2.1 : Nat), .bool (beginT x h).2.2.2]) ∧ New w w' := by
  have HX := Lib.hid (next_t x h hx hh)
  obtain ⟨o, ho⟩ : ∃ o, nextT x h = o := ⟨_, rfl⟩
  rw [ho] at HX
  cases o with
  | none =>
    have hb : beginT x h = (⟨x, h⟩, 0, 0, false) := by simp only [beginT, ho]
    rw [hb]
    clear hb ho hh
    have hR0 : RAt ((w.alloc (.cells (rc x h).toArray 51)).alloc (.cells #[.int .u64 0, .int .i64 0, .int .i64 0, .int .i64 0, .int .i64 0, .int .i64 0, .int .i64 0, .int .i64 0, .int .i64 0] 51)) w.heap.size x h := ((Mods.refl (fun _ => False) _).alloc _).heap (World.alloc_heap_new w _) id
    have hQ0 : RAt ((w.alloc (.cells (rc x h).toArray 51)).alloc (.cells #[.int .u64 0, .int .i64 0, .int .i64 0, .int .i64 0, .int .i64 0, .int .i64 0, .int .i64 0, .int .i64 0, .int .i64 0] 51)) (w.heap.size + 1) 0 zeroH := by
      have := World.alloc_heap_new (w.alloc (.cells (rc x h).toArray 51)) (.cells #[.int .u64 0, .int .i64 0, .int .i64 0, .int .i64 0, .int .i64 0, .int .i64 0, .int .i64 0, .int .i64 0, .int .i64 0] 51)
      rw [World.size_alloc] at this
      exact this
    have hsz : w.heap.size ≤ w.heap.size + 1 := by omega

    go_enter Try.func42, Try.ntmps42
    go_wp2_with (refine op_value rfl (run_load_row 51 (.tmp 1) rfl w.heap.size rfl 51 (rc x h).toArray (0, 0) _ hR0 Try.underlying51 rfl (infoR _ _)) ?_)
    obtain ⟨W0, hW0⟩ : ∃ W0, (w.alloc (.cells (rc x h).toArray 51)).alloc (.cells #[.int .u64 0, .int .i64 0, .int .i64 0, .int .i64 0, .int .i64 0, .int .i64 0, .int .i64 0, .int .i64 0, .int .i64 0] 51) = W0 := ⟨_, rfl⟩
    have hN0 : New w W0 := by rw [← hW0]; exact ((Mods.refl _ _).alloc _).alloc _
    rw [hW0] at hR0 hQ0 ⊢
    clear hW0
    refine (HX.out _).mono ?_
    rintro e w1 ⟨rfl, hN1'⟩
    have hR1 := hR0.mods hN1' id
    have hQ1 := hQ0.mods hN1' id
    have hN1 := hN0.trans hN1'
    clear hR0 hQ0 hN0 hN1'
    unfold tripT
    simp only [Option.map_none, Option.getD_none, Option.isSome_none]
    go_wp2_with (first | (refine op_value rfl (run_load_row 51 (.tmp 1) rfl w.heap.size rfl 51 (rc x h).toArray (0, 0) _ hR1 Try.underlying51 rfl (infoR _ _)) ?_) | (refine op_skip rfl (run_store_row 51 (.tmp 2) (.tmp 19) rfl (w.heap.size + 1) rfl 51 (rc 0 zeroH) (rc x h) rfl hQ1 (infoL _ _) rfl (rc_one _ _)) ?_))
    exact bodyPost_ret (v := .tuple #[.agg (rc x h).toArray, .int .i64 0, .int .i64 ((0 : Nat) : Int), .bool false]) (results_row4 (fn := Try.f42) (p := 2) (q := 3) (q2 := 4) (q3 := 5) rfl _ _ (w.heap.size + 1) 51 (rc x h).toArray (0, 0) _ rfl (hQ1.row x h) Try.underlying51 rfl (infoR _ _) rfl rfl rfl) rfl ⟨rfl, hN1.setRow hsz _⟩
  | some p =>
    have HO := Lib.hid (out_t x h p.1 hx hh)
    obtain ⟨q, hq⟩ : ∃ q, outT x h p.1 = q := ⟨_, rfl⟩
    obtain ⟨⟨y, k⟩, ok⟩ := q
    have hb : beginT x h = (⟨y, k⟩, p.1, p.2, true) := by simp only [beginT, ho, hq]
    rw [hb]
    rw [hq] at HO
    unfold RetRT at HO
    clear hb ho hh hq
    obtain ⟨s, u⟩ := p
    dsimp only at HO ⊢
    have hR0 : RAt ((w.alloc (.cells (rc x h).toArray 51)).alloc (.cells #[.int .u64 0, .int .i64 0, .int .i64 0, .int .i64 0, .int .i64 0, .int .i64 0, .int .i64 0, .int .i64 0, .int .i64 0] 51)) w.heap.size x h := ((Mods.refl (fun _ => False) _).alloc _).heap (World.alloc_heap_new w _) id
    have hQ0 : RAt ((w.alloc (.cells (rc x h).toArray 51)).alloc (.cells #[.int .u64 0, .int .i64 0, .int .i64 0, .int .i64 0, .int .i64 0, .int .i64 0, .int .i64 0, .int .i64 0, .int .i64 0] 51)) (w.heap.size + 1) 0 zeroH := by
      have := World.alloc_heap_new (w.alloc (.cells (rc x h).toArray 51)) (.cells #[.int .u64 0, .int .i64 0, .int .i64 0, .int .i64 0, .int .i64 0, .int .i64 0, .int .i64 0, .int .i64 0, .int .i64 0] 51)
      rw [World.size_alloc] at this
      exact this
    have hsz : w.heap.size ≤ w.heap.size + 1 := by omega

    go_enter Try.func42, Try.ntmps42
    go_wp2_with (refine op_value rfl (run_load_row 51 (.tmp 1) rfl w.heap.size rfl 51 (rc x h).toArray (0, 0) _ hR0 Try.underlying51 rfl (infoR _ _)) ?_)
    obtain ⟨W0, hW0⟩ : ∃ W0, (w.alloc (.cells (rc x h).toArray 51)).alloc (.cells #[.int .u64 0, .int .i64 0, .int .i64 0, .int .i64 0, .int .i64 0, .int .i64 0, .int .i64 0, .int .i64 0, .int .i64 0] 51) = W0 := ⟨_, rfl⟩
    have hN0 : New w W0 := by rw [← hW0]; exact ((Mods.refl _ _).alloc _).alloc _
    rw [hW0] at hR0 hQ0 ⊢
    clear hW0
    refine (HX.out _).mono ?_
    rintro e w1 ⟨rfl, hN1'⟩
    have hR1 := hR0.mods hN1' id
    have hQ1 := hQ0.mods hN1' id
    have hN1 := hN0.trans hN1'
    clear hR0 hQ0 hN0 hN1'
    unfold tripT
    simp only [Option.map_some, Option.getD_some, Option.isSome_some]
    go_wp2_with (refine op_value rfl (run_load_row 51 (.tmp 1) rfl w.heap.size rfl 51 (rc x h).toArray (0, 0) _ hR1 Try.underlying51 rfl (infoR _ _)) ?_)
    refine (HO.out _).mono ?_
    rintro e w2 ⟨rfl, hN2'⟩
    have hR2 := hR1.mods hN2' id
    have hQ2 := hQ1.mods hN2' id
    have hN2 := hN1.trans hN2'
    clear hR1 hQ1 hN1 hN2'
    have hR3 := hR2.row y k
    have hQ3 := hQ2.otherRow (C := w.heap.size) (by omega) (rc y k).toArray
    have hN3 : New w (w2.setRow w.heap.size (rc y k).toArray) := hN2.setRow (Nat.le_refl _) _
    go_wp2_with (first | (refine op_skip rfl (run_store_row 51 (.tmp 1) (.tmp 17) rfl w.heap.size rfl 51 (rc x h) (rc y k) rfl hR2 (infoL _ _) rfl (rc_one _ _)) ?_) | (refine op_value rfl (run_load_row 51 (.tmp 1) rfl w.heap.size rfl 51 (rc y k).toArray (0, 0) _ hR3 Try.underlying51 rfl (infoR _ _)) ?_) | (refine op_skip rfl (run_store_row 51 (.tmp 2) (.tmp 19) rfl (w.heap.size + 1) rfl 51 (rc 0 zeroH) (rc y k) rfl hQ3 (infoL _ _) rfl (rc_one _ _)) ?_))
    exact bodyPost_ret (v := .tuple #[.agg (rc y k).toArray, .int .i64 s, .int .i64 ((u : Nat) : Int), .bool true]) (results_row4 (fn := Try.f42) (p := 2) (q := 3) (q2 := 4) (q3 := 5) rfl _ _ (w.heap.size + 1) 51 (rc y k).toArray (0, 0) _ rfl (hQ3.row y k) Try.underlying51 rfl (infoR _ _) rfl rfl rfl) rfl ⟨rfl, hN3.setRow hsz _⟩
set_option maxRecDepth 100000 in
set_option maxHeartbeats 1000000 in
theorem turn_t (x : Nat) (h : Nat → Int) (s u : Int) (hx : x < 18446744073709551616) (hh : In8 h) (hs1 : -9223372036854775808 ≤ s) (hs2 : s ≤ 9223372036854775807) (hu1 : -9223372036854775808 ≤ u) (hu2 : u ≤ 9223372036854775807) (w : World) :
    Calls Try.prog 83 #[.agg (rc x h).toArray, .int .i64 s, .int .i64 u] w (RetRT w (turnT x h s u)) := by
  have HF := Lib.hid (of_t x h s hx hh)
  have HU := Lib.hid (fun w => number_t u w hu1 hu2)
  have HO := Lib.hid (out_t x h s hx hh)
  have HP := Lib.hid (push_t (outT x h s).1.x (outT x h s).1.h s u (outT_lt x h s hx) (outT_in s hh) hs1 hs2 hu1 hu2)
  obtain ⟨q, hq⟩ : ∃ q, outT x h s = q := ⟨_, rfl⟩
  obtain ⟨⟨y, k⟩, ok⟩ := q
  rw [hq] at HO HP
  dsimp only at HP
  obtain ⟨g, hg⟩ : ∃ g, pushT y k s u = g := ⟨_, rfl⟩
  obtain ⟨z, zb⟩ := g
  rw [hg] at HP
  obtain ⟨r, hr⟩ : ∃ r, turnT x h s u = r := ⟨_, rfl⟩
  obtain ⟨o, ho⟩ : ∃ o, ofT x h s = o := ⟨_, rfl⟩
  obtain ⟨nb, hnb⟩ : ∃ o, numB u = o := ⟨_, rfl⟩
  have hp1 : o = none → r = (⟨x, h⟩, false) := fun e => by rw [← hr]; rw [e] at ho; simp only [turnT, ho]
  have hp2 : ∀ p, o = some p → ((p.2 : Int) = u ∨ nb = false) → r = (⟨x, h⟩, false) := fun p e e2 => by rw [← hr]; rw [e] at ho; rw [← hnb] at e2; simp only [turnT, ho, e2, if_true]
  have hp3 : ∀ p, o = some p → ¬ ((p.2 : Int) = u ∨ nb = false) → r = (⟨z, k⟩, zb) := fun p e e2 => by rw [← hr]; rw [e] at ho; rw [← hnb] at e2; simp only [turnT, ho, e2, if_false, hq, hg]
  rw [hr]
  rw [ho] at HF
  rw [hnb] at HU
  unfold RetRT at HO HP
  dsimp only at HO HP
  have Hp1 := Lib.hid hp1
  have Hp2 := Lib.hid hp2
  have Hp3 := Lib.hid hp3
  clear hp1 hp2 hp3 hr hq hg ho hnb hh
  have hR0 : RAt ((w.alloc (.cells (rc x h).toArray 51)).alloc (.cells #[.int .u64 0, .int .i64 0, .int .i64 0, .int .i64 0, .int .i64 0, .int .i64 0, .int .i64 0, .int .i64 0, .int .i64 0] 51)) w.heap.size x h := ((Mods.refl (fun _ => False) _).alloc _).heap (World.alloc_heap_new w _) id
  have hQ0 : RAt ((w.alloc (.cells (rc x h).toArray 51)).alloc (.cells #[.int .u64 0, .int .i64 0, .int .i64 0, .int .i64 0, .int .i64 0, .int .i64 0, .int .i64 0, .int .i64 0, .int .i64 0] 51)) (w.heap.size + 1) 0 zeroH := by
    have := World.alloc_heap_new (w.alloc (.cells (rc x h).toArray 51)) (.cells #[.int .u64 0, .int .i64 0, .int .i64 0, .int .i64 0, .int .i64 0, .int .i64 0, .int .i64 0, .int .i64 0, .int .i64 0] 51)
    rw [World.size_alloc] at this
    exact this
  have hsz : w.heap.size ≤ w.heap.size + 1 := by omega
  go_enter Try.func83, Try.ntmps83
  go_wp2_with (refine op_value rfl (run_load_row 51 (.tmp 3) rfl w.heap.size rfl 51 (rc x h).toArray (0, 0) _ hR0 Try.underlying51 rfl (infoR _ _)) ?_)
  obtain ⟨W0, hW0⟩ : ∃ W0, (w.alloc (.cells (rc x h).toArray 51)).alloc (.cells #[.int .u64 0, .int .i64 0, .int .i64 0, .int .i64 0, .int .i64 0, .int .i64 0, .int .i64 0, .int .i64 0, .int .i64 0] 51) = W0 := ⟨_, rfl⟩
  have hN0 : New w W0 := by rw [← hW0]; exact ((Mods.refl _ _).alloc _).alloc _
  rw [hW0] at hR0 hQ0 ⊢
  clear hW0
  refine (HF.out _).mono ?_
  rintro e w1 ⟨rfl, hN1'⟩
  have hR1 := hR0.mods hN1' id
  have hQ1 := hQ0.mods hN1' id
  have hN1 := hN0.trans hN1'
  clear hR0 hQ0 hN0 hN1'
  unfold pairO
  cases o with
  | none =>
    obtain rfl := Hp1.out rfl
    simp only [Option.map_none, Option.getD_none, Option.isSome_none]
    go_wp2_with (first | (with_reducible refine ⟨fun f hf => (by cases hf), ?_⟩) | (refine op_value rfl (run_load_row 51 (.tmp 3) rfl w.heap.size rfl 51 (rc x h).toArray (0, 0) _ hR1 Try.underlying51 rfl (infoR _ _)) ?_) | (refine op_skip rfl (run_store_row 51 (.tmp 6) (.tmp 30) rfl (w.heap.size + 1) rfl 51 (rc 0 zeroH) (rc x h) rfl hQ1 (infoL _ _) rfl (rc_one _ _)) ?_))
    exact bodyPost_ret (v := .tuple #[.agg (rc x h).toArray, .bool false]) (results_row2 (fn := Try.f83) (p := 6) (q := 7) (v := .bool false) rfl _ _ (w.heap.size + 1) 51 (rc x h).toArray (0, 0) _ rfl (hQ1.row x h) Try.underlying51 rfl (infoR _ _) rfl) rfl ⟨rfl, hN1.setRow hsz _⟩
  | some p =>
    simp only [Option.map_some, Option.getD_some, Option.isSome_some]
    obtain ⟨t, v⟩ := p
    dsimp only
    by_cases he : (v : Int) = u
    · obtain rfl := Hp2.out (t, v) rfl (.inl he)
      have hb : ((v : Int) == u) = true := by simpa using he
      clear he
      go_wp2_with (first | (with_reducible refine ⟨fun f hf => (by cases hf), ?_⟩) | (refine op_value rfl (run_load_row 51 (.tmp 3) rfl w.heap.size rfl 51 (rc x h).toArray (0, 0) _ hR1 Try.underlying51 rfl (infoR _ _)) ?_) | (refine op_skip rfl (run_store_row 51 (.tmp 6) (.tmp 30) rfl (w.heap.size + 1) rfl 51 (rc 0 zeroH) (rc x h) rfl hQ1 (infoL _ _) rfl (rc_one _ _)) ?_))
      exact bodyPost_ret (v := .tuple #[.agg (rc x h).toArray, .bool false]) (results_row2 (fn := Try.f83) (p := 6) (q := 7) (v := .bool false) rfl _ _ (w.heap.size + 1) 51 (rc x h).toArray (0, 0) _ rfl (hQ1.row x h) Try.underlying51 rfl (infoR _ _) rfl) rfl ⟨rfl, hN1.setRow hsz _⟩
    · have hb : ((v : Int) == u) = false := by simpa using he
      have He := Lib.hid he
      clear he
      go_wp2_with fail
      refine (HU.out _).mono ?_
      rintro e w2 ⟨rfl, rfl⟩
      have hR2 := hR1.mods (Mods.refl (fun _ => False) w1) id
      have hQ2 := hQ1.mods (Mods.refl (fun _ => False) w1) id
      have hN2 := hN1.trans (Mods.refl (fun _ => False) w1)
      clear hR1 hQ1 hN1
      cases nb with
      | false =>
        obtain rfl := Hp2.out (t, v) rfl (.inr rfl)
        go_wp2_with (first | (refine op_value rfl (run_load_row 51 (.tmp 3) rfl w.heap.size rfl 51 (rc x h).toArray (0, 0) _ hR2 Try.underlying51 rfl (infoR _ _)) ?_) | (refine op_skip rfl (run_store_row 51 (.tmp 6) (.tmp 30) rfl (w.heap.size + 1) rfl 51 (rc 0 zeroH) (rc x h) rfl hQ2 (infoL _ _) rfl (rc_one _ _)) ?_))
        exact bodyPost_ret (v := .tuple #[.agg (rc x h).toArray, .bool false]) (results_row2 (fn := Try.f83) (p := 6) (q := 7) (v := .bool false) rfl _ _ (w.heap.size + 1) 51 (rc x h).toArray (0, 0) _ rfl (hQ2.row x h) Try.underlying51 rfl (infoR _ _) rfl) rfl ⟨rfl, hN2.setRow hsz _⟩
      | true =>
        obtain rfl := Hp3.out (t, v) rfl (by dsimp only; intro h; rcases h with h | h; exact He.out h; cases h)
        go_wp2_with (refine op_value rfl (run_load_row 51 (.tmp 3) rfl w.heap.size rfl 51 (rc x h).toArray (0, 0) _ hR2 Try.underlying51 rfl (infoR _ _)) ?_)
        refine (HO.out _).mono ?_
        rintro e w3 ⟨rfl, hN3'⟩
        have hR3 := hR2.mods hN3' id
        have hQ3 := hQ2.mods hN3' id
        have hN3 := hN2.trans hN3'
        clear hR2 hQ2 hN2 hN3'
        have hN4 : New w (w3.alloc (.cells (rc y k).toArray 51)) := hN3.alloc _
        have hQ4 : RAt (w3.alloc (.cells (rc y k).toArray 51)) (w.heap.size + 1) 0 zeroH := hQ3.mods ((Mods.refl (fun _ => False) w3).alloc _) id
        have hT4 : RAt (w3.alloc (.cells (rc y k).toArray 51)) w3.heap.size y k := World.alloc_heap_new w3 _
        go_wp2_with (first | (refine op_skip rfl (run_store_new 51 (.tmp 10) (.tmp 35) rfl 51 (rc 0 zeroH) (rc y k) rfl rfl (infoL _ _) rfl (rc_one _ _)) ?_) | (refine op_value rfl (run_load_row 51 (.tmp 10) rfl w3.heap.size rfl 51 (rc y k).toArray (0, 0) _ hT4 Try.underlying51 rfl (infoR _ _)) ?_))
        obtain ⟨W4, hW4⟩ : ∃ W4, w3.alloc (.cells (rc y k).toArray 51) = W4 := ⟨_, rfl⟩
        rw [hW4] at hN4 hQ4 ⊢
        clear hW4 hT4 hR3 hQ3 hN3
        refine (HP.out _).mono ?_
        rintro e w5 ⟨rfl, hN5'⟩
        have hQ5 := hQ4.mods hN5' id
        have hN5 := hN4.trans hN5'
        clear hQ4 hN4 hN5'
        go_wp2_with (refine op_skip rfl (run_store_row 51 (.tmp 6) (.tmp 41) rfl (w.heap.size + 1) rfl 51 (rc 0 zeroH) (rc z k) rfl hQ5 (infoL _ _) rfl (rc_one _ _)) ?_)
        exact bodyPost_ret (v := .tuple #[.agg (rc z k).toArray, .bool zb]) (results_row2 (fn := Try.f83) (p := 6) (q := 7) (v := .bool zb) rfl _ _ (w.heap.size + 1) 51 (rc z k).toArray (0, 0) _ rfl (hQ5.row z k) Try.underlying51 rfl (infoR _ _) rfl) rfl ⟨rfl, hN5.setRow hsz _⟩
end Go.Proofs.Ytkjloeefcaadlaa
