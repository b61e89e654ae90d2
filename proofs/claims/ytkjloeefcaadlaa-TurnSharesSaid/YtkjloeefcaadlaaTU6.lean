/- One is taken out, turned; a turn begins, is over. -/
import Derived.Test.YtkjloeefcaadlaaTU5
namespace Go.Proofs.Ytkjloeefcaadlaa
open Go.RowKit Go.Shelf Go.Cs
attribute [local go_sem] Oper.semAt_some
theorem of_lt {x : Nat} {h : Nat → Int} {s : Int} {p : Int × Nat} (e : ofT x h s = some p) : p.2 < 8 := by
  unfold ofT firstT at e
  split at e
  · exact (mem_allTo.1 (List.mem_of_find?_eq_some e)).1
  · cases e
set_option maxRecDepth 100000 in
set_option maxHeartbeats 1000000 in
theorem out_t (x : Nat) (h : Nat → Int) (s : Int) (hx : x < 18446744073709551616) (hh : In8 h) (w : World) :
    Calls Try.prog 45 #[.agg (rc x h).toArray, .int .i64 s] w (RetRT w (outT x h s)) := by
  have HO := Lib.hid (of_t x h s hx hh)
  have HW := Lib.hid (out_any x s hx)
  obtain ⟨q, hq⟩ : ∃ q, outF x s = q := ⟨_, rfl⟩
  obtain ⟨y, ok⟩ := q
  obtain ⟨r, hr⟩ : ∃ r, outT x h s = r := ⟨_, rfl⟩
  have hp : r = outT x h s := hr.symm
  have hlt : ∀ p, ofT x h s = some p → p.2 < 8 := fun p e => of_lt e
  obtain ⟨o, ho⟩ : ∃ o, ofT x h s = o := ⟨_, rfl⟩
  have hp1 : o = none → r = (⟨x, h⟩, false) := fun e => by rw [hp, outT]; rw [e] at ho; simp only [ho]
  have hp2 : ∀ p, o = some p → h p.2 = s → r = (⟨x, upd h p.2 (-1)⟩, true) := fun p e e2 => by rw [hp, outT]; rw [e] at ho; simp only [ho, e2, if_true]
  have hp3 : ∀ p, o = some p → h p.2 ≠ s → r = (⟨y, h⟩, true) := fun p e e2 => by rw [hp, outT]; rw [e] at ho; simp only [ho, e2, if_false, hq]
  rw [hr]
  rw [hq] at HW
  rw [ho] at HO hlt
  have Hp1 := Lib.hid hp1
  have Hp2 := Lib.hid hp2
  have Hp3 := Lib.hid hp3
  unfold pair at HW
  clear hp hp1 hp2 hp3 hr hq ho hh
  have hR0 : RAt ((w.alloc (.cells (rc x h).toArray 51)).alloc (.cells #[.int .u64 0, .int .i64 0, .int .i64 0, .int .i64 0, .int .i64 0, .int .i64 0, .int .i64 0, .int .i64 0, .int .i64 0] 51)) w.heap.size x h := ((Mods.refl (fun _ => False) _).alloc _).heap (World.alloc_heap_new w _) id
  have hQ0 : RAt ((w.alloc (.cells (rc x h).toArray 51)).alloc (.cells #[.int .u64 0, .int .i64 0, .int .i64 0, .int .i64 0, .int .i64 0, .int .i64 0, .int .i64 0, .int .i64 0, .int .i64 0] 51)) (w.heap.size + 1) 0 zeroH := by
    have := World.alloc_heap_new (w.alloc (.cells (rc x h).toArray 51)) (.cells #[.int .u64 0, .int .i64 0, .int .i64 0, .int .i64 0, .int .i64 0, .int .i64 0, .int .i64 0, .int .i64 0, .int .i64 0] 51)
    rw [World.size_alloc] at this
    exact this
  have hsz : w.heap.size ≤ w.heap.size + 1 := by omega
  go_enter Try.func45, Try.ntmps45
  go_wp2_with (refine op_value rfl (run_load_row 51 (.tmp 2) rfl w.heap.size rfl 51 (rc x h).toArray (0, 0) _ hR0 Try.underlying51 rfl (infoR _ _)) ?_)
  obtain ⟨W0, hW0⟩ : ∃ W0, (w.alloc (.cells (rc x h).toArray 51)).alloc (.cells #[.int .u64 0, .int .i64 0, .int .i64 0, .int .i64 0, .int .i64 0, .int .i64 0, .int .i64 0, .int .i64 0, .int .i64 0] 51) = W0 := ⟨_, rfl⟩
  have hN0 : New w W0 := by rw [← hW0]; exact ((Mods.refl _ _).alloc _).alloc _
  rw [hW0] at hR0 hQ0 ⊢
  clear hW0
  refine (HO.out _).mono ?_
  rintro e w1 ⟨rfl, hN1'⟩
  have hR1 := hR0.mods hN1' id
  have hQ1 := hQ0.mods hN1' id
  have hN1 := hN0.trans hN1'
  clear hR0 hQ0 hN0 hN1'
  unfold pairO
  cases o with
  | none =>
    obtain rfl := Hp1.out rfl
    simp only [Option.map_none, Option.getD_none, Option.isSome_none]
    go_wp2_with (first | (refine op_value rfl (run_load_row 51 (.tmp 2) rfl w.heap.size rfl 51 (rc x h).toArray (0, 0) _ hR1 Try.underlying51 rfl (infoR _ _)) ?_) | (refine op_skip rfl (run_store_row 51 (.tmp 4) (.tmp 16) rfl (w.heap.size + 1) rfl 51 (rc 0 zeroH) (rc x h) rfl hQ1 (infoL _ _) rfl (rc_one _ _)) ?_))
    exact bodyPost_ret (v := .tuple #[.agg (rc x h).toArray, .bool false]) (results_row2 (fn := Try.f45) (p := 4) (q := 5) (v := .bool false) rfl _ _ (w.heap.size + 1) 51 (rc x h).toArray (0, 0) _ rfl (hQ1.row x h) Try.underlying51 rfl (infoR _ _) rfl) rfl ⟨rfl, hN1.setRow hsz _⟩
  | some p =>
    simp only [Option.map_some, Option.getD_some, Option.isSome_some]
    have hp8 := hlt p rfl
    obtain ⟨t, u⟩ := p
    dsimp only at hp8 ⊢
    have c1 := hR1.at hp8
    obtain ⟨z, hz⟩ : ∃ z, h u = z := ⟨_, rfl⟩
    have Hz := Lib.hid hz
    rw [hz] at c1
    clear hz hlt
    by_cases hzs : z = s
    · obtain rfl := Hp2.out (t, u) rfl (by dsimp only; rw [Hz.out, hzs])
      have hb : (z == s) = true := by simpa using hzs
      have f1 := hR1.frozen (1 + u)
      have hR2 := hR1.hold hp8 (-1)
      have hQ2 : RAt (w1.setCell ⟨w.heap.size, 1 + u, none⟩ (.int .i64 (-1))) (w.heap.size + 1) 0 zeroH := hQ1.other (by omega) _
      have hN2 : New w (w1.setCell ⟨w.heap.size, 1 + u, none⟩ (.int .i64 (-1))) := hN1.setCell (p := ⟨w.heap.size, 1 + u, none⟩) (.inl (by simp)) _
      clear hzs
      go_wp2_with (first | (refine op_value rfl (run_load_row 51 (.tmp 2) rfl w.heap.size rfl 51 (rc x (upd h u (-1))).toArray (0, 0) _ hR2 Try.underlying51 rfl (infoR _ _)) ?_) | (refine op_skip rfl (run_store_row 51 (.tmp 4) (.tmp 34) rfl (w.heap.size + 1) rfl 51 (rc 0 zeroH) (rc x (upd h u (-1))) rfl hQ2 (infoL _ _) rfl (rc_one _ _)) ?_))
      exact bodyPost_ret (v := .tuple #[.agg (rc x (upd h u (-1))).toArray, .bool true]) (results_row2 (fn := Try.f45) (p := 4) (q := 5) (v := .bool true) rfl _ _ (w.heap.size + 1) 51 (rc x (upd h u (-1))).toArray (0, 0) _ rfl (hQ2.row x (upd h u (-1))) Try.underlying51 rfl (infoR _ _) rfl) rfl ⟨rfl, hN2.setRow hsz _⟩
    · obtain rfl := Hp3.out (t, u) rfl (by dsimp only; rw [Hz.out]; exact hzs)
      have hb : (z == s) = false := by simpa using hzs
      have c2 := hR1.cell
      clear hzs
      go_wp2_with fail
      refine (HW.out _).mono ?_
      rintro e w2 ⟨rfl, hN2'⟩
      have hR2 := hR1.mods hN2' id
      have hQ2 := hQ1.mods hN2' id
      have hN2 := hN1.trans hN2'
      clear hR1 hQ1 hN1 hN2'
      have c3 := hR2.cell
      have f3 := hR2.frozen 0
      have hR3 := hR2.word y
      have hQ3 : RAt (w2.setCell ⟨w.heap.size, 0, none⟩ (.int .u64 (y : Nat))) (w.heap.size + 1) 0 zeroH := hQ2.other (by omega) _
      have hN3 : New w (w2.setCell ⟨w.heap.size, 0, none⟩ (.int .u64 (y : Nat))) := hN2.setCell (p := ⟨w.heap.size, 0, none⟩) (.inl (by simp)) _
      go_wp2_with (first | (refine op_value rfl (run_load_row 51 (.tmp 2) rfl w.heap.size rfl 51 (rc y h).toArray (0, 0) _ hR3 Try.underlying51 rfl (infoR _ _)) ?_) | (refine op_skip rfl (run_store_row 51 (.tmp 4) (.tmp 34) rfl (w.heap.size + 1) rfl 51 (rc 0 zeroH) (rc y h) rfl hQ3 (infoL _ _) rfl (rc_one _ _)) ?_))
      exact bodyPost_ret (v := .tuple #[.agg (rc y h).toArray, .bool true]) (results_row2 (fn := Try.f45) (p := 4) (q := 5) (v := .bool true) rfl _ _ (w.heap.size + 1) 51 (rc y h).toArray (0, 0) _ rfl (hQ3.row y h) Try.underlying51 rfl (infoR _ _) rfl) rfl ⟨rfl, hN3.setRow hsz _⟩
end Go.Proofs.Ytkjloeefcaadlaa
