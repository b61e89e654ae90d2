/- One deed. -/
import Derived.Test.YtkjloeefcaadlaaTU8
import Derived.Test.YtkjloeefcaadlaaTEQ
import Derived.Deep.CutRange
namespace Go.Proofs.Ytkjloeefcaadlaa
open Go.RowKit Go.Shelf Go.Cs
attribute [local go_sem] Oper.semAt_some
/-- Who is ready behind a deed. -/
def doesT (x : Nat) (h : Nat → Int) (d s u : Int) (inc rdy : Bool) : RS :=
  if d = 0 then ⟨(pushT x h s u).1, h⟩ else if d = 1 then (turnT x h s u).1 else if d = 2 then (outT x h s).1 else
    if (beginT x h).2.2.2 then (overT (beginT x h).1.x (beginT x h).1.h (beginT x h).2.1 (beginT x h).2.2.1 inc rdy).1 else ⟨x, h⟩
theorem RS.Ok.does {r : RS} (h : r.Ok) (d s u : Int) (inc rdy : Bool) : (doesT r.x r.h d s u inc rdy).Ok := by
  unfold doesT
  split
  · exact h.push s u
  · split
    · exact h.turn s u
    · split
      · exact h.out s
      · split
        · exact h.begin.over _ _ _ _
        · exact h
theorem RS.Ok.lt {r : RS} (h : r.Ok) : r.x < 18446744073709551616 := by
  obtain ⟨l, e, hv⟩ := h
  rw [e]; exact enc_lt hv.ok
theorem RS.Ok.in8 {r : RS} (h : r.Ok) : In8 r.h := by
  obtain ⟨l, e, hv⟩ := h
  intro u hu
  have := hv.held u hu
  omega
/-- Where a deed's fields lie. -/
structure DAt (W : World) (B : Nat) (d s u : Int) (inc rdy : Bool) : Prop where
  f : W.heap[B]? = some (.cells #[.int .i64 d, .int .i64 s, .int .i64 u, .bool inc, .bool rdy] 55 (0, 0))
theorem DAt.c {W : World} {B : Nat} {d s u : Int} {inc rdy : Bool} (h : DAt W B d s u inc rdy) : W.cell? ⟨B, 0, none⟩ = some (.int .i64 d) ∧ W.cell? ⟨B, 1, none⟩ = some (.int .i64 s) ∧ W.cell? ⟨B, 2, none⟩ = some (.int .i64 u) ∧ W.cell? ⟨B, 3, none⟩ = some (.bool inc) ∧ W.cell? ⟨B, 4, none⟩ = some (.bool rdy) := by
  refine ⟨?_, ?_, ?_, ?_, ?_⟩ <;> rw [cell_of_row W B _ _ 55 _ h.f] <;> rfl
theorem DAt.new {W W' : World} {B : Nat} {d s u : Int} {inc rdy : Bool} (h : DAt W B d s u inc rdy) (hN : New W W') : DAt W' B d s u inc rdy := ⟨hN.heap h.f id⟩
/-- The frame's variables: who was ready, the deed, the answer, who is ready now. -/
structure DoF (w : World) (x : Nat) (h : Nat → Int) (d s u : Int) (inc rdy : Bool) (W : World) : Prop where
  par : RAt W w.heap.size x h
  deed : DAt W (w.heap.size + 1) d s u inc rdy
  res : RAt W (w.heap.size + 2) 0 zeroH
  now : RAt W (w.heap.size + 3) x h
  new : New w W
theorem DoF.step {w : World} {x : Nat} {h : Nat → Int} {d s u : Int} {inc rdy : Bool} {W W' : World} (f : DoF w x h d s u inc rdy W) (hN : New W W') : DoF w x h d s u inc rdy W' :=
  ⟨f.par.new hN, f.deed.new hN, f.res.new hN, f.now.new hN, f.new.trans hN⟩
theorem doF_made (w : World) (x : Nat) (h : Nat → Int) (d s u : Int) (inc rdy : Bool) (w3 : World) (hw3 : ((w.alloc (.cells (rc x h).toArray 51)).alloc (.cells #[.int .i64 d, .int .i64 s, .int .i64 u, .bool inc, .bool rdy] 55)).alloc (.cells #[.int .u64 0, .int .i64 0, .int .i64 0, .int .i64 0, .int .i64 0, .int .i64 0, .int .i64 0, .int .i64 0, .int .i64 0] 51) = w3) :
    w3.heap.size = w.heap.size + 1 + 1 + 1 ∧ RAt w3 w.heap.size x h ∧ DoF w x h d s u inc rdy (w3.alloc (.cells (rc x h).toArray 51)) := by
  obtain ⟨w1, hw1⟩ : ∃ w1, w.alloc (.cells (rc x h).toArray 51) = w1 := ⟨_, rfl⟩
  have s1 : w1.heap.size = w.heap.size + 1 := by rw [← hw1]; simp
  have a1 : RAt w1 w.heap.size x h := by rw [← hw1]; exact World.alloc_heap_new w _
  have n1 : New w w1 := by rw [← hw1]; exact (Mods.refl _ _).alloc _
  obtain ⟨w2, hw2⟩ : ∃ w2, w1.alloc (.cells #[.int .i64 d, .int .i64 s, .int .i64 u, .bool inc, .bool rdy] 55) = w2 := ⟨_, rfl⟩
  have s2 : w2.heap.size = w.heap.size + 2 := by rw [← hw2]; simp [s1]
  have a2 : DAt w2 (w.heap.size + 1) d s u inc rdy := by rw [← hw2, ← s1]; exact ⟨World.alloc_heap_new w1 _⟩
  have n2 : New w1 w2 := by rw [← hw2]; exact (Mods.refl _ _).alloc _
  rw [hw1, hw2] at hw3
  have s3 : w3.heap.size = w.heap.size + 3 := by rw [← hw3]; simp [s2]
  have a3 : RAt w3 (w.heap.size + 2) 0 zeroH := by rw [← hw3, ← s2]; exact World.alloc_heap_new w2 _
  have n3 : New w2 w3 := by rw [← hw3]; exact (Mods.refl _ _).alloc _
  have n4 : New w3 (w3.alloc (.cells (rc x h).toArray 51)) := (Mods.refl _ _).alloc _
  refine ⟨s3, (a1.new n2).new n3, ?_⟩
  exact ⟨((a1.new n2).new n3).new n4, (a2.new n3).new n4, a3.new n4, by rw [← s3]; exact World.alloc_heap_new w3 _, ((n1.trans n2).trans n3).trans n4⟩
set_option maxRecDepth 100000 in
set_option maxHeartbeats 2000000 in
theorem does0 (x : Nat) (h : Nat → Int) (d s u : Int) (inc rdy : Bool) (hx : x < 18446744073709551616) (hh : In8 h) (hs1 : -9223372036854775808 ≤ s) (hs2 : s ≤ 9223372036854775807) (hu1 : -9223372036854775808 ≤ u) (hu2 : u ≤ 9223372036854775807) (w : World) (hd : d = 0) :
    Calls Try.prog 36 #[.agg (rc x h).toArray, .agg #[.int .i64 d, .int .i64 s, .int .i64 u, .bool inc, .bool rdy]] w fun e w' => e = .returned (.agg (rc (doesT x h d s u inc rdy).x (doesT x h d s u inc rdy).h).toArray) ∧ New w w' := by
  have HC := Lib.hid (push_t x h s u hx hh hs1 hs2 hu1 hu2)
  have e : doesT x h d s u inc rdy = ⟨(pushT x h s u).1, h⟩ := by rw [doesT, if_pos hd]
  rw [e]
  obtain ⟨⟨y, b⟩, hy⟩ : ∃ y, pushT x h s u = y := ⟨_, rfl⟩
  rw [hy] at HC ⊢
  unfold RetRT at HC
  dsimp only at HC ⊢
  clear hy e
  have q0 : (d == 0) = true := by rw [hd]; rfl
  clear hd
  go_enter Try.func36, Try.ntmps36
  go_upto_region 1 with fail
  obtain ⟨w3, hw3⟩ : ∃ w3, ((w.alloc (.cells (rc x h).toArray 51)).alloc (.cells #[.int .i64 d, .int .i64 s, .int .i64 u, .bool inc, .bool rdy] 55)).alloc (.cells #[.int .u64 0, .int .i64 0, .int .i64 0, .int .i64 0, .int .i64 0, .int .i64 0, .int .i64 0, .int .i64 0, .int .i64 0] 51) = w3 := ⟨_, rfl⟩
  obtain ⟨hsz3, hR0, hF0⟩ := doF_made w x h d s u inc rdy w3 hw3
  rw [hw3]
  clear hw3
  have Hsz3 := Lib.hid hsz3
  clear hsz3
  go_upto_region 2 with (first | (refine op_value rfl (run_load_row 51 (.tmp 2) rfl w.heap.size rfl 51 (rc x h).toArray (0, 0) _ hR0 Try.underlying51 rfl (infoR _ _)) ?_) | (refine op_skip rfl (run_store_new 51 (.tmp 5) (.tmp 10) rfl 51 (rc 0 zeroH) (rc x h) rfl rfl (infoL _ _) rfl (rc_one _ _)) ?_))
  obtain ⟨W0, hW0⟩ : ∃ W0, w3.alloc (.cells (rc x h).toArray 51) = W0 := ⟨_, rfl⟩
  rw [hW0] at hF0 ⊢
  rw [Hsz3.out]
  clear hW0 hR0 Hsz3 w3
  obtain ⟨k0, k1, k2, k3, k4⟩ := hF0.deed.c
  have hP0 := hF0.par
  go_wp2_with (refine op_value rfl (run_load_row 51 (.tmp 2) rfl w.heap.size rfl 51 (rc x h).toArray (0, 0) _ hP0 Try.underlying51 rfl (infoR _ _)) ?_)
  refine (HC.out _).mono ?_
  rintro e w1 ⟨rfl, hN1⟩
  have hF1 := hF0.step hN1
  clear k0 k1 k2 k3 k4 hP0 hF0 hN1
  have hQ := hF1.now.row y h
  have hQr : RAt (w1.setRow (w.heap.size + 3) (rc y h).toArray) (w.heap.size + 2) 0 zeroH := hF1.res.otherRow (by omega) _
  have hNN : New w (w1.setRow (w.heap.size + 3) (rc y h).toArray) := hF1.new.setRow (by omega) _
  have hNow := hF1.now
  go_wp2_with (first | (refine op_skip rfl (run_store_row 51 (.tmp 5) (.tmp 41) rfl (w.heap.size + 3) rfl 51 (rc x h) (rc y h) rfl hNow (infoL _ _) rfl (rc_one _ _)) ?_) | (refine op_value rfl (run_load_row 51 (.tmp 5) rfl (w.heap.size + 3) rfl 51 (rc y h).toArray (0, 0) _ hQ Try.underlying51 rfl (infoR _ _)) ?_) | (refine op_skip rfl (run_store_row 51 (.tmp 4) (.tmp 63) rfl (w.heap.size + 2) rfl 51 (rc 0 zeroH) (rc y h) rfl hQr (infoL _ _) rfl (rc_one _ _)) ?_))
  refine bodyPost_ret (v := .agg (rc y h).toArray) ?_ rfl ⟨rfl, hNN.setRow (by omega) _⟩
  exact results_cell_row rfl _ _ (w.heap.size + 2) 51 _ (0, 0) _ rfl (hQr.row y h) Try.underlying51 rfl (infoR _ _)
set_option maxRecDepth 100000 in
set_option maxHeartbeats 2000000 in
theorem does1 (x : Nat) (h : Nat → Int) (d s u : Int) (inc rdy : Bool) (hx : x < 18446744073709551616) (hh : In8 h) (hs1 : -9223372036854775808 ≤ s) (hs2 : s ≤ 9223372036854775807) (hu1 : -9223372036854775808 ≤ u) (hu2 : u ≤ 9223372036854775807) (w : World) (hd : d = 1) :
    Calls Try.prog 36 #[.agg (rc x h).toArray, .agg #[.int .i64 d, .int .i64 s, .int .i64 u, .bool inc, .bool rdy]] w fun e w' => e = .returned (.agg (rc (doesT x h d s u inc rdy).x (doesT x h d s u inc rdy).h).toArray) ∧ New w w' := by
  have HC := Lib.hid (turn_t x h s u hx hh hs1 hs2 hu1 hu2)
  have e : doesT x h d s u inc rdy = (turnT x h s u).1 := by rw [doesT, hd]; rfl
  rw [e]
  obtain ⟨⟨⟨y, k⟩, b⟩, hy⟩ : ∃ y, turnT x h s u = y := ⟨_, rfl⟩
  rw [hy] at HC ⊢
  unfold RetRT at HC
  dsimp only at HC ⊢
  clear hy e
  have q0 : (d == 0) = false := by rw [hd]; rfl
  have q1 : (d == 1) = true := by rw [hd]; rfl
  clear hd
  go_enter Try.func36, Try.ntmps36
  go_upto_region 1 with fail
  obtain ⟨w3, hw3⟩ : ∃ w3, ((w.alloc (.cells (rc x h).toArray 51)).alloc (.cells #[.int .i64 d, .int .i64 s, .int .i64 u, .bool inc, .bool rdy] 55)).alloc (.cells #[.int .u64 0, .int .i64 0, .int .i64 0, .int .i64 0, .int .i64 0, .int .i64 0, .int .i64 0, .int .i64 0, .int .i64 0] 51) = w3 := ⟨_, rfl⟩
  obtain ⟨hsz3, hR0, hF0⟩ := doF_made w x h d s u inc rdy w3 hw3
  rw [hw3]
  clear hw3
  have Hsz3 := Lib.hid hsz3
  clear hsz3
  go_upto_region 2 with (first | (refine op_value rfl (run_load_row 51 (.tmp 2) rfl w.heap.size rfl 51 (rc x h).toArray (0, 0) _ hR0 Try.underlying51 rfl (infoR _ _)) ?_) | (refine op_skip rfl (run_store_new 51 (.tmp 5) (.tmp 10) rfl 51 (rc 0 zeroH) (rc x h) rfl rfl (infoL _ _) rfl (rc_one _ _)) ?_))
  obtain ⟨W0, hW0⟩ : ∃ W0, w3.alloc (.cells (rc x h).toArray 51) = W0 := ⟨_, rfl⟩
  rw [hW0] at hF0 ⊢
  rw [Hsz3.out]
  clear hW0 hR0 Hsz3 w3
  obtain ⟨k0, k1, k2, k3, k4⟩ := hF0.deed.c
  have hP0 := hF0.par
  go_wp2_with (refine op_value rfl (run_load_row 51 (.tmp 2) rfl w.heap.size rfl 51 (rc x h).toArray (0, 0) _ hP0 Try.underlying51 rfl (infoR _ _)) ?_)
  refine (HC.out _).mono ?_
  rintro e w1 ⟨rfl, hN1⟩
  have hF1 := hF0.step hN1
  clear k0 k1 k2 k3 k4 hP0 hF0 hN1
  have hQ := hF1.now.row y k
  have hQr : RAt (w1.setRow (w.heap.size + 3) (rc y k).toArray) (w.heap.size + 2) 0 zeroH := hF1.res.otherRow (by omega) _
  have hNN : New w (w1.setRow (w.heap.size + 3) (rc y k).toArray) := hF1.new.setRow (by omega) _
  have hNow := hF1.now
  go_wp2_with (first | (refine op_skip rfl (run_store_row 51 (.tmp 5) (.tmp 52) rfl (w.heap.size + 3) rfl 51 (rc x h) (rc y k) rfl hNow (infoL _ _) rfl (rc_one _ _)) ?_) | (refine op_value rfl (run_load_row 51 (.tmp 5) rfl (w.heap.size + 3) rfl 51 (rc y k).toArray (0, 0) _ hQ Try.underlying51 rfl (infoR _ _)) ?_) | (refine op_skip rfl (run_store_row 51 (.tmp 4) (.tmp 63) rfl (w.heap.size + 2) rfl 51 (rc 0 zeroH) (rc y k) rfl hQr (infoL _ _) rfl (rc_one _ _)) ?_))
  refine bodyPost_ret (v := .agg (rc y k).toArray) ?_ rfl ⟨rfl, hNN.setRow (by omega) _⟩
  exact results_cell_row rfl _ _ (w.heap.size + 2) 51 _ (0, 0) _ rfl (hQr.row y k) Try.underlying51 rfl (infoR _ _)
set_option maxRecDepth 100000 in
set_option maxHeartbeats 2000000 in
theorem does2 (x : Nat) (h : Nat → Int) (d s u : Int) (inc rdy : Bool) (hx : x < 18446744073709551616) (hh : In8 h) (hs1 : -9223372036854775808 ≤ s) (hs2 : s ≤ 9223372036854775807) (hu1 : -9223372036854775808 ≤ u) (hu2 : u ≤ 9223372036854775807) (w : World) (hd : d = 2) :
    Calls Try.prog 36 #[.agg (rc x h).toArray, .agg #[.int .i64 d, .int .i64 s, .int .i64 u, .bool inc, .bool rdy]] w fun e w' => e = .returned (.agg (rc (doesT x h d s u inc rdy).x (doesT x h d s u inc rdy).h).toArray) ∧ New w w' := by
  have HC := Lib.hid (out_t x h s hx hh)
  have e : doesT x h d s u inc rdy = (outT x h s).1 := by rw [doesT, hd]; rfl
  rw [e]
  obtain ⟨⟨⟨y, k⟩, b⟩, hy⟩ : ∃ y, outT x h s = y := ⟨_, rfl⟩
  rw [hy] at HC ⊢
  unfold RetRT at HC
  dsimp only at HC ⊢
  clear hy e
  have q0 : (d == 0) = false := by rw [hd]; rfl
  have q1 : (d == 1) = false := by rw [hd]; rfl
  have q2 : (d == 2) = true := by rw [hd]; rfl
  clear hd
  go_enter Try.func36, Try.ntmps36
  go_upto_region 1 with fail
  obtain ⟨w3, hw3⟩ : ∃ w3, ((w.alloc (.cells (rc x h).toArray 51)).alloc (.cells #[.int .i64 d, .int .i64 s, .int .i64 u, .bool inc, .bool rdy] 55)).alloc (.cells #[.int .u64 0, .int .i64 0, .int .i64 0, .int .i64 0, .int .i64 0, .int .i64 0, .int .i64 0, .int .i64 0, .int .i64 0] 51) = w3 := ⟨_, rfl⟩
  obtain ⟨hsz3, hR0, hF0⟩ := doF_made w x h d s u inc rdy w3 hw3
  rw [hw3]
  clear hw3
  have Hsz3 := Lib.hid hsz3
  clear hsz3
  go_upto_region 2 with (first | (refine op_value rfl (run_load_row 51 (.tmp 2) rfl w.heap.size rfl 51 (rc x h).toArray (0, 0) _ hR0 Try.underlying51 rfl (infoR _ _)) ?_) | (refine op_skip rfl (run_store_new 51 (.tmp 5) (.tmp 10) rfl 51 (rc 0 zeroH) (rc x h) rfl rfl (infoL _ _) rfl (rc_one _ _)) ?_))
  obtain ⟨W0, hW0⟩ : ∃ W0, w3.alloc (.cells (rc x h).toArray 51) = W0 := ⟨_, rfl⟩
  rw [hW0] at hF0 ⊢
  rw [Hsz3.out]
  clear hW0 hR0 Hsz3 w3
  obtain ⟨k0, k1, k2, k3, k4⟩ := hF0.deed.c
  have hP0 := hF0.par
  go_wp2_with (refine op_value rfl (run_load_row 51 (.tmp 2) rfl w.heap.size rfl 51 (rc x h).toArray (0, 0) _ hP0 Try.underlying51 rfl (infoR _ _)) ?_)
  refine (HC.out _).mono ?_
  rintro e w1 ⟨rfl, hN1⟩
  have hF1 := hF0.step hN1
  clear k0 k1 k2 k3 k4 hP0 hF0 hN1
  have hQ := hF1.now.row y k
  have hQr : RAt (w1.setRow (w.heap.size + 3) (rc y k).toArray) (w.heap.size + 2) 0 zeroH := hF1.res.otherRow (by omega) _
  have hNN : New w (w1.setRow (w.heap.size + 3) (rc y k).toArray) := hF1.new.setRow (by omega) _
  have hNow := hF1.now
  go_wp2_with (first | (refine op_skip rfl (run_store_row 51 (.tmp 5) (.tmp 61) rfl (w.heap.size + 3) rfl 51 (rc x h) (rc y k) rfl hNow (infoL _ _) rfl (rc_one _ _)) ?_) | (refine op_value rfl (run_load_row 51 (.tmp 5) rfl (w.heap.size + 3) rfl 51 (rc y k).toArray (0, 0) _ hQ Try.underlying51 rfl (infoR _ _)) ?_) | (refine op_skip rfl (run_store_row 51 (.tmp 4) (.tmp 63) rfl (w.heap.size + 2) rfl 51 (rc 0 zeroH) (rc y k) rfl hQr (infoL _ _) rfl (rc_one _ _)) ?_))
  refine bodyPost_ret (v := .agg (rc y k).toArray) ?_ rfl ⟨rfl, hNN.setRow (by omega) _⟩
  exact results_cell_row rfl _ _ (w.heap.size + 2) 51 _ (0, 0) _ rfl (hQr.row y k) Try.underlying51 rfl (infoR _ _)
set_option maxRecDepth 100000 in
set_option maxHeartbeats 2000000 in
theorem does3 (x : Nat) (h : Nat → Int) (d s u : Int) (inc rdy : Bool) (hx : x < 18446744073709551616) (hh : In8 h) (hs1 : -9223372036854775808 ≤ s) (hs2 : s ≤ 9223372036854775807) (hu1 : -9223372036854775808 ≤ u) (hu2 : u ≤ 9223372036854775807) (w : World) (h0 : d ≠ 0) (h1 : d ≠ 1) (h2 : d ≠ 2) (hlt : (beginT x h).1.x < 18446744073709551616) (hin : In8 (beginT x h).1.h) (hb : (beginT x h).2.2.2 = true → -9223372036854775808 ≤ (beginT x h).2.1 ∧ (beginT x h).2.1 ≤ 9223372036854775807 ∧ (beginT x h).2.2.1 < 8) :
    Calls Try.prog 36 #[.agg (rc x h).toArray, .agg #[.int .i64 d, .int .i64 s, .int .i64 u, .bool inc, .bool rdy]] w fun e w' => e = .returned (.agg (rc (doesT x h d s u inc rdy).x (doesT x h d s u inc rdy).h).toArray) ∧ New w w' := by
  have HB := Lib.hid (begin_t x h hx hh)
  have e : doesT x h d s u inc rdy = if (beginT x h).2.2.2 then (overT (beginT x h).1.x (beginT x h).1.h (beginT x h).2.1 (beginT x h).2.2.1 inc rdy).1 else ⟨x, h⟩ := by rw [doesT, if_neg h0, if_neg h1, if_neg h2]
  rw [e]
  obtain ⟨⟨⟨y, k⟩, t, v, b⟩, hy⟩ : ∃ y, beginT x h = y := ⟨_, rfl⟩
  rw [hy] at HB hlt hin hb ⊢
  dsimp only at HB hlt hin hb ⊢
  clear hy e
  have q0 : (d == 0) = false := by simpa using h0
  have q1 : (d == 1) = false := by simpa using h1
  have q2 : (d == 2) = false := by simpa using h2
  clear h0 h1 h2
  cases b with
  | false =>
    clear hb hlt hin
    simp only [Bool.false_eq_true, if_false]
    go_enter Try.func36, Try.ntmps36
    go_upto_region 1 with fail
    obtain ⟨w3, hw3⟩ : ∃ w3, ((w.alloc (.cells (rc x h).toArray 51)).alloc (.cells #[.int .i64 d, .int .i64 s, .int .i64 u, .bool inc, .bool rdy] 55)).alloc (.cells #[.int .u64 0, .int .i64 0, .int .i64 0, .int .i64 0, .int .i64 0, .int .i64 0, .int .i64 0, .int .i64 0, .int .i64 0] 51) = w3 := ⟨_, rfl⟩
    obtain ⟨hsz3, hR0, hF0⟩ := doF_made w x h d s u inc rdy w3 hw3
    rw [hw3]
    clear hw3
    have Hsz3 := Lib.hid hsz3
    clear hsz3
    go_upto_region 2 with (first | (refine op_value rfl (run_load_row 51 (.tmp 2) rfl w.heap.size rfl 51 (rc x h).toArray (0, 0) _ hR0 Try.underlying51 rfl (infoR _ _)) ?_) | (refine op_skip rfl (run_store_new 51 (.tmp 5) (.tmp 10) rfl 51 (rc 0 zeroH) (rc x h) rfl rfl (infoL _ _) rfl (rc_one _ _)) ?_))
    obtain ⟨W0, hW0⟩ : ∃ W0, w3.alloc (.cells (rc x h).toArray 51) = W0 := ⟨_, rfl⟩
    rw [hW0] at hF0 ⊢
    rw [Hsz3.out]
    clear hW0 hR0 Hsz3 w3
    obtain ⟨k0, k1, k2, k3, k4⟩ := hF0.deed.c
    have hP0 := hF0.par
    go_wp2_with (refine op_value rfl (run_load_row 51 (.tmp 2) rfl w.heap.size rfl 51 (rc x h).toArray (0, 0) _ hP0 Try.underlying51 rfl (infoR _ _)) ?_)
    refine (HB.out _).mono ?_
    rintro e w1 ⟨rfl, hN1⟩
    have hF1 := (hF0.step hN1).step ((Mods.refl (fun _ => False) w1).alloc (.cells (rc y k).toArray 51))
    clear k0 k1 k2 k3 k4 hP0 hF0 hN1
    have hQ := hF1.now
    have hQr := hF1.res
    have hNN := hF1.new
    go_wp2_with (first | (refine op_skip rfl (run_store_new 51 (.tmp 6) (.tmp 16) rfl 51 (rc 0 zeroH) (rc y k) rfl rfl (infoL _ _) rfl (rc_one _ _)) ?_) | (refine op_value rfl (run_load_row 51 (.tmp 5) rfl (w.heap.size + 3) rfl 51 (rc x h).toArray (0, 0) _ hQ Try.underlying51 rfl (infoR _ _)) ?_) | (refine op_skip rfl (run_store_row 51 (.tmp 4) (.tmp 63) rfl (w.heap.size + 2) rfl 51 (rc 0 zeroH) (rc x h) rfl hQr (infoL _ _) rfl (rc_one _ _)) ?_))
    refine bodyPost_ret (v := .agg (rc x h).toArray) ?_ rfl ⟨rfl, hNN.setRow (by omega) _⟩
    exact results_cell_row rfl _ _ (w.heap.size + 2) 51 _ (0, 0) _ rfl (hQr.row x h) Try.underlying51 rfl (infoR _ _)
  | true =>
    obtain ⟨b1, b2, b3⟩ := hb rfl
    have HO := Lib.hid (over_t y k t v inc rdy hlt hin b1 b2 (by omega) (by omega))
    obtain ⟨⟨⟨z, m⟩, b⟩, hz⟩ : ∃ z, overT y k t v inc rdy = z := ⟨_, rfl⟩
    simp only [if_true]
    rw [hz] at HO ⊢
    unfold RetRT at HO
    dsimp only at HO ⊢
    clear hb hlt hin hz b1 b2
    go_enter Try.func36, Try.ntmps36
    go_upto_region 1 with fail
    obtain ⟨w3, hw3⟩ : ∃ w3, ((w.alloc (.cells (rc x h).toArray 51)).alloc (.cells #[.int .i64 d, .int .i64 s, .int .i64 u, .bool inc, .bool rdy] 55)).alloc (.cells #[.int .u64 0, .int .i64 0, .int .i64 0, .int .i64 0, .int .i64 0, .int .i64 0, .int .i64 0, .int .i64 0, .int .i64 0] 51) = w3 := ⟨_, rfl⟩
    obtain ⟨hsz3, hR0, hF0⟩ := doF_made w x h d s u inc rdy w3 hw3
    rw [hw3]
    clear hw3
    have Hsz3 := Lib.hid hsz3
    clear hsz3
    go_upto_region 2 with (first | (refine op_value rfl (run_load_row 51 (.tmp 2) rfl w.heap.size rfl 51 (rc x h).toArray (0, 0) _ hR0 Try.underlying51 rfl (infoR _ _)) ?_) | (refine op_skip rfl (run_store_new 51 (.tmp 5) (.tmp 10) rfl 51 (rc 0 zeroH) (rc x h) rfl rfl (infoL _ _) rfl (rc_one _ _)) ?_))
    obtain ⟨W0, hW0⟩ : ∃ W0, w3.alloc (.cells (rc x h).toArray 51) = W0 := ⟨_, rfl⟩
    rw [hW0] at hF0 ⊢
    rw [Hsz3.out]
    clear hW0 hR0 Hsz3 w3
    obtain ⟨k0, k1, k2, k3, k4⟩ := hF0.deed.c
    have hP0 := hF0.par
    go_wp2_with (refine op_value rfl (run_load_row 51 (.tmp 2) rfl w.heap.size rfl 51 (rc x h).toArray (0, 0) _ hP0 Try.underlying51 rfl (infoR _ _)) ?_)
    refine (HB.out _).mono ?_
    rintro e w1 ⟨rfl, hN1⟩
    have hF1 := (hF0.step hN1).step ((Mods.refl (fun _ => False) w1).alloc (.cells (rc y k).toArray 51))
    have hT1 : RAt (w1.alloc (.cells (rc y k).toArray 51)) w1.heap.size y k := World.alloc_heap_new w1 _
    clear k0 k1 k2 k3 k4 hP0 hF0 hN1
    go_upto_region 5 with (refine op_skip rfl (run_store_new 51 (.tmp 6) (.tmp 16) rfl 51 (rc 0 zeroH) (rc y k) rfl rfl (infoL _ _) rfl (rc_one _ _)) ?_)
    obtain ⟨W2, hW2⟩ : ∃ W2, w1.alloc (.cells (rc y k).toArray 51) = W2 := ⟨_, rfl⟩
    obtain ⟨B, hB⟩ : ∃ B, w1.heap.size = B := ⟨_, rfl⟩
    rw [hW2] at hF1 hT1 ⊢
    rw [hB] at hT1 ⊢
    clear hW2 hB
    obtain ⟨k0, k1, k2, k3, k4⟩ := hF1.deed.c
    go_wp2_with (refine op_value rfl (run_load_row 51 (.tmp 6) rfl B rfl 51 (rc y k).toArray (0, 0) _ hT1 Try.underlying51 rfl (infoR _ _)) ?_)
    refine (HO.out _).mono ?_
    rintro e w3 ⟨rfl, hN3⟩
    have hF3 := hF1.step hN3
    clear k0 k1 k2 k3 k4 hF1 hN3 hT1
    have hQ := hF3.now.row z m
    have hQr : RAt (w3.setRow (w.heap.size + 3) (rc z m).toArray) (w.heap.size + 2) 0 zeroH := hF3.res.otherRow (by omega) _
    have hNN : New w (w3.setRow (w.heap.size + 3) (rc z m).toArray) := hF3.new.setRow (by omega) _
    have hNow := hF3.now
    go_wp2_with (first | (refine op_skip rfl (run_store_row 51 (.tmp 5) (.tmp 30) rfl (w.heap.size + 3) rfl 51 (rc x h) (rc z m) rfl hNow (infoL _ _) rfl (rc_one _ _)) ?_) | (refine op_value rfl (run_load_row 51 (.tmp 5) rfl (w.heap.size + 3) rfl 51 (rc z m).toArray (0, 0) _ hQ Try.underlying51 rfl (infoR _ _)) ?_) | (refine op_skip rfl (run_store_row 51 (.tmp 4) (.tmp 63) rfl (w.heap.size + 2) rfl 51 (rc 0 zeroH) (rc z m) rfl hQr (infoL _ _) rfl (rc_one _ _)) ?_))
    refine bodyPost_ret (v := .agg (rc z m).toArray) ?_ rfl ⟨rfl, hNN.setRow (by omega) _⟩
    exact results_cell_row rfl _ _ (w.heap.size + 2) 51 _ (0, 0) _ rfl (hQr.row z m) Try.underlying51 rfl (infoR _ _)
theorem does_t {r : RS} (hr : r.Ok) (d s u : Int) (inc rdy : Bool) (hs1 : -9223372036854775808 ≤ s) (hs2 : s ≤ 9223372036854775807) (hu1 : -9223372036854775808 ≤ u) (hu2 : u ≤ 9223372036854775807) (w : World) :
    Calls Try.prog 36 #[.agg (rc r.x r.h).toArray, .agg #[.int .i64 d, .int .i64 s, .int .i64 u, .bool inc, .bool rdy]] w fun e w' => e = .returned (.agg (rc (doesT r.x r.h d s u inc rdy).x (doesT r.x r.h d s u inc rdy).h).toArray) ∧ New w w' := by
  by_cases h0 : d = 0
  · exact does0 r.x r.h d s u inc rdy hr.lt hr.in8 hs1 hs2 hu1 hu2 w h0
  by_cases h1 : d = 1
  · exact does1 r.x r.h d s u inc rdy hr.lt hr.in8 hs1 hs2 hu1 hu2 w h1
  by_cases h2 : d = 2
  · exact does2 r.x r.h d s u inc rdy hr.lt hr.in8 hs1 hs2 hu1 hu2 w h2
  refine does3 r.x r.h d s u inc rdy hr.lt hr.in8 hs1 hs2 hu1 hu2 w h0 h1 h2 hr.begin.lt hr.begin.in8 (fun hb => ?_)
  cases e : nextT r.x r.h with
  | none => rw [beginT_none e] at hb; cases hb
  | some p =>
    obtain ⟨⟨o, b⟩, ho⟩ : ∃ o, outT r.x r.h p.1 = o := ⟨_, rfl⟩
    have := all_in hr (next_some e).1
    rw [beginT_some e ho]
    dsimp only
    omega
end Go.Proofs.Ytkjloeefcaadlaa
