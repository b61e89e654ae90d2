/- Streams: the same? -/
import Derived.Test.YtkjghojdfjhhkaaDoorM23
set_option linter.unusedSimpArgs false
set_option linter.unusedVariables false
namespace Go.Proofs.YtkjghojdfjhhkaaDoor
open Go.RowKit Go.Shelf Go.Cs
attribute [local go_sem] Oper.semAt_some
theorem st_eq (s t : St) : decide (s = t) = (decide (s.id = t.id) && (decide (s.state = t.state) && (decide (s.send = t.send) && (decide (s.recv = t.recv) && (decide (s.owed = t.owed) && (decide (s.ans = t.ans) && (decide (s.ends = t.ends) && (decide (s.urg = t.urg) && (decide (s.inc = t.inc) && (decide (s.slot = t.slot) && decide (s.out = t.out))))))))))) := by
  rw [Bool.eq_iff_iff]
  simp only [Bool.and_eq_true, decide_eq_true_eq]
  constructor
  · rintro rfl
    exact ⟨rfl, rfl, rfl, rfl, rfl, rfl, rfl, rfl, rfl, rfl, rfl⟩
  · rintro ⟨h1, h2, h3, h4, h5, h6, h7, h8, h9, h10, h11⟩
    cases s
    cases t
    simp only at h1 h2 h3 h4 h5 h6 h7 h8 h9 h10 h11
    subst h1 h2 h3 h4 h5 h6 h7 h8 h9 h10 h11
    rfl
theorem back_bytes {xs : List Int} (h : In8 xs) : (Lib.bytesOf xs).map (fun b => (b.toNat : Int)) = xs := by
  unfold Lib.bytesOf
  rw [List.map_map]
  conv => rhs; rw [← List.map_id xs]
  refine List.map_congr_left fun x hx => ?_
  obtain ⟨h0, h1⟩ := h x hx
  have : (UInt8.ofNat x.toNat).toNat = x.toNat := by
    rw [UInt8.toNat_ofNat']
    exact Nat.mod_eq_of_lt (by omega)
  show ((UInt8.ofNat x.toNat).toNat : Int) = id x
  rw [this]
  show (x.toNat : Int) = x
  omega
theorem bytes_eq {xs ys : List Int} (h : In8 xs) (h' : In8 ys) : (Lib.bytesOf xs == Lib.bytesOf ys) = decide (xs = ys) := by
  rw [Bool.eq_iff_iff, beq_iff_eq, decide_eq_true_iff]
  constructor
  · intro e
    rw [← back_bytes h, e, back_bytes h']
  · rintro rfl
    rfl
theorem RdB.bytesIn {W : World} {ao : Option Addr} {n cap : Nat} {xs : List Int} (h : RdB W (.slice ao n cap) xs) : Lib.BytesIn W ao n xs := by
  intro hn
  obtain ⟨⟨_, ao', cap', e, hc⟩, _⟩ := h
  cases e
  obtain ⟨b, o, rfl, _⟩ := hc 0 hn
  refine ⟨b, o, rfl, fun i hi => ?_⟩
  obtain ⟨b', o', e, h⟩ := hc i hi
  cases e
  exact h
theorem RdB.str {W : World} {ao : Option Addr} {n cap : Nat} {xs : List Int} (h : RdB W (.slice ao n cap) xs) : (convert 22 9 (.slice ao n cap)).run Tryd.prog W = .ok (.string (strOfNums xs)) W :=
  h.bytesIn.convert h.cells.1 cap 22 5 9 Tryd.underlying22 Tryd.underlying5 Tryd.underlying9
theorem lit84 (t : Array Value) (h : t.size = 84) : ∃ u : Nat → Value, t = (u 0 :: u 1 :: u 2 :: u 3 :: u 4 :: u 5 :: u 6 :: u 7 :: u 8 :: u 9 :: u 10 :: u 11 :: u 12 :: u 13 :: u 14 :: u 15 :: u 16 :: u 17 :: u 18 :: u 19 :: u 20 :: u 21 :: u 22 :: u 23 :: u 24 :: u 25 :: u 26 :: u 27 :: u 28 :: u 29 :: u 30 :: u 31 :: u 32 :: u 33 :: u 34 :: u 35 :: u 36 :: u 37 :: u 38 :: u 39 :: u 40 :: u 41 :: u 42 :: u 43 :: u 44 :: u 45 :: u 46 :: u 47 :: u 48 :: u 49 :: u 50 :: u 51 :: u 52 :: u 53 :: u 54 :: u 55 :: u 56 :: u 57 :: u 58 :: u 59 :: u 60 :: u 61 :: u 62 :: u 63 :: u 64 :: u 65 :: u 66 :: u 67 :: u 68 :: u 69 :: u 70 :: u 71 :: u 72 :: u 73 :: u 74 :: u 75 :: u 76 :: u 77 :: u 78 :: u 79 :: u 80 :: u 81 :: u 82 :: u 83 :: ([] : List Value)).toArray := ⟨fun i => t.getD i undef, range_lit t 84 h⟩
noncomputable def reg31_1 : Code := ((Tryd.f31.body.bind (regionOf 1)).getD .skip)
set_option maxHeartbeats 4000000 in
set_option maxRecDepth 100000 in
theorem sameN (t : Array Value) (hs : t.size = 84) (w : World) {s_id t_id s_state t_state s_send t_send s_recv t_recv s_owed t_owed s_urg t_urg s_slot t_slot : Int} {s_ans t_ans s_ends t_ends s_inc t_inc : Bool} {so to_ : Value} {B C : Nat} 
    (hq2 : t.getD 2 undef = .pointer (some ⟨B, 0, none⟩))
    (hq3 : t.getD 3 undef = .pointer (some ⟨C, 0, none⟩))
    (hB : w.heap[B]? = some (.cells #[.int .i64 s_id, .int .u8 s_state, .int .i64 s_send, .int .i64 s_recv, .int .i64 s_owed, .bool s_ans, .bool s_ends, so, .int .u8 s_urg, .bool s_inc, .int .i64 s_slot] 24 (0, 0))) (hC : w.heap[C]? = some (.cells #[.int .i64 t_id, .int .u8 t_state, .int .i64 t_send, .int .i64 t_recv, .int .i64 t_owed, .bool t_ans, .bool t_ends, to_, .int .u8 t_urg, .bool t_inc, .int .i64 t_slot] 24 (0, 0))) :
    reg31_1.wp Tryd.prog (Only fun a' W' => (a'.tmps.size = 84 ∧ a'.defers = [] ∧ a'.tmps.getD 2 undef = .pointer (some ⟨B, 0, none⟩) ∧ a'.tmps.getD 3 undef = .pointer (some ⟨C, 0, none⟩) ∧ a'.tmps.getD 5 undef = .bool (decide (s_id = t_id) && (decide (s_state = t_state) && (decide (s_send = t_send) && (decide (s_recv = t_recv) && (decide (s_owed = t_owed) && (decide (s_slot = t_slot)))))))) ∧ W' = w) ⟨t, []⟩ w := by
  conv => arg 2; whnf
  obtain ⟨u, rfl⟩ := lit84 t hs
  have hq2 : u 2 = .pointer (some ⟨B, 0, none⟩) := hq2
  have hq3 : u 3 = .pointer (some ⟨C, 0, none⟩) := hq3
  rw [hq2, hq3]
  clear hq2 hq3 hs
  have kB0 : w.cell? ⟨B, 0, none⟩ = some (.int .i64 s_id) := cell_of_row _ _ 0 _ _ _ hB
  have kB1 : w.cell? ⟨B, 1, none⟩ = some (.int .u8 s_state) := cell_of_row _ _ 1 _ _ _ hB
  have kB2 : w.cell? ⟨B, 2, none⟩ = some (.int .i64 s_send) := cell_of_row _ _ 2 _ _ _ hB
  have kB3 : w.cell? ⟨B, 3, none⟩ = some (.int .i64 s_recv) := cell_of_row _ _ 3 _ _ _ hB
  have kB4 : w.cell? ⟨B, 4, none⟩ = some (.int .i64 s_owed) := cell_of_row _ _ 4 _ _ _ hB
  have kB10 : w.cell? ⟨B, 10, none⟩ = some (.int .i64 s_slot) := cell_of_row _ _ 10 _ _ _ hB
  have kC0 : w.cell? ⟨C, 0, none⟩ = some (.int .i64 t_id) := cell_of_row _ _ 0 _ _ _ hC
  have kC1 : w.cell? ⟨C, 1, none⟩ = some (.int .u8 t_state) := cell_of_row _ _ 1 _ _ _ hC
  have kC2 : w.cell? ⟨C, 2, none⟩ = some (.int .i64 t_send) := cell_of_row _ _ 2 _ _ _ hC
  have kC3 : w.cell? ⟨C, 3, none⟩ = some (.int .i64 t_recv) := cell_of_row _ _ 3 _ _ _ hC
  have kC4 : w.cell? ⟨C, 4, none⟩ = some (.int .i64 t_owed) := cell_of_row _ _ 4 _ _ _ hC
  have kC10 : w.cell? ⟨C, 10, none⟩ = some (.int .i64 t_slot) := cell_of_row _ _ 10 _ _ _ hC
  clear hB hC
  have hw : (¬ s_id = t_id) ∨ (s_id = t_id ∧ ¬ s_state = t_state) ∨ (s_id = t_id ∧ s_state = t_state ∧ ¬ s_send = t_send) ∨ (s_id = t_id ∧ s_state = t_state ∧ s_send = t_send ∧ ¬ s_recv = t_recv) ∨ (s_id = t_id ∧ s_state = t_state ∧ s_send = t_send ∧ s_recv = t_recv ∧ ¬ s_owed = t_owed) ∨ (s_id = t_id ∧ s_state = t_state ∧ s_send = t_send ∧ s_recv = t_recv ∧ s_owed = t_owed ∧ ¬ s_slot = t_slot) ∨ s_id = t_id ∧ s_state = t_state ∧ s_send = t_send ∧ s_recv = t_recv ∧ s_owed = t_owed ∧ s_slot = t_slot := by
    by_cases e_id : s_id = t_id
    · by_cases e_state : s_state = t_state
      · by_cases e_send : s_send = t_send
        · by_cases e_recv : s_recv = t_recv
          · by_cases e_owed : s_owed = t_owed
            · by_cases e_slot : s_slot = t_slot
              · simp_all
              · simp_all
            · simp_all
          · simp_all
        · simp_all
      · simp_all
    · simp_all
  rcases hw with hne | ⟨rfl, hne⟩ | ⟨rfl, rfl, hne⟩ | ⟨rfl, rfl, rfl, hne⟩ | ⟨rfl, rfl, rfl, rfl, hne⟩ | ⟨rfl, rfl, rfl, rfl, rfl, hne⟩ | ⟨rfl, rfl, rfl, rfl, rfl, rfl⟩
  all_goals
    go_wp2_with fail
    exact ⟨⟨rfl, rfl, rfl, rfl, by simp [*]⟩, rfl⟩
noncomputable def reg31_2 : Code := ((Tryd.f31.body.bind (regionOf 2)).getD .skip)
set_option maxHeartbeats 4000000 in
set_option maxRecDepth 100000 in
theorem sameM (t : Array Value) (hs : t.size = 84) (w : World) {s_id t_id s_state t_state s_send t_send s_recv t_recv s_owed t_owed s_urg t_urg s_slot t_slot : Int} {s_ans t_ans s_ends t_ends s_inc t_inc : Bool} {so to_ : Value} {B C : Nat} {b5 : Bool}
    (hq2 : t.getD 2 undef = .pointer (some ⟨B, 0, none⟩))
    (hq3 : t.getD 3 undef = .pointer (some ⟨C, 0, none⟩))
    (hq5 : t.getD 5 undef = .bool b5)
    (hB : w.heap[B]? = some (.cells #[.int .i64 s_id, .int .u8 s_state, .int .i64 s_send, .int .i64 s_recv, .int .i64 s_owed, .bool s_ans, .bool s_ends, so, .int .u8 s_urg, .bool s_inc, .int .i64 s_slot] 24 (0, 0))) (hC : w.heap[C]? = some (.cells #[.int .i64 t_id, .int .u8 t_state, .int .i64 t_send, .int .i64 t_recv, .int .i64 t_owed, .bool t_ans, .bool t_ends, to_, .int .u8 t_urg, .bool t_inc, .int .i64 t_slot] 24 (0, 0))) :
    reg31_2.wp Tryd.prog (Only fun a' W' => (a'.tmps.size = 84 ∧ a'.defers = [] ∧ a'.tmps.getD 2 undef = .pointer (some ⟨B, 0, none⟩) ∧ a'.tmps.getD 3 undef = .pointer (some ⟨C, 0, none⟩) ∧ a'.tmps.getD 5 undef = .bool b5 ∧ a'.tmps.getD 6 undef = .bool (decide (s_ans = t_ans) && (decide (s_ends = t_ends) && (decide (s_urg = t_urg) && (decide (s_inc = t_inc)))))) ∧ W' = w) ⟨t, []⟩ w := by
  conv => arg 2; whnf
  obtain ⟨u, rfl⟩ := lit84 t hs
  have hq2 : u 2 = .pointer (some ⟨B, 0, none⟩) := hq2
  have hq3 : u 3 = .pointer (some ⟨C, 0, none⟩) := hq3
  have hq5 : u 5 = .bool b5 := hq5
  rw [hq2, hq3, hq5]
  clear hq2 hq3 hq5 hs
  have kB5 : w.cell? ⟨B, 5, none⟩ = some (.bool s_ans) := cell_of_row _ _ 5 _ _ _ hB
  have kB6 : w.cell? ⟨B, 6, none⟩ = some (.bool s_ends) := cell_of_row _ _ 6 _ _ _ hB
  have kB8 : w.cell? ⟨B, 8, none⟩ = some (.int .u8 s_urg) := cell_of_row _ _ 8 _ _ _ hB
  have kB9 : w.cell? ⟨B, 9, none⟩ = some (.bool s_inc) := cell_of_row _ _ 9 _ _ _ hB
  have kC5 : w.cell? ⟨C, 5, none⟩ = some (.bool t_ans) := cell_of_row _ _ 5 _ _ _ hC
  have kC6 : w.cell? ⟨C, 6, none⟩ = some (.bool t_ends) := cell_of_row _ _ 6 _ _ _ hC
  have kC8 : w.cell? ⟨C, 8, none⟩ = some (.int .u8 t_urg) := cell_of_row _ _ 8 _ _ _ hC
  have kC9 : w.cell? ⟨C, 9, none⟩ = some (.bool t_inc) := cell_of_row _ _ 9 _ _ _ hC
  clear hB hC
  have hw : (s_ans = true ∧ t_ans = false) ∨ (s_ans = false ∧ t_ans = true) ∨ (s_ans = t_ans ∧ s_ends = true ∧ t_ends = false) ∨ (s_ans = t_ans ∧ s_ends = false ∧ t_ends = true) ∨ (s_ans = t_ans ∧ s_ends = t_ends ∧ ¬ s_urg = t_urg) ∨ (s_ans = t_ans ∧ s_ends = t_ends ∧ s_urg = t_urg ∧ s_inc = true ∧ t_inc = false) ∨ (s_ans = t_ans ∧ s_ends = t_ends ∧ s_urg = t_urg ∧ s_inc = false ∧ t_inc = true) ∨ s_ans = t_ans ∧ s_ends = t_ends ∧ s_urg = t_urg ∧ s_inc = t_inc := by
    by_cases e_ans : s_ans = t_ans
    · by_cases e_ends : s_ends = t_ends
      · by_cases e_urg : s_urg = t_urg
        · by_cases e_inc : s_inc = t_inc
          · simp_all
          · cases s_inc <;> cases t_inc <;> simp_all
        · simp_all
      · cases s_ends <;> cases t_ends <;> simp_all
    · cases s_ans <;> cases t_ans <;> simp_all
  rcases hw with ⟨rfl, rfl⟩ | ⟨rfl, rfl⟩ | ⟨rfl, rfl, rfl⟩ | ⟨rfl, rfl, rfl⟩ | ⟨rfl, rfl, hne⟩ | ⟨rfl, rfl, rfl, rfl, rfl⟩ | ⟨rfl, rfl, rfl, rfl, rfl⟩ | ⟨rfl, rfl, rfl, rfl⟩
  all_goals
    go_wp2_with fail
    exact ⟨⟨rfl, rfl, rfl, rfl, rfl, by simp [*]⟩, rfl⟩
set_option maxHeartbeats 4000000 in
set_option maxRecDepth 100000 in
theorem same_S (v v' : Value) (s t : St) (w : World) (h : RdS w v s) (h' : RdS w v' t) (hi : In8 s.out) (hi' : In8 t.out) :
    Calls Tryd.prog 31 #[v, v'] w fun e w' => e = .returned (.bool (decide (s = t))) ∧ New w w' := by
  obtain ⟨ov, rfl, hr⟩ := h
  obtain ⟨ov', rfl, hr'⟩ := h'
  obtain ⟨oa, oc, rfl⟩ := hr.slice
  obtain ⟨oa', oc', rfl⟩ := hr'.slice
  have hall := st_eq s t
  have hby := bytes_eq hi hi'
  obtain ⟨x_out, hx_out⟩ : ∃ r, decide (s.out = t.out) = r := ⟨_, rfl⟩
  rw [hx_out] at hall hby
  obtain ⟨on, hon⟩ : ∃ x, s.out.length = x := ⟨_, rfl⟩
  obtain ⟨on', hon'⟩ : ∃ x, t.out.length = x := ⟨_, rfl⟩
  rw [hon] at hr ⊢
  rw [hon'] at hr' ⊢
  obtain ⟨r, hrr⟩ : ∃ r, decide (s = t) = r := ⟨_, rfl⟩
  rw [hrr] at hall ⊢
  have HA := Lib.hid hall
  clear hall hrr hx_out
  unfold St.cs
  have hS : r = ((decide (s.id = t.id) && (decide (s.state = t.state) && (decide (s.send = t.send) && (decide (s.recv = t.recv) && (decide (s.owed = t.owed) && (decide (s.slot = t.slot))))))) && ((decide (s.ans = t.ans) && (decide (s.ends = t.ends) && (decide (s.urg = t.urg) && (decide (s.inc = t.inc))))) && x_out)) := by
    rw [HA.out]
    ac_rfl
  clear HA
  go_enter Tryd.func31, Tryd.ntmps31
  go_upto_region 1 with fail
  obtain ⟨W1, B, C, hW, hB, hC, rB, rC, hN1, hz⟩ := pair_rows w #[.int .i64 s.id, .int .u8 s.state, .int .i64 s.send, .int .i64 s.recv, .int .i64 s.owed, .bool s.ans, .bool s.ends, .slice oa on oc, .int .u8 s.urg, .bool s.inc, .int .i64 s.slot] #[.int .i64 t.id, .int .u8 t.state, .int .i64 t.send, .int .i64 t.recv, .int .i64 t.owed, .bool t.ans, .bool t.ends, .slice oa' on' oc', .int .u8 t.urg, .bool t.inc, .int .i64 t.slot] 24 24
  rw [hW, hB, hC]
  clear hW hB hC
  have HE := Lib.hid (show Calls Tryd.prog 64 #[.slice oa on oc, .slice oa' on' oc'] W1 fun e w' => e = .returned (.bool x_out) ∧ w' = W1 from by
    have := Tryd.bytes_Equal_all oa oa' on oc on' oc' s.out t.out W1 hon hon' (hr.new hN1).bytesIn (hr'.new hN1).bytesIn
    rw [hby] at this
    exact this)
  have k7 : W1.cell? ⟨B, 7, none⟩ = some (.slice oa on oc) := cell_of_row _ _ 7 _ _ _ rB
  have k7' : W1.cell? ⟨C, 7, none⟩ = some (.slice oa' on' oc') := cell_of_row _ _ 7 _ _ _ rC
  refine piece (fun _ a' W' => (a'.tmps.size = 84 ∧ a'.defers = [] ∧ a'.tmps.getD 2 undef = .pointer (some ⟨B, 0, none⟩) ∧ a'.tmps.getD 3 undef = .pointer (some ⟨C, 0, none⟩) ∧ a'.tmps.getD 5 undef = .bool (decide (s.id = t.id) && (decide (s.state = t.state) && (decide (s.send = t.send) && (decide (s.recv = t.recv) && (decide (s.owed = t.owed) && (decide (s.slot = t.slot)))))))) ∧ W' = W1) (sameN _ rfl W1 rfl rfl rB rC) ?_
  rintro ⟨z, dfs⟩ W2 ⟨⟨hs, hd, hq2, hq3, hq5⟩, rfl⟩
  obtain ⟨b5, hb5⟩ : ∃ b, (decide (s.id = t.id) && (decide (s.state = t.state) && (decide (s.send = t.send) && (decide (s.recv = t.recv) && (decide (s.owed = t.owed) && (decide (s.slot = t.slot))))))) = b := ⟨_, rfl⟩
  rw [hb5] at hq5 hS
  clear hb5
  simp only at hs hd hq2 hq3 hq5
  subst hd
  obtain ⟨u, rfl⟩ := lit84 z hs
  have hp2 : u 2 = _ := hq2
  have hp3 : u 3 = _ := hq3
  have hp5 : u 5 = _ := hq5
  rw [hp2, hp3, hp5]
  clear hp2 hp3 hp5 hq2 hq3 hq5 hs
  go_upto_region 2 with fail
  refine piece (fun _ a' W' => (a'.tmps.size = 84 ∧ a'.defers = [] ∧ a'.tmps.getD 2 undef = .pointer (some ⟨B, 0, none⟩) ∧ a'.tmps.getD 3 undef = .pointer (some ⟨C, 0, none⟩) ∧ a'.tmps.getD 5 undef = .bool b5 ∧ a'.tmps.getD 6 undef = .bool (decide (s.ans = t.ans) && (decide (s.ends = t.ends) && (decide (s.urg = t.urg) && (decide (s.inc = t.inc)))))) ∧ W' = W2) (sameM _ rfl W2 rfl rfl rfl rB rC) ?_
  rintro ⟨z', dfs⟩ W3 ⟨⟨hs, hd, hq2, hq3, hq5, hq6⟩, rfl⟩
  obtain ⟨b6, hb6⟩ : ∃ b, (decide (s.ans = t.ans) && (decide (s.ends = t.ends) && (decide (s.urg = t.urg) && (decide (s.inc = t.inc))))) = b := ⟨_, rfl⟩
  rw [hb6] at hq6 hS
  clear hb6
  simp only at hs hd hq2 hq3 hq5 hq6
  subst hd
  obtain ⟨u, rfl⟩ := lit84 z' hs
  have hq2 : u 2 = _ := hq2
  have hq3 : u 3 = _ := hq3
  have hq5 : u 5 = _ := hq5
  have hq6 : u 6 = _ := hq6
  rw [hq2, hq3, hq5, hq6]
  clear hq2 hq3 hq5 hq6 hs rB rC hr hr' hby hz
  have HS := Lib.hid hS
  clear hS
  cases b5 <;> cases b6
  all_goals
    go_wp2_with (go_at_call 64; refine HE.out.mono ?_; rintro e w2 ⟨rfl, rfl⟩)
    go_ret
    exact ⟨by rw [HS.out]; simp, hN1⟩
end Go.Proofs.YtkjghojdfjhhkaaDoor
