/- Members that are too many (the document). -/
import Derived.Test.YtkiiameibdhdfaaGreatDoorM07
import Derived.Test.YtkiiameibdhdfaaGreatDoorM04
import Derived.Test.YtkiiameibdhdfaaGreatDoorM19
set_option linter.unusedSimpArgs false
set_option linter.unusedVariables false
namespace Go.Proofs.YtkiiameibdhdfaaGreatDoor
open Go.RowKit Go.Shelf Go.Cs
attribute [local go_sem] Oper.semAt_some
set_option linter.unusedVariables false
set_option linter.unusedSimpArgs false
set_option maxHeartbeats 2000000 in
theorem great14 {τ : Bool} (v : Value) (d : List Bare.Mem) (w : World) (h : RdD τ w v d) :
    Calls Tryz.prog 41 #[v] w fun e w' => ∃ g, e = .returned (.bool g) ∧ New w w' ∧ (g = false → d.length ≤ 40 ∧ ∀ i, i < d.length → (d.getD i noM).items.length ≤ 40) := by
  obtain ⟨ao, cap, rfl⟩ := h.slice
  have HD := Lib.hid h
  have hlen : d.length ≤ 281474976710656 := by obtain ⟨_, _, h1, _⟩ := h; exact h1.1
  clear h
  obtain ⟨n, hn⟩ : ∃ n, d.length = n := ⟨_, rfl⟩
  have Hn := Lib.hid hn
  rw [hn] at hlen ⊢
  clear hn
  have hN0 : New w w := Mods.refl _ _
  go_enter Tryz.func41, Tryz.ntmps41
  go_wp2_with fail
  go_loopw [3] (fun t wr => ∃ i : Nat, i ≤ n ∧ t = .int .i64 i ∧ Hid (∀ j, j < i → (d.getD j noM).items.length ≤ 40) ∧ New w wr) (fun t _ => n - (intOf t).toNat)
  case atStart => exact ⟨0, Nat.zero_le _, rfl, Lib.hid fun j hj => by omega, hN0⟩
  case round =>
    clear hN0
    obtain ⟨i, hi, rfl, hb, hN⟩ := hrel
    by_cases hlt : i < n
    · have hkd : decide ((i : Int) < (n : Int)) = true := decide_eq_true (by omega)
      by_cases h40 : i ≤ 40
      · have hkd2 : decide ((i : Int) ≤ 40) = true := decide_eq_true (by omega)
        have hd := HD.out.new hN
        obtain ⟨iv, pv, h1, -, h3⟩ := hd
        obtain ⟨b, o, rfl, hrow⟩ := h1.at.2.2 i (by have := Hn.out; omega)
        obtain ⟨c0, c1, c2, c3⟩ := cells4 hrow
        obtain ⟨ia, ic, hie⟩ := (h3 i (by have := Hn.out; omega)).1.slice
        rw [hie] at c2
        obtain ⟨q, hq⟩ : ∃ q, (d.getD i noM).items.length = q := ⟨_, rfl⟩
        have Hq := Lib.hid hq
        rw [hq] at c2
        clear hq hie h1 h3 hrow c0 c1 c3
        by_cases hg : 40 < q
        · have hgd : decide ((40 : Int) < (q : Int)) = true := decide_eq_true (by omega)
          go_wp2_with fail
          go_ret
          exact ⟨true, rfl, hN, fun h => by cases h⟩
        · have hgd : decide ((40 : Int) < (q : Int)) = false := decide_eq_false (by omega)
          go_wp2_with fail
          go_roundw
          case rel => exact ⟨i + 1, by omega, by go_num, Lib.hid (fun j hj => by
            by_cases e : j = i
            · subst e; rw [Hq.out]; omega
            · exact hb.out j (by omega)), hN⟩
          case measure => simp [intOf]; omega
      · have hkd2 : decide ((i : Int) ≤ 40) = false := decide_eq_false (by omega)
        have hgd : decide ((40 : Int) < (n : Int)) = true := decide_eq_true (by omega)
        go_wp2_with fail
        go_ret
        exact ⟨true, rfl, hN, fun h => by cases h⟩
    · have hkd : decide ((i : Int) < (n : Int)) = false := decide_eq_false (by omega)
      obtain rfl : i = n := by omega
      by_cases hg : 40 < i
      · have hgd : decide ((40 : Int) < (i : Int)) = true := decide_eq_true (by omega)
        go_wp2_with fail
        go_ret
        exact ⟨true, rfl, hN, fun h => by cases h⟩
      · have hgd : decide ((40 : Int) < (i : Int)) = false := decide_eq_false (by omega)
        go_wp2_with fail
        go_ret
        exact ⟨false, rfl, hN, fun _ => ⟨by omega, fun j hj => hb.out j hj⟩⟩
end Go.Proofs.YtkiiameibdhdfaaGreatDoor
/- UrgentOf's copies: one item more. -/
namespace Go.Proofs.YtkiiameibdhdfaaGreatDoor
open Go.RowKit Go.Shelf Go.Cs
attribute [local go_sem] Oper.semAt_some
set_option linter.unusedVariables false
set_option linter.unusedSimpArgs false
theorem lit94 (t : Array Value) (h : t.size = 94) : ∃ u : Nat → Value, t = (u 0 :: u 1 :: u 2 :: u 3 :: u 4 :: u 5 :: u 6 :: u 7 :: u 8 :: u 9 :: u 10 :: u 11 :: u 12 :: u 13 :: u 14 :: u 15 :: u 16 :: u 17 :: u 18 :: u 19 :: u 20 :: u 21 :: u 22 :: u 23 :: u 24 :: u 25 :: u 26 :: u 27 :: u 28 :: u 29 :: u 30 :: u 31 :: u 32 :: u 33 :: u 34 :: u 35 :: u 36 :: u 37 :: u 38 :: u 39 :: u 40 :: u 41 :: u 42 :: u 43 :: u 44 :: u 45 :: u 46 :: u 47 :: u 48 :: u 49 :: u 50 :: u 51 :: u 52 :: u 53 :: u 54 :: u 55 :: u 56 :: u 57 :: u 58 :: u 59 :: u 60 :: u 61 :: u 62 :: u 63 :: u 64 :: u 65 :: u 66 :: u 67 :: u 68 :: u 69 :: u 70 :: u 71 :: u 72 :: u 73 :: u 74 :: u 75 :: u 76 :: u 77 :: u 78 :: u 79 :: u 80 :: u 81 :: u 82 :: u 83 :: u 84 :: u 85 :: u 86 :: u 87 :: u 88 :: u 89 :: u 90 :: u 91 :: u 92 :: u 93 :: ([] : List Value)).toArray := ⟨fun i => t.getD i undef, range_lit t 94 h⟩
noncomputable def reg_causeylaw14_UrgentOf_14 : Code := ((Tryz.f11.body.bind (regionOf 14)).getD .skip)
set_option maxHeartbeats 4000000 in
set_option maxRecDepth 100000 in
theorem of14 (t : Array Value) (hs : t.size = 94) (w : World) {b1 o1 n m1 i B k b2 o2 ni m2 jc base : Nat} {ja : Option Addr} {q : ByteArray} {y : Bool} {c0 c1 : Int} {c2 : ByteArray} {c3 : Bool} {f : Nat → List Value}
    (hq0 : t.getD 0 undef = .slice (some ⟨b1, o1, none⟩) n m1)
    (hq4 : t.getD 4 undef = .int .i64 i)
    (hq5 : t.getD 5 undef = .pointer (some ⟨B, 0, none⟩))
    (hq6 : t.getD 6 undef = .int .i64 k)
    (rB : w.heap[B]? = some (.cells #[.string q, .bool y, .slice ja k jc, .slice none 0 0] 64 (0, 0))) (hox : OwX base w (.slice ja k jc) k f) (hbw : base ≤ w.heap.size) (hbB : base ≤ B)
    (hb1 : ¬ base ≤ b1) (hb2 : ¬ base ≤ b2) (hd : w.cell? ⟨b1, o1 + i * 4 + 2, none⟩ = some (.slice (some ⟨b2, o2, none⟩) ni m2)) (hin : i < n) (hkn : k < ni) (hn40 : ni ≤ 40)
    (g0 : w.cell? ⟨b2, o2 + k * 5, none⟩ = some (.int .u8 c0)) (g1 : w.cell? ⟨b2, o2 + k * 5 + 1, none⟩ = some (.int .i64 c1)) (g2 : w.cell? ⟨b2, o2 + k * 5 + 2, none⟩ = some (.string c2)) (g3 : w.cell? ⟨b2, o2 + k * 5 + 3, none⟩ = some (.bool c3)) :
    reg_causeylaw14_UrgentOf_14.wp Tryz.prog (Only fun a' W' => ∃ z : Nat → Value, ∃ ra rc, a' = ⟨(((((((((((((((t).setIfInBounds 47 (z 47)).setIfInBounds 48 (z 48)).setIfInBounds 49 (z 49)).setIfInBounds 50 (z 50)).setIfInBounds 51 (z 51)).setIfInBounds 52 (z 52)).setIfInBounds 53 (z 53)).setIfInBounds 54 (z 54)).setIfInBounds 55 (z 55)).setIfInBounds 56 (z 56)).setIfInBounds 57 (z 57)).setIfInBounds 58 (z 58)).setIfInBounds 59 (z 59)).setIfInBounds 60 (z 60)).setIfInBounds 61 (z 61), []⟩ ∧ W'.heap[B]? = some (.cells #[.string q, .bool y, .slice ra (k + 1) rc, .slice none 0 0] 64 (0, 0)) ∧ OwX base W' (.slice ra (k + 1) rc) (k + 1) (fun j => if j = k then [.int .u8 c0, .int .i64 c1, .string c2, .bool c3, .slice none 0 0] else f j) ∧ Mods (fun b => base ≤ b) w W') ⟨t, []⟩ w := by
  conv => arg 2; whnf
  obtain ⟨u, rfl⟩ := lit94 t hs
  have hq0 : u 0 = .slice (some ⟨b1, o1, none⟩) n m1 := hq0
  have hq4 : u 4 = .int .i64 i := hq4
  have hq5 : u 5 = .pointer (some ⟨B, 0, none⟩) := hq5
  have hq6 : u 6 = .int .i64 k := hq6
  rw [hq0, hq4, hq5, hq6]
  clear hq0 hq4 hq5 hq6 hs
  have hS : Mods (fun b => base ≤ b) w w.drew := (Mods.refl _ _).drew
  have hrd : w.drew.heap[B]? = _ := rB
  have hoxd : OwX base w.drew _ _ _ := hox.new (Mods.refl _ _).drew
  have hi1 : decide ((i : Int) < (n : Int)) = true := decide_eq_true (by omega)
  have hk1 : decide ((k : Int) < (ni : Int)) = true := decide_eq_true (by omega)
  have hkk : k ≤ 2000000 := by omega
  refine wp_region_held (S := fun W => Mods (fun b => base ≤ b) w W) (by kernel_rfl) ?_
  show wpAnyH _ _ _ _ _ 16 _ _ w.drew
  refine anyH_take 0 (some 47) (.pointer (some ⟨B, 2, none⟩)) rfl rfl (by kernel_rfl) (by kernel_rfl) (by kernel_rfl) (fun _ _ _ h => h.elim) (.inl ⟨by rfl, fun W hW => by go_simp⟩) hS ?_
  simp only [Act.put, List.setIfInBounds_toArray, List.set_cons_succ, List.set_cons_zero]
  refine anyH_take 2 (some 49) (.slice (some ⟨b1, o1, none⟩) n m1) rfl rfl (by kernel_rfl) (by kernel_rfl) (by kernel_rfl) (fun _ _ _ h => h.elim) (.inl ⟨by rfl, fun W hW => by go_simp⟩) hS ?_
  simp only [Act.put, List.setIfInBounds_toArray, List.set_cons_succ, List.set_cons_zero]
  refine anyH_take 3 (some 50) (.int .i64 i) rfl rfl (by kernel_rfl) (by kernel_rfl) (by kernel_rfl) (fun _ _ _ h => h.elim) (.inl ⟨by rfl, fun W hW => by go_simp⟩) hS ?_
  simp only [Act.put, List.setIfInBounds_toArray, List.set_cons_succ, List.set_cons_zero]
  refine anyH_take 4 (some 51) (.pointer (some ⟨b1, o1 + i * 4, none⟩)) rfl rfl (by kernel_rfl) (by kernel_rfl) (by kernel_rfl) (fun _ _ _ h => h.elim) (.inl ⟨by rfl, fun W hW => by go_simp⟩) hS ?_
  simp only [Act.put, List.setIfInBounds_toArray, List.set_cons_succ, List.set_cons_zero]
  refine anyH_take 5 (some 52) (.pointer (some ⟨b1, o1 + i * 4 + 2, none⟩)) rfl rfl (by kernel_rfl) (by kernel_rfl) (by kernel_rfl) (fun _ _ _ h => h.elim) (.inl ⟨by rfl, fun W hW => by go_simp⟩) hS ?_
  simp only [Act.put, List.setIfInBounds_toArray, List.set_cons_succ, List.set_cons_zero]
  refine anyH_take 6 (some 53) (.slice (some ⟨b2, o2, none⟩) ni m2) rfl rfl (by kernel_rfl) (by kernel_rfl) (by kernel_rfl) (fun _ _ _ h => h.elim) (.inl ⟨by rfl, fun W hW => by have q := (show Mods (fun b => base ≤ b) w W from hW).cell hd hb1; go_simp⟩) hS ?_
  simp only [Act.put, List.setIfInBounds_toArray, List.set_cons_succ, List.set_cons_zero]
  refine anyH_take 7 (some 54) (.int .i64 k) rfl rfl (by kernel_rfl) (by kernel_rfl) (by kernel_rfl) (fun _ _ _ h => h.elim) (.inl ⟨by rfl, fun W hW => by go_simp⟩) hS ?_
  simp only [Act.put, List.setIfInBounds_toArray, List.set_cons_succ, List.set_cons_zero]
  refine anyH_take 8 (some 55) (.pointer (some ⟨b2, o2 + k * 5, none⟩)) rfl rfl (by kernel_rfl) (by kernel_rfl) (by kernel_rfl) (fun _ _ _ h => h.elim) (.inl ⟨by rfl, fun W hW => by go_simp⟩) hS ?_
  simp only [Act.put, List.setIfInBounds_toArray, List.set_cons_succ, List.set_cons_zero]
  refine anyH_take 9 (some 56) (.pointer (some ⟨b2, o2 + k * 5, none⟩)) rfl rfl (by kernel_rfl) (by kernel_rfl) (by kernel_rfl) (fun _ _ _ h => h.elim) (.inl ⟨by rfl, fun W hW => by go_simp⟩) hS ?_
  simp only [Act.put, List.setIfInBounds_toArray, List.set_cons_succ, List.set_cons_zero]
  refine anyH_take 10 (some 57) (.agg #[.int .u8 c0, .int .i64 c1, .string c2, .bool c3]) rfl rfl (by kernel_rfl) (by kernel_rfl) (by kernel_rfl) (fun _ _ _ h => h.elim) (.inl ⟨by rfl, fun W hW => by have q0 := (show Mods (fun b => base ≤ b) w W from hW).cell g0 hb2; have q1 := (show Mods (fun b => base ≤ b) w W from hW).cell g1 hb2; have q2 := (show Mods (fun b => base ≤ b) w W from hW).cell g2 hb2; have q3 := (show Mods (fun b => base ≤ b) w W from hW).cell g3 hb2; go_simp⟩) hS ?_
  simp only [Act.put, List.setIfInBounds_toArray, List.set_cons_succ, List.set_cons_zero]
  refine anyH_take 11 (some 58) (.agg #[.int .u8 c0, .int .i64 c1, .string c2, .bool c3, .slice none 0 0]) rfl rfl (by kernel_rfl) (by kernel_rfl) (by kernel_rfl) (fun _ _ _ h => h.elim) (.inl ⟨by rfl, fun W hW => by go_simp⟩) hS ?_
  simp only [Act.put, List.setIfInBounds_toArray, List.set_cons_succ, List.set_cons_zero]
  refine wpAnyH_all (rs := [1, 12]) (by kernel_rfl) (by simp) ?_
  intro i hi
  simp only [List.mem_cons, List.not_mem_nil, or_false] at hi
  rcases hi with rfl | rfl
  · have cB := cell_of_row _ _ 2 _ _ _ hrd
    simp only [List.getElem?_toArray, List.getElem?_cons_succ, List.getElem?_cons_zero] at cB
    refine opH_value (some 48) (v := .slice ja k jc) (w' := w.drew) rfl (by rfl) rfl (by go_simp) ?_
    refine ⟨hS, ?_⟩
    simp only [Act.put, List.setIfInBounds_toArray, List.set_cons_succ, List.set_cons_zero]
    refine wpAnyH_all (rs := [12]) (by kernel_rfl) (by simp) ?_
    simp only [List.mem_cons, List.not_mem_nil, or_false, forall_eq]
    refine opH_value (some 59) (v := .slice (some ⟨w.drew.heap.size, 0, none⟩) 1 1) (w' := w.drew.alloc (.cells ([.int .u8 c0, .int .i64 c1, .string c2, .bool c3, .slice none 0 0] : List Value).toArray 71)) rfl (by rfl) rfl (by go_simp) ?_
    have hA : New w.drew (w.drew.alloc (.cells ([.int .u8 c0, .int .i64 c1, .string c2, .bool c3, .slice none 0 0] : List Value).toArray 71)) := (Mods.refl _ _).alloc _
    obtain ⟨w1, hw1⟩ : ∃ V, w.drew.alloc (.cells ([.int .u8 c0, .int .i64 c1, .string c2, .bool c3, .slice none 0 0] : List Value).toArray 71) = V := ⟨_, rfl⟩
    rw [hw1] at hA ⊢
    have hS := hS.trans (Mods.ofNew hA)
    replace hrd := hA.heap hrd id
    refine ⟨hS, ?_⟩
    simp only [Act.put, List.setIfInBounds_toArray, List.set_cons_succ, List.set_cons_zero]
    refine wpAnyH_all (rs := [13]) (by kernel_rfl) (by simp) ?_
    simp only [List.mem_cons, List.not_mem_nil, or_false, forall_eq]
    refine wpOp_append_X (some 60) rfl (by rfl) rfl _ _ rfl rfl rfl (w := w.drew) (c := [.int .u8 c0, .int .i64 c1, .string c2, .bool c3, .slice none 0 0]) hw1 rfl (by intro u hu; simp at hu; rcases hu with rfl | rfl | rfl | rfl | rfl <;> rfl) hoxd hkk hbw ?_
    intro v' W' hox' hmm
    obtain ⟨ra, rc, rfl⟩ := hox'.slice
    have hm0 := hmm w.drew (fun b => (Value.slice ja k jc).ownBlock = some b) (Mods.refl _ _) (fun g hg => .inr hg)
    have hne : ¬ (Value.slice ja k jc).ownBlock = some B := fun h => by obtain ⟨cs, fr, hc⟩ := hoxd.tag _ h; rw [show w.drew.heap[B]? = _ from rB] at hc; cases hc
    have hr' := hm0.heap (show w.drew.heap[B]? = _ from rB) hne
    have hS' : Mods (fun b => base ≤ b) w W' := ((Mods.refl _ _).drew).trans (hm0.mono (fun g hg => (hoxd.lt hg).1))
    refine ⟨hS', ?_⟩
    simp only [Act.put, List.setIfInBounds_toArray, List.set_cons_succ, List.set_cons_zero]
    refine anyH_take 14 (some 61) (.pointer (some ⟨B, 2, none⟩)) rfl rfl (by kernel_rfl) (by kernel_rfl) (by kernel_rfl) (fun _ _ _ h => h.elim) (.inl ⟨by rfl, fun W hW => by go_simp⟩) hS' ?_
    simp only [Act.put, List.setIfInBounds_toArray, List.set_cons_succ, List.set_cons_zero]
    refine wpAnyH_all (rs := [15]) (by kernel_rfl) (by simp) ?_
    simp only [List.mem_cons, List.not_mem_nil, or_false, forall_eq]
    have cB2 := cell_of_row _ _ 2 _ _ _ hr'
    simp only [List.getElem?_toArray, List.getElem?_cons_succ, List.getElem?_cons_zero] at cB2
    have fB := frozen_row (i := 2) hr'
    refine opH_skip none (w' := W'.setCell ⟨B, 2, none⟩ (.slice ra (k + 1) rc)) rfl (by rfl) rfl (by go_simp) ?_
    have hms := setMods W' B 2 (.slice ra (k + 1) rc)
    have hS2 := hS'.trans (hms.mono (fun g hg => by rw [hg]; exact hbB))
    refine ⟨hS2, ?_⟩
    simp only [Act.put, List.setIfInBounds_toArray, List.set_cons_succ, List.set_cons_zero]
    refine wpAnyH_done (by kernel_rfl) ?_ _
    have hne' : ∀ g, (Value.slice ra (k + 1) rc).ownBlock = some g → ¬ g = B := fun g h e => by obtain ⟨cs, fr, hc⟩ := hox'.tag _ h; subst e; rw [hr'] at hc; cases hc
    exact ⟨(fun zz => ([.pointer (some ⟨B, 2, none⟩), .slice ja k jc, .slice (some ⟨b1, o1, none⟩) n m1, .int .i64 i, .pointer (some ⟨b1, o1 + i * 4, none⟩), .pointer (some ⟨b1, o1 + i * 4 + 2, none⟩), .slice (some ⟨b2, o2, none⟩) ni m2, .int .i64 k, .pointer (some ⟨b2, o2 + k * 5, none⟩), .pointer (some ⟨b2, o2 + k * 5, none⟩), .agg #[.int .u8 c0, .int .i64 c1, .string c2, .bool c3], .agg #[.int .u8 c0, .int .i64 c1, .string c2, .bool c3, .slice none 0 0], .slice (some ⟨w.drew.heap.size, 0, none⟩) 1 1, .slice ra (k + 1) rc, .pointer (some ⟨B, 2, none⟩)] : List Value).getD (cond (Nat.beq zz 47) 0 (cond (Nat.beq zz 48) 1 (cond (Nat.beq zz 49) 2 (cond (Nat.beq zz 50) 3 (cond (Nat.beq zz 51) 4 (cond (Nat.beq zz 52) 5 (cond (Nat.beq zz 53) 6 (cond (Nat.beq zz 54) 7 (cond (Nat.beq zz 55) 8 (cond (Nat.beq zz 56) 9 (cond (Nat.beq zz 57) 10 (cond (Nat.beq zz 58) 11 (cond (Nat.beq zz 59) 12 (cond (Nat.beq zz 60) 13 (cond (Nat.beq zz 61) 14 (0)))))))))))))))) undef), ra, rc, rfl, setCell_heap hr' _, hox'.mods hms hne', hS2⟩
  · refine opH_value (some 59) (v := .slice (some ⟨w.drew.heap.size, 0, none⟩) 1 1) (w' := w.drew.alloc (.cells ([.int .u8 c0, .int .i64 c1, .string c2, .bool c3, .slice none 0 0] : List Value).toArray 71)) rfl (by rfl) rfl (by go_simp) ?_
    have hA : New w.drew (w.drew.alloc (.cells ([.int .u8 c0, .int .i64 c1, .string c2, .bool c3, .slice none 0 0] : List Value).toArray 71)) := (Mods.refl _ _).alloc _
    obtain ⟨w1, hw1⟩ : ∃ V, w.drew.alloc (.cells ([.int .u8 c0, .int .i64 c1, .string c2, .bool c3, .slice none 0 0] : List Value).toArray 71) = V := ⟨_, rfl⟩
    rw [hw1] at hA ⊢
    have hS := hS.trans (Mods.ofNew hA)
    replace hrd := hA.heap hrd id
    refine ⟨hS, ?_⟩
    simp only [Act.put, List.setIfInBounds_toArray, List.set_cons_succ, List.set_cons_zero]
    refine wpAnyH_all (rs := [1]) (by kernel_rfl) (by simp) ?_
    simp only [List.mem_cons, List.not_mem_nil, or_false, forall_eq]
    have cB := cell_of_row _ _ 2 _ _ _ hrd
    simp only [List.getElem?_toArray, List.getElem?_cons_succ, List.getElem?_cons_zero] at cB
    refine opH_value (some 48) (v := .slice ja k jc) (w' := w1) rfl (by rfl) rfl (by go_simp) ?_
    refine ⟨hS, ?_⟩
    simp only [Act.put, List.setIfInBounds_toArray, List.set_cons_succ, List.set_cons_zero]
    refine wpAnyH_all (rs := [13]) (by kernel_rfl) (by simp) ?_
    simp only [List.mem_cons, List.not_mem_nil, or_false, forall_eq]
    refine wpOp_append_X (some 60) rfl (by rfl) rfl _ _ rfl rfl rfl (w := w.drew) (c := [.int .u8 c0, .int .i64 c1, .string c2, .bool c3, .slice none 0 0]) hw1 rfl (by intro u hu; simp at hu; rcases hu with rfl | rfl | rfl | rfl | rfl <;> rfl) hoxd hkk hbw ?_
    intro v' W' hox' hmm
    obtain ⟨ra, rc, rfl⟩ := hox'.slice
    have hm0 := hmm w.drew (fun b => (Value.slice ja k jc).ownBlock = some b) (Mods.refl _ _) (fun g hg => .inr hg)
    have hne : ¬ (Value.slice ja k jc).ownBlock = some B := fun h => by obtain ⟨cs, fr, hc⟩ := hoxd.tag _ h; rw [show w.drew.heap[B]? = _ from rB] at hc; cases hc
    have hr' := hm0.heap (show w.drew.heap[B]? = _ from rB) hne
    have hS' : Mods (fun b => base ≤ b) w W' := ((Mods.refl _ _).drew).trans (hm0.mono (fun g hg => (hoxd.lt hg).1))
    refine ⟨hS', ?_⟩
    simp only [Act.put, List.setIfInBounds_toArray, List.set_cons_succ, List.set_cons_zero]
    refine anyH_take 14 (some 61) (.pointer (some ⟨B, 2, none⟩)) rfl rfl (by kernel_rfl) (by kernel_rfl) (by kernel_rfl) (fun _ _ _ h => h.elim) (.inl ⟨by rfl, fun W hW => by go_simp⟩) hS' ?_
    simp only [Act.put, List.setIfInBounds_toArray, List.set_cons_succ, List.set_cons_zero]
    refine wpAnyH_all (rs := [15]) (by kernel_rfl) (by simp) ?_
    simp only [List.mem_cons, List.not_mem_nil, or_false, forall_eq]
    have cB2 := cell_of_row _ _ 2 _ _ _ hr'
    simp only [List.getElem?_toArray, List.getElem?_cons_succ, List.getElem?_cons_zero] at cB2
    have fB := frozen_row (i := 2) hr'
    refine opH_skip none (w' := W'.setCell ⟨B, 2, none⟩ (.slice ra (k + 1) rc)) rfl (by rfl) rfl (by go_simp) ?_
    have hms := setMods W' B 2 (.slice ra (k + 1) rc)
    have hS2 := hS'.trans (hms.mono (fun g hg => by rw [hg]; exact hbB))
    refine ⟨hS2, ?_⟩
    simp only [Act.put, List.setIfInBounds_toArray, List.set_cons_succ, List.set_cons_zero]
    refine wpAnyH_done (by kernel_rfl) ?_ _
    have hne' : ∀ g, (Value.slice ra (k + 1) rc).ownBlock = some g → ¬ g = B := fun g h e => by obtain ⟨cs, fr, hc⟩ := hox'.tag _ h; subst e; rw [hr'] at hc; cases hc
    exact ⟨(fun zz => ([.pointer (some ⟨B, 2, none⟩), .slice ja k jc, .slice (some ⟨b1, o1, none⟩) n m1, .int .i64 i, .pointer (some ⟨b1, o1 + i * 4, none⟩), .pointer (some ⟨b1, o1 + i * 4 + 2, none⟩), .slice (some ⟨b2, o2, none⟩) ni m2, .int .i64 k, .pointer (some ⟨b2, o2 + k * 5, none⟩), .pointer (some ⟨b2, o2 + k * 5, none⟩), .agg #[.int .u8 c0, .int .i64 c1, .string c2, .bool c3], .agg #[.int .u8 c0, .int .i64 c1, .string c2, .bool c3, .slice none 0 0], .slice (some ⟨w.drew.heap.size, 0, none⟩) 1 1, .slice ra (k + 1) rc, .pointer (some ⟨B, 2, none⟩)] : List Value).getD (cond (Nat.beq zz 47) 0 (cond (Nat.beq zz 48) 1 (cond (Nat.beq zz 49) 2 (cond (Nat.beq zz 50) 3 (cond (Nat.beq zz 51) 4 (cond (Nat.beq zz 52) 5 (cond (Nat.beq zz 53) 6 (cond (Nat.beq zz 54) 7 (cond (Nat.beq zz 55) 8 (cond (Nat.beq zz 56) 9 (cond (Nat.beq zz 57) 10 (cond (Nat.beq zz 58) 11 (cond (Nat.beq zz 59) 12 (cond (Nat.beq zz 60) 13 (cond (Nat.beq zz 61) 14 (0)))))))))))))))) undef), ra, rc, rfl, setCell_heap hr' _, hox'.mods hms hne', hS2⟩
end Go.Proofs.YtkiiameibdhdfaaGreatDoor
/- UrgentOf's end: the region. -/
namespace Go.Proofs.YtkiiameibdhdfaaGreatDoor
open Go.RowKit Go.Shelf Go.Cs
attribute [local go_sem] Oper.semAt_some
set_option linter.unusedVariables false
set_option linter.unusedSimpArgs false
noncomputable def reg_causeylaw14_UrgentOf_17 : Code := ((Tryz.f11.body.bind (regionOf 17)).getD .skip)
set_option maxHeartbeats 4000000 in
set_option maxRecDepth 100000 in
theorem of17a (t : Array Value) (hs : t.size = 94) (w : World) {P m x lc : Nat} {la : Option Addr} {i : Bool}
    (hq3 : t.getD 3 undef = .slice la (m + 1) lc)
    (hq7 : t.getD 7 undef = .pointer (some ⟨P, 0, none⟩))
    (p0 : w.cell? ⟨P, 0, none⟩ = some (.int .u8 (x : Nat))) (p1 : w.cell? ⟨P, 1, none⟩ = some (.bool i))
    (hu : x ≤ 7)
    (HO : Hid (∀ W, New w W → Calls Tryz.prog 40 #[.slice la (m + 1) lc] W fun e w' => e = .returned (.agg #[.int .u8 (x : Nat), .bool i]) ∧ New W w'))
    (HW : Hid (∀ W, New w W → Calls Tryz.prog 36 #[] W fun e w' => e = .returned (.bool true) ∧ New W w')) :
    reg_causeylaw14_UrgentOf_17.wp Tryz.prog (Only fun a' W' => (a'.tmps.size = 94 ∧ a'.defers = [] ∧ a'.tmps.getD 2 undef = .bool true) ∧ New w W') ⟨t, []⟩ w := by
  conv => arg 2; whnf
  obtain ⟨u, rfl⟩ := lit94 t hs
  have hq3 : u 3 = .slice la (m + 1) lc := hq3
  have hq7 : u 7 = .pointer (some ⟨P, 0, none⟩) := hq7
  rw [hq3, hq7]
  clear hq3 hq7 hs
  have hle : decide ((x : Int) ≤ 7) = true := decide_eq_true (by omega)
  have hgt : decide ((0 : Int) < ((m + 1 : Nat) : Int)) = true := decide_eq_true (by omega)
  refine wp_region_held (S := fun W => New w W) (by kernel_rfl) ?_
  show wpAnyH _ _ _ _ _ 27 _ _ w.drew
  have hN : New w w.drew := (Mods.refl _ _).drew
  have hS : New w w.drew := (Mods.refl _ _).drew
  refine anyH_take 0 (some 68) (.agg #[.int .u8 x, .bool i]) rfl rfl (by kernel_rfl) (by kernel_rfl) (by kernel_rfl) (fun _ _ _ h => h.elim) (.inl ⟨by rfl, fun W hW => by have hh : New w W := hW; have q0 := hh.cell p0 id; have q1 := hh.cell p1 id; go_simp⟩) hS ?_
  simp only [Act.put, List.setIfInBounds_toArray, List.set_cons_succ, List.set_cons_zero]
  refine anyH_take 1 (some 69) (.slice la (m + 1) lc) rfl rfl (by kernel_rfl) (by kernel_rfl) (by kernel_rfl) (fun _ _ _ h => h.elim) (.inl ⟨by rfl, fun W hW => by go_simp⟩) hS ?_
  simp only [Act.put, List.setIfInBounds_toArray, List.set_cons_succ, List.set_cons_zero]
  refine wpAnyH_all (rs := [2]) (by kernel_rfl) (by simp) ?_
  simp only [List.mem_cons, List.not_mem_nil, or_false, forall_eq]
  refine opH_call (some 70) rfl (by rfl) rfl 40 #[.slice la (m + 1) lc] (by go_simp) ((HO.out _ hN).mono ?_)
  rintro e w2 ⟨rfl, hk⟩
  have hS := hS.trans hk
  have hN := hN.trans hk
  clear hk
  refine ⟨_, rfl, hS, ?_⟩
  simp only [Act.put, List.setIfInBounds_toArray, List.set_cons_succ, List.set_cons_zero]
  refine anyH_take 3 (some 71) (.bool true) rfl rfl (by kernel_rfl) (by kernel_rfl) (by kernel_rfl) (fun _ _ _ h => h.elim) (.inl ⟨by rfl, fun W hW => by have q := binop_pr (x : Nat) (x : Nat) i i; simp only [decide_true, Bool.and_self] at q; go_simp⟩) hS ?_
  simp only [Act.put, List.setIfInBounds_toArray, List.set_cons_succ, List.set_cons_zero]
  refine anyH_take 4 (some 72) (.bool true) rfl rfl (by kernel_rfl) (by kernel_rfl) (by kernel_rfl) (fun _ _ _ h => h.elim) (.inl ⟨by rfl, fun W hW => by go_simp⟩) hS ?_
  simp only [Act.put, List.setIfInBounds_toArray, List.set_cons_succ, List.set_cons_zero]
  refine anyH_take 5 (some 73) (.agg #[.int .u8 x, .bool i]) rfl rfl (by kernel_rfl) (by kernel_rfl) (by kernel_rfl) (fun _ _ _ h => h.elim) (.inl ⟨by rfl, fun W hW => by have hh : New w W := hW; have q0 := hh.cell p0 id; have q1 := hh.cell p1 id; go_simp⟩) hS ?_
  simp only [Act.put, List.setIfInBounds_toArray, List.set_cons_succ, List.set_cons_zero]
  refine wpAnyH_all (rs := [6]) (by kernel_rfl) (by simp) ?_
  simp only [List.mem_cons, List.not_mem_nil, or_false, forall_eq]
  refine opH_call (some 74) rfl (by rfl) rfl 42 #[.agg #[.int .u8 x, .bool i]] (by go_simp) (((right_pr (x : Nat) i (by omega) _).mono (R' := fun e w' => e = .returned (.bool true) ∧ New _ w') (by rintro e w' ⟨rfl, h⟩; exact ⟨by rw [decide_eq_true (by omega)], h⟩)).mono ?_)
  rintro e w6 ⟨rfl, hk⟩
  have hS := hS.trans hk
  have hN := hN.trans hk
  clear hk
  refine ⟨_, rfl, hS, ?_⟩
  simp only [Act.put, List.setIfInBounds_toArray, List.set_cons_succ, List.set_cons_zero]
  refine anyH_take 7 (some 75) (.bool true) rfl rfl (by kernel_rfl) (by kernel_rfl) (by kernel_rfl) (fun _ _ _ h => h.elim) (.inl ⟨by rfl, fun W hW => by go_simp⟩) hS ?_
  simp only [Act.put, List.setIfInBounds_toArray, List.set_cons_succ, List.set_cons_zero]
  refine anyH_take 8 (some 76) (.bool true) rfl rfl (by kernel_rfl) (by kernel_rfl) (by kernel_rfl) (fun _ _ _ h => h.elim) (.inl ⟨by rfl, fun W hW => by go_simp⟩) hS ?_
  simp only [Act.put, List.setIfInBounds_toArray, List.set_cons_succ, List.set_cons_zero]
  refine anyH_take 9 (some 77) (.pointer (some ⟨P, 0, none⟩)) rfl rfl (by kernel_rfl) (by kernel_rfl) (by kernel_rfl) (fun _ _ _ h => h.elim) (.inl ⟨by rfl, fun W hW => by go_simp⟩) hS ?_
  simp only [Act.put, List.setIfInBounds_toArray, List.set_cons_succ, List.set_cons_zero]
  refine anyH_take 10 (some 78) (.int .u8 x) rfl rfl (by kernel_rfl) (by kernel_rfl) (by kernel_rfl) (fun _ _ _ h => h.elim) (.inl ⟨by rfl, fun W hW => by have hh : New w W := hW; have q := hh.cell p0 id; go_simp⟩) hS ?_
  simp only [Act.put, List.setIfInBounds_toArray, List.set_cons_succ, List.set_cons_zero]
  refine anyH_take 11 (some 79) (.bool true) rfl rfl (by kernel_rfl) (by kernel_rfl) (by kernel_rfl) (fun _ _ _ h => h.elim) (.inl ⟨by rfl, fun W hW => by go_simp⟩) hS ?_
  simp only [Act.put, List.setIfInBounds_toArray, List.set_cons_succ, List.set_cons_zero]
  refine anyH_take 12 (some 80) (.bool true) rfl rfl (by kernel_rfl) (by kernel_rfl) (by kernel_rfl) (fun _ _ _ h => h.elim) (.inl ⟨by rfl, fun W hW => by go_simp⟩) hS ?_
  simp only [Act.put, List.setIfInBounds_toArray, List.set_cons_succ, List.set_cons_zero]
  refine anyH_take 13 (some 81) (.bool true) rfl rfl (by kernel_rfl) (by kernel_rfl) (by kernel_rfl) (fun _ _ _ h => h.elim) (.inl ⟨by rfl, fun W hW => by go_simp⟩) hS ?_
  simp only [Act.put, List.setIfInBounds_toArray, List.set_cons_succ, List.set_cons_zero]
  refine anyH_take 14 (some 82) (.slice la (m + 1) lc) rfl rfl (by kernel_rfl) (by kernel_rfl) (by kernel_rfl) (fun _ _ _ h => h.elim) (.inl ⟨by rfl, fun W hW => by go_simp⟩) hS ?_
  simp only [Act.put, List.setIfInBounds_toArray, List.set_cons_succ, List.set_cons_zero]
  refine anyH_take 15 (some 83) (.int .i64 ((m + 1) : Nat)) rfl rfl (by kernel_rfl) (by kernel_rfl) (by kernel_rfl) (fun _ _ _ h => h.elim) (.inl ⟨by rfl, fun W hW => by go_simp⟩) hS ?_
  simp only [Act.put, List.setIfInBounds_toArray, List.set_cons_succ, List.set_cons_zero]
  refine anyH_take 16 (some 84) (.bool true) rfl rfl (by kernel_rfl) (by kernel_rfl) (by kernel_rfl) (fun _ _ _ h => h.elim) (.inl ⟨by rfl, fun W hW => by go_simp⟩) hS ?_
  simp only [Act.put, List.setIfInBounds_toArray, List.set_cons_succ, List.set_cons_zero]
  refine anyH_take 17 (some 85) (.bool true) rfl rfl (by kernel_rfl) (by kernel_rfl) (by kernel_rfl) (fun _ _ _ h => h.elim) (.inl ⟨by rfl, fun W hW => by go_simp⟩) hS ?_
  simp only [Act.put, List.setIfInBounds_toArray, List.set_cons_succ, List.set_cons_zero]
  refine anyH_take 18 (some 86) undef rfl rfl (by kernel_rfl) (by kernel_rfl) (by kernel_rfl) (fun _ _ _ h => h.elim) (.inr ⟨by rfl, rfl⟩) hS ?_
  simp only [Act.put, List.setIfInBounds_toArray, List.set_cons_succ, List.set_cons_zero]
  refine anyH_take 19 (some 87) undef rfl rfl (by kernel_rfl) (by kernel_rfl) (by kernel_rfl) (fun _ _ _ h => h.elim) (.inr ⟨by rfl, rfl⟩) hS ?_
  simp only [Act.put, List.setIfInBounds_toArray, List.set_cons_succ, List.set_cons_zero]
  refine anyH_take 20 (some 88) undef rfl rfl (by kernel_rfl) (by kernel_rfl) (by kernel_rfl) (fun _ _ _ h => h.elim) (.inr ⟨by rfl, rfl⟩) hS ?_
  simp only [Act.put, List.setIfInBounds_toArray, List.set_cons_succ, List.set_cons_zero]
  refine anyH_take 21 (some 89) (.bool true) rfl rfl (by kernel_rfl) (by kernel_rfl) (by kernel_rfl) (fun _ _ _ h => h.elim) (.inl ⟨by rfl, fun W hW => by go_simp⟩) hS ?_
  simp only [Act.put, List.setIfInBounds_toArray, List.set_cons_succ, List.set_cons_zero]
  refine anyH_take 22 (some 90) (.bool true) rfl rfl (by kernel_rfl) (by kernel_rfl) (by kernel_rfl) (fun _ _ _ h => h.elim) (.inl ⟨by rfl, fun W hW => by go_simp⟩) hS ?_
  simp only [Act.put, List.setIfInBounds_toArray, List.set_cons_succ, List.set_cons_zero]
  refine anyH_take 23 (some 91) (.bool true) rfl rfl (by kernel_rfl) (by kernel_rfl) (by kernel_rfl) (fun _ _ _ h => h.elim) (.inl ⟨by rfl, fun W hW => by go_simp⟩) hS ?_
  simp only [Act.put, List.setIfInBounds_toArray, List.set_cons_succ, List.set_cons_zero]
  refine wpAnyH_all (rs := [24]) (by kernel_rfl) (by simp) ?_
  simp only [List.mem_cons, List.not_mem_nil, or_false, forall_eq]
  refine opH_call (some 92) rfl (by rfl) rfl 36 #[] (by go_simp) ((HW.out _ hN).mono ?_)
  rintro e w24 ⟨rfl, hk⟩
  have hS := hS.trans hk
  have hN := hN.trans hk
  clear hk
  refine ⟨_, rfl, hS, ?_⟩
  simp only [Act.put, List.setIfInBounds_toArray, List.set_cons_succ, List.set_cons_zero]
  refine anyH_take 25 (some 93) (.bool true) rfl rfl (by kernel_rfl) (by kernel_rfl) (by kernel_rfl) (fun _ _ _ h => h.elim) (.inl ⟨by rfl, fun W hW => by go_simp⟩) hS ?_
  simp only [Act.put, List.setIfInBounds_toArray, List.set_cons_succ, List.set_cons_zero]
  refine anyH_take 26 (some 2) (.bool true) rfl rfl (by kernel_rfl) (by kernel_rfl) (by kernel_rfl) (fun _ _ _ h => h.elim) (.inl ⟨by rfl, fun W hW => by go_simp⟩) hS ?_
  simp only [Act.put, List.setIfInBounds_toArray, List.set_cons_succ, List.set_cons_zero]
  refine wpAnyH_done (by kernel_rfl) ?_ _
  exact ⟨⟨rfl, rfl, rfl⟩, hN⟩
set_option maxHeartbeats 4000000 in
set_option maxRecDepth 100000 in
theorem of17b (t : Array Value) (hs : t.size = 94) (w : World) {P lc : Nat} {la : Option Addr}
    (hq3 : t.getD 3 undef = .slice la 0 lc)
    (hq7 : t.getD 7 undef = .pointer (some ⟨P, 0, none⟩))
    (p0 : w.cell? ⟨P, 0, none⟩ = some (.int .u8 3)) (p1 : w.cell? ⟨P, 1, none⟩ = some (.bool false))
    (HO : Hid (∀ W, New w W → Calls Tryz.prog 40 #[.slice la 0 lc] W fun e w' => e = .returned (.agg #[.int .u8 3, .bool false]) ∧ New W w'))
    (HW : Hid (∀ W, New w W → Calls Tryz.prog 36 #[] W fun e w' => e = .returned (.bool true) ∧ New W w')) :
    reg_causeylaw14_UrgentOf_17.wp Tryz.prog (Only fun a' W' => (a'.tmps.size = 94 ∧ a'.defers = [] ∧ a'.tmps.getD 2 undef = .bool true) ∧ New w W') ⟨t, []⟩ w := by
  conv => arg 2; whnf
  obtain ⟨u, rfl⟩ := lit94 t hs
  have hq3 : u 3 = .slice la 0 lc := hq3
  have hq7 : u 7 = .pointer (some ⟨P, 0, none⟩) := hq7
  rw [hq3, hq7]
  clear hq3 hq7 hs
  refine wp_region_held (S := fun W => New w W) (by kernel_rfl) ?_
  show wpAnyH _ _ _ _ _ 27 _ _ w.drew
  have hN : New w w.drew := (Mods.refl _ _).drew
  have hS : New w w.drew := (Mods.refl _ _).drew
  refine anyH_take 0 (some 68) (.agg #[.int .u8 3, .bool false]) rfl rfl (by kernel_rfl) (by kernel_rfl) (by kernel_rfl) (fun _ _ _ h => h.elim) (.inl ⟨by rfl, fun W hW => by have hh : New w W := hW; have q0 := hh.cell p0 id; have q1 := hh.cell p1 id; go_simp⟩) hS ?_
  simp only [Act.put, List.setIfInBounds_toArray, List.set_cons_succ, List.set_cons_zero]
  refine anyH_take 1 (some 69) (.slice la 0 lc) rfl rfl (by kernel_rfl) (by kernel_rfl) (by kernel_rfl) (fun _ _ _ h => h.elim) (.inl ⟨by rfl, fun W hW => by go_simp⟩) hS ?_
  simp only [Act.put, List.setIfInBounds_toArray, List.set_cons_succ, List.set_cons_zero]
  refine wpAnyH_all (rs := [2]) (by kernel_rfl) (by simp) ?_
  simp only [List.mem_cons, List.not_mem_nil, or_false, forall_eq]
  refine opH_call (some 70) rfl (by rfl) rfl 40 #[.slice la 0 lc] (by go_simp) ((HO.out _ hN).mono ?_)
  rintro e w2 ⟨rfl, hk⟩
  have hS := hS.trans hk
  have hN := hN.trans hk
  clear hk
  refine ⟨_, rfl, hS, ?_⟩
  simp only [Act.put, List.setIfInBounds_toArray, List.set_cons_succ, List.set_cons_zero]
  refine anyH_take 3 (some 71) (.bool true) rfl rfl (by kernel_rfl) (by kernel_rfl) (by kernel_rfl) (fun _ _ _ h => h.elim) (.inl ⟨by rfl, fun W hW => by have q := binop_pr 3 3 false false; simp only [decide_true, Bool.and_self] at q; go_simp⟩) hS ?_
  simp only [Act.put, List.setIfInBounds_toArray, List.set_cons_succ, List.set_cons_zero]
  refine anyH_take 4 (some 72) (.bool true) rfl rfl (by kernel_rfl) (by kernel_rfl) (by kernel_rfl) (fun _ _ _ h => h.elim) (.inl ⟨by rfl, fun W hW => by go_simp⟩) hS ?_
  simp only [Act.put, List.setIfInBounds_toArray, List.set_cons_succ, List.set_cons_zero]
  refine anyH_take 5 (some 73) (.agg #[.int .u8 3, .bool false]) rfl rfl (by kernel_rfl) (by kernel_rfl) (by kernel_rfl) (fun _ _ _ h => h.elim) (.inl ⟨by rfl, fun W hW => by have hh : New w W := hW; have q0 := hh.cell p0 id; have q1 := hh.cell p1 id; go_simp⟩) hS ?_
  simp only [Act.put, List.setIfInBounds_toArray, List.set_cons_succ, List.set_cons_zero]
  refine wpAnyH_all (rs := [6]) (by kernel_rfl) (by simp) ?_
  simp only [List.mem_cons, List.not_mem_nil, or_false, forall_eq]
  refine opH_call (some 74) rfl (by rfl) rfl 42 #[.agg #[.int .u8 3, .bool false]] (by go_simp) (((right_pr 3 false (by omega) _).mono (R' := fun e w' => e = .returned (.bool true) ∧ New _ w') (by rintro e w' ⟨rfl, h⟩; exact ⟨by rw [decide_eq_true (by omega)], h⟩)).mono ?_)
  rintro e w6 ⟨rfl, hk⟩
  have hS := hS.trans hk
  have hN := hN.trans hk
  clear hk
  refine ⟨_, rfl, hS, ?_⟩
  simp only [Act.put, List.setIfInBounds_toArray, List.set_cons_succ, List.set_cons_zero]
  refine anyH_take 7 (some 75) (.bool true) rfl rfl (by kernel_rfl) (by kernel_rfl) (by kernel_rfl) (fun _ _ _ h => h.elim) (.inl ⟨by rfl, fun W hW => by go_simp⟩) hS ?_
  simp only [Act.put, List.setIfInBounds_toArray, List.set_cons_succ, List.set_cons_zero]
  refine anyH_take 8 (some 76) (.bool true) rfl rfl (by kernel_rfl) (by kernel_rfl) (by kernel_rfl) (fun _ _ _ h => h.elim) (.inl ⟨by rfl, fun W hW => by go_simp⟩) hS ?_
  simp only [Act.put, List.setIfInBounds_toArray, List.set_cons_succ, List.set_cons_zero]
  refine anyH_take 9 (some 77) (.pointer (some ⟨P, 0, none⟩)) rfl rfl (by kernel_rfl) (by kernel_rfl) (by kernel_rfl) (fun _ _ _ h => h.elim) (.inl ⟨by rfl, fun W hW => by go_simp⟩) hS ?_
  simp only [Act.put, List.setIfInBounds_toArray, List.set_cons_succ, List.set_cons_zero]
  refine anyH_take 10 (some 78) (.int .u8 3) rfl rfl (by kernel_rfl) (by kernel_rfl) (by kernel_rfl) (fun _ _ _ h => h.elim) (.inl ⟨by rfl, fun W hW => by have hh : New w W := hW; have q := hh.cell p0 id; go_simp⟩) hS ?_
  simp only [Act.put, List.setIfInBounds_toArray, List.set_cons_succ, List.set_cons_zero]
  refine anyH_take 11 (some 79) (.bool true) rfl rfl (by kernel_rfl) (by kernel_rfl) (by kernel_rfl) (fun _ _ _ h => h.elim) (.inl ⟨by rfl, fun W hW => by go_simp⟩) hS ?_
  simp only [Act.put, List.setIfInBounds_toArray, List.set_cons_succ, List.set_cons_zero]
  refine anyH_take 12 (some 80) (.bool true) rfl rfl (by kernel_rfl) (by kernel_rfl) (by kernel_rfl) (fun _ _ _ h => h.elim) (.inl ⟨by rfl, fun W hW => by go_simp⟩) hS ?_
  simp only [Act.put, List.setIfInBounds_toArray, List.set_cons_succ, List.set_cons_zero]
  refine anyH_take 13 (some 81) (.bool true) rfl rfl (by kernel_rfl) (by kernel_rfl) (by kernel_rfl) (fun _ _ _ h => h.elim) (.inl ⟨by rfl, fun W hW => by go_simp⟩) hS ?_
  simp only [Act.put, List.setIfInBounds_toArray, List.set_cons_succ, List.set_cons_zero]
  refine anyH_take 14 (some 82) (.slice la 0 lc) rfl rfl (by kernel_rfl) (by kernel_rfl) (by kernel_rfl) (fun _ _ _ h => h.elim) (.inl ⟨by rfl, fun W hW => by go_simp⟩) hS ?_
  simp only [Act.put, List.setIfInBounds_toArray, List.set_cons_succ, List.set_cons_zero]
  refine anyH_take 15 (some 83) (.int .i64 (0 : Nat)) rfl rfl (by kernel_rfl) (by kernel_rfl) (by kernel_rfl) (fun _ _ _ h => h.elim) (.inl ⟨by rfl, fun W hW => by go_simp⟩) hS ?_
  simp only [Act.put, List.setIfInBounds_toArray, List.set_cons_succ, List.set_cons_zero]
  refine anyH_take 16 (some 84) (.bool false) rfl rfl (by kernel_rfl) (by kernel_rfl) (by kernel_rfl) (fun _ _ _ h => h.elim) (.inl ⟨by rfl, fun W hW => by go_simp⟩) hS ?_
  simp only [Act.put, List.setIfInBounds_toArray, List.set_cons_succ, List.set_cons_zero]
  refine anyH_take 17 (some 85) (.bool false) rfl rfl (by kernel_rfl) (by kernel_rfl) (by kernel_rfl) (fun _ _ _ h => h.elim) (.inl ⟨by rfl, fun W hW => by go_simp⟩) hS ?_
  simp only [Act.put, List.setIfInBounds_toArray, List.set_cons_succ, List.set_cons_zero]
  refine anyH_take 18 (some 86) (.agg #[.int .u8 3, .bool false]) rfl rfl (by kernel_rfl) (by kernel_rfl) (by kernel_rfl) (fun _ _ _ h => h.elim) (.inl ⟨by rfl, fun W hW => by have hh : New w W := hW; have q0 := hh.cell p0 id; have q1 := hh.cell p1 id; go_simp⟩) hS ?_
  simp only [Act.put, List.setIfInBounds_toArray, List.set_cons_succ, List.set_cons_zero]
  refine anyH_take 19 (some 87) (.agg #[.int .u8 3, .bool false]) rfl rfl (by kernel_rfl) (by kernel_rfl) (by kernel_rfl) (fun _ _ _ h => h.elim) (.inl ⟨by rfl, fun W hW => by go_simp⟩) hS ?_
  simp only [Act.put, List.setIfInBounds_toArray, List.set_cons_succ, List.set_cons_zero]
  refine anyH_take 20 (some 88) (.bool true) rfl rfl (by kernel_rfl) (by kernel_rfl) (by kernel_rfl) (fun _ _ _ h => h.elim) (.inl ⟨by rfl, fun W hW => by have q := binop_pr 3 3 false false; simp only [decide_true, Bool.and_self] at q; go_simp⟩) hS ?_
  simp only [Act.put, List.setIfInBounds_toArray, List.set_cons_succ, List.set_cons_zero]
  refine anyH_take 21 (some 89) (.bool true) rfl rfl (by kernel_rfl) (by kernel_rfl) (by kernel_rfl) (fun _ _ _ h => h.elim) (.inl ⟨by rfl, fun W hW => by go_simp⟩) hS ?_
  simp only [Act.put, List.setIfInBounds_toArray, List.set_cons_succ, List.set_cons_zero]
  refine anyH_take 22 (some 90) (.bool true) rfl rfl (by kernel_rfl) (by kernel_rfl) (by kernel_rfl) (fun _ _ _ h => h.elim) (.inl ⟨by rfl, fun W hW => by go_simp⟩) hS ?_
  simp only [Act.put, List.setIfInBounds_toArray, List.set_cons_succ, List.set_cons_zero]
  refine anyH_take 23 (some 91) (.bool true) rfl rfl (by kernel_rfl) (by kernel_rfl) (by kernel_rfl) (fun _ _ _ h => h.elim) (.inl ⟨by rfl, fun W hW => by go_simp⟩) hS ?_
  simp only [Act.put, List.setIfInBounds_toArray, List.set_cons_succ, List.set_cons_zero]
  refine wpAnyH_all (rs := [24]) (by kernel_rfl) (by simp) ?_
  simp only [List.mem_cons, List.not_mem_nil, or_false, forall_eq]
  refine opH_call (some 92) rfl (by rfl) rfl 36 #[] (by go_simp) ((HW.out _ hN).mono ?_)
  rintro e w24 ⟨rfl, hk⟩
  have hS := hS.trans hk
  have hN := hN.trans hk
  clear hk
  refine ⟨_, rfl, hS, ?_⟩
  simp only [Act.put, List.setIfInBounds_toArray, List.set_cons_succ, List.set_cons_zero]
  refine anyH_take 25 (some 93) (.bool true) rfl rfl (by kernel_rfl) (by kernel_rfl) (by kernel_rfl) (fun _ _ _ h => h.elim) (.inl ⟨by rfl, fun W hW => by go_simp⟩) hS ?_
  simp only [Act.put, List.setIfInBounds_toArray, List.set_cons_succ, List.set_cons_zero]
  refine anyH_take 26 (some 2) (.bool true) rfl rfl (by kernel_rfl) (by kernel_rfl) (by kernel_rfl) (fun _ _ _ h => h.elim) (.inl ⟨by rfl, fun W hW => by go_simp⟩) hS ?_
  simp only [Act.put, List.setIfInBounds_toArray, List.set_cons_succ, List.set_cons_zero]
  refine wpAnyH_done (by kernel_rfl) ?_ _
  exact ⟨⟨rfl, rfl, rfl⟩, hN⟩
end Go.Proofs.YtkiiameibdhdfaaGreatDoor
/- UrgentOf: members left out, plainly; their rows. -/
namespace Go.Proofs.YtkiiameibdhdfaaGreatDoor
open Go.RowKit Go.Shelf Go.Cs
set_option linter.unusedVariables false
set_option linter.unusedSimpArgs false
def uiB (m : Bare.Mem) : Bool := decide (m.key = [117]) || decide (m.key = [105])
def strip (m : Bare.Mem) : Bare.Mem := ⟨m.key, m.inner, m.items.map fun x => ⟨x.bare, []⟩, []⟩
def leftD (d : List Bare.Mem) : List Bare.Mem := (d.filter uiB).map strip
theorem find_left (d : List Bare.Mem) (k : Bare.Bs) (hk : k = [117] ∨ k = [105]) : (leftD d).find? (fun m => decide (m.key = k)) = (d.find? fun m => decide (m.key = k)).map strip := by
  unfold leftD
  rw [List.find?_map, List.find?_filter]
  have e : (fun a => uiB a = true ∧ ((fun m : Bare.Mem => decide (m.key = k)) ∘ strip) a = true) = fun a => (fun m : Bare.Mem => decide (m.key = k)) a = true := by
    funext m
    unfold uiB strip
    simp only [Function.comp]
    rcases hk with rfl | rfl <;> by_cases h : m.key = [117] <;> by_cases h' : m.key = [105] <;> simp_all
  congr 1
  congr 1
  funext m
  unfold uiB
  simp only [Function.comp, strip]
  rcases hk with rfl | rfl <;> by_cases h : m.key = [117] <;> by_cases h' : m.key = [105] <;> simp_all
theorem heard_left (d : List Bare.Mem) (k : Bare.Bs) (hk : k = [117] ∨ k = [105]) : Bare.heard (leftD d) k = Bare.heard d k := by
  unfold Bare.heard
  rw [find_left d k hk]
  cases d.find? (fun m => decide (m.key = k)) with
  | none => rfl
  | some m =>
    simp only [Option.map_some, strip, List.length_map]
    by_cases h : m.inner = false ∧ m.items.length = 1
    · rw [if_pos h, if_pos h]
      cases m.items <;> rfl
    · rw [if_neg h, if_neg h]
theorem urg_left (d : List Bare.Mem) : Bare.urgOf (leftD d) = Bare.urgOf d ∧ Bare.incOf (leftD d) = Bare.incOf d := by
  unfold Bare.urgOf Bare.incOf
  rw [heard_left d _ (.inl rfl), heard_left d _ (.inr rfl)]
  exact ⟨rfl, rfl⟩
theorem urg_nil {d : List Bare.Mem} (h : leftD d = []) : Bare.urgOf d = 3 ∧ Bare.incOf d = false := by
  obtain ⟨h1, h2⟩ := urg_left d
  rw [h] at h1 h2
  exact ⟨h1.symm.trans wk7.1, h2.symm.trans wk7.2⟩
theorem urg_range (d : List Bare.Mem) : 0 ≤ Bare.urgOf d ∧ Bare.urgOf d ≤ 7 := by
  unfold Bare.urgOf
  split
  · split
    · rename_i h; exact ⟨h.2.1, h.2.2⟩
    · decide
  · decide
theorem leftD_take {d : List Bare.Mem} {i : Nat} (h : i < d.length) : leftD (d.take (i + 1)) = leftD (d.take i) ++ if uiB (d.getD i noM) then [strip (d.getD i noM)] else [] := by
  unfold leftD
  rw [List.take_add_one, List.getElem?_eq_getElem h, List.filter_append, List.map_append]
  have e : d.getD i noM = d[i] := by rw [List.getD_eq_getElem?_getD, List.getElem?_eq_getElem h]; rfl
  rw [e]
  simp only [Option.toList_some, List.filter_cons, List.filter_nil]
  cases uiB d[i] <;> simp
theorem leftD_len (d : List Bare.Mem) : (leftD d).length ≤ d.length := by
  unfold leftD
  rw [List.length_map]
  exact List.length_filter_le _ _
/-- Rows of members without parameters. -/
def OwL (base : Nat) (W : World) (v : Value) (L : List Bare.Mem) : Prop := ∃ f : Nat → List Value, OwM base W v L.length f ∧ ∀ j, j < L.length → ∃ ja jc, f j = mcs (L.getD j noM) (.slice ja (L.getD j noM).items.length jc) (.slice none 0 0) ∧ OwX base W (.slice ja (L.getD j noM).items.length jc) (L.getD j noM).items.length (fun k => ics ((L.getD j noM).items.getD k Bare.noI) (.slice none 0 0)) ∧ (L.getD j noM).params = [] ∧ ∀ x ∈ (L.getD j noM).items, x.params = []
theorem OwL.nil (base : Nat) (W : World) : OwL base W (.slice none 0 0) [] := ⟨fun _ => [undef, undef, undef, undef], OwM.nil _ _ _ (fun _ => rfl), fun j hj => by simp at hj⟩
theorem OwL.new {base : Nat} {W W' : World} {v : Value} {L : List Bare.Mem} (h : OwL base W v L) (hN : New W W') : OwL base W' v L := by
  obtain ⟨f, h1, h2⟩ := h
  refine ⟨f, h1.new hN, fun j hj => ?_⟩
  obtain ⟨ja, jc, e, ho, r⟩ := h2 j hj
  exact ⟨ja, jc, e, ho.new hN, r⟩
theorem OwL.slice {base : Nat} {W : World} {v : Value} {L : List Bare.Mem} (h : OwL base W v L) : ∃ ao cap, v = .slice ao L.length cap := by
  obtain ⟨f, h1, -⟩ := h
  exact h1.slice
theorem OwL.reads {base : Nat} {W : World} {v : Value} {L : List Bare.Mem} (h : OwL base W v L) (hl : L.length ≤ 40) (hi : ∀ j, j < L.length → (L.getD j noM).items.length ≤ 40) : RdD false W v L := by
  obtain ⟨f, h1, h2⟩ := h
  refine ⟨fun j => (f j).getD 2 undef, fun _ => .slice none 0 0, (h1.row (by omega)).congr fun j hj => ?_, tag_none, fun j hj => ?_⟩
  · obtain ⟨ja, jc, e, -⟩ := h2 j hj
    dsimp only
    rw [e]; rfl
  · obtain ⟨ja, jc, e, ho, hp, hx⟩ := h2 j hj
    dsimp only
    rw [e]
    refine ⟨⟨fun _ => .slice none 0 0, ho.row (by have := hi j hj; omega), tag_none, fun k hk => ?_⟩, ?_⟩
    · rw [hx _ (getD_mem (d := Bare.noI) hk)]
      exact RdP.nil _ _ _
    · rw [hp]
      exact RdP.nil _ _ _
/-- One member more. -/
theorem OwL.snoc {base : Nat} {W W' : World} {v v' : Value} {L : List Bare.Mem} {m : Bare.Mem} {ja : Option Addr} {jc : Nat} {f : Nat → List Value} (h2 : ∀ j, j < L.length → ∃ ja jc, f j = mcs (L.getD j noM) (.slice ja (L.getD j noM).items.length jc) (.slice none 0 0) ∧ OwX base W (.slice ja (L.getD j noM).items.length jc) (L.getD j noM).items.length (fun k => ics ((L.getD j noM).items.getD k Bare.noI) (.slice none 0 0)) ∧ (L.getD j noM).params = [] ∧ ∀ x ∈ (L.getD j noM).items, x.params = [])
    (hx : OwX base W (.slice ja m.items.length jc) m.items.length (fun k => ics (m.items.getD k Bare.noI) (.slice none 0 0))) (hp : m.params = []) (hi : ∀ x ∈ m.items, x.params = [])
    (ho : OwM base W' v' (L.length + 1) (fun i => if i = L.length then mcs m (.slice ja m.items.length jc) (.slice none 0 0) else f i)) {S : Nat → Prop} (hm : Mods S W W') (hS : ∀ g cs fr, S g → W.heap[g]? ≠ some (.cells cs 71 fr)) : OwL base W' v' (L ++ [m]) := by
  have keep : ∀ {v : Value} {n : Nat} {f : Nat → List Value}, OwX base W v n f → OwX base W' v n f := fun hx => hx.mods hm fun g hg hs => by
    obtain ⟨cs, fr, hc⟩ := hx.tag g hg
    exact hS g cs fr hs hc
  refine ⟨fun i => if i = L.length then mcs m (.slice ja m.items.length jc) (.slice none 0 0) else f i, by rw [List.length_append]; exact ho, fun j hj => ?_⟩
  rw [List.length_append] at hj
  have hj : j < L.length + 1 := hj
  rw [getD_snoc]
  dsimp only
  by_cases e : j = L.length
  · have hn : ¬ j < L.length := by omega
    simp only [if_neg hn, if_pos e]
    exact ⟨ja, jc, rfl, keep hx, hp, hi⟩
  · have hjl : j < L.length := by omega
    simp only [if_pos hjl, if_neg e]
    obtain ⟨a, c, e', ho', r⟩ := h2 j hjl
    exact ⟨a, c, e', keep ho', r⟩
end Go.Proofs.YtkiiameibdhdfaaGreatDoor
