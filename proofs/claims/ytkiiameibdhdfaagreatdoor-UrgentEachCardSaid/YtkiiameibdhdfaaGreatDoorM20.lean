/- UrgentEach, walked. -/
import Derived.Test.YtkiiameibdhdfaaGreatDoorM19
set_option linter.unusedSimpArgs false
set_option linter.unusedVariables false
namespace Go.Proofs.YtkiiameibdhdfaaGreatDoor
open Go.RowKit Go.Shelf Go.Cs
attribute [local go_sem] Oper.semAt_some
set_option linter.unusedVariables false
set_option linter.unusedSimpArgs false
/-- A dictionary of one item, made. -/
theorem one_d (W1 : World) (key : Bare.Bs) (inner : Bool) (b : Bare.It) : RdD false ((W1.alloc (.cells #[.int .u8 b.kind, .int .i64 b.int, .string (tx b.text), .bool b.yes, .slice none 0 0] 71)).alloc (.cells #[.string (tx key), .bool inner, .slice (some ⟨W1.heap.size, 0, none⟩) 1 1, .slice none 0 0] 64)) (.slice (some ⟨W1.heap.size + 1, 0, none⟩) 1 1) [⟨key, inner, [⟨b, []⟩], []⟩] := by
  have r1 := World.alloc_heap_new W1 (.cells #[.int .u8 b.kind, .int .i64 b.int, .string (tx b.text), .bool b.yes, .slice none 0 0] 71)
  obtain ⟨W2, hW2⟩ : ∃ V, W1.alloc (.cells #[.int .u8 b.kind, .int .i64 b.int, .string (tx b.text), .bool b.yes, .slice none 0 0] 71) = V := ⟨_, rfl⟩
  have hs : W2.heap.size = W1.heap.size + 1 := by rw [← hW2]; simp
  rw [hW2] at r1 ⊢
  have r2 := World.alloc_heap_new W2 (.cells #[.string (tx key), .bool inner, .slice (some ⟨W1.heap.size, 0, none⟩) 1 1, .slice none 0 0] 64)
  have hA : New W2 (W2.alloc (.cells #[.string (tx key), .bool inner, .slice (some ⟨W1.heap.size, 0, none⟩) 1 1, .slice none 0 0] 64)) := (Mods.refl _ _).alloc _
  obtain ⟨W3, hW3⟩ : ∃ V, W2.alloc (.cells #[.string (tx key), .bool inner, .slice (some ⟨W1.heap.size, 0, none⟩) 1 1, .slice none 0 0] 64) = V := ⟨_, rfl⟩
  rw [hW3] at r2 hA ⊢
  replace r1 := hA.heap r1 id
  rw [hs] at r2
  refine ⟨fun _ => .slice (some ⟨W1.heap.size, 0, none⟩) 1 1, fun _ => .slice none 0 0, ⟨by simp, _, _, rfl, fun i hi => ?_⟩, tag_none, fun i hi => ?_⟩
  · obtain rfl : i = 0 := by simp at hi; omega
    refine ⟨_, 0, rfl, fun j u hu => ?_⟩
    rw [cell_of_row W3 _ (0 + 0 * 4 + j) _ _ _ r2]
    simpa [mcs] using hu
  · obtain rfl : i = 0 := by simp at hi; omega
    refine ⟨⟨fun _ => .slice none 0 0, ⟨by simp, _, _, rfl, fun j hj => ?_⟩, tag_none, fun j hj => ?_⟩, RdP.nil _ _ _⟩
    · obtain rfl : j = 0 := by simp at hj; omega
      refine ⟨_, 0, rfl, fun j u hu => ?_⟩
      rw [cell_of_row W3 _ (0 + 0 * 5 + j) _ _ _ r1]
      simpa [ics] using hu
    · obtain rfl : j = 0 := by simp at hj; omega
      exact RdP.nil _ _ _
theorem one_heard (key k : Bare.Bs) (inner : Bool) (b : Bare.It) : Bare.heard [⟨key, inner, [⟨b, []⟩], []⟩] k = if key = k ∧ inner = false then some b else none := by
  unfold Bare.heard
  by_cases hk : key = k <;> cases inner <;> simp [hk]
theorem one_of (W1 : World) (key : Bare.Bs) (inner : Bool) (b : Bare.It) (hb : ItI b) :
    Calls Tryz.prog 40 #[.slice (some ⟨W1.heap.size + 1, 0, none⟩) 1 1] ((W1.alloc (.cells #[.int .u8 b.kind, .int .i64 b.int, .string (tx b.text), .bool b.yes, .slice none 0 0] 71)).alloc (.cells #[.string (tx key), .bool inner, .slice (some ⟨W1.heap.size, 0, none⟩) 1 1, .slice none 0 0] 64))
      fun e w' => e = .returned (prV (Bare.urgOf [⟨key, inner, [⟨b, []⟩], []⟩]) (Bare.incOf [⟨key, inner, [⟨b, []⟩], []⟩])) ∧ New W1 w' :=
  (of_any _ _ _ (one_d W1 key inner b) (fun m hm => by
    rw [List.mem_singleton] at hm
    subst hm
    exact ⟨by simp, by simp, fun i hi => by obtain rfl : i = 0 := by simp at hi; omega
                                            simp⟩) (fun c hc => by
    rw [one_heard] at hc
    split at hc
    · cases hc; exact hb
    · cases hc)).mono fun e w' h => ⟨h.1, (((Mods.refl _ _).alloc _).alloc _).trans h.2⟩
theorem urg_one (key : Bare.Bs) (inner : Bool) (b : Bare.It) : Bare.urgOf [⟨key, inner, [⟨b, []⟩], []⟩] = if key = [117] ∧ inner = false ∧ b.kind = 1 ∧ 0 ≤ b.int ∧ b.int ≤ 7 then b.int else 3 := by
  unfold Bare.urgOf
  rw [one_heard]
  by_cases hk : key = [117] <;> cases inner <;> simp [hk]
theorem inc_one (key : Bare.Bs) (inner : Bool) (b : Bare.It) : Bare.incOf [⟨key, inner, [⟨b, []⟩], []⟩] = (decide (key = [105]) && (!inner && (decide (b.kind = 6) && b.yes))) := by
  unfold Bare.incOf
  rw [one_heard]
  by_cases hk : key = [105] <;> cases inner <;> simp [hk]
set_option maxHeartbeats 4000000 in
set_option maxRecDepth 100000 in
theorem each_law (b : Bare.It) (hb : ItI b) (inner : Bool) (w : World) (hT : Tab w) :
    Calls Tryz.prog 12 #[bv b, .bool inner] w fun e w' => e = .returned (.bool true) ∧ New w w' := by
  have HWk := Lib.hid (fun W (hN : New w W) => wakes_u W (hT.new hN))
  have H1 := Lib.hid (fun W => one_of W [117] inner b hb)
  have H2 := Lib.hid (fun W => one_of W [105] inner b hb)
  have hE1 : ∀ u v i j W, (binOp .eql 31 (.agg #[.int .u8 u, .bool i]) (.agg #[.int .u8 v, .bool j])).run Tryz.prog W = .ok (.bool (decide (u = v) && decide (i = j))) W := binop_pr
  have hI1 : Bare.incOf [⟨[117], inner, [⟨b, []⟩], []⟩] = false := by rw [inc_one]; rfl
  have hU2 : Bare.urgOf [⟨[105], inner, [⟨b, []⟩], []⟩] = 3 := by rw [urg_one]; exact if_neg (fun h => by cases h.1)
  have hU1 := urg_one [117] inner b
  have hI2 := inc_one [105] inner b
  obtain ⟨U, hU⟩ : ∃ u, Bare.urgOf [⟨[117], inner, [⟨b, []⟩], []⟩] = u := ⟨_, rfl⟩
  obtain ⟨I, hI⟩ : ∃ u, Bare.incOf [⟨[105], inner, [⟨b, []⟩], []⟩] = u := ⟨_, rfl⟩
  rw [hI1, hU] at H1
  rw [hU2, hI] at H2
  rw [hU] at hU1
  rw [hI] at hI2
  unfold prV at H1 H2
  clear hT hI1 hU2 hU hI
  obtain ⟨k, n, t, y⟩ := b
  unfold ItI at hb
  unfold bv bcs
  simp only at H1 H2 hU1 hI2 hb ⊢
  rw [show tx [117] = ⟨#[117]⟩ from rfl] at H1
  rw [show tx [105] = ⟨#[105]⟩ from rfl] at H2
  obtain ⟨s, hs⟩ : ∃ s, tx t = s := ⟨_, rfl⟩
  rw [hs] at H1 H2 ⊢
  clear hs
  have hN : New w (w.alloc (.cells #[.int .u8 k, .int .i64 n, .string s, .bool y] 66)) := (Mods.refl _ _).alloc _
  have rB := World.alloc_heap_new w (.cells #[.int .u8 k, .int .i64 n, .string s, .bool y] 66)
  obtain ⟨w1, hW⟩ : ∃ V, w.alloc (.cells #[.int .u8 k, .int .i64 n, .string s, .bool y] 66) = V := ⟨_, rfl⟩
  obtain ⟨D, hD⟩ : ∃ b, w.heap.size = b := ⟨_, rfl⟩
  have HW := Lib.hid hW
  have HD := Lib.hid hD
  rw [hW] at hN rB
  rw [hD] at rB
  clear hW hD
  obtain ⟨⟨k0, k1, k2, k3⟩, -⟩ := row_facts rB
  cases inner with
  | true =>
    obtain rfl : U = 3 := by simpa using hU1
    obtain rfl : I = false := by simpa using hI2
    clear hU1 hI2 hb
    go_enter Tryz.func12, Tryz.ntmps12
    go_upto_region 1 with fail
    rw [HW.out, HD.out]
    clear HW HD
    go_upto_region 2 with (go_at_call 40; refine (H1.out _).mono ?_; rintro e w2 ⟨rfl, hk2⟩)
    have hA : New w2 (w2.alloc (.cells #[.int .u8 3, .bool false] 31)) := (Mods.refl _ _).alloc _
    have r5 := World.alloc_heap_new w2 (.cells #[.int .u8 3, .bool false] 31)
    obtain ⟨w3, hv⟩ : ∃ V, w2.alloc (.cells #[.int .u8 3, .bool false] 31) = V := ⟨_, rfl⟩
    obtain ⟨P, hb⟩ : ∃ b, w2.heap.size = b := ⟨_, rfl⟩
    rw [hv] at r5 hA ⊢
    rw [hb] at r5 ⊢
    clear hv hb
    replace hN := (hN.trans hk2).trans hA
    replace rB := hA.heap (hk2.heap rB id) id
    obtain ⟨⟨k0, k1, k2, k3⟩, -⟩ := row_facts rB
    clear hk2 hA
    go_upto_region 3 with (go_at_call 40; refine (H2.out _).mono ?_; rintro e w4 ⟨rfl, hk2⟩)
    have hA : New w4 (w4.alloc (.cells #[.int .u8 3, .bool false] 31)) := (Mods.refl _ _).alloc _
    have r6 := World.alloc_heap_new w4 (.cells #[.int .u8 3, .bool false] 31)
    obtain ⟨w5, hv⟩ : ∃ V, w4.alloc (.cells #[.int .u8 3, .bool false] 31) = V := ⟨_, rfl⟩
    obtain ⟨Q, hb⟩ : ∃ b, w4.heap.size = b := ⟨_, rfl⟩
    rw [hv] at r6 hA ⊢
    rw [hb] at r6 ⊢
    clear hv hb
    replace hN := (hN.trans hk2).trans hA
    replace rB := hA.heap (hk2.heap rB id) id
    replace r5 := hA.heap (hk2.heap r5 id) id
    obtain ⟨⟨k0, k1, k2, k3⟩, -⟩ := row_facts rB
    obtain ⟨⟨p0, p1⟩, -⟩ := pr_facts r5
    obtain ⟨⟨q0, q1⟩, -⟩ := pr_facts r6
    clear hk2 hA
    go_wp2_with (go_at_call 36; refine (HWk.out _ hN).mono ?_; rintro e w6 ⟨rfl, hk6⟩)
    go_ret
    exact ⟨rfl, hN.trans hk6⟩
  | false =>
    by_cases hk1 : k = 1
    · subst hk1
      obtain rfl : I = false := by simpa using hI2
      clear hI2
      by_cases h0 : 0 ≤ n
      · by_cases h7 : n ≤ 7
        · have hUn : n = U := by rw [hU1, if_pos]; simp [h0, h7]
          subst hUn
          have hw8 : IntKind.u8.wrap n = n := by rw [IntKind.wrap_u8]; omega
          have hd0 : decide (0 ≤ n) = true := decide_eq_true h0
          have hd7 : decide (n ≤ 7) = true := decide_eq_true h7
          clear hU1 hb h0 h7
          go_enter Tryz.func12, Tryz.ntmps12
          go_upto_region 1 with fail
          rw [HW.out, HD.out]
          clear HW HD
          go_upto_region 2 with (go_at_call 40; refine (H1.out _).mono ?_; rintro e w2 ⟨rfl, hk2⟩)
          have hA : New w2 (w2.alloc (.cells #[.int .u8 n, .bool false] 31)) := (Mods.refl _ _).alloc _
          have r5 := World.alloc_heap_new w2 (.cells #[.int .u8 n, .bool false] 31)
          obtain ⟨w3, hv⟩ : ∃ V, w2.alloc (.cells #[.int .u8 n, .bool false] 31) = V := ⟨_, rfl⟩
          obtain ⟨P, hb⟩ : ∃ b, w2.heap.size = b := ⟨_, rfl⟩
          rw [hv] at r5 hA ⊢
          rw [hb] at r5 ⊢
          clear hv hb
          replace hN := (hN.trans hk2).trans hA
          replace rB := hA.heap (hk2.heap rB id) id
          obtain ⟨⟨k0, k1, k2, k3⟩, -⟩ := row_facts rB
          clear hk2 hA
          go_upto_region 3 with (go_at_call 40; refine (H2.out _).mono ?_; rintro e w4 ⟨rfl, hk2⟩)
          have hA : New w4 (w4.alloc (.cells #[.int .u8 3, .bool false] 31)) := (Mods.refl _ _).alloc _
          have r6 := World.alloc_heap_new w4 (.cells #[.int .u8 3, .bool false] 31)
          obtain ⟨w5, hv⟩ : ∃ V, w4.alloc (.cells #[.int .u8 3, .bool false] 31) = V := ⟨_, rfl⟩
          obtain ⟨Q, hb⟩ : ∃ b, w4.heap.size = b := ⟨_, rfl⟩
          rw [hv] at r6 hA ⊢
          rw [hb] at r6 ⊢
          clear hv hb
          replace hN := (hN.trans hk2).trans hA
          replace rB := hA.heap (hk2.heap rB id) id
          replace r5 := hA.heap (hk2.heap r5 id) id
          obtain ⟨⟨k0, k1, k2, k3⟩, -⟩ := row_facts rB
          obtain ⟨⟨p0, p1⟩, -⟩ := pr_facts r5
          obtain ⟨⟨q0, q1⟩, -⟩ := pr_facts r6
          clear hk2 hA
          go_wp2_with (go_at_call 36; refine (HWk.out _ hN).mono ?_; rintro e w6 ⟨rfl, hk6⟩)
          go_ret
          exact ⟨rfl, hN.trans hk6⟩
        · obtain rfl : U = 3 := by rw [hU1, if_neg]; simp [h0, h7]
          have hd0 : decide (0 ≤ n) = true := decide_eq_true h0
          have hd7 : decide (n ≤ 7) = false := decide_eq_false h7
          clear hU1 hb h0 h7
          go_enter Tryz.func12, Tryz.ntmps12
          go_upto_region 1 with fail
          rw [HW.out, HD.out]
          clear HW HD
          go_upto_region 2 with (go_at_call 40; refine (H1.out _).mono ?_; rintro e w2 ⟨rfl, hk2⟩)
          have hA : New w2 (w2.alloc (.cells #[.int .u8 3, .bool false] 31)) := (Mods.refl _ _).alloc _
          have r5 := World.alloc_heap_new w2 (.cells #[.int .u8 3, .bool false] 31)
          obtain ⟨w3, hv⟩ : ∃ V, w2.alloc (.cells #[.int .u8 3, .bool false] 31) = V := ⟨_, rfl⟩
          obtain ⟨P, hb⟩ : ∃ b, w2.heap.size = b := ⟨_, rfl⟩
          rw [hv] at r5 hA ⊢
          rw [hb] at r5 ⊢
          clear hv hb
          replace hN := (hN.trans hk2).trans hA
          replace rB := hA.heap (hk2.heap rB id) id
          obtain ⟨⟨k0, k1, k2, k3⟩, -⟩ := row_facts rB
          clear hk2 hA
          go_upto_region 3 with (go_at_call 40; refine (H2.out _).mono ?_; rintro e w4 ⟨rfl, hk2⟩)
          have hA : New w4 (w4.alloc (.cells #[.int .u8 3, .bool false] 31)) := (Mods.refl _ _).alloc _
          have r6 := World.alloc_heap_new w4 (.cells #[.int .u8 3, .bool false] 31)
          obtain ⟨w5, hv⟩ : ∃ V, w4.alloc (.cells #[.int .u8 3, .bool false] 31) = V := ⟨_, rfl⟩
          obtain ⟨Q, hb⟩ : ∃ b, w4.heap.size = b := ⟨_, rfl⟩
          rw [hv] at r6 hA ⊢
          rw [hb] at r6 ⊢
          clear hv hb
          replace hN := (hN.trans hk2).trans hA
          replace rB := hA.heap (hk2.heap rB id) id
          replace r5 := hA.heap (hk2.heap r5 id) id
          obtain ⟨⟨k0, k1, k2, k3⟩, -⟩ := row_facts rB
          obtain ⟨⟨p0, p1⟩, -⟩ := pr_facts r5
          obtain ⟨⟨q0, q1⟩, -⟩ := pr_facts r6
          clear hk2 hA
          go_wp2_with (go_at_call 36; refine (HWk.out _ hN).mono ?_; rintro e w6 ⟨rfl, hk6⟩)
          go_ret
          exact ⟨rfl, hN.trans hk6⟩
      · obtain rfl : U = 3 := by rw [hU1, if_neg]; simp [h0]
        have hd0 : decide (0 ≤ n) = false := decide_eq_false h0
        clear hU1 hb h0
        go_enter Tryz.func12, Tryz.ntmps12
        go_upto_region 1 with fail
        rw [HW.out, HD.out]
        clear HW HD
        go_upto_region 2 with (go_at_call 40; refine (H1.out _).mono ?_; rintro e w2 ⟨rfl, hk2⟩)
        have hA : New w2 (w2.alloc (.cells #[.int .u8 3, .bool false] 31)) := (Mods.refl _ _).alloc _
        have r5 := World.alloc_heap_new w2 (.cells #[.int .u8 3, .bool false] 31)
        obtain ⟨w3, hv⟩ : ∃ V, w2.alloc (.cells #[.int .u8 3, .bool false] 31) = V := ⟨_, rfl⟩
        obtain ⟨P, hb⟩ : ∃ b, w2.heap.size = b := ⟨_, rfl⟩
        rw [hv] at r5 hA ⊢
        rw [hb] at r5 ⊢
        clear hv hb
        replace hN := (hN.trans hk2).trans hA
        replace rB := hA.heap (hk2.heap rB id) id
        obtain ⟨⟨k0, k1, k2, k3⟩, -⟩ := row_facts rB
        clear hk2 hA
        go_upto_region 3 with (go_at_call 40; refine (H2.out _).mono ?_; rintro e w4 ⟨rfl, hk2⟩)
        have hA : New w4 (w4.alloc (.cells #[.int .u8 3, .bool false] 31)) := (Mods.refl _ _).alloc _
        have r6 := World.alloc_heap_new w4 (.cells #[.int .u8 3, .bool false] 31)
        obtain ⟨w5, hv⟩ : ∃ V, w4.alloc (.cells #[.int .u8 3, .bool false] 31) = V := ⟨_, rfl⟩
        obtain ⟨Q, hb⟩ : ∃ b, w4.heap.size = b := ⟨_, rfl⟩
        rw [hv] at r6 hA ⊢
        rw [hb] at r6 ⊢
        clear hv hb
        replace hN := (hN.trans hk2).trans hA
        replace rB := hA.heap (hk2.heap rB id) id
        replace r5 := hA.heap (hk2.heap r5 id) id
        obtain ⟨⟨k0, k1, k2, k3⟩, -⟩ := row_facts rB
        obtain ⟨⟨p0, p1⟩, -⟩ := pr_facts r5
        obtain ⟨⟨q0, q1⟩, -⟩ := pr_facts r6
        clear hk2 hA
        go_wp2_with (go_at_call 36; refine (HWk.out _ hN).mono ?_; rintro e w6 ⟨rfl, hk6⟩)
        go_ret
        exact ⟨rfl, hN.trans hk6⟩
    · obtain rfl : U = 3 := by rw [hU1, if_neg]; simp [hk1]
      have hkb : (k == 1) = false := by simpa using hk1
      clear hU1 hb
      by_cases hk6 : k = 6
      · subst hk6
        have hIy : y = I := by simpa using hI2.symm
        subst hIy
        clear hI2 hk1
        go_enter Tryz.func12, Tryz.ntmps12
        go_upto_region 1 with fail
        rw [HW.out, HD.out]
        clear HW HD
        go_upto_region 2 with (go_at_call 40; refine (H1.out _).mono ?_; rintro e w2 ⟨rfl, hk2⟩)
        have hA : New w2 (w2.alloc (.cells #[.int .u8 3, .bool false] 31)) := (Mods.refl _ _).alloc _
        have r5 := World.alloc_heap_new w2 (.cells #[.int .u8 3, .bool false] 31)
        obtain ⟨w3, hv⟩ : ∃ V, w2.alloc (.cells #[.int .u8 3, .bool false] 31) = V := ⟨_, rfl⟩
        obtain ⟨P, hb⟩ : ∃ b, w2.heap.size = b := ⟨_, rfl⟩
        rw [hv] at r5 hA ⊢
        rw [hb] at r5 ⊢
        clear hv hb
        replace hN := (hN.trans hk2).trans hA
        replace rB := hA.heap (hk2.heap rB id) id
        obtain ⟨⟨k0, k1, k2, k3⟩, -⟩ := row_facts rB
        clear hk2 hA
        go_upto_region 3 with (go_at_call 40; refine (H2.out _).mono ?_; rintro e w4 ⟨rfl, hk2⟩)
        have hA : New w4 (w4.alloc (.cells #[.int .u8 3, .bool y] 31)) := (Mods.refl _ _).alloc _
        have r6 := World.alloc_heap_new w4 (.cells #[.int .u8 3, .bool y] 31)
        obtain ⟨w5, hv⟩ : ∃ V, w4.alloc (.cells #[.int .u8 3, .bool y] 31) = V := ⟨_, rfl⟩
        obtain ⟨Q, hb⟩ : ∃ b, w4.heap.size = b := ⟨_, rfl⟩
        rw [hv] at r6 hA ⊢
        rw [hb] at r6 ⊢
        clear hv hb
        replace hN := (hN.trans hk2).trans hA
        replace rB := hA.heap (hk2.heap rB id) id
        replace r5 := hA.heap (hk2.heap r5 id) id
        obtain ⟨⟨k0, k1, k2, k3⟩, -⟩ := row_facts rB
        obtain ⟨⟨p0, p1⟩, -⟩ := pr_facts r5
        obtain ⟨⟨q0, q1⟩, -⟩ := pr_facts r6
        clear hk2 hA
        go_wp2_with (go_at_call 36; refine (HWk.out _ hN).mono ?_; rintro e w6 ⟨rfl, hk6⟩)
        go_ret
        exact ⟨rfl, hN.trans hk6⟩
      · obtain rfl : I = false := by rw [hI2]; simp [hk6]
        have hk6b : (k == 6) = false := by simpa using hk6
        clear hI2 hk1 hk6
        go_enter Tryz.func12, Tryz.ntmps12
        go_upto_region 1 with fail
        rw [HW.out, HD.out]
        clear HW HD
        go_upto_region 2 with (go_at_call 40; refine (H1.out _).mono ?_; rintro e w2 ⟨rfl, hk2⟩)
        have hA : New w2 (w2.alloc (.cells #[.int .u8 3, .bool false] 31)) := (Mods.refl _ _).alloc _
        have r5 := World.alloc_heap_new w2 (.cells #[.int .u8 3, .bool false] 31)
        obtain ⟨w3, hv⟩ : ∃ V, w2.alloc (.cells #[.int .u8 3, .bool false] 31) = V := ⟨_, rfl⟩
        obtain ⟨P, hb⟩ : ∃ b, w2.heap.size = b := ⟨_, rfl⟩
        rw [hv] at r5 hA ⊢
        rw [hb] at r5 ⊢
        clear hv hb
        replace hN := (hN.trans hk2).trans hA
        replace rB := hA.heap (hk2.heap rB id) id
        obtain ⟨⟨k0, k1, k2, k3⟩, -⟩ := row_facts rB
        clear hk2 hA
        go_upto_region 3 with (go_at_call 40; refine (H2.out _).mono ?_; rintro e w4 ⟨rfl, hk2⟩)
        have hA : New w4 (w4.alloc (.cells #[.int .u8 3, .bool false] 31)) := (Mods.refl _ _).alloc _
        have r6 := World.alloc_heap_new w4 (.cells #[.int .u8 3, .bool false] 31)
        obtain ⟨w5, hv⟩ : ∃ V, w4.alloc (.cells #[.int .u8 3, .bool false] 31) = V := ⟨_, rfl⟩
        obtain ⟨Q, hb⟩ : ∃ b, w4.heap.size = b := ⟨_, rfl⟩
        rw [hv] at r6 hA ⊢
        rw [hb] at r6 ⊢
        clear hv hb
        replace hN := (hN.trans hk2).trans hA
        replace rB := hA.heap (hk2.heap rB id) id
        replace r5 := hA.heap (hk2.heap r5 id) id
        obtain ⟨⟨k0, k1, k2, k3⟩, -⟩ := row_facts rB
        obtain ⟨⟨p0, p1⟩, -⟩ := pr_facts r5
        obtain ⟨⟨q0, q1⟩, -⟩ := pr_facts r6
        clear hk2 hA
        go_wp2_with (go_at_call 36; refine (HWk.out _ hN).mono ?_; rintro e w6 ⟨rfl, hk6⟩)
        go_ret
        exact ⟨rfl, hN.trans hk6⟩
end Go.Proofs.YtkiiameibdhdfaaGreatDoor
