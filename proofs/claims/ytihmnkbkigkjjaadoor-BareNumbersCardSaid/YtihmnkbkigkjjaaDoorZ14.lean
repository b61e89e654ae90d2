/- Items' texts (the program). -/
import Derived.Test.YtihmnkbkigkjjaaDoorZ13
import Derived.Test.YtihmnkbkigkjjaaDoorZ11
namespace Go.Proofs.YtihmnkbkigkjjaaDoor
open Go.RowKit Go.Shelf Go.Cs
attribute [local go_sem] Oper.semAt_some
set_option linter.unusedVariables false
set_option linter.unusedSimpArgs false
def printV (r : Option Bare.Bs) : Value := match r with
  | some l => .tuple #[.string (tx l), .int .i64 0]
  | none => .tuple #[.string ⟨#[]⟩, .int .i64 2]
theorem right_kind {b : Bare.It} (h : Bare.rightI b = true) : b.kind = 1 ∨ b.kind = 2 ∨ b.kind = 3 ∨ b.kind = 4 ∨ b.kind = 5 ∨ b.kind = 6 := by
  unfold Bare.rightI at h
  split at h
  · omega
  · split at h
    · omega
    · split at h
      · omega
      · split at h
        · omega
        · split at h
          · omega
          · cases h
theorem right_num {b : Bare.It} (h : Bare.rightI b = true) (hk : b.kind = 1 ∨ b.kind = 2) : -999999999999999 ≤ b.int ∧ b.int ≤ 999999999999999 := by
  unfold Bare.rightI at h
  rw [if_pos hk] at h
  simp only [Bool.and_eq_true, decide_eq_true_eq] at h
  exact ⟨h.1, h.2.1⟩
theorem rep_len (c : UInt8) (new : Bare.Bs) (l : Bare.Bs) (n : Nat) (hl : l.length ≤ n) (hn : new.length ≤ 2) : (Bare.rep1 c new l).length ≤ n * 3 :=
  Nat.le_trans (Bare.rep1_len c new l) (Nat.mul_le_mul hl (by omega))
set_option maxHeartbeats 4000000 in
set_option maxRecDepth 100000 in
theorem print_any (b : Bare.It) (h0 : 0 ≤ b.kind) (hl : b.text.length ≤ 10000) (w : World) (hT : Tab w) :
    Calls Tryd.prog 8 #[bv b] w fun e w' => e = .returned (printV (Bare.printI b)) ∧ New w w' := by
  have HRt := Lib.hid (fun W => right_any b h0 (by omega) W)
  obtain ⟨hN, hr⟩ := box_row w b
  cases hrt : Bare.rightI b with
  | false =>
    have e : Bare.printI b = none := by unfold Bare.printI; rw [if_pos hrt]
    rw [e]
    rw [hrt] at HRt
    unfold printV
    clear hrt e
    obtain ⟨k, n, t, y⟩ := b
    unfold bv bcs at *
    simp only at hN hr HRt ⊢
    obtain ⟨s, hs⟩ : ∃ s, tx t = s := ⟨_, rfl⟩
    rw [hs] at hN hr HRt ⊢
    go_enter Tryd.func8, Tryd.ntmps8
    go_upto_region 1 with fail
    obtain ⟨W, hW⟩ : ∃ W, w.alloc (.cells #[.int .u8 k, .int .i64 n, .string s, .bool y] 23) = W := ⟨_, rfl⟩
    rw [hW] at hN hr ⊢
    obtain ⟨B, hB⟩ : ∃ B, w.heap.size = B := ⟨_, rfl⟩
    rw [hB] at hr ⊢
    clear hW hB
    obtain ⟨⟨c0, c1, c2, c3⟩, f0, f1, f2, f3⟩ := row_facts hr
    go_wp2_with fail
    refine (HRt.out _).mono ?_
    rintro e w1 ⟨rfl, hN1⟩
    go_wp2_with fail
    go_ret2
    exact ⟨rfl, hN.trans hN1⟩
  | true =>
    have hk := right_kind hrt
    have hnum := right_num hrt
    have e0 : Bare.printI b = (if b.kind = 1 then some (Lib.itoa b.int) else if b.kind = 2 then some (Bare.decimal b.int) else if b.kind = 3 then some (34 :: (Bare.esc b.text ++ [34])) else if b.kind = 5 then some (58 :: (Bare.sixes b.text ++ [58])) else if b.kind = 6 then some [63, if b.yes then 49 else 48] else some b.text) := by
      unfold Bare.printI; rw [if_neg (by rw [hrt]; decide)]
    rw [e0]
    rw [hrt] at HRt
    unfold printV
    clear e0 hrt
    obtain ⟨k, n, t, y⟩ := b
    simp only at hk hnum hl h0 ⊢
    unfold bv bcs at *
    simp only at hN hr HRt ⊢
    rcases hk with rfl | rfl | rfl | rfl | rfl | rfl
    · rw [if_pos rfl]
      simp only
      obtain ⟨s, hs⟩ : ∃ s, tx t = s := ⟨_, rfl⟩
      rw [hs] at hN hr HRt ⊢
      have HI := Lib.hid (fun W (hN : New w W) => itoa_any n (by have := hnum (.inl rfl); omega) (by have := hnum (.inl rfl); omega) W (hT.new hN))
      obtain ⟨x, hx⟩ : ∃ x, tx (Lib.itoa n) = x := ⟨_, rfl⟩
      rw [hx] at HI ⊢
      clear hnum hx
      go_enter Tryd.func8, Tryd.ntmps8
      go_upto_region 1 with fail
      obtain ⟨W, hW⟩ : ∃ W, w.alloc (.cells #[.int .u8 1, .int .i64 n, .string s, .bool y] 23) = W := ⟨_, rfl⟩
      rw [hW] at hN hr ⊢
      obtain ⟨B, hB⟩ : ∃ B, w.heap.size = B := ⟨_, rfl⟩
      rw [hB] at hr ⊢
      clear hW hB
      obtain ⟨⟨c0, c1, c2, c3⟩, f0, f1, f2, f3⟩ := row_facts hr
      go_wp2_with fail
      refine (HRt.out _).mono ?_
      rintro e w1 ⟨rfl, hN1⟩
      have hN := hN.trans hN1
      have hr := hN1.heap hr id
      clear c0 c1 c2 c3 f0 f1 f2 f3
      obtain ⟨⟨c0, c1, c2, c3⟩, f0, f1, f2, f3⟩ := row_facts hr
      go_wp2_with (go_at_call 14; refine (HI.out _ hN).mono ?_; rintro e w2 ⟨rfl, hN2⟩)
      go_ret2
      exact ⟨rfl, hN.trans hN2⟩
    · rw [if_neg (by decide), if_pos rfl]
      simp only
      obtain ⟨s, hs⟩ : ∃ s, tx t = s := ⟨_, rfl⟩
      rw [hs] at hN hr HRt ⊢
      have HI := Lib.hid (fun W (hN : New w W) => decimal_any n (hnum (.inr rfl)).1 (hnum (.inr rfl)).2 W (hT.new hN))
      obtain ⟨x, hx⟩ : ∃ x, tx (Bare.decimal n) = x := ⟨_, rfl⟩
      rw [hx] at HI ⊢
      clear hnum hx
      go_enter Tryd.func8, Tryd.ntmps8
      go_upto_region 1 with fail
      obtain ⟨W, hW⟩ : ∃ W, w.alloc (.cells #[.int .u8 2, .int .i64 n, .string s, .bool y] 23) = W := ⟨_, rfl⟩
      rw [hW] at hN hr ⊢
      obtain ⟨B, hB⟩ : ∃ B, w.heap.size = B := ⟨_, rfl⟩
      rw [hB] at hr ⊢
      clear hW hB
      obtain ⟨⟨c0, c1, c2, c3⟩, f0, f1, f2, f3⟩ := row_facts hr
      go_wp2_with fail
      refine (HRt.out _).mono ?_
      rintro e w1 ⟨rfl, hN1⟩
      have hN := hN.trans hN1
      have hr := hN1.heap hr id
      clear c0 c1 c2 c3 f0 f1 f2 f3
      obtain ⟨⟨c0, c1, c2, c3⟩, f0, f1, f2, f3⟩ := row_facts hr
      go_wp2_with (go_at_call 15; refine (HI.out _ hN).mono ?_; rintro e w2 ⟨rfl, hN2⟩)
      go_ret2
      exact ⟨rfl, hN.trans hN2⟩
    · rw [if_neg (by decide), if_neg (by decide), if_pos rfl]
      simp only
      rw [Bare.esc_rep]
      have hr1 := rep_len 92 [92, 92] t 10000 hl (by decide)
      have hr2 := rep_len 34 [92, 34] _ _ hr1 (by decide)
      have H1 := Lib.hid (fun W (hN : New w W) => rep1_tx 92 [92, 92] (by decide) (tx t) W (by rw [tx_size]; omega) (by decide) (hT.new hN))
      have H2 := Lib.hid (fun W (hN : New w W) => rep1_tx 34 [92, 34] (by decide) (tx (Bare.rep1 92 [92, 92] t)) W (by rw [tx_size]; omega) (by decide) (hT.new hN))
      rw [bl_tx] at H1 H2
      obtain ⟨s, hs⟩ : ∃ s, tx t = s := ⟨_, rfl⟩
      rw [hs] at hN hr HRt H1 ⊢
      obtain ⟨l1, hl1⟩ : ∃ l, Bare.rep1 92 [92, 92] t = l := ⟨_, rfl⟩
      rw [hl1] at H1 H2 hr1 hr2 ⊢
      obtain ⟨l2, hl2⟩ : ∃ l, Bare.rep1 34 [92, 34] l1 = l := ⟨_, rfl⟩
      rw [hl2] at H2 hr2 ⊢
      obtain ⟨x1, hx1⟩ : ∃ x, tx l1 = x := ⟨_, rfl⟩
      rw [hx1] at H1 H2
      obtain ⟨x2, hx2⟩ : ∃ x, tx l2 = x := ⟨_, rfl⟩
      have hz2 : x2.size ≤ 90000 := by rw [← hx2, tx_size]; exact hr2
      have hbl : l2 = bl x2 := by rw [← hx2]
      rw [hx2] at H2
      rw [hbl]
      clear hnum hl1 hl2 hx1 hx2 hr1 hr2 hbl hs hl
      have H1 : Hid (∀ W, New w W → Calls Tryd.prog 16 #[.string s, .string ⟨#[92]⟩, .string ⟨#[92, 92]⟩] W fun e w' => e = .returned (.string x1) ∧ New W w') := H1
      have H2 : Hid (∀ W, New w W → Calls Tryd.prog 16 #[.string x1, .string ⟨#[34]⟩, .string ⟨#[92, 34]⟩] W fun e w' => e = .returned (.string x2) ∧ New W w') := H2
      go_enter Tryd.func8, Tryd.ntmps8
      go_upto_region 1 with fail
      obtain ⟨W, hW⟩ : ∃ W, w.alloc (.cells #[.int .u8 3, .int .i64 n, .string s, .bool y] 23) = W := ⟨_, rfl⟩
      rw [hW] at hN hr ⊢
      obtain ⟨B, hB⟩ : ∃ B, w.heap.size = B := ⟨_, rfl⟩
      rw [hB] at hr ⊢
      clear hW hB
      obtain ⟨⟨c0, c1, c2, c3⟩, f0, f1, f2, f3⟩ := row_facts hr
      go_wp2_with fail
      refine (HRt.out _).mono ?_
      rintro e w1 ⟨rfl, hN1⟩
      have hN := hN.trans hN1
      have hr := hN1.heap hr id
      clear c0 c1 c2 c3 f0 f1 f2 f3
      obtain ⟨⟨c0, c1, c2, c3⟩, f0, f1, f2, f3⟩ := row_facts hr
      go_wp2_with (first | (go_at_call 16; with_reducible refine (H1.out _ hN).mono ?_; rintro e w2 ⟨rfl, hN2⟩) | (go_at_call 16; with_reducible refine (H2.out _ (hN.trans hN2)).mono ?_; rintro e w3 ⟨rfl, hN3⟩))
      go_ret2
      refine ⟨congrArg (fun x => Ending.returned (.tuple #[.string x, .int .i64 0])) (?_ : ⟨#[34]⟩ ++ x2 ++ ⟨#[34]⟩ = _), (hN.trans hN2).trans hN3⟩
      simp only [cat_bl]
      exact congrArg tx (by show [34] ++ bl x2 ++ [34] = _; simp)
    · rw [if_neg (by decide), if_neg (by decide), if_neg (by decide), if_neg (by decide), if_neg (by decide)]
      simp only
      obtain ⟨s, hs⟩ : ∃ s, tx t = s := ⟨_, rfl⟩
      rw [hs] at hN hr HRt ⊢
      go_enter Tryd.func8, Tryd.ntmps8
      go_upto_region 1 with fail
      obtain ⟨W, hW⟩ : ∃ W, w.alloc (.cells #[.int .u8 4, .int .i64 n, .string s, .bool y] 23) = W := ⟨_, rfl⟩
      rw [hW] at hN hr ⊢
      obtain ⟨B, hB⟩ : ∃ B, w.heap.size = B := ⟨_, rfl⟩
      rw [hB] at hr ⊢
      clear hW hB
      obtain ⟨⟨c0, c1, c2, c3⟩, f0, f1, f2, f3⟩ := row_facts hr
      go_wp2_with fail
      refine (HRt.out _).mono ?_
      rintro e w1 ⟨rfl, hN1⟩
      have hN := hN.trans hN1
      have hr := hN1.heap hr id
      clear c0 c1 c2 c3 f0 f1 f2 f3
      obtain ⟨⟨c0, c1, c2, c3⟩, f0, f1, f2, f3⟩ := row_facts hr
      go_wp2_with fail
      go_ret2
      exact ⟨rfl, hN⟩
    · rw [if_neg (by decide), if_neg (by decide), if_neg (by decide), if_pos rfl]
      simp only
      have H1 := Lib.hid (fun W => sixes_any (tx t) W (by rw [tx_size]; omega))
      rw [bl_tx] at H1
      have hz := Bare.sixes_len t
      obtain ⟨s, hs⟩ : ∃ s, tx t = s := ⟨_, rfl⟩
      rw [hs] at hN hr HRt H1 ⊢
      obtain ⟨l2, hl2⟩ : ∃ l, Bare.sixes t = l := ⟨_, rfl⟩
      rw [hl2] at H1 hz ⊢
      obtain ⟨x2, hx2⟩ : ∃ x, tx l2 = x := ⟨_, rfl⟩
      have hz2 : x2.size ≤ 90000 := by rw [← hx2, tx_size]; omega
      have hbl : l2 = bl x2 := by rw [← hx2]
      rw [hx2] at H1
      rw [hbl]
      clear hnum hl2 hx2 hbl hs hl hz
      go_enter Tryd.func8, Tryd.ntmps8
      go_upto_region 1 with fail
      obtain ⟨W, hW⟩ : ∃ W, w.alloc (.cells #[.int .u8 5, .int .i64 n, .string s, .bool y] 23) = W := ⟨_, rfl⟩
      rw [hW] at hN hr ⊢
      obtain ⟨B, hB⟩ : ∃ B, w.heap.size = B := ⟨_, rfl⟩
      rw [hB] at hr ⊢
      clear hW hB
      obtain ⟨⟨c0, c1, c2, c3⟩, f0, f1, f2, f3⟩ := row_facts hr
      go_wp2_with fail
      refine (HRt.out _).mono ?_
      rintro e w1 ⟨rfl, hN1⟩
      have hN := hN.trans hN1
      have hr := hN1.heap hr id
      clear c0 c1 c2 c3 f0 f1 f2 f3
      obtain ⟨⟨c0, c1, c2, c3⟩, f0, f1, f2, f3⟩ := row_facts hr
      go_wp2_with (go_at_call 11; refine (H1.out _).mono ?_; rintro e w2 ⟨rfl, hN2⟩)
      go_ret2
      refine ⟨congrArg (fun x => Ending.returned (.tuple #[.string x, .int .i64 0])) (?_ : ⟨#[58]⟩ ++ x2 ++ ⟨#[58]⟩ = _), hN.trans hN2⟩
      simp only [cat_bl]
      exact congrArg tx (by show [58] ++ bl x2 ++ [58] = _; simp)
    · rw [if_neg (by decide), if_neg (by decide), if_neg (by decide), if_neg (by decide), if_pos rfl]
      simp only
      obtain ⟨s, hs⟩ : ∃ s, tx t = s := ⟨_, rfl⟩
      rw [hs] at hN hr HRt ⊢
      cases y
      · go_enter Tryd.func8, Tryd.ntmps8
        go_upto_region 1 with fail
        obtain ⟨W, hW⟩ : ∃ W, w.alloc (.cells #[.int .u8 6, .int .i64 n, .string s, .bool false] 23) = W := ⟨_, rfl⟩
        rw [hW] at hN hr ⊢
        obtain ⟨B, hB⟩ : ∃ B, w.heap.size = B := ⟨_, rfl⟩
        rw [hB] at hr ⊢
        clear hW hB
        obtain ⟨⟨c0, c1, c2, c3⟩, f0, f1, f2, f3⟩ := row_facts hr
        go_wp2_with fail
        refine (HRt.out _).mono ?_
        rintro e w1 ⟨rfl, hN1⟩
        have hN := hN.trans hN1
        have hr := hN1.heap hr id
        clear c0 c1 c2 c3 f0 f1 f2 f3
        obtain ⟨⟨c0, c1, c2, c3⟩, f0, f1, f2, f3⟩ := row_facts hr
        go_wp2_with fail
        go_ret2
        exact ⟨rfl, hN⟩
      · go_enter Tryd.func8, Tryd.ntmps8
        go_upto_region 1 with fail
        obtain ⟨W, hW⟩ : ∃ W, w.alloc (.cells #[.int .u8 6, .int .i64 n, .string s, .bool true] 23) = W := ⟨_, rfl⟩
        rw [hW] at hN hr ⊢
        obtain ⟨B, hB⟩ : ∃ B, w.heap.size = B := ⟨_, rfl⟩
        rw [hB] at hr ⊢
        clear hW hB
        obtain ⟨⟨c0, c1, c2, c3⟩, f0, f1, f2, f3⟩ := row_facts hr
        go_wp2_with fail
        refine (HRt.out _).mono ?_
        rintro e w1 ⟨rfl, hN1⟩
        have hN := hN.trans hN1
        have hr := hN1.heap hr id
        clear c0 c1 c2 c3 f0 f1 f2 f3
        obtain ⟨⟨c0, c1, c2, c3⟩, f0, f1, f2, f3⟩ := row_facts hr
        go_wp2_with fail
        go_ret2
        exact ⟨rfl, hN⟩
end Go.Proofs.YtihmnkbkigkjjaaDoor
