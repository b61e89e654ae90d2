/- Bytes by sixes, strings read (the program). -/
import Derived.Test.YtihmnkbkigkjjaaDoorZ7
import Derived.Lib.SmallJoins
namespace Go.Proofs.YtihmnkbkigkjjaaDoor
open Go.RowKit Go.Shelf Go.Cs
attribute [local go_sem] Oper.semAt_some
set_option linter.unusedVariables false
set_option linter.unusedSimpArgs false
/-- What is asked of package-level variables. -/
structure Tab (W : World) : Prop where
  pow : Lib.TabIs Tryd.prog W "internal/strconv.uint64pow10" .u64 Lib.pow10Tab
  max : ∃ m, W.cell? ⟨0, 0, none⟩ = some (.int .i64 m)
theorem gPow : Tryd.prog.globalNamed "internal/strconv.uint64pow10" = some 1 := by kernel_rfl
theorem Tab.new {W W' : World} (h : Tab W) (hN : New W W') : Tab W' := by
  refine ⟨?_, ?_⟩
  · exact Go.Joins.tab_stays gPow h.pow hN.toBelow (Nat.le_refl _)
  · obtain ⟨m, hm⟩ := h.max
    exact ⟨m, hN.cell hm id⟩
theorem drewN_new (w : World) (n : Nat) : New w (w.drewN n) := (Mods.refl _ _).drewN n
theorem cut_any (s : ByteArray) (w : World) (hs : s.size ≤ 1000000) (hT : Tab w) :
    Calls Tryd.prog 42 #[.string s, .string ⟨#[58]⟩] w fun e w' => e = .returned (.tuple #[.string (tx (Lib.cut (bl s) [58]).1), .string (tx (Lib.cut (bl s) [58]).2.1), .bool (Lib.cut (bl s) [58]).2.2]) ∧ New w w' := by
  obtain ⟨m, hm⟩ := hT.max
  refine (Tryd.strings_Cut s ⟨#[58]⟩ m w (by omega) hm).mono ?_
  rintro e w' ⟨he, n, hw⟩
  exact ⟨he, by rw [hw]; exact drewN_new _ _⟩
set_option maxHeartbeats 2000000 in
theorem packed_read (s : ByteArray) (w : World) (hs : s.size ≤ 1000000) (h0 : 0 < s.size) (hT : Tab w) :
    Calls Tryd.prog 23 #[.string s] w (ReadP (Bare.packed ((bl s).drop 1)) w) := by
  have hs1 : ∀ W, (Instr.slice 9 (.string s) (some (.int .i64 1)) none none).run Tryd.prog W = .ok (.string (tx ((bl s).drop 1))) W := run_sl_l s 1 (by omega)
  obtain ⟨T, hTt⟩ : ∃ T, tx ((bl s).drop 1) = T := ⟨_, rfl⟩
  have hTl : (bl s).drop 1 = bl T := by rw [← hTt]
  have hTs : T.size ≤ 1000000 := by rw [← hTt, tx_size, List.length_drop, bl_len]; omega
  rw [hTt] at hs1
  rw [hTl]
  clear hTt hTl
  have HC := Lib.hid (fun W (hN : New w W) => cut_any T W hTs (hT.new hN))
  rw [Bare.cut_colon, bl_len] at HC
  have hin := Bare.takeWhile_len (· != 58) (bl T)
  unfold Bare.packed
  simp only
  rw [bl_len]
  obtain ⟨inn, hinn⟩ : ∃ x, (bl T).takeWhile (· != 58) = x := ⟨_, rfl⟩
  rw [hinn] at HC hin ⊢
  rw [bl_len] at hin
  clear hinn
  obtain ⟨hN, hr⟩ := no_row w
  by_cases hend : inn.length = T.size
  · rw [if_pos hend] at HC
    rw [if_pos hend]
    simp only at HC
    rw [tx_bl] at HC
    have HU := Lib.hid (fun W => unsix_any T W hTs)
    obtain ⟨r, hr'⟩ : ∃ r, Bare.unsix (bl T) = r := ⟨_, rfl⟩
    rw [hr'] at HU
    clear hr' hend hin
    unfold ReadP bv bcs noIt unsixV at *
    simp only
    cases r <;> simp only at HU
    all_goals
      go_enter Tryd.func23, Tryd.ntmps23
      go_upto_region 1 with fail
      obtain ⟨W, hW⟩ : ∃ W, w.alloc (.cells #[.int .u8 0, .int .i64 0, .string ⟨#[]⟩, .bool false] 23) = W := ⟨_, rfl⟩
      rw [hW] at hN hr ⊢
      obtain ⟨B, hB⟩ : ∃ B, w.heap.size = B := ⟨_, rfl⟩
      have hBw : w.heap.size ≤ B := by omega
      rw [hB] at hr ⊢
      clear hW hB
      obtain ⟨⟨c0, c1, c2, c3⟩, f0, f1, f2, f3⟩ := row_facts hr
      go_upto_region 4 with (first | (go_at_call 42; refine (HC.out _ hN).mono ?_; rintro e w1 ⟨rfl, hN1⟩) | (go_at_call 12; refine (HU.out _).mono ?_; rintro e w2 ⟨rfl, hN2⟩))
      have hN := hN.trans (hN1.trans hN2)
      have hr := (hN1.trans hN2).heap hr id
      clear c0 c1 c2 c3 f0 f1 f2 f3
      obtain ⟨⟨c0, c1, c2, c3⟩, f0, f1, f2, f3⟩ := row_facts hr
      go_wp2_with fail
      obtain ⟨hN2, hr2⟩ := set4 hN hBw hr (.int .u8 0) (.int .i64 0) (.string ⟨#[]⟩) (.bool false)
      obtain ⟨W2, hW2⟩ : ∃ W2, ((((w2.setCell ⟨B, 0, none⟩ (.int .u8 0)).setCell ⟨B, 1, none⟩ (.int .i64 0)).setCell ⟨B, 2, none⟩ (.string ⟨#[]⟩)).setCell ⟨B, 3, none⟩ (.bool false)) = W2 := ⟨_, rfl⟩
      rw [hW2] at hN2 hr2 ⊢
      exact read_end (by kernel_rfl) rfl rfl rfl hr2 ⟨rfl, hN2⟩
  · rw [if_neg hend] at HC
    rw [if_neg hend]
    simp only at HC
    have HU := Lib.hid (fun W => unsix_any (tx inn) W (by rw [tx_size]; omega))
    rw [bl_tx] at HU
    obtain ⟨r, hr'⟩ : ∃ r, Bare.unsix inn = r := ⟨_, rfl⟩
    rw [hr'] at HU ⊢
    obtain ⟨ti, hti⟩ : ∃ x, tx inn = x := ⟨_, rfl⟩
    obtain ⟨x, hx⟩ : ∃ x, tx ((bl T).drop (inn.length + 1)) = x := ⟨_, rfl⟩
    rw [hti] at HU HC
    rw [hx] at HC
    cases r with
    | none =>
      unfold ReadP bv bcs noIt unsixV at *
      simp only [Option.map_none]
      simp only at HU
      clear hr' hend hin hti hx
      go_enter Tryd.func23, Tryd.ntmps23
      go_upto_region 1 with fail
      obtain ⟨W, hW⟩ : ∃ W, w.alloc (.cells #[.int .u8 0, .int .i64 0, .string ⟨#[]⟩, .bool false] 23) = W := ⟨_, rfl⟩
      rw [hW] at hN hr ⊢
      obtain ⟨B, hB⟩ : ∃ B, w.heap.size = B := ⟨_, rfl⟩
      have hBw : w.heap.size ≤ B := by omega
      rw [hB] at hr ⊢
      clear hW hB
      obtain ⟨⟨c0, c1, c2, c3⟩, f0, f1, f2, f3⟩ := row_facts hr
      go_upto_region 4 with (first | (go_at_call 42; refine (HC.out _ hN).mono ?_; rintro e w1 ⟨rfl, hN1⟩) | (go_at_call 12; refine (HU.out _).mono ?_; rintro e w2 ⟨rfl, hN2⟩))
      have hN := hN.trans (hN1.trans hN2)
      have hr := (hN1.trans hN2).heap hr id
      clear c0 c1 c2 c3 f0 f1 f2 f3
      obtain ⟨⟨c0, c1, c2, c3⟩, f0, f1, f2, f3⟩ := row_facts hr
      go_wp2_with fail
      obtain ⟨hN2, hr2⟩ := set4 hN hBw hr (.int .u8 0) (.int .i64 0) (.string ⟨#[]⟩) (.bool false)
      obtain ⟨W2, hW2⟩ : ∃ W2, ((((w2.setCell ⟨B, 0, none⟩ (.int .u8 0)).setCell ⟨B, 1, none⟩ (.int .i64 0)).setCell ⟨B, 2, none⟩ (.string ⟨#[]⟩)).setCell ⟨B, 3, none⟩ (.bool false)) = W2 := ⟨_, rfl⟩
      rw [hW2] at hN2 hr2 ⊢
      exact read_end (by kernel_rfl) rfl rfl rfl hr2 ⟨rfl, hN2⟩
    | some t =>
      unfold ReadP bv bcs unsixV at *
      simp only [Option.map_some]
      simp only at HU
      rw [hx]
      obtain ⟨y, hy⟩ : ∃ y, tx t = y := ⟨_, rfl⟩
      rw [hy] at HU ⊢
      clear hr' hend hin hti hx hy
      go_enter Tryd.func23, Tryd.ntmps23
      go_upto_region 1 with fail
      obtain ⟨W, hW⟩ : ∃ W, w.alloc (.cells #[.int .u8 0, .int .i64 0, .string ⟨#[]⟩, .bool false] 23) = W := ⟨_, rfl⟩
      rw [hW] at hN hr ⊢
      obtain ⟨B, hB⟩ : ∃ B, w.heap.size = B := ⟨_, rfl⟩
      have hBw : w.heap.size ≤ B := by omega
      rw [hB] at hr ⊢
      clear hW hB
      obtain ⟨⟨c0, c1, c2, c3⟩, f0, f1, f2, f3⟩ := row_facts hr
      go_upto_region 5 with (first | (go_at_call 42; refine (HC.out _ hN).mono ?_; rintro e w1 ⟨rfl, hN1⟩) | (go_at_call 12; refine (HU.out _).mono ?_; rintro e w2 ⟨rfl, hN2⟩))
      have hN := hN.trans (hN1.trans hN2)
      have hr := (hN1.trans hN2).heap hr id
      clear c0 c1 c2 c3 f0 f1 f2 f3
      obtain ⟨⟨c0, c1, c2, c3⟩, f0, f1, f2, f3⟩ := row_facts hr
      go_wp2_with fail
      obtain ⟨hN2, hr2⟩ := set4 hN hBw hr (.int .u8 5) (.int .i64 0) (.string y) (.bool false)
      obtain ⟨W2, hW2⟩ : ∃ W2, ((((w2.setCell ⟨B, 0, none⟩ (.int .u8 5)).setCell ⟨B, 1, none⟩ (.int .i64 0)).setCell ⟨B, 2, none⟩ (.string y)).setCell ⟨B, 3, none⟩ (.bool false)) = W2 := ⟨_, rfl⟩
      rw [hW2] at hN2 hr2 ⊢
      exact read_end (by kernel_rfl) rfl rfl rfl hr2 ⟨rfl, hN2⟩
end Go.Proofs.YtihmnkbkigkjjaaDoor
