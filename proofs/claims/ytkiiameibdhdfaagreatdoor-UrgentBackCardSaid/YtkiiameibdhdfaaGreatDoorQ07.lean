/- Texts joined. -/
import Derived.Test.YtkiiameibdhdfaaGreatDoorQ03
import Derived.Test.YtkiiameibdhdfaaGreatDoorQ06
import Derived.Test.YtkiiameibdhdfaaGreatDoorQ04
import Derived.Test.YtkiiameibdhdfaaGreatDoorQ02
import Derived.Test.YtkiiameibdhdfaaGreatDoorQ05
import Derived.Lib.ConvBytes
set_option linter.unusedSimpArgs false
set_option linter.unusedVariables false
namespace Go.Proofs.YtkiiameibdhdfaaGreatDoor
open Go.RowKit Go.Shelf Go.Cs
attribute [local go_sem] Oper.semAt_some


def numR (g : Int) (t : Bare.Bs) : Option (Bare.It × Bare.Bs) :=
 let d := t.takeWhile Bare.digB
 let r := t.drop d.length
 if d.length < 1 ∨ 15 < d.length then none
 else if r.head? ≠ some 46 then some (⟨1, g * (Bare.valD d : Int), [], false⟩, r)
 else
  let e := (r.drop 1).takeWhile Bare.digB
  if 12 < d.length ∨ e.length < 1 ∨ 3 < e.length then none
  else some (⟨2, g * (1000 * (Bare.valD d : Int) + Bare.valD ((e ++ [48, 48]).take 3)), [], false⟩, r.drop (1 + e.length))
theorem number_numR (l : Bare.Bs) : Bare.number l = if l.head? == some 45 then numR (-1) (l.drop 1) else numR 1 l := by
 unfold Bare.number numR
 cases h : (l.head? == some 45) <;> simp
theorem _root_.Go.Cs.Mods.freeze {S : Nat → Prop} {a w : World} (h : Mods S a w) (p : Addr) (n : Nat) (hp : a.heap.size ≤ p.block) : Mods S a (w.freeze p n) := by
 unfold World.freeze
 split
 ·exact h
 ·refine ⟨h.os, h.tape, h.output, by simpa using h.size, fun k o hk ho => ?_⟩
  have := (Array.getElem?_eq_some_iff.1 hk).1
  simp only [Array.getElem?_modify]
  rw [if_neg (by omega)]
  exact h.block k o hk ho
theorem bytesWorld_new (w : World) (e : TypeId) (t : ByteArray) : New w (Lib.bytesWorld w e t) := by
 unfold Lib.bytesWorld
 exact (((Mods.refl _ _).drew).alloc _).freeze _ _ (Nat.le_refl _)
theorem atoi_any (l : Bare.Bs) (h : l.all Bare.digB = true) (h1 : l ≠ []) (h2 : l.length ≤ 18) (w : World) :
  Calls Tryz.prog 218 #[.string (tx l)] w fun e w' => e = .returned (.tuple #[.int .i64 (Bare.valD l : Nat), .nilIface]) ∧ New w w' :=
 (Tryz.strconv_Atoi (tx l) (Bare.valD l : Nat) (by rw [tx_size]; exact h2) (Bare.atoi_digits h h1) w).mono fun e w' ⟨he, t, hw⟩ => ⟨he, by rw [hw]; exact bytesWorld_new _ _ _⟩
theorem digs_take (l : Bare.Bs) : ((l.takeWhile Bare.digB).all Bare.digB) = true := Bare.all_takeWhile _ _
theorem val_lt {l : Bare.Bs} (h : l.all Bare.digB = true) (n : Nat) (hl : l.length ≤ n) : Bare.valD l < 10 ^ n :=
 Nat.lt_of_lt_of_le (Bare.valD_lt h) (Nat.pow_le_pow_right (by decide) hl)
theorem head_drop (s : ByteArray) (n : Nat) (h : n < s.size) : ((bl s).drop n).head? = some (gb s n) := by
 rw [List.head?_drop]; exact gb_get s n h
theorem head_end (s : ByteArray) : ((bl s).drop s.size).head? = none := by
 rw [List.head?_drop, List.getElem?_eq_none]
 rw [bl_len]; exact Nat.le_refl _
theorem u8_eq (c d : UInt8) : decide (c = d) = decide ((c.toNat : Int) = (d.toNat : Int)) := by
 rw [decide_eq_decide, ← UInt8.toNat_inj]
 omega
set_option maxHeartbeats 4000000 in
set_option maxRecDepth 100000 in
theorem number_pos (s : ByteArray) (w : World) (hs : s.size ≤ 1000000) (h0 : 0 < s.size) (hng : gb s 0 ≠ 45) :
  Calls Tryz.prog 209 #[.string s] w (ReadP (Bare.number (bl s)) w) := by
 have hc45 : decide (gb s 0 = 45) = false := decide_eq_false hng
 rw [u8_eq] at hc45
 have hix0 : ∀ W, (Instr.index 9 (.string s) (.int .i64 0)).run Tryz.prog W = .ok (.int .u8 ((gb s 0).toNat : Nat)) W := run_idx s 0 (by omega)
 have e0 : Bare.number (bl s) = numR 1 (bl s) := by
  have hh : (bl s).head? = some (gb s 0) := by have := head_drop s 0 h0; rwa [List.drop_zero] at this
  rw [number_numR, hh]
  simp [hng]
 rw [e0]
 clear e0
 have hTs := hs
 obtain ⟨c, hc⟩ : ∃ c, (gb s 0).toNat = c := ⟨_, rfl⟩
 rw [hc] at hc45 hix0
 have hceq : ((c : Int) == 45) = false := hc45
 clear hc hc45 hng
 have HR := Lib.hid (fun W => (run_any 176 #[] _ digit_p (enters_of Tryz.func176 (by kernel_rfl) rfl) s W (by omega)).mono fun e w' h => show e = _ ∧ W = w' from ⟨h.1, h.2.symm⟩)
 have hle := Bare.takeWhile_len Bare.digB (bl s)
 have htk := Bare.takeWhile_take Bare.digB (bl s)
 have hdg := digs_take (bl s)
 unfold numR
 simp only
 obtain ⟨d, hd⟩ : ∃ d, (bl s).takeWhile Bare.digB = d := ⟨_, rfl⟩
 rw [hd] at HR hle htk hdg ⊢
 obtain ⟨n, hn⟩ : ∃ n, d.length = n := ⟨_, rfl⟩
 rw [hn] at HR hle htk ⊢
 rw [bl_len] at hle
 clear hd
 obtain ⟨hN, hr⟩ := no_row w
 by_cases h1 : n < 1
 ·have d1 : decide ((n : Int) < 1) = true := decide_eq_true (by omega)
  rw [if_pos (.inl h1)]
  unfold ReadP bv bcs noIt
  simp only
  clear htk h1 hn hle
  go_enter Tryz.func209, Tryz.ntmps209
  go_upto_region 1 with fail
  obtain ⟨W, hW⟩ : ∃ W, w.alloc (.cells #[.int .u8 0, .int .i64 0, .string ⟨#[]⟩, .bool false] 66) = W := ⟨_, rfl⟩
  rw [hW] at hN hr ⊢
  obtain ⟨B, hB⟩ : ∃ B, w.heap.size = B := ⟨_, rfl⟩
  have hBw : w.heap.size ≤ B := by omega
  rw [hB] at hr ⊢
  clear hW hB
  obtain ⟨⟨c0, c1, c2, c3⟩, f0, f1, f2, f3⟩ := row_facts hr
  go_upto_region 6 with (go_at_call 217; refine (HR.out _).mono ?_; rintro e w' ⟨rfl, rfl⟩)
  go_wp2_with fail
  obtain ⟨hN2, hr2⟩ := set4 hN hBw hr (.int .u8 0) (.int .i64 0) (.string ⟨#[]⟩) (.bool false)
  obtain ⟨W2, hW2⟩ : ∃ W2, ((((W.setCell ⟨B, 0, none⟩ (.int .u8 0)).setCell ⟨B, 1, none⟩ (.int .i64 0)).setCell ⟨B, 2, none⟩ (.string ⟨#[]⟩)).setCell ⟨B, 3, none⟩ (.bool false)) = W2 := ⟨_, rfl⟩
  rw [hW2] at hN2 hr2 ⊢
  exact read_end (by kernel_rfl) rfl rfl rfl hr2 ⟨rfl, hN2⟩
 have d1 : decide ((n : Int) < 1) = false := decide_eq_false (by omega)
 by_cases h15 : 15 < n
 ·have d2 : decide (15 < (n : Int)) = true := decide_eq_true (by omega)
  rw [if_pos (.inr h15)]
  unfold ReadP bv bcs noIt
  simp only
  clear htk h1 h15 hn hle
  go_enter Tryz.func209, Tryz.ntmps209
  go_upto_region 1 with fail
  obtain ⟨W, hW⟩ : ∃ W, w.alloc (.cells #[.int .u8 0, .int .i64 0, .string ⟨#[]⟩, .bool false] 66) = W := ⟨_, rfl⟩
  rw [hW] at hN hr ⊢
  obtain ⟨B, hB⟩ : ∃ B, w.heap.size = B := ⟨_, rfl⟩
  have hBw : w.heap.size ≤ B := by omega
  rw [hB] at hr ⊢
  clear hW hB
  obtain ⟨⟨c0, c1, c2, c3⟩, f0, f1, f2, f3⟩ := row_facts hr
  go_upto_region 6 with (go_at_call 217; refine (HR.out _).mono ?_; rintro e w' ⟨rfl, rfl⟩)
  go_wp2_with fail
  obtain ⟨hN2, hr2⟩ := set4 hN hBw hr (.int .u8 0) (.int .i64 0) (.string ⟨#[]⟩) (.bool false)
  obtain ⟨W2, hW2⟩ : ∃ W2, ((((W.setCell ⟨B, 0, none⟩ (.int .u8 0)).setCell ⟨B, 1, none⟩ (.int .i64 0)).setCell ⟨B, 2, none⟩ (.string ⟨#[]⟩)).setCell ⟨B, 3, none⟩ (.bool false)) = W2 := ⟨_, rfl⟩
  rw [hW2] at hN2 hr2 ⊢
  exact read_end (by kernel_rfl) rfl rfl rfl hr2 ⟨rfl, hN2⟩
 have d2 : decide (15 < (n : Int)) = false := decide_eq_false (by omega)
 rw [if_neg (by omega)]
 have hne : d ≠ [] := by rintro rfl; simp at hn; omega
 have HA := Lib.hid (fun W => atoi_any d hdg hne (by omega) W)
 have hsh := run_sl_h s n hle
 have hvl := val_lt hdg 15 (by omega)
 have hvl12 := fun h => val_lt hdg 12 h
 rw [htk] at hsh
 have hsl := run_sl_l s n hle
 obtain ⟨v, hv⟩ : ∃ v, Bare.valD d = v := ⟨_, rfl⟩
 rw [hv] at HA hvl hvl12 ⊢
 obtain ⟨dx, hdx⟩ : ∃ dx, tx d = dx := ⟨_, rfl⟩
 rw [hdx] at HA hsh
 rw [hn] at hvl12
 clear hv hdx htk hne hdg hn
 simp at hvl
 by_cases hend : n = s.size
 ·have d3 : decide ((n : Int) = (s.size : Int)) = true := decide_eq_true (by omega)
  have d3' : ((n : Int) == (s.size : Int)) = true := d3
  have hhd : ((bl s).drop n).head? ≠ some 46 := by rw [hend, head_end]; simp
  rw [if_pos hhd]
  obtain ⟨x, hx⟩ : ∃ x, tx ((bl s).drop n) = x := ⟨_, rfl⟩
  rw [hx] at hsl
  unfold ReadP bv bcs
  simp only
  rw [hx, Int.one_mul]
  clear hhd hend h1 h15 hle hx hvl12
  go_enter Tryz.func209, Tryz.ntmps209
  go_upto_region 1 with fail
  obtain ⟨W, hW⟩ : ∃ W, w.alloc (.cells #[.int .u8 0, .int .i64 0, .string ⟨#[]⟩, .bool false] 66) = W := ⟨_, rfl⟩
  rw [hW] at hN hr ⊢
  obtain ⟨B, hB⟩ : ∃ B, w.heap.size = B := ⟨_, rfl⟩
  have hBw : w.heap.size ≤ B := by omega
  rw [hB] at hr ⊢
  clear hW hB
  obtain ⟨⟨c0, c1, c2, c3⟩, f0, f1, f2, f3⟩ := row_facts hr
  go_upto_region 9 with (first | (go_at_call 217; refine (HR.out _).mono ?_; rintro e w' ⟨rfl, rfl⟩) | (go_at_call 218; refine (HA.out _).mono ?_; rintro e wa ⟨rfl, hNa⟩))
  have hN := hN.trans hNa
  have hr := hNa.heap hr id
  clear c0 c1 c2 c3 f0 f1 f2 f3 hNa
  obtain ⟨⟨c0, c1, c2, c3⟩, f0, f1, f2, f3⟩ := row_facts hr
  go_region
  obtain ⟨hN2, hr2⟩ := set4 hN hBw hr (.int .u8 1) (.int .i64 (v : Int)) (.string ⟨#[]⟩) (.bool false)
  have hN2 := hN2.drew
  have hr2 : ((((wa.setCell ⟨B, 0, none⟩ (.int .u8 1)).setCell ⟨B, 1, none⟩ (.int .i64 (v : Int))).setCell ⟨B, 2, none⟩ (.string ⟨#[]⟩)).setCell ⟨B, 3, none⟩ (.bool false)).drew.heap[B]? = some (.cells #[(.int .u8 1), (.int .i64 (v : Int)), (.string ⟨#[]⟩), (.bool false)] 66 (0, 0)) := hr2
  obtain ⟨W2, hW2⟩ : ∃ W2, ((((wa.setCell ⟨B, 0, none⟩ (.int .u8 1)).setCell ⟨B, 1, none⟩ (.int .i64 (v : Int))).setCell ⟨B, 2, none⟩ (.string ⟨#[]⟩)).setCell ⟨B, 3, none⟩ (.bool false)).drew = W2 := ⟨_, rfl⟩
  rw [hW2] at hN2 hr2 ⊢
  go_wp2_with fail
  exact read_end (by kernel_rfl) rfl rfl rfl hr2 ⟨rfl, hN2⟩
 have hlt : n < s.size := by omega
 have d3 : decide ((n : Int) = (s.size : Int)) = false := decide_eq_false (by omega)
 have d3' : ((n : Int) == (s.size : Int)) = false := d3
 have hixn := run_idx s n hlt
 have hhn := head_drop s n hlt
 have hq46 := u8_eq (gb s n) 46
 by_cases hq : gb s n = 46
 case neg =>
  rw [decide_eq_false hq] at hq46
  have hhd : ((bl s).drop n).head? ≠ some 46 := by rw [hhn]; simpa using hq
  rw [if_pos hhd]
  obtain ⟨x, hx⟩ : ∃ x, tx ((bl s).drop n) = x := ⟨_, rfl⟩
  rw [hx] at hsl
  obtain ⟨q, hqn⟩ : ∃ q, (gb s n).toNat = q := ⟨_, rfl⟩
  rw [hqn] at hixn hq46
  have hq1 : ((q : Int) == 46) = false := hq46.symm
  have hq2 : ((q : Int) != 46) = true := by simp [bne, hq1]
  clear hq hqn hq46 hhd hhn hend hlt
  unfold ReadP bv bcs
  simp only
  rw [hx, Int.one_mul]
  clear h1 h15 hle hx hvl12
  go_enter Tryz.func209, Tryz.ntmps209
  go_upto_region 1 with fail
  obtain ⟨W, hW⟩ : ∃ W, w.alloc (.cells #[.int .u8 0, .int .i64 0, .string ⟨#[]⟩, .bool false] 66) = W := ⟨_, rfl⟩
  rw [hW] at hN hr ⊢
  obtain ⟨B, hB⟩ : ∃ B, w.heap.size = B := ⟨_, rfl⟩
  have hBw : w.heap.size ≤ B := by omega
  rw [hB] at hr ⊢
  clear hW hB
  obtain ⟨⟨c0, c1, c2, c3⟩, f0, f1, f2, f3⟩ := row_facts hr
  go_upto_region 9 with (first | (go_at_call 217; refine (HR.out _).mono ?_; rintro e w' ⟨rfl, rfl⟩) | (go_at_call 218; refine (HA.out _).mono ?_; rintro e wa ⟨rfl, hNa⟩))
  have hN := hN.trans hNa
  have hr := hNa.heap hr id
  clear c0 c1 c2 c3 f0 f1 f2 f3 hNa
  obtain ⟨⟨c0, c1, c2, c3⟩, f0, f1, f2, f3⟩ := row_facts hr
  go_region
  obtain ⟨hN2, hr2⟩ := set4 hN hBw hr (.int .u8 1) (.int .i64 (v : Int)) (.string ⟨#[]⟩) (.bool false)
  have hN2 := hN2.drew
  have hr2 : ((((wa.setCell ⟨B, 0, none⟩ (.int .u8 1)).setCell ⟨B, 1, none⟩ (.int .i64 (v : Int))).setCell ⟨B, 2, none⟩ (.string ⟨#[]⟩)).setCell ⟨B, 3, none⟩ (.bool false)).drew.heap[B]? = some (.cells #[(.int .u8 1), (.int .i64 (v : Int)), (.string ⟨#[]⟩), (.bool false)] 66 (0, 0)) := hr2
  obtain ⟨W2, hW2⟩ : ∃ W2, ((((wa.setCell ⟨B, 0, none⟩ (.int .u8 1)).setCell ⟨B, 1, none⟩ (.int .i64 (v : Int))).setCell ⟨B, 2, none⟩ (.string ⟨#[]⟩)).setCell ⟨B, 3, none⟩ (.bool false)).drew = W2 := ⟨_, rfl⟩
  rw [hW2] at hN2 hr2 ⊢
  go_wp2_with fail
  exact read_end (by kernel_rfl) rfl rfl rfl hr2 ⟨rfl, hN2⟩
 case pos =>
  rw [decide_eq_true hq] at hq46
  have hhd : ¬ ((bl s).drop n).head? ≠ some 46 := by rw [hhn, hq]; simp
  rw [if_neg hhd]
  obtain ⟨q, hqn⟩ : ∃ q, (gb s n).toNat = q := ⟨_, rfl⟩
  rw [hqn] at hixn hq46
  have hq1 : ((q : Int) == 46) = true := hq46.symm
  have hq2 : ((q : Int) != 46) = false := by simp [bne, hq1]
  have hnb : (n : Int) ≤ 1000000 := by omega
  clear hq hqn hq46 hhd hhn hend
  have hsl1 : ∀ W, (Instr.slice 9 (.string s) (some (.int .i64 ((n : Int) + 1))) none none).run Tryz.prog W = .ok (.string (tx ((bl s).drop (n + 1)))) W := fun W => run_sl_l s (n + 1) (by omega) W
  obtain ⟨U, hU⟩ : ∃ U, tx ((bl s).drop (n + 1)) = U := ⟨_, rfl⟩
  have hUl : ((bl s).drop n).drop 1 = bl U := by rw [← hU, List.drop_drop]
  have hUs : U.size = s.size - (n + 1) := by rw [← hU, tx_size, List.length_drop, bl_len]
  have hdd : ∀ k, ((bl s).drop n).drop (1 + k) = (bl s).drop (n + 1 + k) := fun k => by rw [List.drop_drop]; congr 1; omega
  have hpc : ∀ k, piec s (n + 1) (n + 1 + k) = tx ((bl U).take k) := fun k => by unfold piec; rw [← hU, Nat.add_sub_cancel_left]
  rw [hU] at hsl1
  rw [hUl]
  have HU := Lib.hid (fun W => (run_any 176 #[] _ digit_p (enters_of Tryz.func176 (by kernel_rfl) rfl) U W (by omega)).mono fun e w' h => show e = _ ∧ W = w' from ⟨h.1, h.2.symm⟩)
  have hek := Bare.takeWhile_len Bare.digB (bl U)
  have het := Bare.takeWhile_take Bare.digB (bl U)
  have hed := digs_take (bl U)
  obtain ⟨e, he⟩ : ∃ e, (bl U).takeWhile Bare.digB = e := ⟨_, rfl⟩
  rw [he] at HU hek het hed ⊢
  obtain ⟨k, hk⟩ : ∃ k, e.length = k := ⟨_, rfl⟩
  rw [hk] at HU hek het ⊢
  rw [bl_len, hUs] at hek
  rw [hdd]
  have hkb : (k : Int) ≤ 1000000 := by omega
  clear he hU hUl hdd
  by_cases hn12 : 12 < n
  ·have d4 : decide (12 < (n : Int)) = true := decide_eq_true (by omega)
   rw [if_pos (.inl hn12)]
   unfold ReadP bv bcs noIt
   simp only
   clear hn12 h1 h15 hle hed het hpc hek hUs hlt hk hvl12
   go_enter Tryz.func209, Tryz.ntmps209
   go_upto_region 1 with fail
   obtain ⟨W, hW⟩ : ∃ W, w.alloc (.cells #[.int .u8 0, .int .i64 0, .string ⟨#[]⟩, .bool false] 66) = W := ⟨_, rfl⟩
   rw [hW] at hN hr ⊢
   obtain ⟨B, hB⟩ : ∃ B, w.heap.size = B := ⟨_, rfl⟩
   have hBw : w.heap.size ≤ B := by omega
   rw [hB] at hr ⊢
   clear hW hB
   obtain ⟨⟨c0, c1, c2, c3⟩, f0, f1, f2, f3⟩ := row_facts hr
   go_upto_region 10 with (first | (go_at_call 217; refine (HR.out _).mono ?_; rintro e w' ⟨rfl, rfl⟩) | (go_at_call 218; refine (HA.out _).mono ?_; rintro e wa ⟨rfl, hNa⟩))
   have hN := hN.trans hNa
   have hr := hNa.heap hr id
   clear c0 c1 c2 c3 f0 f1 f2 f3 hNa
   obtain ⟨⟨c0, c1, c2, c3⟩, f0, f1, f2, f3⟩ := row_facts hr
   go_upto_region 12 with (go_at_call 217; refine (HU.out _).mono ?_; rintro e w' ⟨rfl, rfl⟩)
   go_wp2_with fail
   obtain ⟨hN2, hr2⟩ := set4 hN hBw hr (.int .u8 0) (.int .i64 0) (.string ⟨#[]⟩) (.bool false)
   obtain ⟨W2, hW2⟩ : ∃ W2, ((((wa.setCell ⟨B, 0, none⟩ (.int .u8 0)).setCell ⟨B, 1, none⟩ (.int .i64 0)).setCell ⟨B, 2, none⟩ (.string ⟨#[]⟩)).setCell ⟨B, 3, none⟩ (.bool false)) = W2 := ⟨_, rfl⟩
   rw [hW2] at hN2 hr2 ⊢
   exact read_end (by kernel_rfl) rfl rfl rfl hr2 ⟨rfl, hN2⟩
  have d4 : decide (12 < (n : Int)) = false := decide_eq_false (by omega)
  by_cases hk1 : k < 1
  ·have d5 : decide ((k : Int) < 1) = true := decide_eq_true (by omega)
   rw [if_pos (.inr (.inl hk1))]
   unfold ReadP bv bcs noIt
   simp only
   clear hn12 hk1 h1 h15 hle hed het hpc hek hUs hlt hk hvl12
   go_enter Tryz.func209, Tryz.ntmps209
   go_upto_region 1 with fail
   obtain ⟨W, hW⟩ : ∃ W, w.alloc (.cells #[.int .u8 0, .int .i64 0, .string ⟨#[]⟩, .bool false] 66) = W := ⟨_, rfl⟩
   rw [hW] at hN hr ⊢
   obtain ⟨B, hB⟩ : ∃ B, w.heap.size = B := ⟨_, rfl⟩
   have hBw : w.heap.size ≤ B := by omega
   rw [hB] at hr ⊢
   clear hW hB
   obtain ⟨⟨c0, c1, c2, c3⟩, f0, f1, f2, f3⟩ := row_facts hr
   go_upto_region 10 with (first | (go_at_call 217; refine (HR.out _).mono ?_; rintro e w' ⟨rfl, rfl⟩) | (go_at_call 218; refine (HA.out _).mono ?_; rintro e wa ⟨rfl, hNa⟩))
   have hN := hN.trans hNa
   have hr := hNa.heap hr id
   clear c0 c1 c2 c3 f0 f1 f2 f3 hNa
   obtain ⟨⟨c0, c1, c2, c3⟩, f0, f1, f2, f3⟩ := row_facts hr
   go_upto_region 12 with (go_at_call 217; refine (HU.out _).mono ?_; rintro e w' ⟨rfl, rfl⟩)
   go_wp2_with fail
   obtain ⟨hN2, hr2⟩ := set4 hN hBw hr (.int .u8 0) (.int .i64 0) (.string ⟨#[]⟩) (.bool false)
   obtain ⟨W2, hW2⟩ : ∃ W2, ((((wa.setCell ⟨B, 0, none⟩ (.int .u8 0)).setCell ⟨B, 1, none⟩ (.int .i64 0)).setCell ⟨B, 2, none⟩ (.string ⟨#[]⟩)).setCell ⟨B, 3, none⟩ (.bool false)) = W2 := ⟨_, rfl⟩
   rw [hW2] at hN2 hr2 ⊢
   exact read_end (by kernel_rfl) rfl rfl rfl hr2 ⟨rfl, hN2⟩
  have d5 : decide ((k : Int) < 1) = false := decide_eq_false (by omega)
  by_cases hk3 : 3 < k
  ·have d6 : decide (3 < (k : Int)) = true := decide_eq_true (by omega)
   rw [if_pos (.inr (.inr hk3))]
   unfold ReadP bv bcs noIt
   simp only
   clear hn12 hk1 hk3 h1 h15 hle hed het hpc hek hUs hlt hk hvl12
   go_enter Tryz.func209, Tryz.ntmps209
   go_upto_region 1 with fail
   obtain ⟨W, hW⟩ : ∃ W, w.alloc (.cells #[.int .u8 0, .int .i64 0, .string ⟨#[]⟩, .bool false] 66) = W := ⟨_, rfl⟩
   rw [hW] at hN hr ⊢
   obtain ⟨B, hB⟩ : ∃ B, w.heap.size = B := ⟨_, rfl⟩
   have hBw : w.heap.size ≤ B := by omega
   rw [hB] at hr ⊢
   clear hW hB
   obtain ⟨⟨c0, c1, c2, c3⟩, f0, f1, f2, f3⟩ := row_facts hr
   go_upto_region 10 with (first | (go_at_call 217; refine (HR.out _).mono ?_; rintro e w' ⟨rfl, rfl⟩) | (go_at_call 218; refine (HA.out _).mono ?_; rintro e wa ⟨rfl, hNa⟩))
   have hN := hN.trans hNa
   have hr := hNa.heap hr id
   clear c0 c1 c2 c3 f0 f1 f2 f3 hNa
   obtain ⟨⟨c0, c1, c2, c3⟩, f0, f1, f2, f3⟩ := row_facts hr
   go_upto_region 12 with (go_at_call 217; refine (HU.out _).mono ?_; rintro e w' ⟨rfl, rfl⟩)
   go_wp2_with fail
   obtain ⟨hN2, hr2⟩ := set4 hN hBw hr (.int .u8 0) (.int .i64 0) (.string ⟨#[]⟩) (.bool false)
   obtain ⟨W2, hW2⟩ : ∃ W2, ((((wa.setCell ⟨B, 0, none⟩ (.int .u8 0)).setCell ⟨B, 1, none⟩ (.int .i64 0)).setCell ⟨B, 2, none⟩ (.string ⟨#[]⟩)).setCell ⟨B, 3, none⟩ (.bool false)) = W2 := ⟨_, rfl⟩
   rw [hW2] at hN2 hr2 ⊢
   exact read_end (by kernel_rfl) rfl rfl rfl hr2 ⟨rfl, hN2⟩
  have d6 : decide (3 < (k : Int)) = false := decide_eq_false (by omega)
  rw [if_neg (by omega)]
  have hv12 := hvl12 (by omega)
  simp at hv12
  have hsl2 : ∀ W, (Instr.slice 9 (.string s) (some (.int .i64 ((n : Int) + 1))) (some (.int .i64 ((n : Int) + 1 + (k : Int)))) none).run Tryz.prog W = .ok (.string (piec s (n + 1) (n + 1 + k))) W := fun W => run_sl s (n + 1) (n + 1 + k) (by omega) (by omega) W
  rw [hpc, het] at hsl2
  have hxx : (tx e ++ ⟨#[48, 48]⟩).extract 0 3 = tx ((e ++ [48, 48]).take 3) := by
   rw [extract_piec, piec_head]
   rfl
  have hz1 : 1 ≤ (tx e).size := by rw [tx_size, hk]; omega
  have hz3 : (tx e).size ≤ 3 := by rw [tx_size, hk]; omega
  have hed2 : ((e ++ [48, 48]).take 3).all Bare.digB = true := by
   rw [List.all_eq_true] at hed ⊢
   intro x hx
   rcases List.mem_append.1 (List.mem_of_mem_take hx) with h | h
   ·exact hed x h
   ·simp at h; subst h; decide
  have hl3 : ((e ++ [48, 48]).take 3).length = 3 := by rw [List.length_take, List.length_append]; show min 3 (e.length + 2) = 3; omega
  have HA2 := Lib.hid (fun W => atoi_any _ hed2 (fun h => by rw [h] at hl3; cases hl3) (by omega) W)
  have hv2 := val_lt hed2 3 (by omega)
  obtain ⟨v2, hv2e⟩ : ∃ v2, Bare.valD ((e ++ [48, 48]).take 3) = v2 := ⟨_, rfl⟩
  rw [hv2e] at HA2 hv2 ⊢
  simp at hv2
  rw [← hxx] at HA2
  obtain ⟨x1, hx1⟩ : ∃ x1, tx e = x1 := ⟨_, rfl⟩
  rw [hx1] at hsl2 HA2 hz1 hz3
  have hsl3 : ∀ W, (Instr.slice 9 (.string s) (some (.int .i64 ((n : Int) + 1 + (k : Int)))) none none).run Tryz.prog W = .ok (.string (tx ((bl s).drop (n + 1 + k)))) W := fun W => run_sl_l s (n + 1 + k) (by omega) W
  obtain ⟨x, hx⟩ : ∃ x, tx ((bl s).drop (n + 1 + k)) = x := ⟨_, rfl⟩
  rw [hx] at hsl3
  clear hv2e hxx hx1 hl3 hed2 hed het hpc hk hk1 hk3 hn12 hek hUs hlt hsl hvl hvl12 h1 h15 hle
  unfold ReadP bv bcs
  simp only
  rw [hx, Int.one_mul]
  clear hx
  go_enter Tryz.func209, Tryz.ntmps209
  go_upto_region 1 with fail
  obtain ⟨W, hW⟩ : ∃ W, w.alloc (.cells #[.int .u8 0, .int .i64 0, .string ⟨#[]⟩, .bool false] 66) = W := ⟨_, rfl⟩
  rw [hW] at hN hr ⊢
  obtain ⟨B, hB⟩ : ∃ B, w.heap.size = B := ⟨_, rfl⟩
  have hBw : w.heap.size ≤ B := by omega
  rw [hB] at hr ⊢
  clear hW hB
  obtain ⟨⟨c0, c1, c2, c3⟩, f0, f1, f2, f3⟩ := row_facts hr
  go_upto_region 10 with (first | (go_at_call 217; refine (HR.out _).mono ?_; rintro e w' ⟨rfl, rfl⟩) | (go_at_call 218; refine (HA.out _).mono ?_; rintro e wa ⟨rfl, hNa⟩))
  have hN := hN.trans hNa
  have hr := hNa.heap hr id
  clear c0 c1 c2 c3 f0 f1 f2 f3 hNa
  obtain ⟨⟨c0, c1, c2, c3⟩, f0, f1, f2, f3⟩ := row_facts hr
  go_upto_region 14 with (first | (go_at_call 217; refine (HU.out _).mono ?_; rintro e w' ⟨rfl, rfl⟩) | (go_at_call 218; refine (HA2.out _).mono ?_; rintro e wb ⟨rfl, hNb⟩))
  have hN := hN.trans hNb
  have hr := hNb.heap hr id
  clear c0 c1 c2 c3 f0 f1 f2 f3 hNb
  obtain ⟨⟨c0, c1, c2, c3⟩, f0, f1, f2, f3⟩ := row_facts hr
  go_region
  obtain ⟨hN2, hr2⟩ := set4 hN hBw hr (.int .u8 2) (.int .i64 (1000 * (v : Int) + (v2 : Int))) (.string ⟨#[]⟩) (.bool false)
  have hN2 := hN2.drew
  have hr2 : ((((wb.setCell ⟨B, 0, none⟩ (.int .u8 2)).setCell ⟨B, 1, none⟩ (.int .i64 (1000 * (v : Int) + (v2 : Int)))).setCell ⟨B, 2, none⟩ (.string ⟨#[]⟩)).setCell ⟨B, 3, none⟩ (.bool false)).drew.heap[B]? = some (.cells #[(.int .u8 2), (.int .i64 (1000 * (v : Int) + (v2 : Int))), (.string ⟨#[]⟩), (.bool false)] 66 (0, 0)) := hr2
  obtain ⟨W2, hW2⟩ : ∃ W2, ((((wb.setCell ⟨B, 0, none⟩ (.int .u8 2)).setCell ⟨B, 1, none⟩ (.int .i64 (1000 * (v : Int) + (v2 : Int)))).setCell ⟨B, 2, none⟩ (.string ⟨#[]⟩)).setCell ⟨B, 3, none⟩ (.bool false)).drew = W2 := ⟨_, rfl⟩
  rw [hW2] at hN2 hr2 ⊢
  go_wp2_with fail
  exact read_end (by kernel_rfl) rfl rfl rfl hr2 ⟨rfl, hN2⟩
set_option maxHeartbeats 4000000 in
set_option maxRecDepth 100000 in
theorem number_neg (s : ByteArray) (w : World) (hs : s.size ≤ 1000000) (h0 : 0 < s.size) (hng : gb s 0 = 45) :
  Calls Tryz.prog 209 #[.string s] w (ReadP (Bare.number (bl s)) w) := by
 have hc45 : decide (gb s 0 = 45) = true := decide_eq_true hng
 rw [u8_eq] at hc45
 have hix0 : ∀ W, (Instr.index 9 (.string s) (.int .i64 0)).run Tryz.prog W = .ok (.int .u8 ((gb s 0).toNat : Nat)) W := run_idx s 0 (by omega)
 have e0 : Bare.number (bl s) = numR (-1) ((bl s).drop 1) := by
  have hh : (bl s).head? = some (gb s 0) := by have := head_drop s 0 h0; rwa [List.drop_zero] at this
  rw [number_numR, hh]
  simp [hng]
 rw [e0]
 clear e0
 have hs1 : ∀ W, (Instr.slice 9 (.string s) (some (.int .i64 1)) none none).run Tryz.prog W = .ok (.string (tx ((bl s).drop 1))) W := run_sl_l s 1 (by omega)
 obtain ⟨T, hT⟩ : ∃ T, tx ((bl s).drop 1) = T := ⟨_, rfl⟩
 have hTl : (bl s).drop 1 = bl T := by rw [← hT]
 have hTs : T.size ≤ 1000000 := by rw [← hT, tx_size, List.length_drop, bl_len]; omega
 rw [hT] at hs1
 rw [hTl]
 clear hT hTl
 obtain ⟨c, hc⟩ : ∃ c, (gb s 0).toNat = c := ⟨_, rfl⟩
 rw [hc] at hc45 hix0
 have hceq : ((c : Int) == 45) = true := hc45
 clear hc hc45 hng
 have HR := Lib.hid (fun W => (run_any 176 #[] _ digit_p (enters_of Tryz.func176 (by kernel_rfl) rfl) T W (by omega)).mono fun e w' h => show e = _ ∧ W = w' from ⟨h.1, h.2.symm⟩)
 have hle := Bare.takeWhile_len Bare.digB (bl T)
 have htk := Bare.takeWhile_take Bare.digB (bl T)
 have hdg := digs_take (bl T)
 unfold numR
 simp only
 obtain ⟨d, hd⟩ : ∃ d, (bl T).takeWhile Bare.digB = d := ⟨_, rfl⟩
 rw [hd] at HR hle htk hdg ⊢
 obtain ⟨n, hn⟩ : ∃ n, d.length = n := ⟨_, rfl⟩
 rw [hn] at HR hle htk ⊢
 rw [bl_len] at hle
 clear hd
 obtain ⟨hN, hr⟩ := no_row w
 by_cases h1 : n < 1
 ·have d1 : decide ((n : Int) < 1) = true := decide_eq_true (by omega)
  rw [if_pos (.inl h1)]
  unfold ReadP bv bcs noIt
  simp only
  clear htk h1 hn hle
  go_enter Tryz.func209, Tryz.ntmps209
  go_upto_region 1 with fail
  obtain ⟨W, hW⟩ : ∃ W, w.alloc (.cells #[.int .u8 0, .int .i64 0, .string ⟨#[]⟩, .bool false] 66) = W := ⟨_, rfl⟩
  rw [hW] at hN hr ⊢
  obtain ⟨B, hB⟩ : ∃ B, w.heap.size = B := ⟨_, rfl⟩
  have hBw : w.heap.size ≤ B := by omega
  rw [hB] at hr ⊢
  clear hW hB
  obtain ⟨⟨c0, c1, c2, c3⟩, f0, f1, f2, f3⟩ := row_facts hr
  go_upto_region 3 with fail
  go_region
  have hN := hN.drew
  have hr : W.drew.heap[B]? = some (.cells #[.int .u8 0, .int .i64 0, .string ⟨#[]⟩, .bool false] 66 (0, 0)) := hr
  obtain ⟨W, hW⟩ : ∃ V, W.drew = V := ⟨_, rfl⟩
  rw [hW] at hN hr ⊢
  clear hW c0 c1 c2 c3 f0 f1 f2 f3
  obtain ⟨⟨c0, c1, c2, c3⟩, f0, f1, f2, f3⟩ := row_facts hr
  go_upto_region 6 with (go_at_call 217; refine (HR.out _).mono ?_; rintro e w' ⟨rfl, rfl⟩)
  go_wp2_with fail
  obtain ⟨hN2, hr2⟩ := set4 hN hBw hr (.int .u8 0) (.int .i64 0) (.string ⟨#[]⟩) (.bool false)
  obtain ⟨W2, hW2⟩ : ∃ W2, ((((W.setCell ⟨B, 0, none⟩ (.int .u8 0)).setCell ⟨B, 1, none⟩ (.int .i64 0)).setCell ⟨B, 2, none⟩ (.string ⟨#[]⟩)).setCell ⟨B, 3, none⟩ (.bool false)) = W2 := ⟨_, rfl⟩
  rw [hW2] at hN2 hr2 ⊢
  exact read_end (by kernel_rfl) rfl rfl rfl hr2 ⟨rfl, hN2⟩
 have d1 : decide ((n : Int) < 1) = false := decide_eq_false (by omega)
 by_cases h15 : 15 < n
 ·have d2 : decide (15 < (n : Int)) = true := decide_eq_true (by omega)
  rw [if_pos (.inr h15)]
  unfold ReadP bv bcs noIt
  simp only
  clear htk h1 h15 hn hle
  go_enter Tryz.func209, Tryz.ntmps209
  go_upto_region 1 with fail
  obtain ⟨W, hW⟩ : ∃ W, w.alloc (.cells #[.int .u8 0, .int .i64 0, .string ⟨#[]⟩, .bool false] 66) = W := ⟨_, rfl⟩
  rw [hW] at hN hr ⊢
  obtain ⟨B, hB⟩ : ∃ B, w.heap.size = B := ⟨_, rfl⟩
  have hBw : w.heap.size ≤ B := by omega
  rw [hB] at hr ⊢
  clear hW hB
  obtain ⟨⟨c0, c1, c2, c3⟩, f0, f1, f2, f3⟩ := row_facts hr
  go_upto_region 3 with fail
  go_region
  have hN := hN.drew
  have hr : W.drew.heap[B]? = some (.cells #[.int .u8 0, .int .i64 0, .string ⟨#[]⟩, .bool false] 66 (0, 0)) := hr
  obtain ⟨W, hW⟩ : ∃ V, W.drew = V := ⟨_, rfl⟩
  rw [hW] at hN hr ⊢
  clear hW c0 c1 c2 c3 f0 f1 f2 f3
  obtain ⟨⟨c0, c1, c2, c3⟩, f0, f1, f2, f3⟩ := row_facts hr
  go_upto_region 6 with (go_at_call 217; refine (HR.out _).mono ?_; rintro e w' ⟨rfl, rfl⟩)
  go_wp2_with fail
  obtain ⟨hN2, hr2⟩ := set4 hN hBw hr (.int .u8 0) (.int .i64 0) (.string ⟨#[]⟩) (.bool false)
  obtain ⟨W2, hW2⟩ : ∃ W2, ((((W.setCell ⟨B, 0, none⟩ (.int .u8 0)).setCell ⟨B, 1, none⟩ (.int .i64 0)).setCell ⟨B, 2, none⟩ (.string ⟨#[]⟩)).setCell ⟨B, 3, none⟩ (.bool false)) = W2 := ⟨_, rfl⟩
  rw [hW2] at hN2 hr2 ⊢
  exact read_end (by kernel_rfl) rfl rfl rfl hr2 ⟨rfl, hN2⟩
 have d2 : decide (15 < (n : Int)) = false := decide_eq_false (by omega)
 rw [if_neg (by omega)]
 have hne : d ≠ [] := by rintro rfl; simp at hn; omega
 have HA := Lib.hid (fun W => atoi_any d hdg hne (by omega) W)
 have hsh := run_sl_h T n hle
 have hvl := val_lt hdg 15 (by omega)
 have hvl12 := fun h => val_lt hdg 12 h
 rw [htk] at hsh
 have hsl := run_sl_l T n hle
 obtain ⟨v, hv⟩ : ∃ v, Bare.valD d = v := ⟨_, rfl⟩
 rw [hv] at HA hvl hvl12 ⊢
 obtain ⟨dx, hdx⟩ : ∃ dx, tx d = dx := ⟨_, rfl⟩
 rw [hdx] at HA hsh
 rw [hn] at hvl12
 clear hv hdx htk hne hdg hn
 simp at hvl
 by_cases hend : n = T.size
 ·have d3 : decide ((n : Int) = (T.size : Int)) = true := decide_eq_true (by omega)
  have d3' : ((n : Int) == (T.size : Int)) = true := d3
  have hhd : ((bl T).drop n).head? ≠ some 46 := by rw [hend, head_end]; simp
  rw [if_pos hhd]
  obtain ⟨x, hx⟩ : ∃ x, tx ((bl T).drop n) = x := ⟨_, rfl⟩
  rw [hx] at hsl
  unfold ReadP bv bcs
  simp only
  rw [hx, Int.neg_one_mul]
  clear hhd hend h1 h15 hle hx hvl12
  go_enter Tryz.func209, Tryz.ntmps209
  go_upto_region 1 with fail
  obtain ⟨W, hW⟩ : ∃ W, w.alloc (.cells #[.int .u8 0, .int .i64 0, .string ⟨#[]⟩, .bool false] 66) = W := ⟨_, rfl⟩
  rw [hW] at hN hr ⊢
  obtain ⟨B, hB⟩ : ∃ B, w.heap.size = B := ⟨_, rfl⟩
  have hBw : w.heap.size ≤ B := by omega
  rw [hB] at hr ⊢
  clear hW hB
  obtain ⟨⟨c0, c1, c2, c3⟩, f0, f1, f2, f3⟩ := row_facts hr
  go_upto_region 3 with fail
  go_region
  have hN := hN.drew
  have hr : W.drew.heap[B]? = some (.cells #[.int .u8 0, .int .i64 0, .string ⟨#[]⟩, .bool false] 66 (0, 0)) := hr
  obtain ⟨W, hW⟩ : ∃ V, W.drew = V := ⟨_, rfl⟩
  rw [hW] at hN hr ⊢
  clear hW c0 c1 c2 c3 f0 f1 f2 f3
  obtain ⟨⟨c0, c1, c2, c3⟩, f0, f1, f2, f3⟩ := row_facts hr
  go_upto_region 9 with (first | (go_at_call 217; refine (HR.out _).mono ?_; rintro e w' ⟨rfl, rfl⟩) | (go_at_call 218; refine (HA.out _).mono ?_; rintro e wa ⟨rfl, hNa⟩))
  have hN := hN.trans hNa
  have hr := hNa.heap hr id
  clear c0 c1 c2 c3 f0 f1 f2 f3 hNa
  obtain ⟨⟨c0, c1, c2, c3⟩, f0, f1, f2, f3⟩ := row_facts hr
  go_region
  obtain ⟨hN2, hr2⟩ := set4 hN hBw hr (.int .u8 1) (.int .i64 (-(v : Int))) (.string ⟨#[]⟩) (.bool false)
  have hN2 := hN2.drew
  have hr2 : ((((wa.setCell ⟨B, 0, none⟩ (.int .u8 1)).setCell ⟨B, 1, none⟩ (.int .i64 (-(v : Int)))).setCell ⟨B, 2, none⟩ (.string ⟨#[]⟩)).setCell ⟨B, 3, none⟩ (.bool false)).drew.heap[B]? = some (.cells #[(.int .u8 1), (.int .i64 (-(v : Int))), (.string ⟨#[]⟩), (.bool false)] 66 (0, 0)) := hr2
  obtain ⟨W2, hW2⟩ : ∃ W2, ((((wa.setCell ⟨B, 0, none⟩ (.int .u8 1)).setCell ⟨B, 1, none⟩ (.int .i64 (-(v : Int)))).setCell ⟨B, 2, none⟩ (.string ⟨#[]⟩)).setCell ⟨B, 3, none⟩ (.bool false)).drew = W2 := ⟨_, rfl⟩
  rw [hW2] at hN2 hr2 ⊢
  go_wp2_with fail
  exact read_end (by kernel_rfl) rfl rfl rfl hr2 ⟨rfl, hN2⟩
 have hlt : n < T.size := by omega
 have d3 : decide ((n : Int) = (T.size : Int)) = false := decide_eq_false (by omega)
 have d3' : ((n : Int) == (T.size : Int)) = false := d3
 have hixn := run_idx T n hlt
 have hhn := head_drop T n hlt
 have hq46 := u8_eq (gb T n) 46
 by_cases hq : gb T n = 46
 case neg =>
  rw [decide_eq_false hq] at hq46
  have hhd : ((bl T).drop n).head? ≠ some 46 := by rw [hhn]; simpa using hq
  rw [if_pos hhd]
  obtain ⟨x, hx⟩ : ∃ x, tx ((bl T).drop n) = x := ⟨_, rfl⟩
  rw [hx] at hsl
  obtain ⟨q, hqn⟩ : ∃ q, (gb T n).toNat = q := ⟨_, rfl⟩
  rw [hqn] at hixn hq46
  have hq1 : ((q : Int) == 46) = false := hq46.symm
  have hq2 : ((q : Int) != 46) = true := by simp [bne, hq1]
  clear hq hqn hq46 hhd hhn hend hlt
  unfold ReadP bv bcs
  simp only
  rw [hx, Int.neg_one_mul]
  clear h1 h15 hle hx hvl12
  go_enter Tryz.func209, Tryz.ntmps209
  go_upto_region 1 with fail
  obtain ⟨W, hW⟩ : ∃ W, w.alloc (.cells #[.int .u8 0, .int .i64 0, .string ⟨#[]⟩, .bool false] 66) = W := ⟨_, rfl⟩
  rw [hW] at hN hr ⊢
  obtain ⟨B, hB⟩ : ∃ B, w.heap.size = B := ⟨_, rfl⟩
  have hBw : w.heap.size ≤ B := by omega
  rw [hB] at hr ⊢
  clear hW hB
  obtain ⟨⟨c0, c1, c2, c3⟩, f0, f1, f2, f3⟩ := row_facts hr
  go_upto_region 3 with fail
  go_region
  have hN := hN.drew
  have hr : W.drew.heap[B]? = some (.cells #[.int .u8 0, .int .i64 0, .string ⟨#[]⟩, .bool false] 66 (0, 0)) := hr
  obtain ⟨W, hW⟩ : ∃ V, W.drew = V := ⟨_, rfl⟩
  rw [hW] at hN hr ⊢
  clear hW c0 c1 c2 c3 f0 f1 f2 f3
  obtain ⟨⟨c0, c1, c2, c3⟩, f0, f1, f2, f3⟩ := row_facts hr
  go_upto_region 9 with (first | (go_at_call 217; refine (HR.out _).mono ?_; rintro e w' ⟨rfl, rfl⟩) | (go_at_call 218; refine (HA.out _).mono ?_; rintro e wa ⟨rfl, hNa⟩))
  have hN := hN.trans hNa
  have hr := hNa.heap hr id
  clear c0 c1 c2 c3 f0 f1 f2 f3 hNa
  obtain ⟨⟨c0, c1, c2, c3⟩, f0, f1, f2, f3⟩ := row_facts hr
  go_region
  obtain ⟨hN2, hr2⟩ := set4 hN hBw hr (.int .u8 1) (.int .i64 (-(v : Int))) (.string ⟨#[]⟩) (.bool false)
  have hN2 := hN2.drew
  have hr2 : ((((wa.setCell ⟨B, 0, none⟩ (.int .u8 1)).setCell ⟨B, 1, none⟩ (.int .i64 (-(v : Int)))).setCell ⟨B, 2, none⟩ (.string ⟨#[]⟩)).setCell ⟨B, 3, none⟩ (.bool false)).drew.heap[B]? = some (.cells #[(.int .u8 1), (.int .i64 (-(v : Int))), (.string ⟨#[]⟩), (.bool false)] 66 (0, 0)) := hr2
  obtain ⟨W2, hW2⟩ : ∃ W2, ((((wa.setCell ⟨B, 0, none⟩ (.int .u8 1)).setCell ⟨B, 1, none⟩ (.int .i64 (-(v : Int)))).setCell ⟨B, 2, none⟩ (.string ⟨#[]⟩)).setCell ⟨B, 3, none⟩ (.bool false)).drew = W2 := ⟨_, rfl⟩
  rw [hW2] at hN2 hr2 ⊢
  go_wp2_with fail
  exact read_end (by kernel_rfl) rfl rfl rfl hr2 ⟨rfl, hN2⟩
 case pos =>
  rw [decide_eq_true hq] at hq46
  have hhd : ¬ ((bl T).drop n).head? ≠ some 46 := by rw [hhn, hq]; simp
  rw [if_neg hhd]
  obtain ⟨q, hqn⟩ : ∃ q, (gb T n).toNat = q := ⟨_, rfl⟩
  rw [hqn] at hixn hq46
  have hq1 : ((q : Int) == 46) = true := hq46.symm
  have hq2 : ((q : Int) != 46) = false := by simp [bne, hq1]
  have hnb : (n : Int) ≤ 1000000 := by omega
  clear hq hqn hq46 hhd hhn hend
  have hsl1 : ∀ W, (Instr.slice 9 (.string T) (some (.int .i64 ((n : Int) + 1))) none none).run Tryz.prog W = .ok (.string (tx ((bl T).drop (n + 1)))) W := fun W => run_sl_l T (n + 1) (by omega) W
  obtain ⟨U, hU⟩ : ∃ U, tx ((bl T).drop (n + 1)) = U := ⟨_, rfl⟩
  have hUl : ((bl T).drop n).drop 1 = bl U := by rw [← hU, List.drop_drop]
  have hUs : U.size = T.size - (n + 1) := by rw [← hU, tx_size, List.length_drop, bl_len]
  have hdd : ∀ k, ((bl T).drop n).drop (1 + k) = (bl T).drop (n + 1 + k) := fun k => by rw [List.drop_drop]; congr 1; omega
  have hpc : ∀ k, piec T (n + 1) (n + 1 + k) = tx ((bl U).take k) := fun k => by unfold piec; rw [← hU, Nat.add_sub_cancel_left]
  rw [hU] at hsl1
  rw [hUl]
  have HU := Lib.hid (fun W => (run_any 176 #[] _ digit_p (enters_of Tryz.func176 (by kernel_rfl) rfl) U W (by omega)).mono fun e w' h => show e = _ ∧ W = w' from ⟨h.1, h.2.symm⟩)
  have hek := Bare.takeWhile_len Bare.digB (bl U)
  have het := Bare.takeWhile_take Bare.digB (bl U)
  have hed := digs_take (bl U)
  obtain ⟨e, he⟩ : ∃ e, (bl U).takeWhile Bare.digB = e := ⟨_, rfl⟩
  rw [he] at HU hek het hed ⊢
  obtain ⟨k, hk⟩ : ∃ k, e.length = k := ⟨_, rfl⟩
  rw [hk] at HU hek het ⊢
  rw [bl_len, hUs] at hek
  rw [hdd]
  have hkb : (k : Int) ≤ 1000000 := by omega
  clear he hU hUl hdd
  by_cases hn12 : 12 < n
  ·have d4 : decide (12 < (n : Int)) = true := decide_eq_true (by omega)
   rw [if_pos (.inl hn12)]
   unfold ReadP bv bcs noIt
   simp only
   clear hn12 h1 h15 hle hed het hpc hek hUs hlt hk hvl12
   go_enter Tryz.func209, Tryz.ntmps209
   go_upto_region 1 with fail
   obtain ⟨W, hW⟩ : ∃ W, w.alloc (.cells #[.int .u8 0, .int .i64 0, .string ⟨#[]⟩, .bool false] 66) = W := ⟨_, rfl⟩
   rw [hW] at hN hr ⊢
   obtain ⟨B, hB⟩ : ∃ B, w.heap.size = B := ⟨_, rfl⟩
   have hBw : w.heap.size ≤ B := by omega
   rw [hB] at hr ⊢
   clear hW hB
   obtain ⟨⟨c0, c1, c2, c3⟩, f0, f1, f2, f3⟩ := row_facts hr
   go_upto_region 3 with fail
   go_region
   have hN := hN.drew
   have hr : W.drew.heap[B]? = some (.cells #[.int .u8 0, .int .i64 0, .string ⟨#[]⟩, .bool false] 66 (0, 0)) := hr
   obtain ⟨W, hW⟩ : ∃ V, W.drew = V := ⟨_, rfl⟩
   rw [hW] at hN hr ⊢
   clear hW c0 c1 c2 c3 f0 f1 f2 f3
   obtain ⟨⟨c0, c1, c2, c3⟩, f0, f1, f2, f3⟩ := row_facts hr
   go_upto_region 10 with (first | (go_at_call 217; refine (HR.out _).mono ?_; rintro e w' ⟨rfl, rfl⟩) | (go_at_call 218; refine (HA.out _).mono ?_; rintro e wa ⟨rfl, hNa⟩))
   have hN := hN.trans hNa
   have hr := hNa.heap hr id
   clear c0 c1 c2 c3 f0 f1 f2 f3 hNa
   obtain ⟨⟨c0, c1, c2, c3⟩, f0, f1, f2, f3⟩ := row_facts hr
   go_upto_region 12 with (go_at_call 217; refine (HU.out _).mono ?_; rintro e w' ⟨rfl, rfl⟩)
   go_wp2_with fail
   obtain ⟨hN2, hr2⟩ := set4 hN hBw hr (.int .u8 0) (.int .i64 0) (.string ⟨#[]⟩) (.bool false)
   obtain ⟨W2, hW2⟩ : ∃ W2, ((((wa.setCell ⟨B, 0, none⟩ (.int .u8 0)).setCell ⟨B, 1, none⟩ (.int .i64 0)).setCell ⟨B, 2, none⟩ (.string ⟨#[]⟩)).setCell ⟨B, 3, none⟩ (.bool false)) = W2 := ⟨_, rfl⟩
   rw [hW2] at hN2 hr2 ⊢
   exact read_end (by kernel_rfl) rfl rfl rfl hr2 ⟨rfl, hN2⟩
  have d4 : decide (12 < (n : Int)) = false := decide_eq_false (by omega)
  by_cases hk1 : k < 1
  ·have d5 : decide ((k : Int) < 1) = true := decide_eq_true (by omega)
   rw [if_pos (.inr (.inl hk1))]
   unfold ReadP bv bcs noIt
   simp only
   clear hn12 hk1 h1 h15 hle hed het hpc hek hUs hlt hk hvl12
   go_enter Tryz.func209, Tryz.ntmps209
   go_upto_region 1 with fail
   obtain ⟨W, hW⟩ : ∃ W, w.alloc (.cells #[.int .u8 0, .int .i64 0, .string ⟨#[]⟩, .bool false] 66) = W := ⟨_, rfl⟩
   rw [hW] at hN hr ⊢
   obtain ⟨B, hB⟩ : ∃ B, w.heap.size = B := ⟨_, rfl⟩
   have hBw : w.heap.size ≤ B := by omega
   rw [hB] at hr ⊢
   clear hW hB
   obtain ⟨⟨c0, c1, c2, c3⟩, f0, f1, f2, f3⟩ := row_facts hr
   go_upto_region 3 with fail
   go_region
   have hN := hN.drew
   have hr : W.drew.heap[B]? = some (.cells #[.int .u8 0, .int .i64 0, .string ⟨#[]⟩, .bool false] 66 (0, 0)) := hr
   obtain ⟨W, hW⟩ : ∃ V, W.drew = V := ⟨_, rfl⟩
   rw [hW] at hN hr ⊢
   clear hW c0 c1 c2 c3 f0 f1 f2 f3
   obtain ⟨⟨c0, c1, c2, c3⟩, f0, f1, f2, f3⟩ := row_facts hr
   go_upto_region 10 with (first | (go_at_call 217; refine (HR.out _).mono ?_; rintro e w' ⟨rfl, rfl⟩) | (go_at_call 218; refine (HA.out _).mono ?_; rintro e wa ⟨rfl, hNa⟩))
   have hN := hN.trans hNa
   have hr := hNa.heap hr id
   clear c0 c1 c2 c3 f0 f1 f2 f3 hNa
   obtain ⟨⟨c0, c1, c2, c3⟩, f0, f1, f2, f3⟩ := row_facts hr
   go_upto_region 12 with (go_at_call 217; refine (HU.out _).mono ?_; rintro e w' ⟨rfl, rfl⟩)
   go_wp2_with fail
   obtain ⟨hN2, hr2⟩ := set4 hN hBw hr (.int .u8 0) (.int .i64 0) (.string ⟨#[]⟩) (.bool false)
   obtain ⟨W2, hW2⟩ : ∃ W2, ((((wa.setCell ⟨B, 0, none⟩ (.int .u8 0)).setCell ⟨B, 1, none⟩ (.int .i64 0)).setCell ⟨B, 2, none⟩ (.string ⟨#[]⟩)).setCell ⟨B, 3, none⟩ (.bool false)) = W2 := ⟨_, rfl⟩
   rw [hW2] at hN2 hr2 ⊢
   exact read_end (by kernel_rfl) rfl rfl rfl hr2 ⟨rfl, hN2⟩
  have d5 : decide ((k : Int) < 1) = false := decide_eq_false (by omega)
  by_cases hk3 : 3 < k
  ·have d6 : decide (3 < (k : Int)) = true := decide_eq_true (by omega)
   rw [if_pos (.inr (.inr hk3))]
   unfold ReadP bv bcs noIt
   simp only
   clear hn12 hk1 hk3 h1 h15 hle hed het hpc hek hUs hlt hk hvl12
   go_enter Tryz.func209, Tryz.ntmps209
   go_upto_region 1 with fail
   obtain ⟨W, hW⟩ : ∃ W, w.alloc (.cells #[.int .u8 0, .int .i64 0, .string ⟨#[]⟩, .bool false] 66) = W := ⟨_, rfl⟩
   rw [hW] at hN hr ⊢
   obtain ⟨B, hB⟩ : ∃ B, w.heap.size = B := ⟨_, rfl⟩
   have hBw : w.heap.size ≤ B := by omega
   rw [hB] at hr ⊢
   clear hW hB
   obtain ⟨⟨c0, c1, c2, c3⟩, f0, f1, f2, f3⟩ := row_facts hr
   go_upto_region 3 with fail
   go_region
   have hN := hN.drew
   have hr : W.drew.heap[B]? = some (.cells #[.int .u8 0, .int .i64 0, .string ⟨#[]⟩, .bool false] 66 (0, 0)) := hr
   obtain ⟨W, hW⟩ : ∃ V, W.drew = V := ⟨_, rfl⟩
   rw [hW] at hN hr ⊢
   clear hW c0 c1 c2 c3 f0 f1 f2 f3
   obtain ⟨⟨c0, c1, c2, c3⟩, f0, f1, f2, f3⟩ := row_facts hr
   go_upto_region 10 with (first | (go_at_call 217; refine (HR.out _).mono ?_; rintro e w' ⟨rfl, rfl⟩) | (go_at_call 218; refine (HA.out _).mono ?_; rintro e wa ⟨rfl, hNa⟩))
   have hN := hN.trans hNa
   have hr := hNa.heap hr id
   clear c0 c1 c2 c3 f0 f1 f2 f3 hNa
   obtain ⟨⟨c0, c1, c2, c3⟩, f0, f1, f2, f3⟩ := row_facts hr
   go_upto_region 12 with (go_at_call 217; refine (HU.out _).mono ?_; rintro e w' ⟨rfl, rfl⟩)
   go_wp2_with fail
   obtain ⟨hN2, hr2⟩ := set4 hN hBw hr (.int .u8 0) (.int .i64 0) (.string ⟨#[]⟩) (.bool false)
   obtain ⟨W2, hW2⟩ : ∃ W2, ((((wa.setCell ⟨B, 0, none⟩ (.int .u8 0)).setCell ⟨B, 1, none⟩ (.int .i64 0)).setCell ⟨B, 2, none⟩ (.string ⟨#[]⟩)).setCell ⟨B, 3, none⟩ (.bool false)) = W2 := ⟨_, rfl⟩
   rw [hW2] at hN2 hr2 ⊢
   exact read_end (by kernel_rfl) rfl rfl rfl hr2 ⟨rfl, hN2⟩
  have d6 : decide (3 < (k : Int)) = false := decide_eq_false (by omega)
  rw [if_neg (by omega)]
  have hv12 := hvl12 (by omega)
  simp at hv12
  have hsl2 : ∀ W, (Instr.slice 9 (.string T) (some (.int .i64 ((n : Int) + 1))) (some (.int .i64 ((n : Int) + 1 + (k : Int)))) none).run Tryz.prog W = .ok (.string (piec T (n + 1) (n + 1 + k))) W := fun W => run_sl T (n + 1) (n + 1 + k) (by omega) (by omega) W
  rw [hpc, het] at hsl2
  have hxx : (tx e ++ ⟨#[48, 48]⟩).extract 0 3 = tx ((e ++ [48, 48]).take 3) := by
   rw [extract_piec, piec_head]
   rfl
  have hz1 : 1 ≤ (tx e).size := by rw [tx_size, hk]; omega
  have hz3 : (tx e).size ≤ 3 := by rw [tx_size, hk]; omega
  have hed2 : ((e ++ [48, 48]).take 3).all Bare.digB = true := by
   rw [List.all_eq_true] at hed ⊢
   intro x hx
   rcases List.mem_append.1 (List.mem_of_mem_take hx) with h | h
   ·exact hed x h
   ·simp at h; subst h; decide
  have hl3 : ((e ++ [48, 48]).take 3).length = 3 := by rw [List.length_take, List.length_append]; show min 3 (e.length + 2) = 3; omega
  have HA2 := Lib.hid (fun W => atoi_any _ hed2 (fun h => by rw [h] at hl3; cases hl3) (by omega) W)
  have hv2 := val_lt hed2 3 (by omega)
  obtain ⟨v2, hv2e⟩ : ∃ v2, Bare.valD ((e ++ [48, 48]).take 3) = v2 := ⟨_, rfl⟩
  rw [hv2e] at HA2 hv2 ⊢
  simp at hv2
  rw [← hxx] at HA2
  obtain ⟨x1, hx1⟩ : ∃ x1, tx e = x1 := ⟨_, rfl⟩
  rw [hx1] at hsl2 HA2 hz1 hz3
  have hsl3 : ∀ W, (Instr.slice 9 (.string T) (some (.int .i64 ((n : Int) + 1 + (k : Int)))) none none).run Tryz.prog W = .ok (.string (tx ((bl T).drop (n + 1 + k)))) W := fun W => run_sl_l T (n + 1 + k) (by omega) W
  obtain ⟨x, hx⟩ : ∃ x, tx ((bl T).drop (n + 1 + k)) = x := ⟨_, rfl⟩
  rw [hx] at hsl3
  clear hv2e hxx hx1 hl3 hed2 hed het hpc hk hk1 hk3 hn12 hek hUs hlt hsl hvl hvl12 h1 h15 hle
  unfold ReadP bv bcs
  simp only
  rw [hx, Int.neg_one_mul]
  clear hx
  go_enter Tryz.func209, Tryz.ntmps209
  go_upto_region 1 with fail
  obtain ⟨W, hW⟩ : ∃ W, w.alloc (.cells #[.int .u8 0, .int .i64 0, .string ⟨#[]⟩, .bool false] 66) = W := ⟨_, rfl⟩
  rw [hW] at hN hr ⊢
  obtain ⟨B, hB⟩ : ∃ B, w.heap.size = B := ⟨_, rfl⟩
  have hBw : w.heap.size ≤ B := by omega
  rw [hB] at hr ⊢
  clear hW hB
  obtain ⟨⟨c0, c1, c2, c3⟩, f0, f1, f2, f3⟩ := row_facts hr
  go_upto_region 3 with fail
  go_region
  have hN := hN.drew
  have hr : W.drew.heap[B]? = some (.cells #[.int .u8 0, .int .i64 0, .string ⟨#[]⟩, .bool false] 66 (0, 0)) := hr
  obtain ⟨W, hW⟩ : ∃ V, W.drew = V := ⟨_, rfl⟩
  rw [hW] at hN hr ⊢
  clear hW c0 c1 c2 c3 f0 f1 f2 f3
  obtain ⟨⟨c0, c1, c2, c3⟩, f0, f1, f2, f3⟩ := row_facts hr
  go_upto_region 10 with (first | (go_at_call 217; refine (HR.out _).mono ?_; rintro e w' ⟨rfl, rfl⟩) | (go_at_call 218; refine (HA.out _).mono ?_; rintro e wa ⟨rfl, hNa⟩))
  have hN := hN.trans hNa
  have hr := hNa.heap hr id
  clear c0 c1 c2 c3 f0 f1 f2 f3 hNa
  obtain ⟨⟨c0, c1, c2, c3⟩, f0, f1, f2, f3⟩ := row_facts hr
  go_upto_region 14 with (first | (go_at_call 217; refine (HU.out _).mono ?_; rintro e w' ⟨rfl, rfl⟩) | (go_at_call 218; refine (HA2.out _).mono ?_; rintro e wb ⟨rfl, hNb⟩))
  have hN := hN.trans hNb
  have hr := hNb.heap hr id
  clear c0 c1 c2 c3 f0 f1 f2 f3 hNb
  obtain ⟨⟨c0, c1, c2, c3⟩, f0, f1, f2, f3⟩ := row_facts hr
  go_region
  obtain ⟨hN2, hr2⟩ := set4 hN hBw hr (.int .u8 2) (.int .i64 (-(1000 * (v : Int) + (v2 : Int)))) (.string ⟨#[]⟩) (.bool false)
  have hN2 := hN2.drew
  have hr2 : ((((wb.setCell ⟨B, 0, none⟩ (.int .u8 2)).setCell ⟨B, 1, none⟩ (.int .i64 (-(1000 * (v : Int) + (v2 : Int))))).setCell ⟨B, 2, none⟩ (.string ⟨#[]⟩)).setCell ⟨B, 3, none⟩ (.bool false)).drew.heap[B]? = some (.cells #[(.int .u8 2), (.int .i64 (-(1000 * (v : Int) + (v2 : Int)))), (.string ⟨#[]⟩), (.bool false)] 66 (0, 0)) := hr2
  obtain ⟨W2, hW2⟩ : ∃ W2, ((((wb.setCell ⟨B, 0, none⟩ (.int .u8 2)).setCell ⟨B, 1, none⟩ (.int .i64 (-(1000 * (v : Int) + (v2 : Int))))).setCell ⟨B, 2, none⟩ (.string ⟨#[]⟩)).setCell ⟨B, 3, none⟩ (.bool false)).drew = W2 := ⟨_, rfl⟩
  rw [hW2] at hN2 hr2 ⊢
  go_wp2_with fail
  exact read_end (by kernel_rfl) rfl rfl rfl hr2 ⟨rfl, hN2⟩
theorem number_read (s : ByteArray) (w : World) (hs : s.size ≤ 1000000) (h0 : 0 < s.size) : Calls Tryz.prog 209 #[.string s] w (ReadP (Bare.number (bl s)) w) := by
 by_cases h : gb s 0 = 45
 ·exact number_neg s w hs h0 h
 ·exact number_pos s w hs h0 h
end Go.Proofs.YtkiiameibdhdfaaGreatDoor
namespace Go.Proofs.YtkiiameibdhdfaaGreatDoor
open Go.RowKit Go.Shelf Go.Cs
attribute [local go_sem] Oper.semAt_some


theorem readP_open (r : Option (Bare.It × Bare.Bs)) : ∃ (k n : Int) (t : ByteArray) (y : Bool) (x : ByteArray) (ec : Int), ∀ w e w', ReadP r w e w' ↔ (e = .returned (.tuple #[.agg #[.int .u8 k, .int .i64 n, .string t, .bool y], .string x, .int .i64 ec]) ∧ New w w') := by
 cases r with
 | none => exact ⟨0, 0, ⟨#[]⟩, false, ⟨#[]⟩, 120, fun w e w' => Iff.rfl⟩
 | some p => exact ⟨p.1.kind, p.1.int, tx p.1.text, p.1.yes, tx p.2, 0, fun w e w' => Iff.rfl⟩
theorem parseI_at (s : ByteArray) (h : 0 < s.size) : Bare.parseI (bl s) = (if Bare.digB (gb s 0) || decide (gb s 0 = 45) then Bare.number (bl s)
  else if Bare.letB (gb s 0) || decide (gb s 0 = 42) then some (⟨4, 0, (bl s).takeWhile Bare.inTok, false⟩, (bl s).drop ((bl s).takeWhile Bare.inTok).length)
  else if gb s 0 = 34 then Bare.quoted [] ((bl s).drop 1)
  else if gb s 0 = 58 then Bare.packed ((bl s).drop 1)
  else if gb s 0 = 63 then ansR (bl s)
  else none) := by
 have hdr : bl s = gb s 0 :: (bl s).drop 1 := by
  have := gb_get s 0 h
  obtain ⟨h1, h2⟩ := List.getElem?_eq_some_iff.1 this
  conv => lhs; rw [← List.drop_zero (l := bl s), List.drop_eq_getElem_cons h1, h2]
 have e45 : (gb s 0 == 45) = decide (gb s 0 = 45) := by rw [Bool.eq_iff_iff, beq_iff_eq, decide_eq_true_eq]
 have e42 : (gb s 0 == 42) = decide (gb s 0 = 42) := by rw [Bool.eq_iff_iff, beq_iff_eq, decide_eq_true_eq]
 obtain ⟨c, hc⟩ : ∃ c, gb s 0 = c := ⟨_, rfl⟩
 obtain ⟨r, hr⟩ : ∃ r, (bl s).drop 1 = r := ⟨_, rfl⟩
 rw [hc, hr] at hdr
 rw [hc] at e45 e42
 rw [hc, hr, hdr, Bare.parseI_cons]
 unfold Bare.headTok
 rw [e45, e42]
 congr 1
 congr 1
 congr 1
 congr 1
 congr 1
 unfold ansR
 cases r <;> rfl
set_option maxHeartbeats 4000000 in
set_option maxRecDepth 100000 in
theorem parse_read (s : ByteArray) (w : World) (hs : s.size ≤ 1000000) (hT : Tab w) :
  Calls Tryz.prog 199 #[.string s] w (ReadP (Bare.parseI (bl s)) w) := by
 obtain ⟨hN, hr⟩ := no_row w
 have hem := empty_toList s
 by_cases h0 : s.size = 0
 ·have e : Bare.parseI (bl s) = none := by
   have : bl s = [] := List.length_eq_zero_iff.1 (by rw [bl_len]; exact h0)
   rw [this]; rfl
  rw [e]
  rw [decide_eq_true h0] at hem
  unfold ReadP bv bcs noIt
  simp only
  clear h0 e
  go_enter Tryz.func199, Tryz.ntmps199
  go_upto_region 1 with fail
  obtain ⟨W, hW⟩ : ∃ W, w.alloc (.cells #[.int .u8 0, .int .i64 0, .string ⟨#[]⟩, .bool false] 66) = W := ⟨_, rfl⟩
  rw [hW] at hN hr ⊢
  obtain ⟨B, hB⟩ : ∃ B, w.heap.size = B := ⟨_, rfl⟩
  have hBw : w.heap.size ≤ B := by omega
  rw [hB] at hr ⊢
  clear hW hB
  obtain ⟨⟨c0, c1, c2, c3⟩, f0, f1, f2, f3⟩ := row_facts hr
  go_wp2_with fail
  obtain ⟨hN2, hr2⟩ := set4 hN hBw hr (.int .u8 0) (.int .i64 0) (.string ⟨#[]⟩) (.bool false)
  obtain ⟨W2, hW2⟩ : ∃ W2, ((((W.setCell ⟨B, 0, none⟩ (.int .u8 0)).setCell ⟨B, 1, none⟩ (.int .i64 0)).setCell ⟨B, 2, none⟩ (.string ⟨#[]⟩)).setCell ⟨B, 3, none⟩ (.bool false)) = W2 := ⟨_, rfl⟩
  rw [hW2] at hN2 hr2 ⊢
  exact read_end (by kernel_rfl) rfl rfl rfl hr2 ⟨rfl, hN2⟩
 rw [decide_eq_false h0] at hem
 rw [parseI_at s (by omega)]
 have hix0 : ∀ W, (Instr.index 9 (.string s) (.int .i64 0)).run Tryz.prog W = .ok (.int .u8 ((gb s 0).toNat : Nat)) W := run_idx s 0 (by omega)
 have HD := Lib.hid (fun W => (digit_p (gb s 0) W).mono fun e w' h => show e = _ ∧ W = w' from ⟨h.1, h.2.symm⟩)
 have HL := Lib.hid (fun W => (letter_p (gb s 0) W).mono fun e w' h => show e = _ ∧ W = w' from ⟨h.1, h.2.symm⟩)
 have HNum := Lib.hid (fun W => number_read s W hs (by omega))
 have HTok := Lib.hid (fun W => token_read s W hs)
 have HQuo := Lib.hid (fun W => quoted_read s W hs (by omega))
 have HPac := Lib.hid (fun W (hN : New w W) => packed_read s W hs (by omega) (hT.new hN))
 have HAns := Lib.hid (fun W => answer_read s W hs)
 obtain ⟨n, hn⟩ : ∃ n, (gb s 0).toNat = n := ⟨_, rfl⟩
 have t45 := (byte_test (gb s 0) 45 (by decide) n hn).1
 rw [show UInt8.ofNat 45 = 45 from rfl] at t45
 have t45 : ((n : Int) == 45) = decide (gb s 0 = 45) := t45
 have t42 := (byte_test (gb s 0) 42 (by decide) n hn).1
 rw [show UInt8.ofNat 42 = 42 from rfl] at t42
 have t42 : ((n : Int) == 42) = decide (gb s 0 = 42) := t42
 have t34 := (byte_test (gb s 0) 34 (by decide) n hn).1
 rw [show UInt8.ofNat 34 = 34 from rfl] at t34
 have t34 : ((n : Int) == 34) = decide (gb s 0 = 34) := t34
 have t58 := (byte_test (gb s 0) 58 (by decide) n hn).1
 rw [show UInt8.ofNat 58 = 58 from rfl] at t58
 have t58 : ((n : Int) == 58) = decide (gb s 0 = 58) := t58
 have t63 := (byte_test (gb s 0) 63 (by decide) n hn).1
 rw [show UInt8.ofNat 63 = 63 from rfl] at t63
 have t63 : ((n : Int) == 63) = decide (gb s 0 = 63) := t63
 rw [hn] at hix0 HD HL
 clear hn h0
 obtain ⟨D, hD⟩ : ∃ x, Bare.digB (gb s 0) = x := ⟨_, rfl⟩
 obtain ⟨L, hL⟩ : ∃ x, Bare.letB (gb s 0) = x := ⟨_, rfl⟩
 rw [hD] at HD ⊢
 rw [hL] at HL ⊢
 clear hD hL
 obtain ⟨x45, hx45⟩ : ∃ x, decide (gb s 0 = 45) = x := ⟨_, rfl⟩
 rw [hx45] at t45 ⊢
 clear hx45
 obtain ⟨x42, hx42⟩ : ∃ x, decide (gb s 0 = 42) = x := ⟨_, rfl⟩
 rw [hx42] at t42 ⊢
 clear hx42
 cases D with
 | true =>
  rw [Bool.true_or, if_pos rfl]
  obtain ⟨k, nn, tt, y, x, ec, hv⟩ := readP_open (Bare.number (bl s))
  refine Calls.mono (R := fun e w' => e = .returned (.tuple #[.agg #[.int .u8 k, .int .i64 nn, .string tt, .bool y], .string x, .int .i64 ec]) ∧ New w w') ?_ fun e w' h => (hv w e w').2 h
  have HX := Lib.hid (fun W (hN : New w W) => (HNum.out W).mono fun e w' h => (hv W e w').1 h)
  clear hv HNum HTok HQuo HPac HAns
  go_enter Tryz.func199, Tryz.ntmps199
  go_upto_region 1 with fail
  obtain ⟨W, hW⟩ : ∃ W, w.alloc (.cells #[.int .u8 0, .int .i64 0, .string ⟨#[]⟩, .bool false] 66) = W := ⟨_, rfl⟩
  rw [hW] at hN hr ⊢
  obtain ⟨B, hB⟩ : ∃ B, w.heap.size = B := ⟨_, rfl⟩
  have hBw : w.heap.size ≤ B := by omega
  rw [hB] at hr ⊢
  clear hW hB
  obtain ⟨⟨c0, c1, c2, c3⟩, f0, f1, f2, f3⟩ := row_facts hr
  clear c0 c1 c2 c3 f0 f1 f2 f3
  go_upto_region 6 with (first | (go_at_call 176; refine (HD.out _).mono ?_; rintro e w' ⟨rfl, rfl⟩) | (go_at_call 175; refine (HL.out _).mono ?_; rintro e w' ⟨rfl, rfl⟩))
  go_wp2_with fail
  refine (HX.out _ hN).mono ?_
  rintro e w1 ⟨rfl, hN1⟩
  have hN := hN.trans hN1
  have hr := hN1.heap hr id
  obtain ⟨⟨c0, c1, c2, c3⟩, f0, f1, f2, f3⟩ := row_facts hr
  go_wp2_with fail
  obtain ⟨hN2, hr2⟩ := set4 hN hBw hr (.int .u8 k) (.int .i64 nn) (.string tt) (.bool y)
  obtain ⟨W2, hW2⟩ : ∃ W2, ((((w1.setCell ⟨B, 0, none⟩ (.int .u8 k)).setCell ⟨B, 1, none⟩ (.int .i64 nn)).setCell ⟨B, 2, none⟩ (.string tt)).setCell ⟨B, 3, none⟩ (.bool y)) = W2 := ⟨_, rfl⟩
  rw [hW2] at hN2 hr2 ⊢
  exact read_end (by kernel_rfl) rfl rfl rfl hr2 ⟨rfl, hN2⟩
 | false =>
  rw [Bool.false_or]
  cases x45 with
  | true =>
   rw [if_pos rfl]
   obtain ⟨k, nn, tt, y, x, ec, hv⟩ := readP_open (Bare.number (bl s))
   refine Calls.mono (R := fun e w' => e = .returned (.tuple #[.agg #[.int .u8 k, .int .i64 nn, .string tt, .bool y], .string x, .int .i64 ec]) ∧ New w w') ?_ fun e w' h => (hv w e w').2 h
   have HX := Lib.hid (fun W (hN : New w W) => (HNum.out W).mono fun e w' h => (hv W e w').1 h)
   clear hv HNum HTok HQuo HPac HAns
   go_enter Tryz.func199, Tryz.ntmps199
   go_upto_region 1 with fail
   obtain ⟨W, hW⟩ : ∃ W, w.alloc (.cells #[.int .u8 0, .int .i64 0, .string ⟨#[]⟩, .bool false] 66) = W := ⟨_, rfl⟩
   rw [hW] at hN hr ⊢
   obtain ⟨B, hB⟩ : ∃ B, w.heap.size = B := ⟨_, rfl⟩
   have hBw : w.heap.size ≤ B := by omega
   rw [hB] at hr ⊢
   clear hW hB
   obtain ⟨⟨c0, c1, c2, c3⟩, f0, f1, f2, f3⟩ := row_facts hr
   clear c0 c1 c2 c3 f0 f1 f2 f3
   go_upto_region 6 with (first | (go_at_call 176; refine (HD.out _).mono ?_; rintro e w' ⟨rfl, rfl⟩) | (go_at_call 175; refine (HL.out _).mono ?_; rintro e w' ⟨rfl, rfl⟩))
   go_wp2_with fail
   refine (HX.out _ hN).mono ?_
   rintro e w1 ⟨rfl, hN1⟩
   have hN := hN.trans hN1
   have hr := hN1.heap hr id
   obtain ⟨⟨c0, c1, c2, c3⟩, f0, f1, f2, f3⟩ := row_facts hr
   go_wp2_with fail
   obtain ⟨hN2, hr2⟩ := set4 hN hBw hr (.int .u8 k) (.int .i64 nn) (.string tt) (.bool y)
   obtain ⟨W2, hW2⟩ : ∃ W2, ((((w1.setCell ⟨B, 0, none⟩ (.int .u8 k)).setCell ⟨B, 1, none⟩ (.int .i64 nn)).setCell ⟨B, 2, none⟩ (.string tt)).setCell ⟨B, 3, none⟩ (.bool y)) = W2 := ⟨_, rfl⟩
   rw [hW2] at hN2 hr2 ⊢
   exact read_end (by kernel_rfl) rfl rfl rfl hr2 ⟨rfl, hN2⟩
  | false =>
   rw [if_neg (by decide)]
   cases L with
   | true =>
    rw [Bool.true_or, if_pos rfl]
    obtain ⟨k, nn, tt, y, x, ec, hv⟩ := readP_open (some (⟨4, 0, (bl s).takeWhile Bare.inTok, false⟩, (bl s).drop ((bl s).takeWhile Bare.inTok).length))
    refine Calls.mono (R := fun e w' => e = .returned (.tuple #[.agg #[.int .u8 k, .int .i64 nn, .string tt, .bool y], .string x, .int .i64 ec]) ∧ New w w') ?_ fun e w' h => (hv w e w').2 h
    have HX := Lib.hid (fun W (hN : New w W) => (HTok.out W).mono fun e w' h => (hv W e w').1 h)
    clear hv HNum HTok HQuo HPac HAns
    go_enter Tryz.func199, Tryz.ntmps199
    go_upto_region 1 with fail
    obtain ⟨W, hW⟩ : ∃ W, w.alloc (.cells #[.int .u8 0, .int .i64 0, .string ⟨#[]⟩, .bool false] 66) = W := ⟨_, rfl⟩
    rw [hW] at hN hr ⊢
    obtain ⟨B, hB⟩ : ∃ B, w.heap.size = B := ⟨_, rfl⟩
    have hBw : w.heap.size ≤ B := by omega
    rw [hB] at hr ⊢
    clear hW hB
    obtain ⟨⟨c0, c1, c2, c3⟩, f0, f1, f2, f3⟩ := row_facts hr
    clear c0 c1 c2 c3 f0 f1 f2 f3
    go_upto_region 9 with (first | (go_at_call 176; refine (HD.out _).mono ?_; rintro e w' ⟨rfl, rfl⟩) | (go_at_call 175; refine (HL.out _).mono ?_; rintro e w' ⟨rfl, rfl⟩))
    go_wp2_with fail
    refine (HX.out _ hN).mono ?_
    rintro e w1 ⟨rfl, hN1⟩
    have hN := hN.trans hN1
    have hr := hN1.heap hr id
    obtain ⟨⟨c0, c1, c2, c3⟩, f0, f1, f2, f3⟩ := row_facts hr
    go_wp2_with fail
    obtain ⟨hN2, hr2⟩ := set4 hN hBw hr (.int .u8 k) (.int .i64 nn) (.string tt) (.bool y)
    obtain ⟨W2, hW2⟩ : ∃ W2, ((((w1.setCell ⟨B, 0, none⟩ (.int .u8 k)).setCell ⟨B, 1, none⟩ (.int .i64 nn)).setCell ⟨B, 2, none⟩ (.string tt)).setCell ⟨B, 3, none⟩ (.bool y)) = W2 := ⟨_, rfl⟩
    rw [hW2] at hN2 hr2 ⊢
    exact read_end (by kernel_rfl) rfl rfl rfl hr2 ⟨rfl, hN2⟩
   | false =>
    rw [Bool.false_or]
    cases x42 with
    | true =>
     rw [if_pos rfl]
     obtain ⟨k, nn, tt, y, x, ec, hv⟩ := readP_open (some (⟨4, 0, (bl s).takeWhile Bare.inTok, false⟩, (bl s).drop ((bl s).takeWhile Bare.inTok).length))
     refine Calls.mono (R := fun e w' => e = .returned (.tuple #[.agg #[.int .u8 k, .int .i64 nn, .string tt, .bool y], .string x, .int .i64 ec]) ∧ New w w') ?_ fun e w' h => (hv w e w').2 h
     have HX := Lib.hid (fun W (hN : New w W) => (HTok.out W).mono fun e w' h => (hv W e w').1 h)
     clear hv HNum HTok HQuo HPac HAns
     go_enter Tryz.func199, Tryz.ntmps199
     go_upto_region 1 with fail
     obtain ⟨W, hW⟩ : ∃ W, w.alloc (.cells #[.int .u8 0, .int .i64 0, .string ⟨#[]⟩, .bool false] 66) = W := ⟨_, rfl⟩
     rw [hW] at hN hr ⊢
     obtain ⟨B, hB⟩ : ∃ B, w.heap.size = B := ⟨_, rfl⟩
     have hBw : w.heap.size ≤ B := by omega
     rw [hB] at hr ⊢
     clear hW hB
     obtain ⟨⟨c0, c1, c2, c3⟩, f0, f1, f2, f3⟩ := row_facts hr
     clear c0 c1 c2 c3 f0 f1 f2 f3
     go_upto_region 9 with (first | (go_at_call 176; refine (HD.out _).mono ?_; rintro e w' ⟨rfl, rfl⟩) | (go_at_call 175; refine (HL.out _).mono ?_; rintro e w' ⟨rfl, rfl⟩))
     go_wp2_with fail
     refine (HX.out _ hN).mono ?_
     rintro e w1 ⟨rfl, hN1⟩
     have hN := hN.trans hN1
     have hr := hN1.heap hr id
     obtain ⟨⟨c0, c1, c2, c3⟩, f0, f1, f2, f3⟩ := row_facts hr
     go_wp2_with fail
     obtain ⟨hN2, hr2⟩ := set4 hN hBw hr (.int .u8 k) (.int .i64 nn) (.string tt) (.bool y)
     obtain ⟨W2, hW2⟩ : ∃ W2, ((((w1.setCell ⟨B, 0, none⟩ (.int .u8 k)).setCell ⟨B, 1, none⟩ (.int .i64 nn)).setCell ⟨B, 2, none⟩ (.string tt)).setCell ⟨B, 3, none⟩ (.bool y)) = W2 := ⟨_, rfl⟩
     rw [hW2] at hN2 hr2 ⊢
     exact read_end (by kernel_rfl) rfl rfl rfl hr2 ⟨rfl, hN2⟩
    | false =>
     rw [if_neg (by decide)]
     by_cases h34 : gb s 0 = 34
     ·rw [if_pos h34]
      rw [decide_eq_true h34] at t34
      clear h34 t58 t63
      obtain ⟨k, nn, tt, y, x, ec, hv⟩ := readP_open (Bare.quoted [] ((bl s).drop 1))
      refine Calls.mono (R := fun e w' => e = .returned (.tuple #[.agg #[.int .u8 k, .int .i64 nn, .string tt, .bool y], .string x, .int .i64 ec]) ∧ New w w') ?_ fun e w' h => (hv w e w').2 h
      have HX := Lib.hid (fun W (hN : New w W) => (HQuo.out W).mono fun e w' h => (hv W e w').1 h)
      clear hv HNum HTok HQuo HPac HAns
      go_enter Tryz.func199, Tryz.ntmps199
      go_upto_region 1 with fail
      obtain ⟨W, hW⟩ : ∃ W, w.alloc (.cells #[.int .u8 0, .int .i64 0, .string ⟨#[]⟩, .bool false] 66) = W := ⟨_, rfl⟩
      rw [hW] at hN hr ⊢
      obtain ⟨B, hB⟩ : ∃ B, w.heap.size = B := ⟨_, rfl⟩
      have hBw : w.heap.size ≤ B := by omega
      rw [hB] at hr ⊢
      clear hW hB
      obtain ⟨⟨c0, c1, c2, c3⟩, f0, f1, f2, f3⟩ := row_facts hr
      clear c0 c1 c2 c3 f0 f1 f2 f3
      go_upto_region 11 with (first | (go_at_call 176; refine (HD.out _).mono ?_; rintro e w' ⟨rfl, rfl⟩) | (go_at_call 175; refine (HL.out _).mono ?_; rintro e w' ⟨rfl, rfl⟩))
      go_wp2_with fail
      refine (HX.out _ hN).mono ?_
      rintro e w1 ⟨rfl, hN1⟩
      have hN := hN.trans hN1
      have hr := hN1.heap hr id
      obtain ⟨⟨c0, c1, c2, c3⟩, f0, f1, f2, f3⟩ := row_facts hr
      go_wp2_with fail
      obtain ⟨hN2, hr2⟩ := set4 hN hBw hr (.int .u8 k) (.int .i64 nn) (.string tt) (.bool y)
      obtain ⟨W2, hW2⟩ : ∃ W2, ((((w1.setCell ⟨B, 0, none⟩ (.int .u8 k)).setCell ⟨B, 1, none⟩ (.int .i64 nn)).setCell ⟨B, 2, none⟩ (.string tt)).setCell ⟨B, 3, none⟩ (.bool y)) = W2 := ⟨_, rfl⟩
      rw [hW2] at hN2 hr2 ⊢
      exact read_end (by kernel_rfl) rfl rfl rfl hr2 ⟨rfl, hN2⟩
     rw [if_neg h34]
     rw [decide_eq_false h34] at t34
     by_cases h58 : gb s 0 = 58
     ·rw [if_pos h58]
      rw [decide_eq_true h58] at t58
      clear h58 t63 h34
      obtain ⟨k, nn, tt, y, x, ec, hv⟩ := readP_open (Bare.packed ((bl s).drop 1))
      refine Calls.mono (R := fun e w' => e = .returned (.tuple #[.agg #[.int .u8 k, .int .i64 nn, .string tt, .bool y], .string x, .int .i64 ec]) ∧ New w w') ?_ fun e w' h => (hv w e w').2 h
      have HX := Lib.hid (fun W (hN : New w W) => (HPac.out W hN).mono fun e w' h => (hv W e w').1 h)
      clear hv HNum HTok HQuo HPac HAns
      go_enter Tryz.func199, Tryz.ntmps199
      go_upto_region 1 with fail
      obtain ⟨W, hW⟩ : ∃ W, w.alloc (.cells #[.int .u8 0, .int .i64 0, .string ⟨#[]⟩, .bool false] 66) = W := ⟨_, rfl⟩
      rw [hW] at hN hr ⊢
      obtain ⟨B, hB⟩ : ∃ B, w.heap.size = B := ⟨_, rfl⟩
      have hBw : w.heap.size ≤ B := by omega
      rw [hB] at hr ⊢
      clear hW hB
      obtain ⟨⟨c0, c1, c2, c3⟩, f0, f1, f2, f3⟩ := row_facts hr
      clear c0 c1 c2 c3 f0 f1 f2 f3
      go_upto_region 13 with (first | (go_at_call 176; refine (HD.out _).mono ?_; rintro e w' ⟨rfl, rfl⟩) | (go_at_call 175; refine (HL.out _).mono ?_; rintro e w' ⟨rfl, rfl⟩))
      go_wp2_with fail
      refine (HX.out _ hN).mono ?_
      rintro e w1 ⟨rfl, hN1⟩
      have hN := hN.trans hN1
      have hr := hN1.heap hr id
      obtain ⟨⟨c0, c1, c2, c3⟩, f0, f1, f2, f3⟩ := row_facts hr
      go_wp2_with fail
      obtain ⟨hN2, hr2⟩ := set4 hN hBw hr (.int .u8 k) (.int .i64 nn) (.string tt) (.bool y)
      obtain ⟨W2, hW2⟩ : ∃ W2, ((((w1.setCell ⟨B, 0, none⟩ (.int .u8 k)).setCell ⟨B, 1, none⟩ (.int .i64 nn)).setCell ⟨B, 2, none⟩ (.string tt)).setCell ⟨B, 3, none⟩ (.bool y)) = W2 := ⟨_, rfl⟩
      rw [hW2] at hN2 hr2 ⊢
      exact read_end (by kernel_rfl) rfl rfl rfl hr2 ⟨rfl, hN2⟩
     rw [if_neg h58]
     rw [decide_eq_false h58] at t58
     by_cases h63 : gb s 0 = 63
     ·rw [if_pos h63]
      rw [decide_eq_true h63] at t63
      clear h63 h34 h58
      obtain ⟨k, nn, tt, y, x, ec, hv⟩ := readP_open (ansR (bl s))
      refine Calls.mono (R := fun e w' => e = .returned (.tuple #[.agg #[.int .u8 k, .int .i64 nn, .string tt, .bool y], .string x, .int .i64 ec]) ∧ New w w') ?_ fun e w' h => (hv w e w').2 h
      have HX := Lib.hid (fun W (hN : New w W) => (HAns.out W).mono fun e w' h => (hv W e w').1 h)
      clear hv HNum HTok HQuo HPac HAns
      go_enter Tryz.func199, Tryz.ntmps199
      go_upto_region 1 with fail
      obtain ⟨W, hW⟩ : ∃ W, w.alloc (.cells #[.int .u8 0, .int .i64 0, .string ⟨#[]⟩, .bool false] 66) = W := ⟨_, rfl⟩
      rw [hW] at hN hr ⊢
      obtain ⟨B, hB⟩ : ∃ B, w.heap.size = B := ⟨_, rfl⟩
      have hBw : w.heap.size ≤ B := by omega
      rw [hB] at hr ⊢
      clear hW hB
      obtain ⟨⟨c0, c1, c2, c3⟩, f0, f1, f2, f3⟩ := row_facts hr
      clear c0 c1 c2 c3 f0 f1 f2 f3
      go_upto_region 15 with (first | (go_at_call 176; refine (HD.out _).mono ?_; rintro e w' ⟨rfl, rfl⟩) | (go_at_call 175; refine (HL.out _).mono ?_; rintro e w' ⟨rfl, rfl⟩))
      go_wp2_with fail
      refine (HX.out _ hN).mono ?_
      rintro e w1 ⟨rfl, hN1⟩
      have hN := hN.trans hN1
      have hr := hN1.heap hr id
      obtain ⟨⟨c0, c1, c2, c3⟩, f0, f1, f2, f3⟩ := row_facts hr
      go_wp2_with fail
      obtain ⟨hN2, hr2⟩ := set4 hN hBw hr (.int .u8 k) (.int .i64 nn) (.string tt) (.bool y)
      obtain ⟨W2, hW2⟩ : ∃ W2, ((((w1.setCell ⟨B, 0, none⟩ (.int .u8 k)).setCell ⟨B, 1, none⟩ (.int .i64 nn)).setCell ⟨B, 2, none⟩ (.string tt)).setCell ⟨B, 3, none⟩ (.bool y)) = W2 := ⟨_, rfl⟩
      rw [hW2] at hN2 hr2 ⊢
      exact read_end (by kernel_rfl) rfl rfl rfl hr2 ⟨rfl, hN2⟩
     rw [if_neg h63]
     rw [decide_eq_false h63] at t63
     unfold ReadP bv bcs noIt
     simp only
     clear h63 h34 h58 HNum HTok HQuo HPac HAns
     go_enter Tryz.func199, Tryz.ntmps199
     go_upto_region 1 with fail
     obtain ⟨W, hW⟩ : ∃ W, w.alloc (.cells #[.int .u8 0, .int .i64 0, .string ⟨#[]⟩, .bool false] 66) = W := ⟨_, rfl⟩
     rw [hW] at hN hr ⊢
     obtain ⟨B, hB⟩ : ∃ B, w.heap.size = B := ⟨_, rfl⟩
     have hBw : w.heap.size ≤ B := by omega
     rw [hB] at hr ⊢
     clear hW hB
     obtain ⟨⟨c0, c1, c2, c3⟩, f0, f1, f2, f3⟩ := row_facts hr
     go_wp2_with (first | (go_at_call 176; refine (HD.out _).mono ?_; rintro e w' ⟨rfl, rfl⟩) | (go_at_call 175; refine (HL.out _).mono ?_; rintro e w' ⟨rfl, rfl⟩))
     obtain ⟨hN2, hr2⟩ := set4 hN hBw hr (.int .u8 0) (.int .i64 0) (.string ⟨#[]⟩) (.bool false)
     obtain ⟨W2, hW2⟩ : ∃ W2, ((((W.setCell ⟨B, 0, none⟩ (.int .u8 0)).setCell ⟨B, 1, none⟩ (.int .i64 0)).setCell ⟨B, 2, none⟩ (.string ⟨#[]⟩)).setCell ⟨B, 3, none⟩ (.bool false)) = W2 := ⟨_, rfl⟩
     rw [hW2] at hN2 hr2 ⊢
     exact read_end (by kernel_rfl) rfl rfl rfl hr2 ⟨rfl, hN2⟩
end Go.Proofs.YtkiiameibdhdfaaGreatDoor
namespace Go.Proofs.YtkiiameibdhdfaaGreatDoor
open Go.RowKit Go.Shelf Go.Cs
attribute [local go_sem] Oper.semAt_some


theorem eq_item (d : Nat) (p q : Bare.It) (w : World) : (Op.equalIn (d + 2) 66 (bv p) (bv q)).run Tryz.prog w = .ok (decide (p = q)) w := by
 unfold bv bcs
 rw [show d + 2 = (d + 1) + 1 from rfl, run_equalIn_agg w (d + 1) 66 _ _ (by unfold Program.fieldsOf; rw [Tryz.underlying66]) (by kernel_rfl)]
 unfold Program.fieldsOf
 rw [Tryz.underlying66]
 have h0 := fun (k n : Int) (s : ByteArray) (y : Bool) w => partAt 5 _ Tryz.underlying5 rfl #[.int .u8 k, .int .i64 n, .string s, .bool y] 0 (.int .u8 k) w rfl
 have h1 := fun (k n : Int) (s : ByteArray) (y : Bool) w => partAt 3 _ Tryz.underlying3 rfl #[.int .u8 k, .int .i64 n, .string s, .bool y] 1 (.int .i64 n) w rfl
 have h2 := fun (k n : Int) (s : ByteArray) (y : Bool) w => partAt 9 _ Tryz.underlying9 rfl #[.int .u8 k, .int .i64 n, .string s, .bool y] 2 (.string s) w rfl
 have h3 := fun (k n : Int) (s : ByteArray) (y : Bool) w => partAt 4 _ Tryz.underlying4 rfl #[.int .u8 k, .int .i64 n, .string s, .bool y] 3 (.bool y) w rfl
 have e5 := fun w (a b : Int) => run_equalIn_int w d 5 .u8 .u8 a b Tryz.underlying5
 have e3 := fun w (a b : Int) => run_equalIn_int w d 3 .i64 .i64 a b Tryz.underlying3
 have e9 := fun w (a b : ByteArray) => run_equalIn_string w d 9 a b Tryz.underlying9
 have e4 := fun w (a b : Bool) => run_equalIn_bool w d 4 a b Tryz.underlying4
 have n1 : ("Kind" ≠ "_") = True := by simp
 have n2 : ("Int" ≠ "_") = True := by simp
 have n3 : ("Text" ≠ "_") = True := by simp
 have n4 : ("Yes" ≠ "_") = True := by simp
 obtain ⟨k, n, t, y⟩ := p
 obtain ⟨k', n', t', y'⟩ := q
 have et := eq_tx (tx t) (tx t')
 rw [bl_tx, bl_tx] at et
 simp only [Op.eqFields, n1, n2, n3, n4, if_true, Sem.run_bind, h0, e5, Result.andThen_ok]
 by_cases hk : k = k' <;> by_cases hn : n = n' <;> by_cases ht : t = t' <;> by_cases hy : y = y' <;> simp [hk, hn, ht, hy, Sem.run_bind, h1, h2, h3, e3, e9, e4, et]
theorem binop_item (p q : Bare.It) (w : World) : (binOp .eql 66 (bv p) (bv q)).run Tryz.prog w = .ok (.bool (decide (p = q))) w := by
 have h := eq_item 9998 p q w
 simp only [binOp]
 unfold bv at h ⊢
 simp [Op.equal, Op.maxDepth, h]
end Go.Proofs.YtkiiameibdhdfaaGreatDoor
namespace Go.Proofs.YtkiiameibdhdfaaGreatDoor
open Go.RowKit Go.Shelf Go.Cs
attribute [local go_sem] Oper.semAt_some


theorem eq_pr (d : Nat) (u v : Int) (i j : Bool) (w : World) : (Op.equalIn (d + 2) 31 (.agg #[.int .u8 u, .bool i]) (.agg #[.int .u8 v, .bool j])).run Tryz.prog w = .ok (decide (u = v) && decide (i = j)) w := by
 rw [show d + 2 = (d + 1) + 1 from rfl, run_equalIn_agg w (d + 1) 31 _ _ (by unfold Program.fieldsOf; rw [Tryz.underlying31]) (by kernel_rfl)]
 unfold Program.fieldsOf
 rw [Tryz.underlying31]
 have h0 := fun (k : Int) (y : Bool) w => partAt 5 _ Tryz.underlying5 rfl #[.int .u8 k, .bool y] 0 (.int .u8 k) w rfl
 have h3 := fun (k : Int) (y : Bool) w => partAt 4 _ Tryz.underlying4 rfl #[.int .u8 k, .bool y] 1 (.bool y) w rfl
 have e5 := fun w (a b : Int) => run_equalIn_int w d 5 .u8 .u8 a b Tryz.underlying5
 have e4 := fun w (a b : Bool) => run_equalIn_bool w d 4 a b Tryz.underlying4
 have n1 : ("Urgency" ≠ "_") = True := by simp
 have n2 : ("Incremental" ≠ "_") = True := by simp
 simp only [Op.eqFields, n1, n2, if_true, Sem.run_bind, h0, e5, Result.andThen_ok]
 by_cases hk : u = v <;> by_cases hy : i = j <;> simp [hk, hy, Sem.run_bind, h3, e4]
theorem binop_pr (u v : Int) (i j : Bool) (w : World) : (binOp .eql 31 (.agg #[.int .u8 u, .bool i]) (.agg #[.int .u8 v, .bool j])).run Tryz.prog w = .ok (.bool (decide (u = v) && decide (i = j))) w := by
 have h := eq_pr 9998 u v i j w
 simp only [binOp]
 simp [Op.equal, Op.maxDepth, h]
theorem nbinop_pr (u v : Int) (i j : Bool) (w : World) : (binOp .neq 31 (.agg #[.int .u8 u, .bool i]) (.agg #[.int .u8 v, .bool j])).run Tryz.prog w = .ok (.bool (!(decide (u = v) && decide (i = j)))) w := by
 have h := eq_pr 9998 u v i j w
 simp only [binOp]
 simp [Op.equal, Op.maxDepth, h]
structure WP where
 s : Int
 u : Nat
 i : Bool
deriving DecidableEq
def noW : WP := ⟨0, 0, false⟩
def wcs (x : WP) : List Value := [.int .i64 x.s, .int .u8 x.u, .bool x.i]
end Go.Proofs.YtkiiameibdhdfaaGreatDoor
namespace Go.Proofs.YtkiiameibdhdfaaGreatDoor
open Go.RowKit Go.Shelf Go.Cs
attribute [local go_sem] Oper.semAt_some


def keyAt (k : Nat) (c : UInt8) : Bool := if k = 0 then Bare.smlB c else Bare.inKey c
def keyM : Bare.Bs := [95, 45, 46]
theorem keyB_at (l : Bare.Bs) : Bare.keyB l = true ↔ l ≠ [] ∧ ∀ k c, l[k]? = some c → keyAt k c = true := by
 cases l with
 | nil => simp [Bare.keyB]
 | cons a r =>
  simp only [Bare.keyB, Bool.and_eq_true]
  constructor
  ·rintro ⟨h1, h2⟩
   refine ⟨by simp, fun k c hk => ?_⟩
   cases k with
   | zero => simp at hk; subst hk; exact h1
   | succ k =>
    rw [List.getElem?_cons_succ] at hk
    exact List.all_eq_true.1 h2 c (List.mem_of_getElem? hk)
  ·rintro ⟨-, h⟩
   refine ⟨h 0 a rfl, List.all_eq_true.2 fun c hc => ?_⟩
   obtain ⟨k, hk⟩ := List.getElem?_of_mem hc
   exact h (k + 1) c hk
theorem key_bad (k : Nat) (c : UInt8) : (!Bare.smlB c && ((k == 0) || (decide (c.toNat < 48) || decide (57 < c.toNat)) && !keyM.contains c)) = !keyAt k c := by
 unfold keyAt Bare.inKey keyM
 by_cases hk : k = 0
 ·subst hk; cases Bare.smlB c <;> simp
 ·rw [if_neg hk]
  have : (k == 0) = false := by simpa using hk
  rw [this]
  have hd : Bare.digB c = !(decide (c.toNat < 48) || decide (57 < c.toNat)) := by
   unfold Bare.digB
   rw [Bool.eq_iff_iff]
   simp
  rw [hd]
  cases Bare.smlB c <;> cases (decide (c.toNat < 48) || decide (57 < c.toNat)) <;> cases [95, 45, 46].contains c <;> rfl
theorem keyM_o (c : UInt8) : decide (Lib.indexByte keyM c < 0) = !keyM.contains c := by
 have := Lib.contains_iff_indexByte keyM c
 rw [this, ← decide_not]
 exact decide_eq_decide.2 (by omega)
set_option maxHeartbeats 1000000 in
theorem small_any (c : UInt8) (w : World) : Calls Tryz.prog 75 #[.int .u8 (c.toNat : Nat)] w fun e w' => e = .returned (.bool (Bare.smlB c)) ∧ w' = w := by
  have h42 : (c == 42) = decide ((c.toNat : Int) = 42) := by
    rw [Bool.eq_iff_iff, beq_iff_eq, decide_eq_true_eq, ← UInt8.toNat_inj]
    show c.toNat = 42 ↔ _
    omega
  unfold Bare.smlB
  rw [h42]
  have ha : decide (97 ≤ c.toNat) = decide (97 ≤ (c.toNat : Int)) := decide_eq_decide.2 (by omega)
  have hb : decide (c.toNat ≤ 122) = decide ((c.toNat : Int) ≤ 122) := decide_eq_decide.2 (by omega)
  rw [ha, hb]
  have hlt := UInt8.toNat_lt c
  obtain ⟨n, hn⟩ : ∃ n, c.toNat = n := ⟨_, rfl⟩
  rw [hn] at *
  clear h42 ha hb hn
  by_cases h1 : 97 ≤ (n : Int) <;> by_cases h2 : (n : Int) ≤ 122 <;> by_cases h3 : (n : Int) = 42
  all_goals
    first
    | omega
    | (simp only [h1, h2, h3, decide_true, decide_false, Bool.and_true, Bool.or_true, Bool.true_and, Bool.false_and, Bool.and_false, Bool.or_false, Bool.true_or, Bool.false_or]
       go_enter Tryz.func75, Tryz.ntmps75
       go_wp2_with fail
       go_ret
       refine ⟨?_, rfl⟩
       first | rfl | simp [h3])
set_option maxHeartbeats 2000000 in
set_option maxRecDepth 100000 in
theorem key_any (s : ByteArray) (w : World) (hs : s.size ≤ 9223372036854775807) :
    Calls Tryz.prog 32 #[.string s] w fun e w' => e = .returned (.bool (Bare.keyB (bl s))) ∧ New w w' := by
  have HB := Lib.hid (keyB_at (bl s))
  obtain ⟨r, hr⟩ : ∃ r, Bare.keyB (bl s) = r := ⟨_, rfl⟩
  rw [hr] at HB ⊢
  clear hr
  have hcv := Lib.run_convert_string_bytes (P := Tryz.prog) w 9 113 5 s Tryz.underlying9 Tryz.underlying113 Tryz.underlying5
  have hN : New w (Lib.bytesWorld w 5 s) := by
    refine ⟨rfl, rfl, rfl, by rw [Lib.bytesWorld_size]; omega, fun k o hk _ => ?_⟩
    rw [Lib.bytesWorld_at_old w 5 s k (Array.getElem?_eq_some_iff.1 hk).1]; exact hk
  have hcell : Hid (∀ k, k < s.size → (Lib.bytesWorld w 5 s).cell? ⟨w.heap.size, k, none⟩ = some (.int .u8 ((gb s k).toNat : Nat))) := Lib.hid fun k hk => Lib.bytesWorld_cell w 5 s k hk
  obtain ⟨W, hW⟩ : ∃ W, Lib.bytesWorld w 5 s = W := ⟨_, rfl⟩
  obtain ⟨B, hB⟩ : ∃ B, w.heap.size = B := ⟨_, rfl⟩
  obtain ⟨C, hC⟩ : ∃ C, grownCap w s.size 0 5 = C := ⟨_, rfl⟩
  rw [hW, hB, hC] at hcv
  rw [hW] at hN
  rw [hW, hB] at hcell
  clear hW hB hC
  go_enter Tryz.func32, Tryz.ntmps32
  go_wp2_with fail
  go_loop [9] (fun c => ∃ k : Nat, k ≤ s.size ∧ c = .int .i64 k ∧ Hid (∀ j, j < k → keyAt j (gb s j) = true)) (fun c => s.size - (intOf c).toNat)
  case atStart => exact ⟨0, Nat.zero_le _, rfl, Lib.hid fun i hi => by omega⟩
  case round =>
    obtain ⟨k, hk, rfl, hbef⟩ := hrel
    by_cases hlt : k < s.size
    · have hkd : decide ((k : Int) < (s.size : Int)) = true := decide_eq_true (by omega)
      have hix := hcell.out k hlt
      have hnext : keyAt k (gb s k) = true → Hid (∀ j, j < k + 1 → keyAt j (gb s j) = true) := fun hg => Lib.hid fun i hi => by
        by_cases hik : i < k
        · exact hbef.out i hik
        · obtain rfl : i = k := by omega
          exact hg
      have hstop : keyAt k (gb s k) = false → r = false := fun hg => by
        rw [Bool.eq_false_iff]
        intro h
        have := (HB.out.1 h).2 k _ (gb_get s k hlt)
        rw [hg] at this; cases this
      have Hbad := Lib.hid (key_bad k (gb s k))
      have HL := Lib.hid (small_any (gb s k))
      have eg : ∀ args w, (callFunc 75 args).run Tryz.prog w = .ok (.enter 75 args) w := enters_of Tryz.func75 (by kernel_rfl) rfl
      have Ho := keyM_o (gb s k)
      have hback : ((gb s k).toNat : Int).toNat.toUInt8 = gb s k := by simp
      have hk0 : (k == 0) = decide ((k : Int) = 0) := by
        rw [Bool.eq_iff_iff, beq_iff_eq, decide_eq_true_eq]; omega
      have hA0 : decide ((gb s k).toNat < 48) = decide (((gb s k).toNat : Int) < 48) := decide_eq_decide.2 (by omega)
      have hB0 : decide (57 < (gb s k).toNat) = decide (57 < ((gb s k).toNat : Int)) := decide_eq_decide.2 (by omega)
      rw [hk0, hA0, hB0] at Hbad
      clear hbef hk0 hA0 hB0
      have HK : ∀ W, Calls Tryz.prog 76 #[.string ⟨#[95, 45, 46]⟩, .int .u8 ((gb s k).toNat : Nat)] W fun e w' => e = .returned (.int .i64 (Lib.indexByte keyM (gb s k))) ∧ w' = W := fun W =>
        (Tryz.strings_IndexByte _ _ W).mono (by rintro e w' ⟨rfl, hw⟩; rw [hback]; exact ⟨rfl, hw⟩)
      have HK := Lib.hid HK
      obtain ⟨o, ho⟩ : ∃ o, Lib.indexByte keyM (gb s k) = o := ⟨_, rfl⟩
      rw [ho] at HK Ho
      obtain ⟨T, hT⟩ : ∃ x, keyAt k (gb s k) = x := ⟨_, rfl⟩
      obtain ⟨L, hL⟩ : ∃ x, Bare.smlB (gb s k) = x := ⟨_, rfl⟩
      obtain ⟨M, hM⟩ : ∃ x, keyM.contains (gb s k) = x := ⟨_, rfl⟩
      rw [hT] at Hbad hnext hstop
      rw [hL] at Hbad HL
      rw [hM] at Hbad Ho
      obtain ⟨n, hn⟩ : ∃ x, (gb s k).toNat = x := ⟨_, rfl⟩
      rw [hn] at HL HK Hbad hix
      clear ho hT hL hM hn hback
      obtain ⟨D, hD⟩ : ∃ x, decide ((n : Int) < 48) = x := ⟨_, rfl⟩
      obtain ⟨E, hE⟩ : ∃ x, decide (57 < (n : Int)) = x := ⟨_, rfl⟩
      obtain ⟨Z, hZ⟩ : ∃ x, decide ((k : Int) = 0) = x := ⟨_, rfl⟩
      have hZ2 : ((k : Int) == 0) = Z := hZ
      rw [hE, hZ, hD] at Hbad
      have hcase : (L = true ∧ T = true) ∨ (L = false ∧ Z = true ∧ T = false) ∨ (L = false ∧ Z = false ∧ D = false ∧ E = false ∧ T = true) ∨ (L = false ∧ Z = false ∧ D = true ∧ M = true ∧ T = true) ∨ (L = false ∧ Z = false ∧ D = true ∧ M = false ∧ T = false) ∨ (L = false ∧ Z = false ∧ D = false ∧ E = true ∧ M = true ∧ T = true) ∨ (L = false ∧ Z = false ∧ D = false ∧ E = true ∧ M = false ∧ T = false) := by
        have := Hbad.out
        revert this
        cases L <;> cases E <;> cases Z <;> cases D <;> cases M <;> cases T <;> simp
      clear Hbad
      rcases hcase with ⟨rfl, rfl⟩ | ⟨rfl, rfl, rfl⟩ | ⟨rfl, rfl, rfl, rfl, rfl⟩ | ⟨rfl, rfl, rfl, rfl, rfl⟩ | ⟨rfl, rfl, rfl, rfl, rfl⟩ | ⟨rfl, rfl, rfl, rfl, rfl, rfl⟩ | ⟨rfl, rfl, rfl, rfl, rfl, rfl⟩
      all_goals
        try simp only [Bool.not_true, Bool.not_false] at Ho
        first
        | (have hh := hnext rfl
           clear hnext hstop
           go_wp2_with (first | (go_at_call 75; refine (HL.out _).mono ?_; rintro e w' ⟨rfl, rfl⟩) | (go_at_call 76; refine (HK.out _).mono ?_; rintro e w' ⟨rfl, rfl⟩))
           go_round
           case rel => exact ⟨k + 1, by omega, by go_num, hh⟩
           case measure => simp [intOf]; omega)
        | (have hh := hstop rfl
           clear hnext hstop
           subst hh
           go_wp2_with (first | (go_at_call 75; refine (HL.out _).mono ?_; rintro e w' ⟨rfl, rfl⟩) | (go_at_call 76; refine (HK.out _).mono ?_; rintro e w' ⟨rfl, rfl⟩))
           go_ret
           exact ⟨rfl, hN⟩)
    · obtain rfl : k = s.size := by omega
      have hkd : decide ((s.size : Int) < (s.size : Int)) = false := decide_eq_false (by omega)
      have hr : r = decide (s.size ≠ 0) := by
        rw [Bool.eq_iff_iff, HB.out, decide_eq_true_eq]
        have hl := bl_len s
        constructor
        · rintro ⟨h, -⟩ h0
          exact h (List.length_eq_zero_iff.1 (by omega))
        · intro h
          refine ⟨fun e => h (by rw [← hl, e]; rfl), fun k c hk => ?_⟩
          obtain ⟨h1, rfl⟩ := get_gb hk
          exact hbef.out k h1
      have hq' := empty_toList s
      have hr2 : r = !decide (s.size = 0) := by rw [hr, ← decide_not]
      obtain ⟨z, hz⟩ : ∃ z, decide (s.size = 0) = z := ⟨_, rfl⟩
      rw [hz] at hq' hr2
      clear hz hr HB hbef
      subst hr2
      go_wp2_with fail
      go_ret
      exact ⟨by simp [hq'], hN⟩
end Go.Proofs.YtkiiameibdhdfaaGreatDoor
