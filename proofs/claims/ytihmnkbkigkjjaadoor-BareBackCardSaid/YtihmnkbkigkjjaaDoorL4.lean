/- BareMay, walked. -/
import Derived.Test.YtihmnkbkigkjjaaDoorZ15
namespace Go.Proofs.YtihmnkbkigkjjaaDoor
open Go.RowKit Go.Shelf Go.Cs
attribute [local go_sem] Oper.semAt_some
set_option linter.unusedVariables false
set_option linter.unusedSimpArgs false
theorem quoted_text : ∀ (n : Nat) (s acc rest : Bare.Bs) (b : Bare.It), s.length ≤ n → Bare.quoted acc s = some (b, rest) → b.text.length ≤ acc.length + s.length
  | _, [], _, _, _, _, h => by cases h
  | 0, c :: r, _, _, _, hn, _ => by simp at hn
  | n + 1, c :: r, acc, rest, b, hn, h => by
    rw [Bare.quoted_cons] at h
    split at h
    · cases h
    · split at h
      · cases h
        simp
      · split at h
        · cases r with
          | nil => cases h
          | cons d r' =>
            simp only at h
            split at h
            · have := quoted_text n r' (acc ++ [d]) rest b (by simp at hn; omega) h
              simp at this ⊢
              omega
            · cases h
        · have := quoted_text n r (acc ++ [c]) rest b (by simp at hn; omega) h
          simp at this ⊢
          omega
theorem number_text {s rest : Bare.Bs} {b : Bare.It} (h : Bare.number s = some (b, rest)) : b.text = [] := by
  unfold Bare.number at h
  simp only at h
  split at h
  · split at h
    · cases h
    · split at h
      · cases h; rfl
      · split at h
        · cases h
        · cases h; rfl
  · split at h
    · cases h
    · split at h
      · cases h; rfl
      · split at h
        · cases h
        · cases h; rfl
theorem unsix_len {l t : Bare.Bs} (h : Bare.unsix l = some t) : t.length ≤ l.length := by
  have := Bare.sixes_len t
  rw [Bare.sixes_unsix h] at this
  omega
theorem parse_text {s rest : Bare.Bs} {b : Bare.It} (h : Bare.parseI s = some (b, rest)) : b.text.length ≤ s.length := by
  cases s with
  | nil => cases h
  | cons c r =>
    rw [Bare.parseI_cons] at h
    split at h
    · rw [number_text h]; simp
    split at h
    · simp only [Option.some.injEq, Prod.mk.injEq] at h
      obtain ⟨rfl, rfl⟩ := h
      exact Bare.takeWhile_len _ _
    split at h
    · have := quoted_text r.length r [] rest b (Nat.le_refl _) h
      simp at this ⊢
      omega
    split at h
    · unfold Bare.packed at h
      have hl := Bare.takeWhile_len (· != 58) r
      obtain ⟨i, hi⟩ : ∃ x, r.takeWhile (· != 58) = x := ⟨_, rfl⟩
      rw [hi] at hl
      simp only [hi] at h
      split at h
      · cases h
      · cases hu : Bare.unsix i with
        | none => rw [hu] at h; cases h
        | some t =>
          rw [hu] at h
          simp only [Option.map_some, Option.some.injEq, Prod.mk.injEq] at h
          obtain ⟨rfl, rfl⟩ := h
          have := unsix_len hu
          simp
          omega
    split at h
    · cases r with
      | nil => cases h
      | cons d r' =>
        simp only at h
        split at h
        · simp only [Option.some.injEq, Prod.mk.injEq] at h
          obtain ⟨rfl, rfl⟩ := h
          simp
        · cases h
    · cases h
theorem esc_len : ∀ t : Bare.Bs, (Bare.esc t).length ≤ 2 * t.length
  | [] => by simp [Bare.esc]
  | c :: r => by
    have := esc_len r
    unfold Bare.esc
    split <;> simp <;> omega
theorem itoa_len {n : Int} (h0 : -999999999999999 ≤ n) (h1 : n ≤ 999999999999999) : (Lib.itoa n).length ≤ 16 := by
  have := Bare.dec_len n.natAbs 14 (by have := Bare.most_pow; omega)
  rw [Bare.itoa_eq, List.length_append]
  split <;> simp <;> omega
theorem decimal_len {n : Int} (h0 : -999999999999999 ≤ n) (h1 : n ≤ 999999999999999) : (Bare.decimal n).length ≤ 20 := by
  have := Bare.dec_len (n.natAbs / 1000) 14 (by have := Bare.most_pow; omega)
  obtain ⟨p, hp, -, h3, -⟩ := Bare.decimal_parts n
  rw [hp, Bare.ahead]
  simp only [List.length_append, List.length_cons]
  split <;> simp <;> omega
theorem print_len {b : Bare.It} {t : Bare.Bs} (h : Bare.printI b = some t) : t.length ≤ 2 * b.text.length + 40 := by
  have hri : Bare.rightI b = true := by
    cases hb : Bare.rightI b with
    | true => rfl
    | false => rw [Bare.print_none.2 hb] at h; cases h
  have hnum := right_num hri
  unfold Bare.printI at h
  rw [if_neg (by rw [hri]; decide)] at h
  split at h
  · rename_i hk
    cases h
    have := itoa_len (hnum (.inl hk)).1 (hnum (.inl hk)).2
    omega
  split at h
  · rename_i hk
    cases h
    have := decimal_len (hnum (.inr hk)).1 (hnum (.inr hk)).2
    omega
  split at h
  · cases h
    have := esc_len b.text
    simp
    omega
  split at h
  · cases h
    have := Bare.sixes_len b.text
    simp
    omega
  split at h
  · cases h
    simp
  · cases h
    omega
theorem readV_some {b : Bare.It} {rest : Bare.Bs} {w w' : World} {e : Ending} (h : ReadP (some (b, rest)) w e w') : e = .returned (.tuple #[bv b, .string (tx rest), .int .i64 0]) ∧ New w w' := h
theorem readV_none {w w' : World} {e : Ending} (h : ReadP none w e w') : e = .returned (.tuple #[bv noIt, .string ⟨#[]⟩, .int .i64 120]) ∧ New w w' := h
theorem item_row (w : World) (b : Bare.It) : New w (w.alloc (.cells #[.int .u8 b.kind, .int .i64 b.int, .string (tx b.text), .bool b.yes] 23)) ∧ (w.alloc (.cells #[.int .u8 b.kind, .int .i64 b.int, .string (tx b.text), .bool b.yes] 23)).heap[w.heap.size]? = some (.cells #[.int .u8 b.kind, .int .i64 b.int, .string (tx b.text), .bool b.yes] 23 (0, 0)) :=
  ⟨(Mods.refl _ _).alloc _, World.alloc_heap_new w _⟩
set_option maxHeartbeats 4000000 in
set_option maxRecDepth 100000 in
theorem may_law (s : ByteArray) (w : World) (hs : s.size ≤ 9223372036854775807) (hT : Tab w) :
    Calls Tryd.prog 4 #[.string s] w fun e w' => e = .returned (.bool true) ∧ New w w' := by
  have HW := Lib.hid (fun W (hN : New w W) => wakes_any W (hT.new hN))
  have hN0 : New w w := Mods.refl _ _
  by_cases hgreat : 3000 < s.size
  · have hd : decide ((3000 : Int) < (s.size : Int)) = true := decide_eq_true (by omega)
    clear hgreat
    go_enter Tryd.func4, Tryd.ntmps4
    go_wp2_with fail
    refine (HW.out _ hN0).mono ?_
    rintro e w1 ⟨rfl, hN1⟩
    go_wp2_with fail
    go_ret
    exact ⟨rfl, hN1⟩
  have hd : decide ((3000 : Int) < (s.size : Int)) = false := decide_eq_false (by omega)
  have hs1 : s.size ≤ 3000 := by omega
  clear hgreat hs
  have H1 := Lib.hid (fun W (hN : New w W) => parse_read s W (by omega) (hT.new hN))
  cases hr : Bare.parseI (bl s) with
  | none =>
    have H1 := Lib.hid (fun W (hN : New w W) => (H1.out W hN).mono fun e w' h => by rw [hr] at h; exact readV_none h)
    unfold bv bcs noIt at H1
    simp only at H1
    have heq : ∀ W, (binOp .eql 23 (.agg #[.int .u8 0, .int .i64 0, .string ⟨#[]⟩, .bool false]) (.agg #[.int .u8 0, .int .i64 0, .string ⟨#[]⟩, .bool false])).run Tryd.prog W = .ok (.bool true) W := fun W => binop_item noIt noIt W
    clear hr
    go_enter Tryd.func4, Tryd.ntmps4
    go_wp2_with fail
    refine (H1.out _ hN0).mono ?_
    rintro e w1 ⟨rfl, hN1⟩
    go_upto_region 4 with fail
    have hA : New w1 (w1.alloc (.cells #[.int .u8 0, .int .i64 0, .string (tx []), .bool false] 23)) := (Mods.refl (fun _ => False) w1).alloc _
    have r3 := World.alloc_heap_new w1 (.cells #[.int .u8 0, .int .i64 0, .string (tx []), .bool false] 23)
    obtain ⟨V, hV⟩ : ∃ V, w1.alloc (.cells #[.int .u8 0, .int .i64 0, .string (tx []), .bool false] 23) = V := ⟨_, rfl⟩
    obtain ⟨B, hB⟩ : ∃ B, w1.heap.size = B := ⟨_, rfl⟩
    rw [hV] at hA r3 ⊢
    rw [hB] at r3 ⊢
    clear hV hB
    obtain ⟨⟨c0, c1, c2, c3⟩, -⟩ := row_facts r3
    go_wp2_with fail
    refine (HW.out _ (hN1.trans hA)).mono ?_
    rintro e w2 ⟨rfl, hN2⟩
    go_wp2_with fail
    go_ret
    exact ⟨rfl, (hN1.trans hA).trans hN2⟩
  | some p =>
    obtain ⟨b, rest⟩ := p
    obtain ⟨hri, u, hu, hu1, hu17⟩ := Bare.may hr
    obtain ⟨t, hpr, hpt⟩ := Bare.again hr
    have hul : u.length + rest.length = s.size := by rw [← bl_len, hu, List.length_append]
    have hk := right_kind hri
    have hbt : b.text.length ≤ 3000 := by have := parse_text hr; rw [bl_len] at this; omega
    have htl : t.length ≤ 1000000 := by have := print_len hpr; omega
    have H1 := Lib.hid (fun W (hN : New w W) => (H1.out W hN).mono fun e w' h => by rw [hr] at h; exact readV_some h)
    have HRi := Lib.hid (fun W => right_any b (by omega) (by omega) W)
    have HP := Lib.hid (fun W (hN : New w W) => print_any b (by omega) (by omega) W (hT.new hN))
    have HQ := Lib.hid (fun W (hN : New w W) => (parse_read (tx t) W (by rw [tx_size]; exact htl) (hT.new hN)).mono fun e w' h => by rw [bl_tx, hpt] at h; exact readV_some h)
    have heq := fun W => binop_item b b W
    rw [hri] at HRi
    rw [hpr] at HP
    rw [decide_eq_true rfl] at heq
    obtain ⟨k, n, bt, y⟩ := b
    unfold bv bcs at H1 HRi HP HQ heq
    unfold printV at HP
    simp only at H1 HRi HP HQ heq hk hu17
    obtain ⟨x, hx⟩ : ∃ x, tx bt = x := ⟨_, rfl⟩
    rw [hx] at H1 HRi HP HQ heq
    have hrs : (tx rest).size + u.length = s.size := by rw [tx_size]; omega
    have hdr : (bl s).drop u.length = rest := by rw [hu, List.drop_left]
    have hsl := run_sl_l s u.length (by omega)
    rw [hdr] at hsl
    obtain ⟨rt, hrt⟩ : ∃ x, tx rest = x := ⟨_, rfl⟩
    rw [hrt] at H1 hsl hrs
    obtain ⟨tt, htt⟩ : ∃ x, tx t = x := ⟨_, rfl⟩
    rw [htt] at HP HQ
    have hus : (s.size : Int) - (rt.size : Int) = ((u.length : Nat) : Int) := by omega
    obtain ⟨ul, hule⟩ : ∃ m, u.length = m := ⟨_, rfl⟩
    rw [hule] at hu1 hu17 hul hsl hus
    have d1 : decide ((ul : Int) < 1) = false := decide_eq_false (by omega)
    have d2 : decide ((s.size : Int) < (ul : Int)) = false := decide_eq_false (by omega)
    have hnum : (k = 1 ∨ k = 2) → (ul : Int) ≤ 17 := fun h => by have := hu17 h; omega
    have hrr : (rt.toList == rt.toList) = true := by simp
    clear hri hu hpr hpt hr hbt htl hx hrt htt hule hdr hu17 hu1 hul hrs
    go_enter Tryd.func4, Tryd.ntmps4
    go_wp2_with fail
    refine (H1.out _ hN0).mono ?_
    rintro e w1 ⟨rfl, hN1⟩
    go_upto_region 4 with fail
    have hA : New w1 (w1.alloc (.cells #[.int .u8 k, .int .i64 n, .string x, .bool y] 23)) := (Mods.refl (fun _ => False) w1).alloc _
    have r3 := World.alloc_heap_new w1 (.cells #[.int .u8 k, .int .i64 n, .string x, .bool y] 23)
    obtain ⟨V, hV⟩ : ∃ V, w1.alloc (.cells #[.int .u8 k, .int .i64 n, .string x, .bool y] 23) = V := ⟨_, rfl⟩
    obtain ⟨B, hB⟩ : ∃ B, w1.heap.size = B := ⟨_, rfl⟩
    rw [hV] at hA r3 ⊢
    rw [hB] at r3 ⊢
    clear hV hB
    have hN := hN1.trans hA
    obtain ⟨⟨c0, c1, c2, c3⟩, -⟩ := row_facts r3
    obtain ⟨e1, he1⟩ : ∃ e, (k == 1) = e := ⟨_, rfl⟩
    obtain ⟨e2, he2⟩ : ∃ e, (k == 2) = e := ⟨_, rfl⟩
    have hcase : (e1 = true ∧ (ul : Int) ≤ 17) ∨ (e1 = false ∧ e2 = true ∧ (ul : Int) ≤ 17) ∨ (e1 = false ∧ e2 = false) := by
      by_cases h1 : k = 1
      · exact .inl ⟨by rw [← he1, h1]; rfl, hnum (.inl h1)⟩
      · by_cases h2 : k = 2
        · exact .inr (.inl ⟨by rw [← he1]; simpa using h1, by rw [← he2, h2]; rfl, hnum (.inr h2)⟩)
        · exact .inr (.inr ⟨by rw [← he1]; simpa using h1, by rw [← he2]; simpa using h2⟩)
    clear hnum hk
    go_upto_region 9 with (go_at_call 9; refine (HRi.out _).mono ?_; rintro e w2 ⟨rfl, hN2⟩)
    have hN := hN.trans hN2
    have r3 := hN2.heap r3 id
    clear c0 c1 c2 c3
    obtain ⟨⟨c0, c1, c2, c3⟩, -⟩ := row_facts r3
    go_wp2_with fail
    refine (HP.out _ hN).mono ?_
    rintro e w3 ⟨rfl, hN3⟩
    have hN := hN.trans hN3
    have r3 := hN3.heap r3 id
    go_wp2_with fail
    refine (HQ.out _ hN).mono ?_
    rintro e w4 ⟨rfl, hN4⟩
    have hN := hN.trans hN4
    have r3 := hN4.heap r3 id
    go_upto_region 11 with fail
    have hA : New w4 (w4.alloc (.cells #[.int .u8 k, .int .i64 n, .string x, .bool y] 23)) := (Mods.refl (fun _ => False) w4).alloc _
    have r9 := World.alloc_heap_new w4 (.cells #[.int .u8 k, .int .i64 n, .string x, .bool y] 23)
    have r3 := hA.heap r3 id
    obtain ⟨V, hV⟩ : ∃ V, w4.alloc (.cells #[.int .u8 k, .int .i64 n, .string x, .bool y] 23) = V := ⟨_, rfl⟩
    obtain ⟨B9, hB⟩ : ∃ B, w4.heap.size = B := ⟨_, rfl⟩
    rw [hV] at hA r3 r9 ⊢
    rw [hB] at r9 ⊢
    clear hV hB c0 c1 c2 c3
    have hN := hN.trans hA
    obtain ⟨⟨c0, c1, c2, c3⟩, -⟩ := row_facts r3
    obtain ⟨⟨g0, g1, g2, g3⟩, -⟩ := row_facts r9
    rcases hcase with ⟨rfl, h17⟩ | ⟨rfl, rfl, h17⟩ | ⟨rfl, rfl⟩
    all_goals
      go_wp2_with fail
      refine (HW.out _ hN).mono ?_
      rintro e w5 ⟨rfl, hN5⟩
      go_wp2_with fail
      go_ret
      exact ⟨rfl, hN.trans hN5⟩
end Go.Proofs.YtihmnkbkigkjjaaDoor
