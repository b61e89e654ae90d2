/- What the document says of a few items (the law's own test). -/
import Derived.Test.YtihmnkbkigkjjaaDoorZ14
import Derived.Test.YtihmnkbkigkjjaaDoorZ10
namespace Go.Proofs.YtihmnkbkigkjjaaDoor
open Go.RowKit Go.Shelf Go.Cs
attribute [local go_sem] Oper.semAt_some
set_option linter.unusedVariables false
set_option linter.unusedSimpArgs false
theorem wkP1 : Bare.printI (⟨2, 1500, [], false⟩ : Bare.It) = some [49, 46, 53] := by decide +kernel
theorem wkP2 : Bare.printI (⟨5, 0, [1, 2], false⟩ : Bare.It) = some [58, 65, 81, 73, 61, 58] := by decide +kernel
theorem wkP0 : Bare.printI (⟨0, 0, [], false⟩ : Bare.It) = none := by decide +kernel
theorem wkQ3 : Bare.parseI [45, 48, 48, 55, 59, 97] = some ((⟨1, (-7), [], false⟩ : Bare.It), [59, 97]) := by decide +kernel
theorem wkQ4 : Bare.parseI [34, 97, 92, 34, 98, 34] = some ((⟨3, 0, [97, 34, 98], false⟩ : Bare.It), []) := by decide +kernel
theorem wkQ5 : Bare.parseI [49, 46] = none := by decide +kernel
theorem wkU1 : Bare.unsix [65, 81, 73, 61] = some [1, 2] := by decide +kernel
theorem wkU2 : Bare.unsix [65, 81, 74, 61] = none := by decide +kernel
theorem wkS : Bare.sixes [97, 98, 99] = [89, 87, 74, 106] := by decide +kernel
theorem wkT1 : Bare.tokB [42, 97, 47, 98, 58, 49] = true := by decide +kernel
theorem wkT2 : Bare.tokB [49, 97] = false := by decide +kernel
theorem wkR1 : Bare.rightI (⟨1, (-7), [], false⟩ : Bare.It) = true := by decide +kernel
theorem wkR2 : Bare.rightI (⟨4, 0, [], false⟩ : Bare.It) = false := by decide +kernel
/-- Whether two items are the same. -/
theorem eq_item (d : Nat) (p q : Bare.It) (w : World) : (Op.equalIn (d + 2) 23 (bv p) (bv q)).run Tryd.prog w = .ok (decide (p = q)) w := by
  unfold bv bcs
  rw [show d + 2 = (d + 1) + 1 from rfl, run_equalIn_agg w (d + 1) 23 _ _ (by unfold Program.fieldsOf; rw [Tryd.underlying23]) (by kernel_rfl)]
  unfold Program.fieldsOf
  rw [Tryd.underlying23]
  have h0 := fun (k n : Int) (s : ByteArray) (y : Bool) w => partAt 5 _ Tryd.underlying5 rfl #[.int .u8 k, .int .i64 n, .string s, .bool y] 0 (.int .u8 k) w rfl
  have h1 := fun (k n : Int) (s : ByteArray) (y : Bool) w => partAt 3 _ Tryd.underlying3 rfl #[.int .u8 k, .int .i64 n, .string s, .bool y] 1 (.int .i64 n) w rfl
  have h2 := fun (k n : Int) (s : ByteArray) (y : Bool) w => partAt 9 _ Tryd.underlying9 rfl #[.int .u8 k, .int .i64 n, .string s, .bool y] 2 (.string s) w rfl
  have h3 := fun (k n : Int) (s : ByteArray) (y : Bool) w => partAt 4 _ Tryd.underlying4 rfl #[.int .u8 k, .int .i64 n, .string s, .bool y] 3 (.bool y) w rfl
  have e5 := fun w (a b : Int) => run_equalIn_int w d 5 .u8 .u8 a b Tryd.underlying5
  have e3 := fun w (a b : Int) => run_equalIn_int w d 3 .i64 .i64 a b Tryd.underlying3
  have e9 := fun w (a b : ByteArray) => run_equalIn_string w d 9 a b Tryd.underlying9
  have e4 := fun w (a b : Bool) => run_equalIn_bool w d 4 a b Tryd.underlying4
  have n1 : ("Kind" ≠ "_") = True := by simp
  have n2 : ("Int" ≠ "_") = True := by simp
  have n3 : ("Text" ≠ "_") = True := by simp
  have n4 : ("Yes" ≠ "_") = True := by simp
  obtain ⟨k, n, t, y⟩ := p
  obtain ⟨k', n', t', y'⟩ := q
  have et := eq_tx (tx t) (tx t')
  rw [bl_tx, bl_tx] at et
  simp only [Op.eqFields, n1, n2, n3, n4, if_true, Sem.run_bind, h0, e5, Result.andThen_ok]
  by_cases hk : k = k' <;> by_cases hn : n = n' <;> by_cases ht : t = t' <;> by_cases hy : y = y' <;> simp [hk, hn, ht, hy, Sem.run_bind, h1, h2, h3, e3, e9, e4, et]
theorem binop_item (p q : Bare.It) (w : World) : (binOp .eql 23 (bv p) (bv q)).run Tryd.prog w = .ok (.bool (decide (p = q))) w := by
  have h := eq_item 9998 p q w
  simp only [binOp]
  unfold bv at h ⊢
  simp [Op.equal, Op.maxDepth, h]
set_option maxHeartbeats 4000000 in
set_option maxRecDepth 100000 in
theorem wakes_any (w : World) (hT : Tab w) : Calls Tryd.prog 7 #[] w fun e w' => e = .returned (.bool true) ∧ New w w' := by
  have hN : New w w := Mods.refl _ _
  have HP1 : Hid (∀ W, New w W → Calls Tryd.prog 8 #[.agg #[.int .u8 2, .int .i64 1500, .string ⟨#[]⟩, .bool false]] W fun e w' => e = .returned (.tuple #[.string ⟨#[49, 46, 53]⟩, .int .i64 0]) ∧ New W w') := Lib.hid fun W hN => (print_any (⟨2, 1500, [], false⟩ : Bare.It) (by decide) (by decide) W (hT.new hN)).mono fun e w' h => ⟨by rw [h.1, wkP1]; rfl, h.2⟩
  have HP2 : Hid (∀ W, New w W → Calls Tryd.prog 8 #[.agg #[.int .u8 5, .int .i64 0, .string ⟨#[1, 2]⟩, .bool false]] W fun e w' => e = .returned (.tuple #[.string ⟨#[58, 65, 81, 73, 61, 58]⟩, .int .i64 0]) ∧ New W w') := Lib.hid fun W hN => (print_any (⟨5, 0, [1, 2], false⟩ : Bare.It) (by decide) (by decide) W (hT.new hN)).mono fun e w' h => ⟨by rw [h.1, wkP2]; rfl, h.2⟩
  have HP0 : Hid (∀ W, New w W → Calls Tryd.prog 8 #[.agg #[.int .u8 0, .int .i64 0, .string ⟨#[]⟩, .bool false]] W fun e w' => e = .returned (.tuple #[.string ⟨#[]⟩, .int .i64 2]) ∧ New W w') := Lib.hid fun W hN => (print_any (⟨0, 0, [], false⟩ : Bare.It) (by decide) (by decide) W (hT.new hN)).mono fun e w' h => ⟨by rw [h.1, wkP0]; rfl, h.2⟩
  have HQ3 : Hid (∀ W, New w W → Calls Tryd.prog 10 #[.string ⟨#[45, 48, 48, 55, 59, 97]⟩] W fun e w' => e = .returned (.tuple #[.agg #[.int .u8 1, .int .i64 (-7), .string ⟨#[]⟩, .bool false], .string ⟨#[59, 97]⟩, .int .i64 0]) ∧ New W w') := Lib.hid fun W hN => (parse_read ⟨#[45, 48, 48, 55, 59, 97]⟩ W (by decide) (hT.new hN)).mono fun e w' h => by
    have h' := h
    rw [show bl ⟨#[45, 48, 48, 55, 59, 97]⟩ = [45, 48, 48, 55, 59, 97] from rfl, wkQ3] at h'
    exact h'
  have HQ4 : Hid (∀ W, New w W → Calls Tryd.prog 10 #[.string ⟨#[34, 97, 92, 34, 98, 34]⟩] W fun e w' => e = .returned (.tuple #[.agg #[.int .u8 3, .int .i64 0, .string ⟨#[97, 34, 98]⟩, .bool false], .string ⟨#[]⟩, .int .i64 0]) ∧ New W w') := Lib.hid fun W hN => (parse_read ⟨#[34, 97, 92, 34, 98, 34]⟩ W (by decide) (hT.new hN)).mono fun e w' h => by
    have h' := h
    rw [show bl ⟨#[34, 97, 92, 34, 98, 34]⟩ = [34, 97, 92, 34, 98, 34] from rfl, wkQ4] at h'
    exact h'
  have HQ5 : Hid (∀ W, New w W → Calls Tryd.prog 10 #[.string ⟨#[49, 46]⟩] W fun e w' => e = .returned (.tuple #[.agg #[.int .u8 0, .int .i64 0, .string ⟨#[]⟩, .bool false], .string ⟨#[]⟩, .int .i64 120]) ∧ New W w') := Lib.hid fun W hN => (parse_read ⟨#[49, 46]⟩ W (by decide) (hT.new hN)).mono fun e w' h => by
    have h' := h
    rw [show bl ⟨#[49, 46]⟩ = [49, 46] from rfl, wkQ5] at h'
    exact h'
  have HU1 : Hid (∀ W, Calls Tryd.prog 12 #[.string ⟨#[65, 81, 73, 61]⟩] W fun e w' => e = .returned (.tuple #[.string ⟨#[1, 2]⟩, .bool true]) ∧ New W w') := Lib.hid fun W => (unsix_any ⟨#[65, 81, 73, 61]⟩ W (by decide)).mono fun e w' h => ⟨by rw [h.1, show bl ⟨#[65, 81, 73, 61]⟩ = [65, 81, 73, 61] from rfl, wkU1]; rfl, h.2⟩
  have HU2 : Hid (∀ W, Calls Tryd.prog 12 #[.string ⟨#[65, 81, 74, 61]⟩] W fun e w' => e = .returned (.tuple #[.string ⟨#[]⟩, .bool false]) ∧ New W w') := Lib.hid fun W => (unsix_any ⟨#[65, 81, 74, 61]⟩ W (by decide)).mono fun e w' h => ⟨by rw [h.1, show bl ⟨#[65, 81, 74, 61]⟩ = [65, 81, 74, 61] from rfl, wkU2]; rfl, h.2⟩
  have HS : Hid (∀ W, Calls Tryd.prog 11 #[.string ⟨#[97, 98, 99]⟩] W fun e w' => e = .returned (.string ⟨#[89, 87, 74, 106]⟩) ∧ New W w') := Lib.hid fun W => (sixes_any ⟨#[97, 98, 99]⟩ W (by decide)).mono fun e w' h => ⟨by rw [h.1, show bl ⟨#[97, 98, 99]⟩ = [97, 98, 99] from rfl, wkS], h.2⟩
  have HT1 : Hid (∀ W, Calls Tryd.prog 13 #[.string ⟨#[42, 97, 47, 98, 58, 49]⟩] W fun e w' => e = .returned (.bool true) ∧ W = w') := Lib.hid fun W => (token_any ⟨#[42, 97, 47, 98, 58, 49]⟩ W (by decide)).mono fun e w' h => ⟨by rw [h.1, show bl ⟨#[42, 97, 47, 98, 58, 49]⟩ = [42, 97, 47, 98, 58, 49] from rfl, wkT1], h.2.symm⟩
  have HT2 : Hid (∀ W, Calls Tryd.prog 13 #[.string ⟨#[49, 97]⟩] W fun e w' => e = .returned (.bool false) ∧ W = w') := Lib.hid fun W => (token_any ⟨#[49, 97]⟩ W (by decide)).mono fun e w' h => ⟨by rw [h.1, show bl ⟨#[49, 97]⟩ = [49, 97] from rfl, wkT2], h.2.symm⟩
  have HR1 : Hid (∀ W, Calls Tryd.prog 9 #[.agg #[.int .u8 1, .int .i64 (-7), .string ⟨#[]⟩, .bool false]] W fun e w' => e = .returned (.bool true) ∧ New W w') := Lib.hid fun W => (right_any (⟨1, (-7), [], false⟩ : Bare.It) (by decide) (by decide) W).mono fun e w' h => ⟨by rw [h.1, wkR1], h.2⟩
  have HR2 : Hid (∀ W, Calls Tryd.prog 9 #[.agg #[.int .u8 4, .int .i64 0, .string ⟨#[]⟩, .bool false]] W fun e w' => e = .returned (.bool false) ∧ New W w') := Lib.hid fun W => (right_any (⟨4, 0, [], false⟩ : Bare.It) (by decide) (by decide) W).mono fun e w' h => ⟨by rw [h.1, wkR2], h.2⟩
  have heq : ∀ W, (binOp .eql 23 (.agg #[.int .u8 1, .int .i64 (-7), .string ⟨#[]⟩, .bool false]) (.agg #[.int .u8 1, .int .i64 (-7), .string ⟨#[]⟩, .bool false])).run Tryd.prog W = .ok (.bool true) W := fun W => binop_item (⟨1, (-7), [], false⟩ : Bare.It) (⟨1, (-7), [], false⟩ : Bare.It) W
  clear hT
  go_enter Tryd.func7, Tryd.ntmps7
  go_wp2_with fail
  refine (HP1.out _ hN).mono ?_
  rintro e w1 ⟨rfl, hN1⟩
  have hN := hN.trans hN1
  go_wp2_with fail
  refine (HP2.out _ hN).mono ?_
  rintro e w2 ⟨rfl, hN2⟩
  have hN := hN.trans hN2
  go_wp2_with fail
  refine (HQ3.out _ hN).mono ?_
  rintro e w3 ⟨rfl, hN3⟩
  have hN := hN.trans hN3
  go_upto_region 4 with fail
  have hA := (Mods.refl (fun _ => False) w3).alloc (.cells #[.int .u8 1, .int .i64 (-7), .string ⟨#[]⟩, .bool false] 23)
  have r5 := World.alloc_heap_new w3 (.cells #[.int .u8 1, .int .i64 (-7), .string ⟨#[]⟩, .bool false] 23)
  obtain ⟨V5, hV⟩ : ∃ V, w3.alloc (.cells #[.int .u8 1, .int .i64 (-7), .string ⟨#[]⟩, .bool false] 23) = V := ⟨_, rfl⟩
  obtain ⟨B5, hB⟩ : ∃ B, w3.heap.size = B := ⟨_, rfl⟩
  rw [hV] at hA r5 ⊢
  rw [hB] at r5 ⊢
  have hN := hN.trans hA
  clear hV hB hA
  go_wp2_with fail
  refine (HQ4.out _ hN).mono ?_
  rintro e w4 ⟨rfl, hN4⟩
  have hN := hN.trans hN4
  have r5 := hN4.heap r5 id
  go_upto_region 5 with fail
  have hA := (Mods.refl (fun _ => False) w4).alloc (.cells #[.int .u8 3, .int .i64 0, .string ⟨#[97, 34, 98]⟩, .bool false] 23)
  have r8 := World.alloc_heap_new w4 (.cells #[.int .u8 3, .int .i64 0, .string ⟨#[97, 34, 98]⟩, .bool false] 23)
  obtain ⟨V8, hV⟩ : ∃ V, w4.alloc (.cells #[.int .u8 3, .int .i64 0, .string ⟨#[97, 34, 98]⟩, .bool false] 23) = V := ⟨_, rfl⟩
  obtain ⟨B8, hB⟩ : ∃ B, w4.heap.size = B := ⟨_, rfl⟩
  rw [hV] at hA r8 ⊢
  rw [hB] at r8 ⊢
  have hN := hN.trans hA
  have r5 := hA.heap r5 id
  clear hV hB hA
  go_wp2_with fail
  refine (HQ5.out _ hN).mono ?_
  rintro e w5 ⟨rfl, hN5⟩
  have hN := hN.trans hN5
  have r5 := hN5.heap r5 id
  have r8 := hN5.heap r8 id
  go_upto_region 6 with fail
  have hA := (Mods.refl (fun _ => False) w5).alloc (.cells #[.int .u8 0, .int .i64 0, .string ⟨#[]⟩, .bool false] 23)
  have r11 := World.alloc_heap_new w5 (.cells #[.int .u8 0, .int .i64 0, .string ⟨#[]⟩, .bool false] 23)
  obtain ⟨V11, hV⟩ : ∃ V, w5.alloc (.cells #[.int .u8 0, .int .i64 0, .string ⟨#[]⟩, .bool false] 23) = V := ⟨_, rfl⟩
  obtain ⟨B11, hB⟩ : ∃ B, w5.heap.size = B := ⟨_, rfl⟩
  rw [hV] at hA r11 ⊢
  rw [hB] at r11 ⊢
  have hN := hN.trans hA
  have r5 := hA.heap r5 id
  have r8 := hA.heap r8 id
  clear hV hB hA
  go_wp2_with fail
  refine (HP0.out _ hN).mono ?_
  rintro e w6 ⟨rfl, hN6⟩
  have hN := hN.trans hN6
  have r5 := hN6.heap r5 id
  have r8 := hN6.heap r8 id
  have r11 := hN6.heap r11 id
  go_wp2_with fail
  refine (HU1.out _).mono ?_
  rintro e w7 ⟨rfl, hN7⟩
  have hN := hN.trans hN7
  have r5 := hN7.heap r5 id
  have r8 := hN7.heap r8 id
  have r11 := hN7.heap r11 id
  go_wp2_with fail
  refine (HU2.out _).mono ?_
  rintro e w8 ⟨rfl, hN8⟩
  have hN := hN.trans hN8
  have r5 := hN8.heap r5 id
  have r8 := hN8.heap r8 id
  have r11 := hN8.heap r11 id
  obtain ⟨⟨c0, c1, c2, c3⟩, -⟩ := row_facts r5
  obtain ⟨⟨d0, d1, d2, d3⟩, -⟩ := row_facts r8
  go_wp2_with fail
  refine (HS.out _).mono ?_
  rintro e w9 ⟨rfl, hN9⟩
  have hN := hN.trans hN9
  have r5 := hN9.heap r5 id
  clear c0 c1 c2 c3 d0 d1 d2 d3
  obtain ⟨⟨c0, c1, c2, c3⟩, -⟩ := row_facts r5
  go_wp2_with (first | (go_at_call 13; with_reducible refine (HT1.out _).mono ?_; rintro e w' ⟨rfl, rfl⟩) | (go_at_call 13; with_reducible refine (HT2.out _).mono ?_; rintro e w' ⟨rfl, rfl⟩))
  refine (HR1.out _).mono ?_
  rintro e w10 ⟨rfl, hN10⟩
  have hN := hN.trans hN10
  go_wp2_with fail
  refine (HR2.out _).mono ?_
  rintro e w11 ⟨rfl, hN11⟩
  have hN := hN.trans hN11
  go_wp2_with fail
  go_ret
  exact ⟨rfl, hN⟩
end Go.Proofs.YtihmnkbkigkjjaaDoor
