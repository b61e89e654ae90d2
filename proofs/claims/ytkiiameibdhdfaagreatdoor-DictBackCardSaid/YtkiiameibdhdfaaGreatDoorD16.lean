/- slices.EqualFunc of items, of members (the program). -/
import Derived.Test.YtkiiameibdhdfaaGreatDoorD15
import Derived.Test.YtkiiameibdhdfaaGreatDoorD11
set_option linter.unusedSimpArgs false
set_option linter.unusedVariables false
namespace Go.Proofs.YtkiiameibdhdfaaGreatDoor
open Go.RowKit Go.Shelf Go.Cs
attribute [local go_sem] Oper.semAt_some
set_option linter.unusedVariables false
set_option linter.unusedSimpArgs false
def PredG (g : Nat) (lb : Array Value) (n : Nat) (f1 f2 : Nat → List Value) (ok : World → Prop) (p : Nat → Bool) : Prop :=
  ∀ i W, i < n → ok W → Calls Tryz.prog g (#[.agg (f1 i).toArray, .agg (f2 i).toArray] ++ lb) W fun e w' => e = .returned (.bool (p i)) ∧ New W w'
theorem all_range_false {p : Nat → Bool} {n k : Nat} (hk : k < n) (hp : p k = false) : (List.range n).all p = false := by
  rw [Bool.eq_false_iff]
  intro h
  rw [List.all_eq_true.1 h k (List.mem_range.2 hk)] at hp
  cases hp
theorem all_range_true {p : Nat → Bool} {n : Nat} (h : ∀ j, j < n → p j = true) : (List.range n).all p = true := by
  rw [List.all_eq_true]
  intro j hj
  exact h j (List.mem_range.1 hj)
set_option maxHeartbeats 4000000 in
set_option maxRecDepth 100000 in
theorem equalf_M (g : Nat) (lb : Array Value) (n1 n2 : Nat) (c d : Nat → Nat → Value) (ok : World → Prop) (hok : ∀ W W', ok W → New W W' → ok W') (p : Nat → Bool) (hg : n1 = n2 → PredG g lb n1 (fun i => [c i 0, c i 1, c i 2, c i 3]) (fun i => [d i 0, d i 1, d i 2, d i 3]) ok p) (eg : ∀ args w, (callFunc g args).run Tryz.prog w = .ok (.enter g args) w) (v1 v2 : Value) (w : World) (h1 : RowR w v1 n1 4 (fun i => [c i 0, c i 1, c i 2, c i 3])) (h2 : RowR w v2 n2 4 (fun i => [d i 0, d i 1, d i 2, d i 3])) (ho : ok w) (hc1 : ∀ i, i < n1 → ∀ u ∈ [c i 0, c i 1, c i 2, c i 3], u.oneCell' = true) (hd1 : ∀ i, i < n2 → ∀ u ∈ [d i 0, d i 1, d i 2, d i 3], u.oneCell' = true) :
    Calls Tryz.prog 95 #[v1, v2, .func (.func g) #[] lb] w fun e w' => e = .returned (.bool (decide (n1 = n2) && (List.range n1).all p)) ∧ New w w' := by
  have H1 := Lib.hid h1
  have H2 := Lib.hid h2
  have HO := Lib.hid ho
  obtain ⟨a1, m1, rfl⟩ := h1.slice
  obtain ⟨a2, m2, rfl⟩ := h2.slice
  have hn1 : n1 ≤ 281474976710656 := h1.1
  clear h1 h2 ho
  have hN0 : New w w := Mods.refl _ _
  by_cases hnn : n1 = n2
  · subst hnn
    have HG := Lib.hid (hg rfl)
    clear hg
    have hdd : decide ((n1 : Int) = (n1 : Int)) = true := decide_eq_true rfl
    obtain ⟨r, hr⟩ : ∃ r, (decide (n1 = n1) && (List.range n1).all p) = r := ⟨_, rfl⟩
    have HR : Hid ((List.range n1).all p = r) := Lib.hid (by rw [← hr]; simp)
    rw [hr]
    clear hr
    go_enter Tryz.func95, Tryz.ntmps95
    go_wp2_with fail
    go_loopw [17] (fun t wr => ∃ k : Nat, k ≤ n1 ∧ t = .int .i64 k ∧ Hid (∀ j, j < k → p j = true) ∧ New w wr) (fun t _ => n1 - (intOf t).toNat)
    case atStart => exact ⟨0, Nat.zero_le _, rfl, Lib.hid fun i hi => by omega, hN0⟩
    case round =>
      clear hN0
      obtain ⟨k, hk, rfl, hbef, hN⟩ := hrel
      by_cases hlt : k < n1
      · have hkd : decide ((k : Int) < (n1 : Int)) = true := decide_eq_true (by omega)
        obtain ⟨b1, o1, rfl, hrow⟩ := (H1.out.new hN).at.2.2 k hlt
        obtain ⟨b2, o2, rfl, hrow2⟩ := (H2.out.new hN).at.2.2 k hlt
        obtain ⟨k0, k1, k2, k3⟩ := cells4 hrow
        obtain ⟨q0, q1, q2, q3⟩ := cells4 hrow2
        have hA : New wr (wr.alloc (.cells #[c k 0, c k 1, c k 2, c k 3] 64)) := (Mods.refl _ _).alloc _
        have r1 := World.alloc_heap_new wr (.cells #[c k 0, c k 1, c k 2, c k 3] 64)
        obtain ⟨W1, hW1⟩ : ∃ W1, wr.alloc (.cells #[c k 0, c k 1, c k 2, c k 3] 64) = W1 := ⟨_, rfl⟩
        have HP := Lib.hid (fun W (hW : New wr W) => HG.out k W hlt (hok _ _ HO.out (hN.trans hW)))
        have hone1 := hc1 k hlt
        have hone2 := hd1 k hlt
        have z1 := World.alloc_heap_new wr (.cells [.string ⟨#[]⟩, .bool false, .slice none 0 0, .slice none 0 0].toArray 64)
        clear hrow hrow2 HG
        go_upto_region 6 with (refine op_skip rfl (run_store_row 64 (.tmp 8) (.tmp 21) rfl wr.heap.size rfl 64 [.string ⟨#[]⟩, .bool false, .slice none 0 0, .slice none 0 0] [c k 0, c k 1, c k 2, c k 3] rfl z1 sizeM rfl hone1) ?_)
        rw [alloc_setRow]
        rw [hW1] at hA r1 ⊢
        have hbs := hA.size
        obtain ⟨B1, hB1⟩ : ∃ B1, wr.heap.size = B1 := ⟨_, rfl⟩
        rw [hB1] at r1 ⊢
        have q0 := hA.cell q0 id
        have q1 := hA.cell q1 id
        have q2 := hA.cell q2 id
        have q3 := hA.cell q3 id
        clear hW1 k0 k1 k2 k3
        have hA2 : New W1 (W1.alloc (.cells #[d k 0, d k 1, d k 2, d k 3] 64)) := (Mods.refl _ _).alloc _
        have r2 := World.alloc_heap_new W1 (.cells #[d k 0, d k 1, d k 2, d k 3] 64)
        obtain ⟨W2, hW2⟩ : ∃ W2, W1.alloc (.cells #[d k 0, d k 1, d k 2, d k 3] 64) = W2 := ⟨_, rfl⟩
        have z2 := World.alloc_heap_new W1 (.cells [.string ⟨#[]⟩, .bool false, .slice none 0 0, .slice none 0 0].toArray 64)
        go_upto_region 7 with (refine op_skip rfl (run_store_row 64 (.tmp 9) (.tmp 25) rfl W1.heap.size rfl 64 [.string ⟨#[]⟩, .bool false, .slice none 0 0, .slice none 0 0] [d k 0, d k 1, d k 2, d k 3] rfl z2 sizeM rfl hone2) ?_)
        rw [alloc_setRow]
        rw [hW2] at hA2 r2 ⊢
        have r1 := hA2.heap r1 id
        obtain ⟨B2, hB2⟩ : ∃ B2, W1.heap.size = B2 := ⟨_, rfl⟩
        rw [hB2] at r2 ⊢
        clear hW2 q0 q1 q2 q3
        have hNN := hN.trans (hA.trans hA2)
        have HP := Lib.hid (HP.out W2 (hA.trans hA2))
        cases hp : p k with
        | true =>
          have hh : Hid (∀ j, j < k + 1 → p j = true) := Lib.hid fun i hi => by
            by_cases hik : i < k
            · exact hbef.out i hik
            · obtain rfl : i = k := by omega
              exact hp
          rw [hp] at HP
          clear hp hbef HR
          go_wp2_with (first | (refine op_value rfl (run_load_row 64 (.tmp 8) rfl B1 rfl 64 _ (0, 0) _ r1 Tryz.underlying64 rfl sizeM) ?_) | (refine op_value rfl (run_load_row 64 (.tmp 9) rfl B2 rfl 64 _ (0, 0) _ r2 Tryz.underlying64 rfl sizeM) ?_))
          refine HP.out.mono ?_
          rintro e w' ⟨rfl, hN'⟩
          have hN2 := hNN.trans hN'
          clear hN hN' hNN r1 r2 hA hA2 hbs
          go_wp2_with fail
          go_roundw
          case rel => exact ⟨k + 1, by omega, by go_num, hh, hN2⟩
          case measure => simp [intOf]; omega
        | false =>
          obtain rfl : r = false := by rw [← HR.out]; exact all_range_false hlt hp
          rw [hp] at HP
          clear hp hbef HR
          go_wp2_with (first | (refine op_value rfl (run_load_row 64 (.tmp 8) rfl B1 rfl 64 _ (0, 0) _ r1 Tryz.underlying64 rfl sizeM) ?_) | (refine op_value rfl (run_load_row 64 (.tmp 9) rfl B2 rfl 64 _ (0, 0) _ r2 Tryz.underlying64 rfl sizeM) ?_))
          refine HP.out.mono ?_
          rintro e w' ⟨rfl, hN'⟩
          have hN2 := hNN.trans hN'
          clear hN hN' hNN r1 r2 hA hA2 hbs
          go_wp2_with fail
          go_ret
          exact ⟨rfl, hN2⟩
      · have hkd : decide ((k : Int) < (n1 : Int)) = false := decide_eq_false (by omega)
        obtain rfl : k = n1 := by omega
        obtain rfl : r = true := by rw [← HR.out]; exact all_range_true hbef.out
        clear HR hbef
        go_wp2_with fail
        go_ret
        exact ⟨rfl, hN⟩
  · have hdd : decide ((n1 : Int) = (n2 : Int)) = false := decide_eq_false (by omega)
    rw [show decide (n1 = n2) = false from decide_eq_false hnn, Bool.false_and]
    clear hg
    go_enter Tryz.func95, Tryz.ntmps95
    go_wp2_with fail
    go_ret
    exact ⟨rfl, hN0⟩
set_option maxHeartbeats 4000000 in
set_option maxRecDepth 100000 in
theorem equalf_X (g : Nat) (lb : Array Value) (n1 n2 : Nat) (c d : Nat → Nat → Value) (ok : World → Prop) (hok : ∀ W W', ok W → New W W' → ok W') (p : Nat → Bool) (hg : n1 = n2 → PredG g lb n1 (fun i => [c i 0, c i 1, c i 2, c i 3, c i 4]) (fun i => [d i 0, d i 1, d i 2, d i 3, d i 4]) ok p) (eg : ∀ args w, (callFunc g args).run Tryz.prog w = .ok (.enter g args) w) (v1 v2 : Value) (w : World) (h1 : RowR w v1 n1 5 (fun i => [c i 0, c i 1, c i 2, c i 3, c i 4])) (h2 : RowR w v2 n2 5 (fun i => [d i 0, d i 1, d i 2, d i 3, d i 4])) (ho : ok w) (hc1 : ∀ i, i < n1 → ∀ u ∈ [c i 0, c i 1, c i 2, c i 3, c i 4], u.oneCell' = true) (hd1 : ∀ i, i < n2 → ∀ u ∈ [d i 0, d i 1, d i 2, d i 3, d i 4], u.oneCell' = true) :
    Calls Tryz.prog 97 #[v1, v2, .func (.func g) #[] lb] w fun e w' => e = .returned (.bool (decide (n1 = n2) && (List.range n1).all p)) ∧ New w w' := by
  have H1 := Lib.hid h1
  have H2 := Lib.hid h2
  have HO := Lib.hid ho
  obtain ⟨a1, m1, rfl⟩ := h1.slice
  obtain ⟨a2, m2, rfl⟩ := h2.slice
  have hn1 : n1 ≤ 281474976710656 := h1.1
  clear h1 h2 ho
  have hN0 : New w w := Mods.refl _ _
  by_cases hnn : n1 = n2
  · subst hnn
    have HG := Lib.hid (hg rfl)
    clear hg
    have hdd : decide ((n1 : Int) = (n1 : Int)) = true := decide_eq_true rfl
    obtain ⟨r, hr⟩ : ∃ r, (decide (n1 = n1) && (List.range n1).all p) = r := ⟨_, rfl⟩
    have HR : Hid ((List.range n1).all p = r) := Lib.hid (by rw [← hr]; simp)
    rw [hr]
    clear hr
    go_enter Tryz.func97, Tryz.ntmps97
    go_wp2_with fail
    go_loopw [17] (fun t wr => ∃ k : Nat, k ≤ n1 ∧ t = .int .i64 k ∧ Hid (∀ j, j < k → p j = true) ∧ New w wr) (fun t _ => n1 - (intOf t).toNat)
    case atStart => exact ⟨0, Nat.zero_le _, rfl, Lib.hid fun i hi => by omega, hN0⟩
    case round =>
      clear hN0
      obtain ⟨k, hk, rfl, hbef, hN⟩ := hrel
      by_cases hlt : k < n1
      · have hkd : decide ((k : Int) < (n1 : Int)) = true := decide_eq_true (by omega)
        obtain ⟨b1, o1, rfl, hrow⟩ := (H1.out.new hN).at.2.2 k hlt
        obtain ⟨b2, o2, rfl, hrow2⟩ := (H2.out.new hN).at.2.2 k hlt
        obtain ⟨k0, k1, k2, k3, k4⟩ := cells5 hrow
        obtain ⟨q0, q1, q2, q3, q4⟩ := cells5 hrow2
        have hA : New wr (wr.alloc (.cells #[c k 0, c k 1, c k 2, c k 3, c k 4] 71)) := (Mods.refl _ _).alloc _
        have r1 := World.alloc_heap_new wr (.cells #[c k 0, c k 1, c k 2, c k 3, c k 4] 71)
        obtain ⟨W1, hW1⟩ : ∃ W1, wr.alloc (.cells #[c k 0, c k 1, c k 2, c k 3, c k 4] 71) = W1 := ⟨_, rfl⟩
        have HP := Lib.hid (fun W (hW : New wr W) => HG.out k W hlt (hok _ _ HO.out (hN.trans hW)))
        have hone1 := hc1 k hlt
        have hone2 := hd1 k hlt
        have z1 := World.alloc_heap_new wr (.cells [.int .u8 0, .int .i64 0, .string ⟨#[]⟩, .bool false, .slice none 0 0].toArray 71)
        clear hrow hrow2 HG
        go_upto_region 6 with (refine op_skip rfl (run_store_row 71 (.tmp 8) (.tmp 21) rfl wr.heap.size rfl 71 [.int .u8 0, .int .i64 0, .string ⟨#[]⟩, .bool false, .slice none 0 0] [c k 0, c k 1, c k 2, c k 3, c k 4] rfl z1 sizeX rfl hone1) ?_)
        rw [alloc_setRow]
        rw [hW1] at hA r1 ⊢
        have hbs := hA.size
        obtain ⟨B1, hB1⟩ : ∃ B1, wr.heap.size = B1 := ⟨_, rfl⟩
        rw [hB1] at r1 ⊢
        have q0 := hA.cell q0 id
        have q1 := hA.cell q1 id
        have q2 := hA.cell q2 id
        have q3 := hA.cell q3 id
        have q4 := hA.cell q4 id
        clear hW1 k0 k1 k2 k3 k4
        have hA2 : New W1 (W1.alloc (.cells #[d k 0, d k 1, d k 2, d k 3, d k 4] 71)) := (Mods.refl _ _).alloc _
        have r2 := World.alloc_heap_new W1 (.cells #[d k 0, d k 1, d k 2, d k 3, d k 4] 71)
        obtain ⟨W2, hW2⟩ : ∃ W2, W1.alloc (.cells #[d k 0, d k 1, d k 2, d k 3, d k 4] 71) = W2 := ⟨_, rfl⟩
        have z2 := World.alloc_heap_new W1 (.cells [.int .u8 0, .int .i64 0, .string ⟨#[]⟩, .bool false, .slice none 0 0].toArray 71)
        go_upto_region 7 with (refine op_skip rfl (run_store_row 71 (.tmp 9) (.tmp 25) rfl W1.heap.size rfl 71 [.int .u8 0, .int .i64 0, .string ⟨#[]⟩, .bool false, .slice none 0 0] [d k 0, d k 1, d k 2, d k 3, d k 4] rfl z2 sizeX rfl hone2) ?_)
        rw [alloc_setRow]
        rw [hW2] at hA2 r2 ⊢
        have r1 := hA2.heap r1 id
        obtain ⟨B2, hB2⟩ : ∃ B2, W1.heap.size = B2 := ⟨_, rfl⟩
        rw [hB2] at r2 ⊢
        clear hW2 q0 q1 q2 q3 q4
        have hNN := hN.trans (hA.trans hA2)
        have HP := Lib.hid (HP.out W2 (hA.trans hA2))
        cases hp : p k with
        | true =>
          have hh : Hid (∀ j, j < k + 1 → p j = true) := Lib.hid fun i hi => by
            by_cases hik : i < k
            · exact hbef.out i hik
            · obtain rfl : i = k := by omega
              exact hp
          rw [hp] at HP
          clear hp hbef HR
          go_wp2_with (first | (refine op_value rfl (run_load_row 71 (.tmp 8) rfl B1 rfl 71 _ (0, 0) _ r1 Tryz.underlying71 rfl sizeX) ?_) | (refine op_value rfl (run_load_row 71 (.tmp 9) rfl B2 rfl 71 _ (0, 0) _ r2 Tryz.underlying71 rfl sizeX) ?_))
          refine HP.out.mono ?_
          rintro e w' ⟨rfl, hN'⟩
          have hN2 := hNN.trans hN'
          clear hN hN' hNN r1 r2 hA hA2 hbs
          go_wp2_with fail
          go_roundw
          case rel => exact ⟨k + 1, by omega, by go_num, hh, hN2⟩
          case measure => simp [intOf]; omega
        | false =>
          obtain rfl : r = false := by rw [← HR.out]; exact all_range_false hlt hp
          rw [hp] at HP
          clear hp hbef HR
          go_wp2_with (first | (refine op_value rfl (run_load_row 71 (.tmp 8) rfl B1 rfl 71 _ (0, 0) _ r1 Tryz.underlying71 rfl sizeX) ?_) | (refine op_value rfl (run_load_row 71 (.tmp 9) rfl B2 rfl 71 _ (0, 0) _ r2 Tryz.underlying71 rfl sizeX) ?_))
          refine HP.out.mono ?_
          rintro e w' ⟨rfl, hN'⟩
          have hN2 := hNN.trans hN'
          clear hN hN' hNN r1 r2 hA hA2 hbs
          go_wp2_with fail
          go_ret
          exact ⟨rfl, hN2⟩
      · have hkd : decide ((k : Int) < (n1 : Int)) = false := decide_eq_false (by omega)
        obtain rfl : k = n1 := by omega
        obtain rfl : r = true := by rw [← HR.out]; exact all_range_true hbef.out
        clear HR hbef
        go_wp2_with fail
        go_ret
        exact ⟨rfl, hN⟩
  · have hdd : decide ((n1 : Int) = (n2 : Int)) = false := decide_eq_false (by omega)
    rw [show decide (n1 = n2) = false from decide_eq_false hnn, Bool.false_and]
    clear hg
    go_enter Tryz.func97, Tryz.ntmps97
    go_wp2_with fail
    go_ret
    exact ⟨rfl, hN0⟩
end Go.Proofs.YtkiiameibdhdfaaGreatDoor
/- slices.Equal of parameters (the program). -/
namespace Go.Proofs.YtkiiameibdhdfaaGreatDoor
open Go.RowKit Go.Shelf Go.Cs
attribute [local go_sem] Oper.semAt_some
set_option linter.unusedVariables false
set_option linter.unusedSimpArgs false
/-- Whether two parameters are the same. -/
theorem eq_param (d : Nat) (p q : Bare.Par) (w : World) : (Op.equalIn (d + 3) 73 (.agg (pcs p).toArray) (.agg (pcs q).toArray)).run Tryz.prog w = .ok (decide (p = q)) w := by
  unfold pcs
  rw [show d + 3 = (d + 2) + 1 from rfl, run_equalIn_agg w (d + 2) 73 _ _ (by unfold Program.fieldsOf; rw [Tryz.underlying73]) (by kernel_rfl)]
  unfold Program.fieldsOf
  rw [Tryz.underlying73]
  have h0 := fun (s0 : ByteArray) (k n : Int) (s : ByteArray) (y : Bool) w => partAt 9 _ Tryz.underlying9 rfl #[.string s0, .int .u8 k, .int .i64 n, .string s, .bool y] 0 (.string s0) w rfl
  have h1 : ∀ (s0 : ByteArray) (k n : Int) (s : ByteArray) (y : Bool) w, (Go.part 66 #[.string s0, .int .u8 k, .int .i64 n, .string s, .bool y] 1).run Tryz.prog w = .ok (.agg #[.int .u8 k, .int .i64 n, .string s, .bool y]) w := fun s0 k n s y w => partAgg 66 _ 4 Tryz.underlying66 rfl info_bare #[.string s0, .int .u8 k, .int .i64 n, .string s, .bool y] 1 w
  have e9 := fun w (a b : ByteArray) => run_equalIn_string w (d + 1) 9 a b Tryz.underlying9
  have n1 : ("Key" ≠ "_") = True := by simp
  have n2 : ("Bare" ≠ "_") = True := by simp
  obtain ⟨kp, bp⟩ := p
  obtain ⟨kq, bq⟩ := q
  have et := eq_tx (tx kp) (tx kq)
  rw [bl_tx, bl_tx] at et
  have ei := eq_item d bp bq
  unfold bv bcs at ei
  simp only at ei ⊢
  simp only [Op.eqFields, n1, n2, if_true, Sem.run_bind, h0, e9, Result.andThen_ok]
  by_cases hk : kp = kq
  · subst hk
    by_cases hb : bp = bq
    · subst hb
      simp [Sem.run_bind, h1, ei, et]
    · simp [Sem.run_bind, h1, ei, et, hb]
  · simp [Sem.run_bind, h1, ei, et, hk]
theorem nbinop_param (p q : Bare.Par) (w : World) : (binOp .neq 73 (.agg (pcs p).toArray) (.agg (pcs q).toArray)).run Tryz.prog w = .ok (.bool (!decide (p = q))) w := by
  have h := eq_param 9997 p q w
  simp only [binOp]
  simp [Op.equal, Op.maxDepth, h]
theorem list_same {α : Type} (z : α) {l r : List α} (hl : l.length = r.length) (h : ∀ i, i < l.length → l.getD i z = r.getD i z) : l = r := by
  refine List.ext_getElem hl fun i h1 h2 => ?_
  have := h i h1
  rw [List.getD_eq_getElem?_getD, List.getD_eq_getElem?_getD, List.getElem?_eq_getElem h1, List.getElem?_eq_getElem h2] at this
  exact this
theorem lit26 (t : Array Value) (h : t.size = 26) : ∃ u : Nat → Value, t = (u 0 :: u 1 :: u 2 :: u 3 :: u 4 :: u 5 :: u 6 :: u 7 :: u 8 :: u 9 :: u 10 :: u 11 :: u 12 :: u 13 :: u 14 :: u 15 :: u 16 :: u 17 :: u 18 :: u 19 :: u 20 :: u 21 :: u 22 :: u 23 :: u 24 :: u 25 :: ([] : List Value)).toArray := ⟨fun i => t.getD i undef, range_lit t 26 h⟩
noncomputable def reg_slices_Equal___api_Param_api_Param__6 : Code := ((Tryz.f94.body.bind (regionOf 6)).getD .skip)
set_option maxHeartbeats 4000000 in
set_option maxRecDepth 100000 in
theorem equal6 (t : Array Value) (hs : t.size = 26) (w : World) {b1 o1 b2 o2 k n m1 m2 : Nat} {y : Bool} {a0 a1 a2 a3 a4 d0 d1 d2 d3 d4 : Value} {x2 x3 x4 x6 x7 x8 x9 x10 x11 x12 : Value}
    (hq0 : t.getD 0 undef = .slice (some ⟨b1, o1, none⟩) n m1)
    (hq1 : t.getD 1 undef = .slice (some ⟨b2, o2, none⟩) n m2)
    (hq5 : t.getD 5 undef = .int .i64 k)
    (hq13 : t.getD 13 undef = .int .i64 k)
    (hq2 : t.getD 2 undef = x2)
    (hq3 : t.getD 3 undef = x3)
    (hq4 : t.getD 4 undef = x4)
    (hq6 : t.getD 6 undef = x6)
    (hq7 : t.getD 7 undef = x7)
    (hq8 : t.getD 8 undef = x8)
    (hq9 : t.getD 9 undef = x9)
    (hq10 : t.getD 10 undef = x10)
    (hq11 : t.getD 11 undef = x11)
    (hq12 : t.getD 12 undef = x12)
    (c0 : w.cell? ⟨b1, o1 + k * 5, none⟩ = some a0) (e0 : w.cell? ⟨b2, o2 + k * 5, none⟩ = some d0) (c1 : w.cell? ⟨b1, o1 + k * 5 + 1, none⟩ = some a1) (e1 : w.cell? ⟨b2, o2 + k * 5 + 1, none⟩ = some d1) (c2 : w.cell? ⟨b1, o1 + k * 5 + 2, none⟩ = some a2) (e2 : w.cell? ⟨b2, o2 + k * 5 + 2, none⟩ = some d2) (c3 : w.cell? ⟨b1, o1 + k * 5 + 3, none⟩ = some a3) (e3 : w.cell? ⟨b2, o2 + k * 5 + 3, none⟩ = some d3) (c4 : w.cell? ⟨b1, o1 + k * 5 + 4, none⟩ = some a4) (e4 : w.cell? ⟨b2, o2 + k * 5 + 4, none⟩ = some d4)
    (hk : k < n) (hq : ∀ w, (binOp .neq 73 (.agg #[a0, a1, a2, a3, a4]) (.agg #[d0, d1, d2, d3, d4])).run Tryz.prog w = .ok (.bool y) w) :
    reg_slices_Equal___api_Param_api_Param__6.wp Tryz.prog (Only fun a' W' => (a'.tmps.size = 26 ∧ a'.defers = [] ∧ a'.tmps.getD 0 undef = .slice (some ⟨b1, o1, none⟩) n m1 ∧ a'.tmps.getD 1 undef = .slice (some ⟨b2, o2, none⟩) n m2 ∧ a'.tmps.getD 5 undef = .int .i64 k ∧ a'.tmps.getD 13 undef = .int .i64 k ∧ a'.tmps.getD 2 undef = x2 ∧ a'.tmps.getD 3 undef = x3 ∧ a'.tmps.getD 4 undef = x4 ∧ a'.tmps.getD 6 undef = x6 ∧ a'.tmps.getD 7 undef = x7 ∧ a'.tmps.getD 8 undef = x8 ∧ a'.tmps.getD 9 undef = x9 ∧ a'.tmps.getD 10 undef = x10 ∧ a'.tmps.getD 11 undef = x11 ∧ a'.tmps.getD 12 undef = x12 ∧ a'.tmps.getD 24 undef = .bool y) ∧ New w W') ⟨t, []⟩ w := by
  conv => arg 2; whnf
  obtain ⟨u, rfl⟩ := lit26 t hs
  have hq0 : u 0 = .slice (some ⟨b1, o1, none⟩) n m1 := hq0
  have hq1 : u 1 = .slice (some ⟨b2, o2, none⟩) n m2 := hq1
  have hq5 : u 5 = .int .i64 k := hq5
  have hq13 : u 13 = .int .i64 k := hq13
  have hq2 : u 2 = x2 := hq2
  have hq3 : u 3 = x3 := hq3
  have hq4 : u 4 = x4 := hq4
  have hq6 : u 6 = x6 := hq6
  have hq7 : u 7 = x7 := hq7
  have hq8 : u 8 = x8 := hq8
  have hq9 : u 9 = x9 := hq9
  have hq10 : u 10 = x10 := hq10
  have hq11 : u 11 = x11 := hq11
  have hq12 : u 12 = x12 := hq12
  rw [hq0, hq1, hq5, hq13, hq2, hq3, hq4, hq6, hq7, hq8, hq9, hq10, hq11, hq12]
  clear hq0 hq1 hq5 hq13 hq2 hq3 hq4 hq6 hq7 hq8 hq9 hq10 hq11 hq12 hs
  have hS : New w w.drew := (Mods.refl _ _).drew
  have hid : decide ((k : Int) < (n : Int)) = true := decide_eq_true (by omega)
  refine wp_region_held (S := fun W => New w W) (by kernel_rfl) ?_
  show wpAnyH _ _ _ _ _ 9 _ _ w.drew
  refine anyH_take 0 (some 16) (.slice (some ⟨b1, o1, none⟩) n m1) rfl rfl (by kernel_rfl) (by kernel_rfl) (by kernel_rfl) (fun _ _ _ h => h.elim) (.inl ⟨by rfl, fun W hW => by go_simp⟩) hS ?_
  simp only [Act.put, List.setIfInBounds_toArray, List.set_cons_succ, List.set_cons_zero]
  refine anyH_take 1 (some 17) (.int .i64 k) rfl rfl (by kernel_rfl) (by kernel_rfl) (by kernel_rfl) (fun _ _ _ h => h.elim) (.inl ⟨by rfl, fun W hW => by go_simp⟩) hS ?_
  simp only [Act.put, List.setIfInBounds_toArray, List.set_cons_succ, List.set_cons_zero]
  refine anyH_take 2 (some 18) (.pointer (some ⟨b1, o1 + k * 5, none⟩)) rfl rfl (by kernel_rfl) (by kernel_rfl) (by kernel_rfl) (fun _ _ _ h => h.elim) (.inl ⟨by rfl, fun W hW => by go_simp⟩) hS ?_
  simp only [Act.put, List.setIfInBounds_toArray, List.set_cons_succ, List.set_cons_zero]
  refine anyH_take 3 (some 19) (.agg #[a0, a1, a2, a3, a4]) rfl rfl (by kernel_rfl) (by kernel_rfl) (by kernel_rfl) (fun _ _ _ h => h.elim) (.inl ⟨by rfl, fun W hW => by have hh : New w W := hW; have q0 := hh.cell c0 id; have q1 := hh.cell c1 id; have q2 := hh.cell c2 id; have q3 := hh.cell c3 id; have q4 := hh.cell c4 id; go_simp⟩) hS ?_
  simp only [Act.put, List.setIfInBounds_toArray, List.set_cons_succ, List.set_cons_zero]
  refine anyH_take 4 (some 20) (.slice (some ⟨b2, o2, none⟩) n m2) rfl rfl (by kernel_rfl) (by kernel_rfl) (by kernel_rfl) (fun _ _ _ h => h.elim) (.inl ⟨by rfl, fun W hW => by go_simp⟩) hS ?_
  simp only [Act.put, List.setIfInBounds_toArray, List.set_cons_succ, List.set_cons_zero]
  refine anyH_take 5 (some 21) (.int .i64 k) rfl rfl (by kernel_rfl) (by kernel_rfl) (by kernel_rfl) (fun _ _ _ h => h.elim) (.inl ⟨by rfl, fun W hW => by go_simp⟩) hS ?_
  simp only [Act.put, List.setIfInBounds_toArray, List.set_cons_succ, List.set_cons_zero]
  refine anyH_take 6 (some 22) (.pointer (some ⟨b2, o2 + k * 5, none⟩)) rfl rfl (by kernel_rfl) (by kernel_rfl) (by kernel_rfl) (fun _ _ _ h => h.elim) (.inl ⟨by rfl, fun W hW => by go_simp⟩) hS ?_
  simp only [Act.put, List.setIfInBounds_toArray, List.set_cons_succ, List.set_cons_zero]
  refine anyH_take 7 (some 23) (.agg #[d0, d1, d2, d3, d4]) rfl rfl (by kernel_rfl) (by kernel_rfl) (by kernel_rfl) (fun _ _ _ h => h.elim) (.inl ⟨by rfl, fun W hW => by have hh : New w W := hW; have q0 := hh.cell e0 id; have q1 := hh.cell e1 id; have q2 := hh.cell e2 id; have q3 := hh.cell e3 id; have q4 := hh.cell e4 id; go_simp⟩) hS ?_
  simp only [Act.put, List.setIfInBounds_toArray, List.set_cons_succ, List.set_cons_zero]
  refine anyH_take 8 (some 24) (.bool y) rfl rfl (by kernel_rfl) (by kernel_rfl) (by kernel_rfl) (fun _ _ _ h => h.elim) (.inl ⟨by rfl, fun W hW => by have hz := hq W; go_simp⟩) hS ?_
  simp only [Act.put, List.setIfInBounds_toArray, List.set_cons_succ, List.set_cons_zero]
  refine wpAnyH_done (by kernel_rfl) ?_ _
  exact ⟨⟨rfl, rfl, rfl, rfl, rfl, rfl, rfl, rfl, rfl, rfl, rfl, rfl, rfl, rfl, rfl, rfl, rfl⟩, hS⟩
set_option maxHeartbeats 4000000 in
set_option maxRecDepth 100000 in
theorem equal_P {τ τ' : Bool} (v1 v2 : Value) (l r : List Bare.Par) (w : World) (h1 : RdP τ w v1 l) (h2 : RdP τ' w v2 r) :
    Calls Tryz.prog 94 #[v1, v2] w fun e w' => e = .returned (.bool (decide (l = r))) ∧ New w w' := by
  have H1 := Lib.hid h1.1
  have H2 := Lib.hid h2.1
  obtain ⟨a1, m1, rfl⟩ := h1.slice
  obtain ⟨a2, m2, rfl⟩ := h2.slice
  have hn1 : l.length ≤ 281474976710656 := h1.1.1
  clear h1 h2
  have hN0 : New w w := Mods.refl _ _
  obtain ⟨n, hn⟩ : ∃ n, l.length = n := ⟨_, rfl⟩
  obtain ⟨n2, hn2⟩ : ∃ n, r.length = n := ⟨_, rfl⟩
  by_cases hnn : n = n2
  · subst hnn
    have hdd : decide ((n : Int) = (n : Int)) = true := decide_eq_true rfl
    have HE := Lib.hid (list_same (l := l) (r := r) noP (by omega))
    obtain ⟨y, hy⟩ : ∃ y, decide (l = r) = y := ⟨_, rfl⟩
    have HY := Lib.hid hy
    have Hn := Lib.hid hn
    rw [hy, hn, hn2]
    rw [hn] at H1 hn1
    rw [hn2] at H2
    clear hy hn hn2
    go_enter Tryz.func94, Tryz.ntmps94
    go_wp2_with fail
    go_loopw [13] (fun t wr => ∃ k : Nat, k ≤ n ∧ t = .int .i64 k ∧ Hid (∀ j, j < k → l.getD j noP = r.getD j noP) ∧ New w wr) (fun t _ => n - (intOf t).toNat)
    case atStart => exact ⟨0, Nat.zero_le _, rfl, Lib.hid fun i hi => by omega, hN0⟩
    case round =>
      clear hN0
      obtain ⟨k, hk, rfl, hbef, hN⟩ := hrel
      by_cases hlt : k < n
      · have hkd : decide ((k : Int) < (n : Int)) = true := decide_eq_true (by omega)
        obtain ⟨b1, o1, rfl, hrow⟩ := (H1.out.new hN).at.2.2 k hlt
        obtain ⟨b2, o2, rfl, hrow2⟩ := (H2.out.new hN).at.2.2 k hlt
        obtain ⟨k0, k1, k2, k3, k4⟩ := cells5 hrow
        obtain ⟨q0, q1, q2, q3, q4⟩ := cells5 hrow2
        have hq := fun w => nbinop_param (l.getD k noP) (r.getD k noP) w
        unfold pcs at hq
        cases hp : decide (l.getD k noP = r.getD k noP) with
        | true =>
          have hh : Hid (∀ j, j < k + 1 → l.getD j noP = r.getD j noP) := Lib.hid fun i hi => by
            by_cases hik : i < k
            · exact hbef.out i hik
            · obtain rfl : i = k := by omega
              exact of_decide_eq_true hp
          rw [hp] at hq
          clear hp hbef hrow hrow2
          go_upto_region 6 with fail
          refine piece (fun _ => _) (equal6 _ rfl wr rfl rfl rfl rfl rfl rfl rfl rfl rfl rfl rfl rfl rfl rfl k0 q0 k1 q1 k2 q2 k3 q3 k4 q4 hlt hq) ?_
          rintro ⟨z, dfs⟩ wr2 ⟨⟨hs, hd, hq0, hq1, hq5, hq13, hq2, hq3, hq4, hq6, hq7, hq8, hq9, hq10, hq11, hq12, hq24⟩, hN2⟩
          simp only at hs hd hq0 hq1 hq5 hq13 hq2 hq3 hq4 hq6 hq7 hq8 hq9 hq10 hq11 hq12 hq24
          subst hd
          obtain ⟨u, rfl⟩ := lit26 z hs
          have hp0 : u 0 = .slice (some ⟨b1, o1, none⟩) n m1 := hq0
          have hp1 : u 1 = .slice (some ⟨b2, o2, none⟩) n m2 := hq1
          have hp5 : u 5 = .int .i64 k := hq5
          have hp13 : u 13 = .int .i64 k := hq13
          have hp2 : u 2 = undef := hq2
          have hp3 : u 3 = undef := hq3
          have hp4 : u 4 = u4 := hq4
          have hp6 : u 6 = .slice (some ⟨b1, o1, none⟩) n m1 := hq6
          have hp7 : u 7 = .int .i64 n := hq7
          have hp8 : u 8 = .slice (some ⟨b2, o2, none⟩) n m2 := hq8
          have hp9 : u 9 = .int .i64 n := hq9
          have hp10 : u 10 = .bool false := hq10
          have hp11 : u 11 = .slice (some ⟨b1, o1, none⟩) n m1 := hq11
          have hp12 : u 12 = .int .i64 n := hq12
          have hp24 : u 24 = .bool (!true) := hq24
          rw [hp0, hp1, hp5, hp13, hp2, hp3, hp4, hp6, hp7, hp8, hp9, hp10, hp11, hp12, hp24]
          clear hp0 hq0 hp1 hq1 hp5 hq5 hp13 hq13 hp2 hq2 hp3 hq3 hp4 hq4 hp6 hq6 hp7 hq7 hp8 hq8 hp9 hq9 hp10 hq10 hp11 hq11 hp12 hq12 hp24 hq24 hs
          have hN := hN.trans hN2
          clear k0 k1 k2 k3 k4 q0 q1 q2 q3 q4 hN2
          go_wp2_with fail
          go_roundw
          case rel => exact ⟨k + 1, by omega, by go_num, hh, hN⟩
          case measure => simp [intOf]; omega
        | false =>
          obtain rfl : y = false := by
            rw [← HY.out]
            refine decide_eq_false fun e => ?_
            rw [e] at hp
            simp at hp
          rw [hp] at hq
          clear hp hbef hrow hrow2 HE
          go_upto_region 6 with fail
          refine piece (fun _ => _) (equal6 _ rfl wr rfl rfl rfl rfl rfl rfl rfl rfl rfl rfl rfl rfl rfl rfl k0 q0 k1 q1 k2 q2 k3 q3 k4 q4 hlt hq) ?_
          rintro ⟨z, dfs⟩ wr2 ⟨⟨hs, hd, hq0, hq1, hq5, hq13, hq2, hq3, hq4, hq6, hq7, hq8, hq9, hq10, hq11, hq12, hq24⟩, hN2⟩
          simp only at hs hd hq0 hq1 hq5 hq13 hq2 hq3 hq4 hq6 hq7 hq8 hq9 hq10 hq11 hq12 hq24
          subst hd
          obtain ⟨u, rfl⟩ := lit26 z hs
          have hp0 : u 0 = .slice (some ⟨b1, o1, none⟩) n m1 := hq0
          have hp1 : u 1 = .slice (some ⟨b2, o2, none⟩) n m2 := hq1
          have hp5 : u 5 = .int .i64 k := hq5
          have hp13 : u 13 = .int .i64 k := hq13
          have hp2 : u 2 = undef := hq2
          have hp3 : u 3 = undef := hq3
          have hp4 : u 4 = u4 := hq4
          have hp6 : u 6 = .slice (some ⟨b1, o1, none⟩) n m1 := hq6
          have hp7 : u 7 = .int .i64 n := hq7
          have hp8 : u 8 = .slice (some ⟨b2, o2, none⟩) n m2 := hq8
          have hp9 : u 9 = .int .i64 n := hq9
          have hp10 : u 10 = .bool false := hq10
          have hp11 : u 11 = .slice (some ⟨b1, o1, none⟩) n m1 := hq11
          have hp12 : u 12 = .int .i64 n := hq12
          have hp24 : u 24 = .bool (!false) := hq24
          rw [hp0, hp1, hp5, hp13, hp2, hp3, hp4, hp6, hp7, hp8, hp9, hp10, hp11, hp12, hp24]
          clear hp0 hq0 hp1 hq1 hp5 hq5 hp13 hq13 hp2 hq2 hp3 hq3 hp4 hq4 hp6 hq6 hp7 hq7 hp8 hq8 hp9 hq9 hp10 hq10 hp11 hq11 hp12 hq12 hp24 hq24 hs
          have hN := hN.trans hN2
          clear k0 k1 k2 k3 k4 q0 q1 q2 q3 q4 hN2
          go_wp2_with fail
          go_ret
          exact ⟨rfl, hN⟩
      · have hkd : decide ((k : Int) < (n : Int)) = false := decide_eq_false (by omega)
        obtain rfl : y = true := by
          rw [← HY.out]
          exact decide_eq_true (HE.out fun i hi => hbef.out i (by have := Hn.out; omega))
        clear HE hbef
        go_wp2_with fail
        go_ret
        exact ⟨rfl, hN⟩
  · have hdd : decide ((n : Int) = (n2 : Int)) = false := decide_eq_false (by omega)
    rw [show decide (l = r) = false from decide_eq_false fun e => hnn (by rw [← hn, ← hn2, e])]
    rw [hn, hn2]
    go_enter Tryz.func94, Tryz.ntmps94
    go_wp2_with fail
    go_ret
    exact ⟨rfl, hN0⟩
end Go.Proofs.YtkiiameibdhdfaaGreatDoor
/- Whether two items are the same in all (the program). -/
namespace Go.Proofs.YtkiiameibdhdfaaGreatDoor
open Go.RowKit Go.Shelf Go.Cs
attribute [local go_sem] Oper.semAt_some
set_option linter.unusedVariables false
set_option linter.unusedSimpArgs false
set_option maxHeartbeats 4000000 in
set_option maxRecDepth 100000 in
theorem same_item {τ τ' : Bool} (x y : Bare.Itm) (pv qv : Value) (w : World) (h1 : RdP τ w pv x.params) (h2 : RdP τ' w qv y.params) :
    Calls Tryz.prog 93 #[.agg (ics x pv).toArray, .agg (ics y qv).toArray] w fun e w' => e = .returned (.bool (decide (x = y))) ∧ New w w' := by
  obtain ⟨pa, pc, rfl⟩ := h1.slice
  obtain ⟨ra, rc, rfl⟩ := h2.slice
  have HC := Lib.hid (fun W (hW : New w W) => equal_P _ _ _ _ W (h1.new hW) (h2.new hW))
  obtain ⟨b, ps⟩ := x
  obtain ⟨c, qs⟩ := y
  have hq := fun w => binop_item b c w
  have hd : decide ((⟨b, ps⟩ : Bare.Itm) = ⟨c, qs⟩) = (decide (b = c) && decide (ps = qs)) := by
    rw [Bool.eq_iff_iff]; simp
  rw [hd]
  obtain ⟨bk, bn, bt, by'⟩ := b
  obtain ⟨ck, cn, ct, cy⟩ := c
  unfold bv bcs at hq
  unfold ics
  simp only at hq HC ⊢
  obtain ⟨bt', hbt⟩ : ∃ z, tx bt = z := ⟨_, rfl⟩
  obtain ⟨ct', hct⟩ : ∃ z, tx ct = z := ⟨_, rfl⟩
  rw [hbt, hct] at hq ⊢
  obtain ⟨pl, hpl⟩ : ∃ z, ps.length = z := ⟨_, rfl⟩
  obtain ⟨rl, hrl⟩ : ∃ z, qs.length = z := ⟨_, rfl⟩
  obtain ⟨r, hr⟩ : ∃ r, decide (ps = qs) = r := ⟨_, rfl⟩
  obtain ⟨q, hqq⟩ : ∃ q, decide ((⟨bk, bn, bt, by'⟩ : Bare.It) = ⟨ck, cn, ct, cy⟩) = q := ⟨_, rfl⟩
  rw [hpl, hrl, hr] at HC
  rw [hpl, hrl, hr, hqq]
  rw [hqq] at hq
  obtain ⟨z, hz⟩ : ∃ z, (q && r) = z := ⟨_, rfl⟩
  have HZ := Lib.hid hz
  rw [hz]
  clear hz hpl hrl hr hqq hbt hct h1 h2 hd
  have hA : New w (w.alloc (.cells #[.int .u8 bk, .int .i64 bn, .string bt', .bool by', .slice pa pl pc] 71)) := (Mods.refl _ _).alloc _
  have r1 := World.alloc_heap_new w (.cells #[.int .u8 bk, .int .i64 bn, .string bt', .bool by', .slice pa pl pc] 71)
  obtain ⟨W1, hW1⟩ : ∃ W1, w.alloc (.cells #[.int .u8 bk, .int .i64 bn, .string bt', .bool by', .slice pa pl pc] 71) = W1 := ⟨_, rfl⟩
  have hA2 : New W1 (W1.alloc (.cells #[.int .u8 ck, .int .i64 cn, .string ct', .bool cy, .slice ra rl rc] 71)) := (Mods.refl _ _).alloc _
  have r2 := World.alloc_heap_new W1 (.cells #[.int .u8 ck, .int .i64 cn, .string ct', .bool cy, .slice ra rl rc] 71)
  obtain ⟨W2, hW2⟩ : ∃ W2, W1.alloc (.cells #[.int .u8 ck, .int .i64 cn, .string ct', .bool cy, .slice ra rl rc] 71) = W2 := ⟨_, rfl⟩
  have hs1 : W1.heap.size = w.heap.size + 1 := by rw [← hW1]; simp
  go_enter Tryz.func93, Tryz.ntmps93
  go_upto_region 1 with fail
  rw [hW1] at hA r1
  rw [hW2] at hA2 r2
  rw [hs1] at r2
  have r1 := hA2.heap r1 id
  have HC2 := Lib.hid (HC.out W2 (hA.trans hA2))
  clear hW1 hW2 hs1
  have x0 := cell_of_row _ _ 0 _ _ _ r1
  have y0 := cell_of_row _ _ 0 _ _ _ r2
  have x1 := cell_of_row _ _ 1 _ _ _ r1
  have y1 := cell_of_row _ _ 1 _ _ _ r2
  have x2 := cell_of_row _ _ 2 _ _ _ r1
  have y2 := cell_of_row _ _ 2 _ _ _ r2
  have x3 := cell_of_row _ _ 3 _ _ _ r1
  have y3 := cell_of_row _ _ 3 _ _ _ r2
  have x4 := cell_of_row _ _ 4 _ _ _ r1
  have y4 := cell_of_row _ _ 4 _ _ _ r2
  simp only [List.getElem?_toArray, List.getElem?_cons_succ, List.getElem?_cons_zero] at x0 x1 x2 x3 x4 y0 y1 y2 y3 y4
  cases q with
  | true =>
    obtain rfl : r = z := by rw [← HZ.out, Bool.true_and]
    clear HZ
    go_wp2_with (go_at_call 94; refine (HC2.out).mono ?_; rintro e W3 ⟨rfl, hN3⟩)
    go_ret
    exact ⟨rfl, (hA.trans hA2).trans hN3⟩
  | false =>
    obtain rfl : false = z := by rw [← HZ.out, Bool.false_and]
    clear HZ
    go_wp2_with fail
    go_ret
    exact ⟨rfl, hA.trans hA2⟩
end Go.Proofs.YtkiiameibdhdfaaGreatDoor
/- Whether two members are the same in all (the program). -/
namespace Go.Proofs.YtkiiameibdhdfaaGreatDoor
open Go.RowKit Go.Shelf Go.Cs
attribute [local go_sem] Oper.semAt_some
set_option linter.unusedVariables false
set_option linter.unusedSimpArgs false
theorem all_same {α : Type} [DecidableEq α] (z : α) (l r : List α) : (decide (l.length = r.length) && (List.range l.length).all fun i => decide (l.getD i z = r.getD i z)) = decide (l = r) := by
  rw [Bool.eq_iff_iff, Bool.and_eq_true, decide_eq_true_eq, decide_eq_true_eq, List.all_eq_true]
  constructor
  · rintro ⟨h1, h2⟩
    exact list_same z h1 fun i hi => of_decide_eq_true (h2 i (List.mem_range.2 hi))
  · rintro rfl
    exact ⟨rfl, fun i _ => decide_eq_true rfl⟩
set_option maxHeartbeats 1000000 in
theorem equal_X {τ τ' : Bool} (v1 v2 : Value) (l r : List Bare.Itm) (w : World) (h1 : RdI τ w v1 l) (h2 : RdI τ' w v2 r) :
    Calls Tryz.prog 97 #[v1, v2, .func (.func 93) #[] #[]] w fun e w' => e = .returned (.bool (decide (l = r))) ∧ New w w' := by
  obtain ⟨p1, q1, -, s1⟩ := h1
  obtain ⟨p2, q2, -, s2⟩ := h2
  have := equalf_X 93 #[] l.length r.length (fun i j => (ics (l.getD i Bare.noI) (p1 i)).getD j undef) (fun i j => (ics (r.getD i Bare.noI) (p2 i)).getD j undef) (fun W => New w W) (fun W W' h k => h.trans k) (fun i => decide (l.getD i Bare.noI = r.getD i Bare.noI)) (fun hn i W hi hW => same_item (l.getD i Bare.noI) (r.getD i Bare.noI) (p1 i) (p2 i) W ((s1 i hi).new hW) ((s2 i (by omega)).new hW)) (enters_of Tryz.func93 (by kernel_rfl) rfl) v1 v2 w q1 q2 (Mods.refl _ _) (fun i hi => by
    obtain ⟨a, c, e⟩ := (s1 i hi).slice
    rw [e]; exact ics_one _ _ _ _) (fun i hi => by
    obtain ⟨a, c, e⟩ := (s2 i hi).slice
    rw [e]; exact ics_one _ _ _ _)
  rw [all_same] at this
  exact this
set_option maxHeartbeats 4000000 in
set_option maxRecDepth 100000 in
theorem same_member {τ τ' : Bool} (m n : Bare.Mem) (iv pv jv qv : Value) (X : Nat) (w : World) (hi : RdI τ w iv m.items) (hp : RdP τ w pv m.params) (hj : RdI τ' w jv n.items) (hq : RdP τ' w qv n.params) (hb : Boxed w X 142 (.func (.func 93) #[] #[])) :
    Calls Tryz.prog 96 #[.agg (mcs m iv pv).toArray, .agg (mcs n jv qv).toArray, .pointer (some ⟨X, 0, none⟩)] w fun e w' => e = .returned (.bool (decide (m = n))) ∧ New w w' := by
  obtain ⟨ia, ic, rfl⟩ := hi.slice
  obtain ⟨ja, jc, rfl⟩ := hj.slice
  obtain ⟨pa, pc, rfl⟩ := hp.slice
  obtain ⟨qa, qc, rfl⟩ := hq.slice
  have HP := Lib.hid (fun W (hW : New w W) => equal_P _ _ _ _ W (hp.new hW) (hq.new hW))
  have HI := Lib.hid (fun W (hW : New w W) => equal_X _ _ _ _ W (hi.new hW) (hj.new hW))
  obtain ⟨k, y, its, ps⟩ := m
  obtain ⟨k', y', its', ps'⟩ := n
  have hd : decide ((⟨k, y, its, ps⟩ : Bare.Mem) = ⟨k', y', its', ps'⟩) = (decide (k = k') && (decide (y = y') && (decide (ps = ps') && decide (its = its')))) := by
    rw [Bool.eq_iff_iff]
    simp only [Bool.and_eq_true, decide_eq_true_eq, Bare.Mem.mk.injEq]
    constructor
    · rintro ⟨a, b, c, d⟩; exact ⟨a, b, d, c⟩
    · rintro ⟨a, b, d, c⟩; exact ⟨a, b, c, d⟩
  rw [hd]
  have he := eq_tx (tx k) (tx k')
  rw [bl_tx, bl_tx] at he
  unfold mcs
  simp only at HP HI ⊢
  obtain ⟨K, hK⟩ : ∃ z, tx k = z := ⟨_, rfl⟩
  obtain ⟨K', hK'⟩ : ∃ z, tx k' = z := ⟨_, rfl⟩
  obtain ⟨a1, h1⟩ : ∃ z, decide (k = k') = z := ⟨_, rfl⟩
  obtain ⟨a2, h2⟩ : ∃ z, decide (y = y') = z := ⟨_, rfl⟩
  obtain ⟨a3, h3⟩ : ∃ z, decide (ps = ps') = z := ⟨_, rfl⟩
  obtain ⟨a4, h4⟩ : ∃ z, decide (its = its') = z := ⟨_, rfl⟩
  have hb2 : (y == y') = a2 := by rw [← h2]; cases y <;> cases y' <;> rfl
  rw [hK, hK', h1] at he
  rw [hK, hK', h1, h2, h3, h4]
  rw [h3] at HP
  rw [h4] at HI
  obtain ⟨il, hil⟩ : ∃ z, its.length = z := ⟨_, rfl⟩
  obtain ⟨jl, hjl⟩ : ∃ z, its'.length = z := ⟨_, rfl⟩
  obtain ⟨pl, hpl⟩ : ∃ z, ps.length = z := ⟨_, rfl⟩
  obtain ⟨ql, hql⟩ : ∃ z, ps'.length = z := ⟨_, rfl⟩
  rw [hil, hjl] at HI ⊢
  rw [hpl, hql] at HP ⊢
  obtain ⟨z, hz⟩ : ∃ z, (a1 && (a2 && (a3 && a4))) = z := ⟨_, rfl⟩
  have HZ := Lib.hid hz
  rw [hz]
  clear hz hil hjl hpl hql h1 h3 h4 hK hK' hd hi hp hj hq
  have hA : New w (w.alloc (.cells #[.string K, .bool y, .slice ia il ic, .slice pa pl pc] 64)) := (Mods.refl _ _).alloc _
  have r1 := World.alloc_heap_new w (.cells #[.string K, .bool y, .slice ia il ic, .slice pa pl pc] 64)
  obtain ⟨W1, hW1⟩ : ∃ W1, w.alloc (.cells #[.string K, .bool y, .slice ia il ic, .slice pa pl pc] 64) = W1 := ⟨_, rfl⟩
  have hA2 : New W1 (W1.alloc (.cells #[.string K', .bool y', .slice ja jl jc, .slice qa ql qc] 64)) := (Mods.refl _ _).alloc _
  have r2 := World.alloc_heap_new W1 (.cells #[.string K', .bool y', .slice ja jl jc, .slice qa ql qc] 64)
  obtain ⟨W2, hW2⟩ : ∃ W2, W1.alloc (.cells #[.string K', .bool y', .slice ja jl jc, .slice qa ql qc] 64) = W2 := ⟨_, rfl⟩
  have hs1 : W1.heap.size = w.heap.size + 1 := by rw [← hW1]; simp
  go_enter Tryz.func96, Tryz.ntmps96
  go_upto_region 1 with fail
  rw [hW1] at hA r1
  rw [hW2] at hA2 r2
  rw [hs1] at r2
  have r1 := hA2.heap r1 id
  have hN2 := hA.trans hA2
  have HP2 := Lib.hid (HP.out W2 hN2)
  have hb0 := (hN2.boxed hb id)
  obtain ⟨k0, f0⟩ := hb0.both
  have HR1 := Lib.hid r1
  have HR2 := Lib.hid r2
  have HB0 := Lib.hid hb0
  clear hW1 hW2 hs1 hb
  have x0 := cell_of_row _ _ 0 _ _ _ r1
  have y0 := cell_of_row _ _ 0 _ _ _ r2
  have x1 := cell_of_row _ _ 1 _ _ _ r1
  have y1 := cell_of_row _ _ 1 _ _ _ r2
  have x2 := cell_of_row _ _ 2 _ _ _ r1
  have y2 := cell_of_row _ _ 2 _ _ _ r2
  have x3 := cell_of_row _ _ 3 _ _ _ r1
  have y3 := cell_of_row _ _ 3 _ _ _ r2
  simp only [List.getElem?_toArray, List.getElem?_cons_succ, List.getElem?_cons_zero] at x0 x1 x2 x3 y0 y1 y2 y3
  cases a1 with
  | false =>
    obtain rfl : false = z := by rw [← HZ.out]; rfl
    clear HZ
    go_wp2_with fail
    go_ret
    exact ⟨rfl, hN2⟩
  | true =>
    cases a2 with
    | false =>
      obtain rfl : false = z := by rw [← HZ.out]; rfl
      clear HZ
      go_wp2_with fail
      go_ret
      exact ⟨rfl, hN2⟩
    | true =>
      cases a3 with
      | false =>
        obtain rfl : false = z := by rw [← HZ.out]; rfl
        clear HZ
        go_wp2_with (go_at_call 94; refine (HP2.out).mono ?_; rintro e W3 ⟨rfl, hN3⟩; have s1 := hN3.heap HR1.out id; have s2 := hN3.heap HR2.out id; have z2 := cell_of_row _ _ 2 _ _ _ s1; have v2 := cell_of_row _ _ 2 _ _ _ s2; simp only [List.getElem?_toArray, List.getElem?_cons_succ, List.getElem?_cons_zero] at z2 v2; obtain ⟨k3, f3⟩ := (hN3.boxed HB0.out id).both)
        go_ret
        exact ⟨rfl, hN2.trans hN3⟩
      | true =>
        obtain rfl : a4 = z := by rw [← HZ.out]; rfl
        clear HZ
        go_wp2_with (first | (go_at_call 94; refine (HP2.out).mono ?_; rintro e W3 ⟨rfl, hN3⟩; have s1 := hN3.heap HR1.out id; have s2 := hN3.heap HR2.out id; have z2 := cell_of_row _ _ 2 _ _ _ s1; have v2 := cell_of_row _ _ 2 _ _ _ s2; simp only [List.getElem?_toArray, List.getElem?_cons_succ, List.getElem?_cons_zero] at z2 v2; obtain ⟨k3, f3⟩ := (hN3.boxed HB0.out id).both) | (go_at_call 97; refine (HI.out _ (hN2.trans hN3)).mono ?_; rintro e W4 ⟨rfl, hN4⟩))
        go_ret
        exact ⟨rfl, (hN2.trans hN3).trans hN4⟩
end Go.Proofs.YtkiiameibdhdfaaGreatDoor
/- dict.Same (the program). -/
namespace Go.Proofs.YtkiiameibdhdfaaGreatDoor
open Go.RowKit Go.Shelf Go.Cs
attribute [local go_sem] Oper.semAt_some
set_option linter.unusedVariables false
set_option linter.unusedSimpArgs false
set_option maxHeartbeats 1000000 in
theorem equal_D {τ τ' : Bool} (v1 v2 : Value) (l r : List Bare.Mem) (X : Nat) (w : World) (h1 : RdD τ w v1 l) (h2 : RdD τ' w v2 r) (hb : Boxed w X 142 (.func (.func 93) #[] #[])) :
    Calls Tryz.prog 95 #[v1, v2, .func (.func 96) #[] #[.pointer (some ⟨X, 0, none⟩)]] w fun e w' => e = .returned (.bool (decide (l = r))) ∧ New w w' := by
  obtain ⟨i1, p1, q1, -, s1⟩ := h1
  obtain ⟨i2, p2, q2, -, s2⟩ := h2
  have := equalf_M 96 #[.pointer (some ⟨X, 0, none⟩)] l.length r.length (fun i j => (mcs (l.getD i noM) (i1 i) (p1 i)).getD j undef) (fun i j => (mcs (r.getD i noM) (i2 i) (p2 i)).getD j undef) (fun W => New w W) (fun W W' h k => h.trans k) (fun i => decide (l.getD i noM = r.getD i noM)) (fun hn i W hi hW => same_member (l.getD i noM) (r.getD i noM) (i1 i) (p1 i) (i2 i) (p2 i) X W ((s1 i hi).1.new hW) ((s1 i hi).2.new hW) ((s2 i (by omega)).1.new hW) ((s2 i (by omega)).2.new hW) (hW.boxed hb id)) (enters_of Tryz.func96 (by kernel_rfl) rfl) v1 v2 w q1 q2 (Mods.refl _ _) (fun i hi => by
    obtain ⟨a, c, e⟩ := (s1 i hi).1.slice
    obtain ⟨a', c', e'⟩ := (s1 i hi).2.slice
    rw [e, e']; exact mcs_one _ _ _ _ _ _ _ _) (fun i hi => by
    obtain ⟨a, c, e⟩ := (s2 i hi).1.slice
    obtain ⟨a', c', e'⟩ := (s2 i hi).2.slice
    rw [e, e']; exact mcs_one _ _ _ _ _ _ _ _)
  rw [all_same] at this
  exact this
set_option maxHeartbeats 4000000 in
set_option maxRecDepth 100000 in
theorem same_d {τ τ' : Bool} (v1 v2 : Value) (l r : List Bare.Mem) (w : World) (h1 : RdD τ w v1 l) (h2 : RdD τ' w v2 r) :
    Calls Tryz.prog 58 #[v1, v2] w fun e w' => e = .returned (.bool (decide (l = r))) ∧ New w w' := by
  have hA : New w (w.alloc (.cells #[.func (.func 93) #[] #[]] 142)) := (Mods.refl _ _).alloc _
  have HB := Boxed.new w 142 (.func (.func 93) #[] #[])
  have HE := Lib.hid (equal_D v1 v2 l r w.heap.size _ (h1.new hA) (h2.new hA) HB)
  obtain ⟨a1, c1, rfl⟩ := h1.slice
  obtain ⟨a2, c2, rfl⟩ := h2.slice
  obtain ⟨z, hz⟩ : ∃ z, decide (l = r) = z := ⟨_, rfl⟩
  rw [hz] at HE ⊢
  clear hz h1 h2
  have hst : (store ⟨w.heap.size, 0, none⟩ (.func (.func 93) #[] #[])).run Tryz.prog (w.alloc (.cells #[.nilFunc] 142)) = .ok () (w.alloc (.cells #[.func (.func 93) #[] #[]] 142)) := by
    rw [run_store _ _ _ _ _ rfl]
    have hr := World.alloc_heap_new w (.cells #[.nilFunc] 142)
    have c := cell_of_row _ _ 0 _ _ _ hr
    simp only [List.getElem?_toArray, List.getElem?_cons_zero] at c
    have f := frozen_row (i := 0) hr
    go_simp
  go_enter Tryz.func58, Tryz.ntmps58
  go_wp2_with (go_at_call 95; refine (HE.out).mono ?_; rintro e W3 ⟨rfl, hN3⟩)
  go_ret
  exact ⟨rfl, hA.trans hN3⟩
end Go.Proofs.YtkiiameibdhdfaaGreatDoor
/- The document's samep (the program). -/
namespace Go.Proofs.YtkiiameibdhdfaaGreatDoor
open Go.RowKit Go.Shelf Go.Cs
attribute [local go_sem] Oper.semAt_some
set_option linter.unusedVariables false
set_option linter.unusedSimpArgs false
noncomputable def reg_causeyref13_samep_6 : Code := ((Tryz.f122.body.bind (regionOf 6)).getD .skip)
set_option maxHeartbeats 4000000 in
set_option maxRecDepth 100000 in
theorem samep6 (t : Array Value) (hs : t.size = 26) (w : World) {b1 o1 b2 o2 k n m1 m2 : Nat} {y : Bool} {a0 a1 a2 a3 a4 d0 d1 d2 d3 d4 : Value} {x2 x3 x4 x6 x7 x8 x9 x10 : Value}
    (hq0 : t.getD 0 undef = .slice (some ⟨b1, o1, none⟩) n m1)
    (hq1 : t.getD 1 undef = .slice (some ⟨b2, o2, none⟩) n m2)
    (hq5 : t.getD 5 undef = .int .i64 k)
    (hq2 : t.getD 2 undef = x2)
    (hq3 : t.getD 3 undef = x3)
    (hq4 : t.getD 4 undef = x4)
    (hq6 : t.getD 6 undef = x6)
    (hq7 : t.getD 7 undef = x7)
    (hq8 : t.getD 8 undef = x8)
    (hq9 : t.getD 9 undef = x9)
    (hq10 : t.getD 10 undef = x10)
    (c0 : w.cell? ⟨b1, o1 + k * 5, none⟩ = some a0) (e0 : w.cell? ⟨b2, o2 + k * 5, none⟩ = some d0) (c1 : w.cell? ⟨b1, o1 + k * 5 + 1, none⟩ = some a1) (e1 : w.cell? ⟨b2, o2 + k * 5 + 1, none⟩ = some d1) (c2 : w.cell? ⟨b1, o1 + k * 5 + 2, none⟩ = some a2) (e2 : w.cell? ⟨b2, o2 + k * 5 + 2, none⟩ = some d2) (c3 : w.cell? ⟨b1, o1 + k * 5 + 3, none⟩ = some a3) (e3 : w.cell? ⟨b2, o2 + k * 5 + 3, none⟩ = some d3) (c4 : w.cell? ⟨b1, o1 + k * 5 + 4, none⟩ = some a4) (e4 : w.cell? ⟨b2, o2 + k * 5 + 4, none⟩ = some d4)
    (hk : k < n) (hq : ∀ w, (binOp .neq 73 (.agg #[a0, a1, a2, a3, a4]) (.agg #[d0, d1, d2, d3, d4])).run Tryz.prog w = .ok (.bool y) w) :
    reg_causeyref13_samep_6.wp Tryz.prog (Only fun a' W' => (a'.tmps.size = 26 ∧ a'.defers = [] ∧ a'.tmps.getD 0 undef = .slice (some ⟨b1, o1, none⟩) n m1 ∧ a'.tmps.getD 1 undef = .slice (some ⟨b2, o2, none⟩) n m2 ∧ a'.tmps.getD 5 undef = .int .i64 k ∧ a'.tmps.getD 2 undef = x2 ∧ a'.tmps.getD 3 undef = x3 ∧ a'.tmps.getD 4 undef = x4 ∧ a'.tmps.getD 6 undef = x6 ∧ a'.tmps.getD 7 undef = x7 ∧ a'.tmps.getD 8 undef = x8 ∧ a'.tmps.getD 9 undef = x9 ∧ a'.tmps.getD 10 undef = x10 ∧ a'.tmps.getD 25 undef = .bool y) ∧ New w W') ⟨t, []⟩ w := by
  conv => arg 2; whnf
  obtain ⟨u, rfl⟩ := lit26 t hs
  have hq0 : u 0 = .slice (some ⟨b1, o1, none⟩) n m1 := hq0
  have hq1 : u 1 = .slice (some ⟨b2, o2, none⟩) n m2 := hq1
  have hq5 : u 5 = .int .i64 k := hq5
  have hq2 : u 2 = x2 := hq2
  have hq3 : u 3 = x3 := hq3
  have hq4 : u 4 = x4 := hq4
  have hq6 : u 6 = x6 := hq6
  have hq7 : u 7 = x7 := hq7
  have hq8 : u 8 = x8 := hq8
  have hq9 : u 9 = x9 := hq9
  have hq10 : u 10 = x10 := hq10
  rw [hq0, hq1, hq5, hq2, hq3, hq4, hq6, hq7, hq8, hq9, hq10]
  clear hq0 hq1 hq5 hq2 hq3 hq4 hq6 hq7 hq8 hq9 hq10 hs
  have hS : New w w.drew := (Mods.refl _ _).drew
  have hid : decide ((k : Int) < (n : Int)) = true := decide_eq_true (by omega)
  refine wp_region_held (S := fun W => New w W) (by kernel_rfl) ?_
  show wpAnyH _ _ _ _ _ 9 _ _ w.drew
  refine anyH_take 0 (some 17) (.slice (some ⟨b1, o1, none⟩) n m1) rfl rfl (by kernel_rfl) (by kernel_rfl) (by kernel_rfl) (fun _ _ _ h => h.elim) (.inl ⟨by rfl, fun W hW => by go_simp⟩) hS ?_
  simp only [Act.put, List.setIfInBounds_toArray, List.set_cons_succ, List.set_cons_zero]
  refine anyH_take 1 (some 18) (.int .i64 k) rfl rfl (by kernel_rfl) (by kernel_rfl) (by kernel_rfl) (fun _ _ _ h => h.elim) (.inl ⟨by rfl, fun W hW => by go_simp⟩) hS ?_
  simp only [Act.put, List.setIfInBounds_toArray, List.set_cons_succ, List.set_cons_zero]
  refine anyH_take 2 (some 19) (.pointer (some ⟨b1, o1 + k * 5, none⟩)) rfl rfl (by kernel_rfl) (by kernel_rfl) (by kernel_rfl) (fun _ _ _ h => h.elim) (.inl ⟨by rfl, fun W hW => by go_simp⟩) hS ?_
  simp only [Act.put, List.setIfInBounds_toArray, List.set_cons_succ, List.set_cons_zero]
  refine anyH_take 3 (some 20) (.agg #[a0, a1, a2, a3, a4]) rfl rfl (by kernel_rfl) (by kernel_rfl) (by kernel_rfl) (fun _ _ _ h => h.elim) (.inl ⟨by rfl, fun W hW => by have hh : New w W := hW; have q0 := hh.cell c0 id; have q1 := hh.cell c1 id; have q2 := hh.cell c2 id; have q3 := hh.cell c3 id; have q4 := hh.cell c4 id; go_simp⟩) hS ?_
  simp only [Act.put, List.setIfInBounds_toArray, List.set_cons_succ, List.set_cons_zero]
  refine anyH_take 4 (some 21) (.slice (some ⟨b2, o2, none⟩) n m2) rfl rfl (by kernel_rfl) (by kernel_rfl) (by kernel_rfl) (fun _ _ _ h => h.elim) (.inl ⟨by rfl, fun W hW => by go_simp⟩) hS ?_
  simp only [Act.put, List.setIfInBounds_toArray, List.set_cons_succ, List.set_cons_zero]
  refine anyH_take 5 (some 22) (.int .i64 k) rfl rfl (by kernel_rfl) (by kernel_rfl) (by kernel_rfl) (fun _ _ _ h => h.elim) (.inl ⟨by rfl, fun W hW => by go_simp⟩) hS ?_
  simp only [Act.put, List.setIfInBounds_toArray, List.set_cons_succ, List.set_cons_zero]
  refine anyH_take 6 (some 23) (.pointer (some ⟨b2, o2 + k * 5, none⟩)) rfl rfl (by kernel_rfl) (by kernel_rfl) (by kernel_rfl) (fun _ _ _ h => h.elim) (.inl ⟨by rfl, fun W hW => by go_simp⟩) hS ?_
  simp only [Act.put, List.setIfInBounds_toArray, List.set_cons_succ, List.set_cons_zero]
  refine anyH_take 7 (some 24) (.agg #[d0, d1, d2, d3, d4]) rfl rfl (by kernel_rfl) (by kernel_rfl) (by kernel_rfl) (fun _ _ _ h => h.elim) (.inl ⟨by rfl, fun W hW => by have hh : New w W := hW; have q0 := hh.cell e0 id; have q1 := hh.cell e1 id; have q2 := hh.cell e2 id; have q3 := hh.cell e3 id; have q4 := hh.cell e4 id; go_simp⟩) hS ?_
  simp only [Act.put, List.setIfInBounds_toArray, List.set_cons_succ, List.set_cons_zero]
  refine anyH_take 8 (some 25) (.bool y) rfl rfl (by kernel_rfl) (by kernel_rfl) (by kernel_rfl) (fun _ _ _ h => h.elim) (.inl ⟨by rfl, fun W hW => by have hz := hq W; go_simp⟩) hS ?_
  simp only [Act.put, List.setIfInBounds_toArray, List.set_cons_succ, List.set_cons_zero]
  refine wpAnyH_done (by kernel_rfl) ?_ _
  exact ⟨⟨rfl, rfl, rfl, rfl, rfl, rfl, rfl, rfl, rfl, rfl, rfl, rfl, rfl, rfl⟩, hS⟩
set_option maxHeartbeats 4000000 in
set_option maxRecDepth 100000 in
theorem samep_r {τ τ' : Bool} (v1 v2 : Value) (l r : List Bare.Par) (w : World) (h1 : RdP τ w v1 l) (h2 : RdP τ' w v2 r) :
    Calls Tryz.prog 122 #[v1, v2] w fun e w' => e = .returned (.bool (decide (l = r))) ∧ New w w' := by
  have H1 := Lib.hid h1.1
  have H2 := Lib.hid h2.1
  obtain ⟨a1, m1, rfl⟩ := h1.slice
  obtain ⟨a2, m2, rfl⟩ := h2.slice
  have hn1 : l.length ≤ 281474976710656 := h1.1.1
  clear h1 h2
  have hN0 : New w w := Mods.refl _ _
  obtain ⟨n, hn⟩ : ∃ n, l.length = n := ⟨_, rfl⟩
  obtain ⟨n2, hn2⟩ : ∃ n, r.length = n := ⟨_, rfl⟩
  by_cases hnn : n = n2
  · subst hnn
    have hdd : decide ((n : Int) = (n : Int)) = true := decide_eq_true rfl
    have HE := Lib.hid (list_same (l := l) (r := r) noP (by omega))
    obtain ⟨y, hy⟩ : ∃ y, decide (l = r) = y := ⟨_, rfl⟩
    have HY := Lib.hid hy
    have Hn := Lib.hid hn
    rw [hy, hn, hn2]
    rw [hn] at H1 hn1
    rw [hn2] at H2
    clear hy hn hn2
    go_enter Tryz.func122, Tryz.ntmps122
    go_wp2_with fail
    go_loopw [5] (fun t wr => ∃ k : Nat, k ≤ n ∧ t = .int .i64 k ∧ Hid (∀ j, j < k → l.getD j noP = r.getD j noP) ∧ New w wr) (fun t _ => n - (intOf t).toNat)
    case atStart => exact ⟨0, Nat.zero_le _, rfl, Lib.hid fun i hi => by omega, hN0⟩
    case round =>
      clear hN0
      obtain ⟨k, hk, rfl, hbef, hN⟩ := hrel
      by_cases hlt : k < n
      · have hkd : decide ((k : Int) < (n : Int)) = true := decide_eq_true (by omega)
        obtain ⟨b1, o1, rfl, hrow⟩ := (H1.out.new hN).at.2.2 k hlt
        obtain ⟨b2, o2, rfl, hrow2⟩ := (H2.out.new hN).at.2.2 k hlt
        obtain ⟨k0, k1, k2, k3, k4⟩ := cells5 hrow
        obtain ⟨q0, q1, q2, q3, q4⟩ := cells5 hrow2
        have hq := fun w => nbinop_param (l.getD k noP) (r.getD k noP) w
        unfold pcs at hq
        cases hp : decide (l.getD k noP = r.getD k noP) with
        | true =>
          have hh : Hid (∀ j, j < k + 1 → l.getD j noP = r.getD j noP) := Lib.hid fun i hi => by
            by_cases hik : i < k
            · exact hbef.out i hik
            · obtain rfl : i = k := by omega
              exact of_decide_eq_true hp
          rw [hp] at hq
          clear hp hbef hrow hrow2
          go_upto_region 6 with fail
          refine piece (fun _ => _) (samep6 _ rfl wr rfl rfl rfl rfl rfl rfl rfl rfl rfl rfl rfl k0 q0 k1 q1 k2 q2 k3 q3 k4 q4 hlt hq) ?_
          rintro ⟨z, dfs⟩ wr2 ⟨⟨hs, hd, hq0, hq1, hq5, hq2, hq3, hq4, hq6, hq7, hq8, hq9, hq10, hq25⟩, hN2⟩
          simp only at hs hd hq0 hq1 hq5 hq2 hq3 hq4 hq6 hq7 hq8 hq9 hq10 hq25
          subst hd
          obtain ⟨u, rfl⟩ := lit26 z hs
          have hp0 : u 0 = .slice (some ⟨b1, o1, none⟩) n m1 := hq0
          have hp1 : u 1 = .slice (some ⟨b2, o2, none⟩) n m2 := hq1
          have hp5 : u 5 = .int .i64 k := hq5
          have hp2 : u 2 = undef := hq2
          have hp3 : u 3 = undef := hq3
          have hp4 : u 4 = u4 := hq4
          have hp6 : u 6 = .slice (some ⟨b1, o1, none⟩) n m1 := hq6
          have hp7 : u 7 = .int .i64 n := hq7
          have hp8 : u 8 = .slice (some ⟨b2, o2, none⟩) n m2 := hq8
          have hp9 : u 9 = .int .i64 n := hq9
          have hp10 : u 10 = .bool false := hq10
          have hp25 : u 25 = .bool (!true) := hq25
          rw [hp0, hp1, hp5, hp2, hp3, hp4, hp6, hp7, hp8, hp9, hp10, hp25]
          clear hp0 hq0 hp1 hq1 hp5 hq5 hp2 hq2 hp3 hq3 hp4 hq4 hp6 hq6 hp7 hq7 hp8 hq8 hp9 hq9 hp10 hq10 hp25 hq25 hs
          have hN := hN.trans hN2
          clear k0 k1 k2 k3 k4 q0 q1 q2 q3 q4 hN2
          go_wp2_with fail
          go_roundw
          case rel => exact ⟨k + 1, by omega, by go_num, hh, hN⟩
          case measure => simp [intOf]; omega
        | false =>
          obtain rfl : y = false := by
            rw [← HY.out]
            refine decide_eq_false fun e => ?_
            rw [e] at hp
            simp at hp
          rw [hp] at hq
          clear hp hbef hrow hrow2 HE
          go_upto_region 6 with fail
          refine piece (fun _ => _) (samep6 _ rfl wr rfl rfl rfl rfl rfl rfl rfl rfl rfl rfl rfl k0 q0 k1 q1 k2 q2 k3 q3 k4 q4 hlt hq) ?_
          rintro ⟨z, dfs⟩ wr2 ⟨⟨hs, hd, hq0, hq1, hq5, hq2, hq3, hq4, hq6, hq7, hq8, hq9, hq10, hq25⟩, hN2⟩
          simp only at hs hd hq0 hq1 hq5 hq2 hq3 hq4 hq6 hq7 hq8 hq9 hq10 hq25
          subst hd
          obtain ⟨u, rfl⟩ := lit26 z hs
          have hp0 : u 0 = .slice (some ⟨b1, o1, none⟩) n m1 := hq0
          have hp1 : u 1 = .slice (some ⟨b2, o2, none⟩) n m2 := hq1
          have hp5 : u 5 = .int .i64 k := hq5
          have hp2 : u 2 = undef := hq2
          have hp3 : u 3 = undef := hq3
          have hp4 : u 4 = u4 := hq4
          have hp6 : u 6 = .slice (some ⟨b1, o1, none⟩) n m1 := hq6
          have hp7 : u 7 = .int .i64 n := hq7
          have hp8 : u 8 = .slice (some ⟨b2, o2, none⟩) n m2 := hq8
          have hp9 : u 9 = .int .i64 n := hq9
          have hp10 : u 10 = .bool false := hq10
          have hp25 : u 25 = .bool (!false) := hq25
          rw [hp0, hp1, hp5, hp2, hp3, hp4, hp6, hp7, hp8, hp9, hp10, hp25]
          clear hp0 hq0 hp1 hq1 hp5 hq5 hp2 hq2 hp3 hq3 hp4 hq4 hp6 hq6 hp7 hq7 hp8 hq8 hp9 hq9 hp10 hq10 hp25 hq25 hs
          have hN := hN.trans hN2
          clear k0 k1 k2 k3 k4 q0 q1 q2 q3 q4 hN2
          go_wp2_with fail
          go_ret
          exact ⟨rfl, hN⟩
      · have hkd : decide ((k : Int) < (n : Int)) = false := decide_eq_false (by omega)
        obtain rfl : y = true := by
          rw [← HY.out]
          exact decide_eq_true (HE.out fun i hi => hbef.out i (by have := Hn.out; omega))
        clear HE hbef
        go_wp2_with fail
        go_ret
        exact ⟨rfl, hN⟩
  · have hdd : decide ((n : Int) = (n2 : Int)) = false := decide_eq_false (by omega)
    rw [show decide (l = r) = false from decide_eq_false fun e => hnn (by rw [← hn, ← hn2, e])]
    rw [hn, hn2]
    go_enter Tryz.func122, Tryz.ntmps122
    go_wp2_with fail
    go_ret
    exact ⟨rfl, hN0⟩
end Go.Proofs.YtkiiameibdhdfaaGreatDoor
/- The document's SameMember: the regions (the program). -/
namespace Go.Proofs.YtkiiameibdhdfaaGreatDoor
open Go.RowKit Go.Shelf Go.Cs
attribute [local go_sem] Oper.semAt_some
set_option linter.unusedVariables false
set_option linter.unusedSimpArgs false
theorem nbinop_item (p q : Bare.It) (w : World) : (binOp .neq 66 (bv p) (bv q)).run Tryz.prog w = .ok (.bool (!decide (p = q))) w := by
  have h := eq_item 9998 p q w
  simp only [binOp]
  unfold bv at h ⊢
  simp [Op.equal, Op.maxDepth, h]
theorem lit71 (t : Array Value) (h : t.size = 71) : ∃ u : Nat → Value, t = (u 0 :: u 1 :: u 2 :: u 3 :: u 4 :: u 5 :: u 6 :: u 7 :: u 8 :: u 9 :: u 10 :: u 11 :: u 12 :: u 13 :: u 14 :: u 15 :: u 16 :: u 17 :: u 18 :: u 19 :: u 20 :: u 21 :: u 22 :: u 23 :: u 24 :: u 25 :: u 26 :: u 27 :: u 28 :: u 29 :: u 30 :: u 31 :: u 32 :: u 33 :: u 34 :: u 35 :: u 36 :: u 37 :: u 38 :: u 39 :: u 40 :: u 41 :: u 42 :: u 43 :: u 44 :: u 45 :: u 46 :: u 47 :: u 48 :: u 49 :: u 50 :: u 51 :: u 52 :: u 53 :: u 54 :: u 55 :: u 56 :: u 57 :: u 58 :: u 59 :: u 60 :: u 61 :: u 62 :: u 63 :: u 64 :: u 65 :: u 66 :: u 67 :: u 68 :: u 69 :: u 70 :: ([] : List Value)).toArray := ⟨fun i => t.getD i undef, range_lit t 71 h⟩
noncomputable def reg_causeyref13_SameMember_6 : Code := ((Tryz.f73.body.bind (regionOf 6)).getD .skip)
set_option maxHeartbeats 4000000 in
set_option maxRecDepth 100000 in
theorem sm6true (t : Array Value) (hs : t.size = 71) (w : World) {B1 B2 g1 g2 h1 h2 k n ic jc pl pc ql qc : Nat} {pa qa : Option Addr} {a0 a1 d0 d1 : Int} {a2 d2 : ByteArray} {a3 d3 : Bool} {x0 x1 x4 x6 x7 x8 x9 x10 x11 x12 x13 x14 x15 x16 x17 x18 x19 x20 x21 x22 x23 x24 x25 x26 x27 x28 x29 x30 x31 x32 x33 x34 : Value}
    (hq2 : t.getD 2 undef = .pointer (some ⟨B1, 0, none⟩))
    (hq3 : t.getD 3 undef = .pointer (some ⟨B2, 0, none⟩))
    (hq5 : t.getD 5 undef = .int .i64 k)
    (hq0 : t.getD 0 undef = x0)
    (hq1 : t.getD 1 undef = x1)
    (hq4 : t.getD 4 undef = x4)
    (hq6 : t.getD 6 undef = x6)
    (hq7 : t.getD 7 undef = x7)
    (hq8 : t.getD 8 undef = x8)
    (hq9 : t.getD 9 undef = x9)
    (hq10 : t.getD 10 undef = x10)
    (hq11 : t.getD 11 undef = x11)
    (hq12 : t.getD 12 undef = x12)
    (hq13 : t.getD 13 undef = x13)
    (hq14 : t.getD 14 undef = x14)
    (hq15 : t.getD 15 undef = x15)
    (hq16 : t.getD 16 undef = x16)
    (hq17 : t.getD 17 undef = x17)
    (hq18 : t.getD 18 undef = x18)
    (hq19 : t.getD 19 undef = x19)
    (hq20 : t.getD 20 undef = x20)
    (hq21 : t.getD 21 undef = x21)
    (hq22 : t.getD 22 undef = x22)
    (hq23 : t.getD 23 undef = x23)
    (hq24 : t.getD 24 undef = x24)
    (hq25 : t.getD 25 undef = x25)
    (hq26 : t.getD 26 undef = x26)
    (hq27 : t.getD 27 undef = x27)
    (hq28 : t.getD 28 undef = x28)
    (hq29 : t.getD 29 undef = x29)
    (hq30 : t.getD 30 undef = x30)
    (hq31 : t.getD 31 undef = x31)
    (hq32 : t.getD 32 undef = x32)
    (hq33 : t.getD 33 undef = x33)
    (hq34 : t.getD 34 undef = x34)
    (cB : w.cell? ⟨B1, 2, none⟩ = some (.slice (some ⟨g1, h1, none⟩) n ic)) (eB : w.cell? ⟨B2, 2, none⟩ = some (.slice (some ⟨g2, h2, none⟩) n jc)) (c0 : w.cell? ⟨g1, h1 + k * 5, none⟩ = some (.int .u8 a0)) (e0 : w.cell? ⟨g2, h2 + k * 5, none⟩ = some (.int .u8 d0)) (c1 : w.cell? ⟨g1, h1 + k * 5 + 1, none⟩ = some (.int .i64 a1)) (e1 : w.cell? ⟨g2, h2 + k * 5 + 1, none⟩ = some (.int .i64 d1)) (c2 : w.cell? ⟨g1, h1 + k * 5 + 2, none⟩ = some (.string a2)) (e2 : w.cell? ⟨g2, h2 + k * 5 + 2, none⟩ = some (.string d2)) (c3 : w.cell? ⟨g1, h1 + k * 5 + 3, none⟩ = some (.bool a3)) (e3 : w.cell? ⟨g2, h2 + k * 5 + 3, none⟩ = some (.bool d3)) (c4 : w.cell? ⟨g1, h1 + k * 5 + 4, none⟩ = some (.slice pa pl pc)) (e4 : w.cell? ⟨g2, h2 + k * 5 + 4, none⟩ = some (.slice qa ql qc))
    (hid : decide ((k : Int) < (n : Int)) = true) (hkn : k < n) (hq : ∀ w, (binOp .neq 66 (.agg #[.int .u8 a0, .int .i64 a1, .string a2, .bool a3]) (.agg #[.int .u8 d0, .int .i64 d1, .string d2, .bool d3])).run Tryz.prog w = .ok (.bool true) w) :
    reg_causeyref13_SameMember_6.wp Tryz.prog (Only fun a' W' => (a'.tmps.size = 71 ∧ a'.defers = [] ∧ a'.tmps.getD 2 undef = .pointer (some ⟨B1, 0, none⟩) ∧ a'.tmps.getD 3 undef = .pointer (some ⟨B2, 0, none⟩) ∧ a'.tmps.getD 5 undef = .int .i64 k ∧ a'.tmps.getD 0 undef = x0 ∧ a'.tmps.getD 1 undef = x1 ∧ a'.tmps.getD 4 undef = x4 ∧ a'.tmps.getD 6 undef = x6 ∧ a'.tmps.getD 7 undef = x7 ∧ a'.tmps.getD 8 undef = x8 ∧ a'.tmps.getD 9 undef = x9 ∧ a'.tmps.getD 10 undef = x10 ∧ a'.tmps.getD 11 undef = x11 ∧ a'.tmps.getD 12 undef = x12 ∧ a'.tmps.getD 13 undef = x13 ∧ a'.tmps.getD 14 undef = x14 ∧ a'.tmps.getD 15 undef = x15 ∧ a'.tmps.getD 16 undef = x16 ∧ a'.tmps.getD 17 undef = x17 ∧ a'.tmps.getD 18 undef = x18 ∧ a'.tmps.getD 19 undef = x19 ∧ a'.tmps.getD 20 undef = x20 ∧ a'.tmps.getD 21 undef = x21 ∧ a'.tmps.getD 22 undef = x22 ∧ a'.tmps.getD 23 undef = x23 ∧ a'.tmps.getD 24 undef = x24 ∧ a'.tmps.getD 25 undef = x25 ∧ a'.tmps.getD 26 undef = x26 ∧ a'.tmps.getD 27 undef = x27 ∧ a'.tmps.getD 28 undef = x28 ∧ a'.tmps.getD 29 undef = x29 ∧ a'.tmps.getD 30 undef = x30 ∧ a'.tmps.getD 31 undef = x31 ∧ a'.tmps.getD 32 undef = x32 ∧ a'.tmps.getD 33 undef = x33 ∧ a'.tmps.getD 34 undef = x34 ∧ a'.tmps.getD 70 undef = .bool true) ∧ New w W') ⟨t, []⟩ w := by
  conv => arg 2; whnf
  obtain ⟨u, rfl⟩ := lit71 t hs
  have hq2 : u 2 = .pointer (some ⟨B1, 0, none⟩) := hq2
  have hq3 : u 3 = .pointer (some ⟨B2, 0, none⟩) := hq3
  have hq5 : u 5 = .int .i64 k := hq5
  have hq0 : u 0 = x0 := hq0
  have hq1 : u 1 = x1 := hq1
  have hq4 : u 4 = x4 := hq4
  have hq6 : u 6 = x6 := hq6
  have hq7 : u 7 = x7 := hq7
  have hq8 : u 8 = x8 := hq8
  have hq9 : u 9 = x9 := hq9
  have hq10 : u 10 = x10 := hq10
  have hq11 : u 11 = x11 := hq11
  have hq12 : u 12 = x12 := hq12
  have hq13 : u 13 = x13 := hq13
  have hq14 : u 14 = x14 := hq14
  have hq15 : u 15 = x15 := hq15
  have hq16 : u 16 = x16 := hq16
  have hq17 : u 17 = x17 := hq17
  have hq18 : u 18 = x18 := hq18
  have hq19 : u 19 = x19 := hq19
  have hq20 : u 20 = x20 := hq20
  have hq21 : u 21 = x21 := hq21
  have hq22 : u 22 = x22 := hq22
  have hq23 : u 23 = x23 := hq23
  have hq24 : u 24 = x24 := hq24
  have hq25 : u 25 = x25 := hq25
  have hq26 : u 26 = x26 := hq26
  have hq27 : u 27 = x27 := hq27
  have hq28 : u 28 = x28 := hq28
  have hq29 : u 29 = x29 := hq29
  have hq30 : u 30 = x30 := hq30
  have hq31 : u 31 = x31 := hq31
  have hq32 : u 32 = x32 := hq32
  have hq33 : u 33 = x33 := hq33
  have hq34 : u 34 = x34 := hq34
  rw [hq2, hq3, hq5, hq0, hq1, hq4, hq6, hq7, hq8, hq9, hq10, hq11, hq12, hq13, hq14, hq15, hq16, hq17, hq18, hq19, hq20, hq21, hq22, hq23, hq24, hq25, hq26, hq27, hq28, hq29, hq30, hq31, hq32, hq33, hq34]
  clear hq2 hq3 hq5 hq0 hq1 hq4 hq6 hq7 hq8 hq9 hq10 hq11 hq12 hq13 hq14 hq15 hq16 hq17 hq18 hq19 hq20 hq21 hq22 hq23 hq24 hq25 hq26 hq27 hq28 hq29 hq30 hq31 hq32 hq33 hq34 hs
  refine wp_region_held (S := fun W => New w W) (by kernel_rfl) ?_
  show wpAnyH _ _ _ _ _ 29 _ _ w.drew
  have hN : New w w.drew := (Mods.refl _ _).drew
  have hS : New w w.drew := (Mods.refl _ _).drew
  refine anyH_take 0 (some 42) (.pointer (some ⟨B1, 2, none⟩)) rfl rfl (by kernel_rfl) (by kernel_rfl) (by kernel_rfl) (fun _ _ _ h => h.elim) (.inl ⟨by rfl, fun W hW => by go_simp⟩) hS ?_
  simp only [Act.put, List.setIfInBounds_toArray, List.set_cons_succ, List.set_cons_zero]
  refine anyH_take 1 (some 43) (.slice (some ⟨g1, h1, none⟩) n ic) rfl rfl (by kernel_rfl) (by kernel_rfl) (by kernel_rfl) (fun _ _ _ h => h.elim) (.inl ⟨by rfl, fun W hW => by have hh : New w W := hW; have q := hh.cell cB id; go_simp⟩) hS ?_
  simp only [Act.put, List.setIfInBounds_toArray, List.set_cons_succ, List.set_cons_zero]
  refine anyH_take 2 (some 44) (.int .i64 k) rfl rfl (by kernel_rfl) (by kernel_rfl) (by kernel_rfl) (fun _ _ _ h => h.elim) (.inl ⟨by rfl, fun W hW => by go_simp⟩) hS ?_
  simp only [Act.put, List.setIfInBounds_toArray, List.set_cons_succ, List.set_cons_zero]
  refine anyH_take 3 (some 45) (.pointer (some ⟨g1, h1 + k * 5, none⟩)) rfl rfl (by kernel_rfl) (by kernel_rfl) (by kernel_rfl) (fun _ _ _ h => h.elim) (.inl ⟨by rfl, fun W hW => by go_simp⟩) hS ?_
  simp only [Act.put, List.setIfInBounds_toArray, List.set_cons_succ, List.set_cons_zero]
  refine anyH_take 4 (some 46) (.pointer (some ⟨g1, h1 + k * 5, none⟩)) rfl rfl (by kernel_rfl) (by kernel_rfl) (by kernel_rfl) (fun _ _ _ h => h.elim) (.inl ⟨by rfl, fun W hW => by go_simp⟩) hS ?_
  simp only [Act.put, List.setIfInBounds_toArray, List.set_cons_succ, List.set_cons_zero]
  refine anyH_take 5 (some 47) (.agg #[.int .u8 a0, .int .i64 a1, .string a2, .bool a3]) rfl rfl (by kernel_rfl) (by kernel_rfl) (by kernel_rfl) (fun _ _ _ h => h.elim) (.inl ⟨by rfl, fun W hW => by have hh : New w W := hW; have q0 := hh.cell c0 id; have q1 := hh.cell c1 id; have q2 := hh.cell c2 id; have q3 := hh.cell c3 id; go_simp⟩) hS ?_
  simp only [Act.put, List.setIfInBounds_toArray, List.set_cons_succ, List.set_cons_zero]
  refine anyH_take 6 (some 48) (.pointer (some ⟨B2, 2, none⟩)) rfl rfl (by kernel_rfl) (by kernel_rfl) (by kernel_rfl) (fun _ _ _ h => h.elim) (.inl ⟨by rfl, fun W hW => by go_simp⟩) hS ?_
  simp only [Act.put, List.setIfInBounds_toArray, List.set_cons_succ, List.set_cons_zero]
  refine anyH_take 7 (some 49) (.slice (some ⟨g2, h2, none⟩) n jc) rfl rfl (by kernel_rfl) (by kernel_rfl) (by kernel_rfl) (fun _ _ _ h => h.elim) (.inl ⟨by rfl, fun W hW => by have hh : New w W := hW; have q := hh.cell eB id; go_simp⟩) hS ?_
  simp only [Act.put, List.setIfInBounds_toArray, List.set_cons_succ, List.set_cons_zero]
  refine anyH_take 8 (some 50) (.int .i64 k) rfl rfl (by kernel_rfl) (by kernel_rfl) (by kernel_rfl) (fun _ _ _ h => h.elim) (.inl ⟨by rfl, fun W hW => by go_simp⟩) hS ?_
  simp only [Act.put, List.setIfInBounds_toArray, List.set_cons_succ, List.set_cons_zero]
  refine anyH_take 9 (some 51) (.pointer (some ⟨g2, h2 + k * 5, none⟩)) rfl rfl (by kernel_rfl) (by kernel_rfl) (by kernel_rfl) (fun _ _ _ h => h.elim) (.inl ⟨by rfl, fun W hW => by go_simp⟩) hS ?_
  simp only [Act.put, List.setIfInBounds_toArray, List.set_cons_succ, List.set_cons_zero]
  refine anyH_take 10 (some 52) (.pointer (some ⟨g2, h2 + k * 5, none⟩)) rfl rfl (by kernel_rfl) (by kernel_rfl) (by kernel_rfl) (fun _ _ _ h => h.elim) (.inl ⟨by rfl, fun W hW => by go_simp⟩) hS ?_
  simp only [Act.put, List.setIfInBounds_toArray, List.set_cons_succ, List.set_cons_zero]
  refine anyH_take 11 (some 53) (.agg #[.int .u8 d0, .int .i64 d1, .string d2, .bool d3]) rfl rfl (by kernel_rfl) (by kernel_rfl) (by kernel_rfl) (fun _ _ _ h => h.elim) (.inl ⟨by rfl, fun W hW => by have hh : New w W := hW; have q0 := hh.cell e0 id; have q1 := hh.cell e1 id; have q2 := hh.cell e2 id; have q3 := hh.cell e3 id; go_simp⟩) hS ?_
  simp only [Act.put, List.setIfInBounds_toArray, List.set_cons_succ, List.set_cons_zero]
  refine anyH_take 12 (some 54) (.bool true) rfl rfl (by kernel_rfl) (by kernel_rfl) (by kernel_rfl) (fun _ _ _ h => h.elim) (.inl ⟨by rfl, fun W hW => by have hz := hq W; go_simp⟩) hS ?_
  simp only [Act.put, List.setIfInBounds_toArray, List.set_cons_succ, List.set_cons_zero]
  refine anyH_take 13 (some 55) (.bool true) rfl rfl (by kernel_rfl) (by kernel_rfl) (by kernel_rfl) (fun _ _ _ h => h.elim) (.inl ⟨by rfl, fun W hW => by go_simp⟩) hS ?_
  simp only [Act.put, List.setIfInBounds_toArray, List.set_cons_succ, List.set_cons_zero]
  refine anyH_take 14 (some 56) undef rfl rfl (by kernel_rfl) (by kernel_rfl) (by kernel_rfl) (fun _ _ _ h => h.elim) (.inr ⟨by rfl, rfl⟩) hS ?_
  simp only [Act.put, List.setIfInBounds_toArray, List.set_cons_succ, List.set_cons_zero]
  refine anyH_take 15 (some 57) undef rfl rfl (by kernel_rfl) (by kernel_rfl) (by kernel_rfl) (fun _ _ _ h => h.elim) (.inr ⟨by rfl, rfl⟩) hS ?_
  simp only [Act.put, List.setIfInBounds_toArray, List.set_cons_succ, List.set_cons_zero]
  refine anyH_take 16 (some 58) undef rfl rfl (by kernel_rfl) (by kernel_rfl) (by kernel_rfl) (fun _ _ _ h => h.elim) (.inr ⟨by rfl, rfl⟩) hS ?_
  simp only [Act.put, List.setIfInBounds_toArray, List.set_cons_succ, List.set_cons_zero]
  refine anyH_take 17 (some 59) undef rfl rfl (by kernel_rfl) (by kernel_rfl) (by kernel_rfl) (fun _ _ _ h => h.elim) (.inr ⟨by rfl, rfl⟩) hS ?_
  simp only [Act.put, List.setIfInBounds_toArray, List.set_cons_succ, List.set_cons_zero]
  refine anyH_take 18 (some 60) undef rfl rfl (by kernel_rfl) (by kernel_rfl) (by kernel_rfl) (fun _ _ _ h => h.elim) (.inr ⟨by rfl, rfl⟩) hS ?_
  simp only [Act.put, List.setIfInBounds_toArray, List.set_cons_succ, List.set_cons_zero]
  refine anyH_take 19 (some 61) undef rfl rfl (by kernel_rfl) (by kernel_rfl) (by kernel_rfl) (fun _ _ _ h => h.elim) (.inr ⟨by rfl, rfl⟩) hS ?_
  simp only [Act.put, List.setIfInBounds_toArray, List.set_cons_succ, List.set_cons_zero]
  refine anyH_take 20 (some 62) undef rfl rfl (by kernel_rfl) (by kernel_rfl) (by kernel_rfl) (fun _ _ _ h => h.elim) (.inr ⟨by rfl, rfl⟩) hS ?_
  simp only [Act.put, List.setIfInBounds_toArray, List.set_cons_succ, List.set_cons_zero]
  refine anyH_take 21 (some 63) undef rfl rfl (by kernel_rfl) (by kernel_rfl) (by kernel_rfl) (fun _ _ _ h => h.elim) (.inr ⟨by rfl, rfl⟩) hS ?_
  simp only [Act.put, List.setIfInBounds_toArray, List.set_cons_succ, List.set_cons_zero]
  refine anyH_take 22 (some 64) undef rfl rfl (by kernel_rfl) (by kernel_rfl) (by kernel_rfl) (fun _ _ _ h => h.elim) (.inr ⟨by rfl, rfl⟩) hS ?_
  simp only [Act.put, List.setIfInBounds_toArray, List.set_cons_succ, List.set_cons_zero]
  refine anyH_take 23 (some 65) undef rfl rfl (by kernel_rfl) (by kernel_rfl) (by kernel_rfl) (fun _ _ _ h => h.elim) (.inr ⟨by rfl, rfl⟩) hS ?_
  simp only [Act.put, List.setIfInBounds_toArray, List.set_cons_succ, List.set_cons_zero]
  refine anyH_take 24 (some 66) undef rfl rfl (by kernel_rfl) (by kernel_rfl) (by kernel_rfl) (fun _ _ _ h => h.elim) (.inr ⟨by rfl, rfl⟩) hS ?_
  simp only [Act.put, List.setIfInBounds_toArray, List.set_cons_succ, List.set_cons_zero]
  refine anyH_take 25 (some 67) undef rfl rfl (by kernel_rfl) (by kernel_rfl) (by kernel_rfl) (fun _ _ _ h => h.elim) (.inr ⟨by rfl, rfl⟩) hS ?_
  simp only [Act.put, List.setIfInBounds_toArray, List.set_cons_succ, List.set_cons_zero]
  refine anyH_take 26 (some 68) undef rfl rfl (by kernel_rfl) (by kernel_rfl) (by kernel_rfl) (fun _ _ _ h => h.elim) (.inr ⟨by rfl, rfl⟩) hS ?_
  simp only [Act.put, List.setIfInBounds_toArray, List.set_cons_succ, List.set_cons_zero]
  refine anyH_take 27 (some 69) undef rfl rfl (by kernel_rfl) (by kernel_rfl) (by kernel_rfl) (fun _ _ _ h => h.elim) (.inr ⟨by rfl, rfl⟩) hS ?_
  simp only [Act.put, List.setIfInBounds_toArray, List.set_cons_succ, List.set_cons_zero]
  refine anyH_take 28 (some 70) (.bool true) rfl rfl (by kernel_rfl) (by kernel_rfl) (by kernel_rfl) (fun _ _ _ h => h.elim) (.inl ⟨by rfl, fun W hW => by go_simp⟩) hS ?_
  simp only [Act.put, List.setIfInBounds_toArray, List.set_cons_succ, List.set_cons_zero]
  refine wpAnyH_done (by kernel_rfl) ?_ _
  exact ⟨⟨rfl, rfl, rfl, rfl, rfl, rfl, rfl, rfl, rfl, rfl, rfl, rfl, rfl, rfl, rfl, rfl, rfl, rfl, rfl, rfl, rfl, rfl, rfl, rfl, rfl, rfl, rfl, rfl, rfl, rfl, rfl, rfl, rfl, rfl, rfl, rfl, rfl, rfl⟩, hN⟩
set_option maxHeartbeats 4000000 in
set_option maxRecDepth 100000 in
theorem sm6false (t : Array Value) (hs : t.size = 71) (w : World) {B1 B2 g1 g2 h1 h2 k n ic jc pl pc ql qc : Nat} {pa qa : Option Addr} {a0 a1 d0 d1 : Int} {a2 d2 : ByteArray} {a3 d3 : Bool} {r : Bool} {x0 x1 x4 x6 x7 x8 x9 x10 x11 x12 x13 x14 x15 x16 x17 x18 x19 x20 x21 x22 x23 x24 x25 x26 x27 x28 x29 x30 x31 x32 x33 x34 : Value}
    (hq2 : t.getD 2 undef = .pointer (some ⟨B1, 0, none⟩))
    (hq3 : t.getD 3 undef = .pointer (some ⟨B2, 0, none⟩))
    (hq5 : t.getD 5 undef = .int .i64 k)
    (hq0 : t.getD 0 undef = x0)
    (hq1 : t.getD 1 undef = x1)
    (hq4 : t.getD 4 undef = x4)
    (hq6 : t.getD 6 undef = x6)
    (hq7 : t.getD 7 undef = x7)
    (hq8 : t.getD 8 undef = x8)
    (hq9 : t.getD 9 undef = x9)
    (hq10 : t.getD 10 undef = x10)
    (hq11 : t.getD 11 undef = x11)
    (hq12 : t.getD 12 undef = x12)
    (hq13 : t.getD 13 undef = x13)
    (hq14 : t.getD 14 undef = x14)
    (hq15 : t.getD 15 undef = x15)
    (hq16 : t.getD 16 undef = x16)
    (hq17 : t.getD 17 undef = x17)
    (hq18 : t.getD 18 undef = x18)
    (hq19 : t.getD 19 undef = x19)
    (hq20 : t.getD 20 undef = x20)
    (hq21 : t.getD 21 undef = x21)
    (hq22 : t.getD 22 undef = x22)
    (hq23 : t.getD 23 undef = x23)
    (hq24 : t.getD 24 undef = x24)
    (hq25 : t.getD 25 undef = x25)
    (hq26 : t.getD 26 undef = x26)
    (hq27 : t.getD 27 undef = x27)
    (hq28 : t.getD 28 undef = x28)
    (hq29 : t.getD 29 undef = x29)
    (hq30 : t.getD 30 undef = x30)
    (hq31 : t.getD 31 undef = x31)
    (hq32 : t.getD 32 undef = x32)
    (hq33 : t.getD 33 undef = x33)
    (hq34 : t.getD 34 undef = x34)
    (cB : w.cell? ⟨B1, 2, none⟩ = some (.slice (some ⟨g1, h1, none⟩) n ic)) (eB : w.cell? ⟨B2, 2, none⟩ = some (.slice (some ⟨g2, h2, none⟩) n jc)) (c0 : w.cell? ⟨g1, h1 + k * 5, none⟩ = some (.int .u8 a0)) (e0 : w.cell? ⟨g2, h2 + k * 5, none⟩ = some (.int .u8 d0)) (c1 : w.cell? ⟨g1, h1 + k * 5 + 1, none⟩ = some (.int .i64 a1)) (e1 : w.cell? ⟨g2, h2 + k * 5 + 1, none⟩ = some (.int .i64 d1)) (c2 : w.cell? ⟨g1, h1 + k * 5 + 2, none⟩ = some (.string a2)) (e2 : w.cell? ⟨g2, h2 + k * 5 + 2, none⟩ = some (.string d2)) (c3 : w.cell? ⟨g1, h1 + k * 5 + 3, none⟩ = some (.bool a3)) (e3 : w.cell? ⟨g2, h2 + k * 5 + 3, none⟩ = some (.bool d3)) (c4 : w.cell? ⟨g1, h1 + k * 5 + 4, none⟩ = some (.slice pa pl pc)) (e4 : w.cell? ⟨g2, h2 + k * 5 + 4, none⟩ = some (.slice qa ql qc))
    (hid : decide ((k : Int) < (n : Int)) = true) (hkn : k < n) (hq : ∀ w, (binOp .neq 66 (.agg #[.int .u8 a0, .int .i64 a1, .string a2, .bool a3]) (.agg #[.int .u8 d0, .int .i64 d1, .string d2, .bool d3])).run Tryz.prog w = .ok (.bool false) w)
    (HC : Hid (∀ W, New w W → Calls Tryz.prog 122 #[.slice pa pl pc, .slice qa ql qc] W fun e w' => e = .returned (.bool r) ∧ New W w')) :
    reg_causeyref13_SameMember_6.wp Tryz.prog (Only fun a' W' => (a'.tmps.size = 71 ∧ a'.defers = [] ∧ a'.tmps.getD 2 undef = .pointer (some ⟨B1, 0, none⟩) ∧ a'.tmps.getD 3 undef = .pointer (some ⟨B2, 0, none⟩) ∧ a'.tmps.getD 5 undef = .int .i64 k ∧ a'.tmps.getD 0 undef = x0 ∧ a'.tmps.getD 1 undef = x1 ∧ a'.tmps.getD 4 undef = x4 ∧ a'.tmps.getD 6 undef = x6 ∧ a'.tmps.getD 7 undef = x7 ∧ a'.tmps.getD 8 undef = x8 ∧ a'.tmps.getD 9 undef = x9 ∧ a'.tmps.getD 10 undef = x10 ∧ a'.tmps.getD 11 undef = x11 ∧ a'.tmps.getD 12 undef = x12 ∧ a'.tmps.getD 13 undef = x13 ∧ a'.tmps.getD 14 undef = x14 ∧ a'.tmps.getD 15 undef = x15 ∧ a'.tmps.getD 16 undef = x16 ∧ a'.tmps.getD 17 undef = x17 ∧ a'.tmps.getD 18 undef = x18 ∧ a'.tmps.getD 19 undef = x19 ∧ a'.tmps.getD 20 undef = x20 ∧ a'.tmps.getD 21 undef = x21 ∧ a'.tmps.getD 22 undef = x22 ∧ a'.tmps.getD 23 undef = x23 ∧ a'.tmps.getD 24 undef = x24 ∧ a'.tmps.getD 25 undef = x25 ∧ a'.tmps.getD 26 undef = x26 ∧ a'.tmps.getD 27 undef = x27 ∧ a'.tmps.getD 28 undef = x28 ∧ a'.tmps.getD 29 undef = x29 ∧ a'.tmps.getD 30 undef = x30 ∧ a'.tmps.getD 31 undef = x31 ∧ a'.tmps.getD 32 undef = x32 ∧ a'.tmps.getD 33 undef = x33 ∧ a'.tmps.getD 34 undef = x34 ∧ a'.tmps.getD 70 undef = .bool (!r)) ∧ New w W') ⟨t, []⟩ w := by
  conv => arg 2; whnf
  obtain ⟨u, rfl⟩ := lit71 t hs
  have hq2 : u 2 = .pointer (some ⟨B1, 0, none⟩) := hq2
  have hq3 : u 3 = .pointer (some ⟨B2, 0, none⟩) := hq3
  have hq5 : u 5 = .int .i64 k := hq5
  have hq0 : u 0 = x0 := hq0
  have hq1 : u 1 = x1 := hq1
  have hq4 : u 4 = x4 := hq4
  have hq6 : u 6 = x6 := hq6
  have hq7 : u 7 = x7 := hq7
  have hq8 : u 8 = x8 := hq8
  have hq9 : u 9 = x9 := hq9
  have hq10 : u 10 = x10 := hq10
  have hq11 : u 11 = x11 := hq11
  have hq12 : u 12 = x12 := hq12
  have hq13 : u 13 = x13 := hq13
  have hq14 : u 14 = x14 := hq14
  have hq15 : u 15 = x15 := hq15
  have hq16 : u 16 = x16 := hq16
  have hq17 : u 17 = x17 := hq17
  have hq18 : u 18 = x18 := hq18
  have hq19 : u 19 = x19 := hq19
  have hq20 : u 20 = x20 := hq20
  have hq21 : u 21 = x21 := hq21
  have hq22 : u 22 = x22 := hq22
  have hq23 : u 23 = x23 := hq23
  have hq24 : u 24 = x24 := hq24
  have hq25 : u 25 = x25 := hq25
  have hq26 : u 26 = x26 := hq26
  have hq27 : u 27 = x27 := hq27
  have hq28 : u 28 = x28 := hq28
  have hq29 : u 29 = x29 := hq29
  have hq30 : u 30 = x30 := hq30
  have hq31 : u 31 = x31 := hq31
  have hq32 : u 32 = x32 := hq32
  have hq33 : u 33 = x33 := hq33
  have hq34 : u 34 = x34 := hq34
  rw [hq2, hq3, hq5, hq0, hq1, hq4, hq6, hq7, hq8, hq9, hq10, hq11, hq12, hq13, hq14, hq15, hq16, hq17, hq18, hq19, hq20, hq21, hq22, hq23, hq24, hq25, hq26, hq27, hq28, hq29, hq30, hq31, hq32, hq33, hq34]
  clear hq2 hq3 hq5 hq0 hq1 hq4 hq6 hq7 hq8 hq9 hq10 hq11 hq12 hq13 hq14 hq15 hq16 hq17 hq18 hq19 hq20 hq21 hq22 hq23 hq24 hq25 hq26 hq27 hq28 hq29 hq30 hq31 hq32 hq33 hq34 hs
  refine wp_region_held (S := fun W => New w W) (by kernel_rfl) ?_
  show wpAnyH _ _ _ _ _ 29 _ _ w.drew
  have hN : New w w.drew := (Mods.refl _ _).drew
  have hS : New w w.drew := (Mods.refl _ _).drew
  refine anyH_take 0 (some 42) (.pointer (some ⟨B1, 2, none⟩)) rfl rfl (by kernel_rfl) (by kernel_rfl) (by kernel_rfl) (fun _ _ _ h => h.elim) (.inl ⟨by rfl, fun W hW => by go_simp⟩) hS ?_
  simp only [Act.put, List.setIfInBounds_toArray, List.set_cons_succ, List.set_cons_zero]
  refine anyH_take 1 (some 43) (.slice (some ⟨g1, h1, none⟩) n ic) rfl rfl (by kernel_rfl) (by kernel_rfl) (by kernel_rfl) (fun _ _ _ h => h.elim) (.inl ⟨by rfl, fun W hW => by have hh : New w W := hW; have q := hh.cell cB id; go_simp⟩) hS ?_
  simp only [Act.put, List.setIfInBounds_toArray, List.set_cons_succ, List.set_cons_zero]
  refine anyH_take 2 (some 44) (.int .i64 k) rfl rfl (by kernel_rfl) (by kernel_rfl) (by kernel_rfl) (fun _ _ _ h => h.elim) (.inl ⟨by rfl, fun W hW => by go_simp⟩) hS ?_
  simp only [Act.put, List.setIfInBounds_toArray, List.set_cons_succ, List.set_cons_zero]
  refine anyH_take 3 (some 45) (.pointer (some ⟨g1, h1 + k * 5, none⟩)) rfl rfl (by kernel_rfl) (by kernel_rfl) (by kernel_rfl) (fun _ _ _ h => h.elim) (.inl ⟨by rfl, fun W hW => by go_simp⟩) hS ?_
  simp only [Act.put, List.setIfInBounds_toArray, List.set_cons_succ, List.set_cons_zero]
  refine anyH_take 4 (some 46) (.pointer (some ⟨g1, h1 + k * 5, none⟩)) rfl rfl (by kernel_rfl) (by kernel_rfl) (by kernel_rfl) (fun _ _ _ h => h.elim) (.inl ⟨by rfl, fun W hW => by go_simp⟩) hS ?_
  simp only [Act.put, List.setIfInBounds_toArray, List.set_cons_succ, List.set_cons_zero]
  refine anyH_take 5 (some 47) (.agg #[.int .u8 a0, .int .i64 a1, .string a2, .bool a3]) rfl rfl (by kernel_rfl) (by kernel_rfl) (by kernel_rfl) (fun _ _ _ h => h.elim) (.inl ⟨by rfl, fun W hW => by have hh : New w W := hW; have q0 := hh.cell c0 id; have q1 := hh.cell c1 id; have q2 := hh.cell c2 id; have q3 := hh.cell c3 id; go_simp⟩) hS ?_
  simp only [Act.put, List.setIfInBounds_toArray, List.set_cons_succ, List.set_cons_zero]
  refine anyH_take 6 (some 48) (.pointer (some ⟨B2, 2, none⟩)) rfl rfl (by kernel_rfl) (by kernel_rfl) (by kernel_rfl) (fun _ _ _ h => h.elim) (.inl ⟨by rfl, fun W hW => by go_simp⟩) hS ?_
  simp only [Act.put, List.setIfInBounds_toArray, List.set_cons_succ, List.set_cons_zero]
  refine anyH_take 7 (some 49) (.slice (some ⟨g2, h2, none⟩) n jc) rfl rfl (by kernel_rfl) (by kernel_rfl) (by kernel_rfl) (fun _ _ _ h => h.elim) (.inl ⟨by rfl, fun W hW => by have hh : New w W := hW; have q := hh.cell eB id; go_simp⟩) hS ?_
  simp only [Act.put, List.setIfInBounds_toArray, List.set_cons_succ, List.set_cons_zero]
  refine anyH_take 8 (some 50) (.int .i64 k) rfl rfl (by kernel_rfl) (by kernel_rfl) (by kernel_rfl) (fun _ _ _ h => h.elim) (.inl ⟨by rfl, fun W hW => by go_simp⟩) hS ?_
  simp only [Act.put, List.setIfInBounds_toArray, List.set_cons_succ, List.set_cons_zero]
  refine anyH_take 9 (some 51) (.pointer (some ⟨g2, h2 + k * 5, none⟩)) rfl rfl (by kernel_rfl) (by kernel_rfl) (by kernel_rfl) (fun _ _ _ h => h.elim) (.inl ⟨by rfl, fun W hW => by go_simp⟩) hS ?_
  simp only [Act.put, List.setIfInBounds_toArray, List.set_cons_succ, List.set_cons_zero]
  refine anyH_take 10 (some 52) (.pointer (some ⟨g2, h2 + k * 5, none⟩)) rfl rfl (by kernel_rfl) (by kernel_rfl) (by kernel_rfl) (fun _ _ _ h => h.elim) (.inl ⟨by rfl, fun W hW => by go_simp⟩) hS ?_
  simp only [Act.put, List.setIfInBounds_toArray, List.set_cons_succ, List.set_cons_zero]
  refine anyH_take 11 (some 53) (.agg #[.int .u8 d0, .int .i64 d1, .string d2, .bool d3]) rfl rfl (by kernel_rfl) (by kernel_rfl) (by kernel_rfl) (fun _ _ _ h => h.elim) (.inl ⟨by rfl, fun W hW => by have hh : New w W := hW; have q0 := hh.cell e0 id; have q1 := hh.cell e1 id; have q2 := hh.cell e2 id; have q3 := hh.cell e3 id; go_simp⟩) hS ?_
  simp only [Act.put, List.setIfInBounds_toArray, List.set_cons_succ, List.set_cons_zero]
  refine anyH_take 12 (some 54) (.bool false) rfl rfl (by kernel_rfl) (by kernel_rfl) (by kernel_rfl) (fun _ _ _ h => h.elim) (.inl ⟨by rfl, fun W hW => by have hz := hq W; go_simp⟩) hS ?_
  simp only [Act.put, List.setIfInBounds_toArray, List.set_cons_succ, List.set_cons_zero]
  refine anyH_take 13 (some 55) (.bool false) rfl rfl (by kernel_rfl) (by kernel_rfl) (by kernel_rfl) (fun _ _ _ h => h.elim) (.inl ⟨by rfl, fun W hW => by go_simp⟩) hS ?_
  simp only [Act.put, List.setIfInBounds_toArray, List.set_cons_succ, List.set_cons_zero]
  refine anyH_take 14 (some 56) (.pointer (some ⟨B1, 2, none⟩)) rfl rfl (by kernel_rfl) (by kernel_rfl) (by kernel_rfl) (fun _ _ _ h => h.elim) (.inl ⟨by rfl, fun W hW => by go_simp⟩) hS ?_
  simp only [Act.put, List.setIfInBounds_toArray, List.set_cons_succ, List.set_cons_zero]
  refine anyH_take 15 (some 57) (.slice (some ⟨g1, h1, none⟩) n ic) rfl rfl (by kernel_rfl) (by kernel_rfl) (by kernel_rfl) (fun _ _ _ h => h.elim) (.inl ⟨by rfl, fun W hW => by have hh : New w W := hW; have q := hh.cell cB id; go_simp⟩) hS ?_
  simp only [Act.put, List.setIfInBounds_toArray, List.set_cons_succ, List.set_cons_zero]
  refine anyH_take 16 (some 58) (.int .i64 k) rfl rfl (by kernel_rfl) (by kernel_rfl) (by kernel_rfl) (fun _ _ _ h => h.elim) (.inl ⟨by rfl, fun W hW => by go_simp⟩) hS ?_
  simp only [Act.put, List.setIfInBounds_toArray, List.set_cons_succ, List.set_cons_zero]
  refine anyH_take 17 (some 59) (.pointer (some ⟨g1, h1 + k * 5, none⟩)) rfl rfl (by kernel_rfl) (by kernel_rfl) (by kernel_rfl) (fun _ _ _ h => h.elim) (.inl ⟨by rfl, fun W hW => by go_simp⟩) hS ?_
  simp only [Act.put, List.setIfInBounds_toArray, List.set_cons_succ, List.set_cons_zero]
  refine anyH_take 18 (some 60) (.pointer (some ⟨g1, h1 + k * 5 + 4, none⟩)) rfl rfl (by kernel_rfl) (by kernel_rfl) (by kernel_rfl) (fun _ _ _ h => h.elim) (.inl ⟨by rfl, fun W hW => by go_simp⟩) hS ?_
  simp only [Act.put, List.setIfInBounds_toArray, List.set_cons_succ, List.set_cons_zero]
  refine anyH_take 19 (some 61) (.slice pa pl pc) rfl rfl (by kernel_rfl) (by kernel_rfl) (by kernel_rfl) (fun _ _ _ h => h.elim) (.inl ⟨by rfl, fun W hW => by have hh : New w W := hW; have q := hh.cell c4 id; go_simp⟩) hS ?_
  simp only [Act.put, List.setIfInBounds_toArray, List.set_cons_succ, List.set_cons_zero]
  refine anyH_take 20 (some 62) (.pointer (some ⟨B2, 2, none⟩)) rfl rfl (by kernel_rfl) (by kernel_rfl) (by kernel_rfl) (fun _ _ _ h => h.elim) (.inl ⟨by rfl, fun W hW => by go_simp⟩) hS ?_
  simp only [Act.put, List.setIfInBounds_toArray, List.set_cons_succ, List.set_cons_zero]
  refine anyH_take 21 (some 63) (.slice (some ⟨g2, h2, none⟩) n jc) rfl rfl (by kernel_rfl) (by kernel_rfl) (by kernel_rfl) (fun _ _ _ h => h.elim) (.inl ⟨by rfl, fun W hW => by have hh : New w W := hW; have q := hh.cell eB id; go_simp⟩) hS ?_
  simp only [Act.put, List.setIfInBounds_toArray, List.set_cons_succ, List.set_cons_zero]
  refine anyH_take 22 (some 64) (.int .i64 k) rfl rfl (by kernel_rfl) (by kernel_rfl) (by kernel_rfl) (fun _ _ _ h => h.elim) (.inl ⟨by rfl, fun W hW => by go_simp⟩) hS ?_
  simp only [Act.put, List.setIfInBounds_toArray, List.set_cons_succ, List.set_cons_zero]
  refine anyH_take 23 (some 65) (.pointer (some ⟨g2, h2 + k * 5, none⟩)) rfl rfl (by kernel_rfl) (by kernel_rfl) (by kernel_rfl) (fun _ _ _ h => h.elim) (.inl ⟨by rfl, fun W hW => by go_simp⟩) hS ?_
  simp only [Act.put, List.setIfInBounds_toArray, List.set_cons_succ, List.set_cons_zero]
  refine anyH_take 24 (some 66) (.pointer (some ⟨g2, h2 + k * 5 + 4, none⟩)) rfl rfl (by kernel_rfl) (by kernel_rfl) (by kernel_rfl) (fun _ _ _ h => h.elim) (.inl ⟨by rfl, fun W hW => by go_simp⟩) hS ?_
  simp only [Act.put, List.setIfInBounds_toArray, List.set_cons_succ, List.set_cons_zero]
  refine anyH_take 25 (some 67) (.slice qa ql qc) rfl rfl (by kernel_rfl) (by kernel_rfl) (by kernel_rfl) (fun _ _ _ h => h.elim) (.inl ⟨by rfl, fun W hW => by have hh : New w W := hW; have q := hh.cell e4 id; go_simp⟩) hS ?_
  simp only [Act.put, List.setIfInBounds_toArray, List.set_cons_succ, List.set_cons_zero]
  refine wpAnyH_all (rs := [26]) (by kernel_rfl) (by simp) ?_
  simp only [List.mem_cons, List.not_mem_nil, or_false, forall_eq]
  refine opH_call (some 68) rfl (by rfl) rfl 122 #[.slice pa pl pc, .slice qa ql qc] (by go_simp) ((HC.out _ hN).mono ?_)
  rintro e w26 ⟨rfl, hk⟩
  have hS := hS.trans hk
  have hN := hN.trans hk
  clear hk
  refine ⟨_, rfl, hS, ?_⟩
  simp only [Act.put, List.setIfInBounds_toArray, List.set_cons_succ, List.set_cons_zero]
  refine anyH_take 27 (some 69) (.bool (!r)) rfl rfl (by kernel_rfl) (by kernel_rfl) (by kernel_rfl) (fun _ _ _ h => h.elim) (.inl ⟨by rfl, fun W hW => by go_simp⟩) hS ?_
  simp only [Act.put, List.setIfInBounds_toArray, List.set_cons_succ, List.set_cons_zero]
  refine anyH_take 28 (some 70) (.bool (!r)) rfl rfl (by kernel_rfl) (by kernel_rfl) (by kernel_rfl) (fun _ _ _ h => h.elim) (.inl ⟨by rfl, fun W hW => by go_simp⟩) hS ?_
  simp only [Act.put, List.setIfInBounds_toArray, List.set_cons_succ, List.set_cons_zero]
  refine wpAnyH_done (by kernel_rfl) ?_ _
  exact ⟨⟨rfl, rfl, rfl, rfl, rfl, rfl, rfl, rfl, rfl, rfl, rfl, rfl, rfl, rfl, rfl, rfl, rfl, rfl, rfl, rfl, rfl, rfl, rfl, rfl, rfl, rfl, rfl, rfl, rfl, rfl, rfl, rfl, rfl, rfl, rfl, rfl, rfl, rfl⟩, hN⟩
end Go.Proofs.YtkiiameibdhdfaaGreatDoor
