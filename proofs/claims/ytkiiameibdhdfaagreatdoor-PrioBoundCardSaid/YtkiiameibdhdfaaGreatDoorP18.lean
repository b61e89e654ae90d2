/- Texts joined. -/
import Derived.Test.YtkiiameibdhdfaaGreatDoorP17
import Derived.Test.YtkiiameibdhdfaaGreatDoorP11
import Derived.Test.YtkiiameibdhdfaaGreatDoorP06
import Derived.Test.YtkiiameibdhdfaaGreatDoorP07
import Derived.OrdersHeld
import Derived.Test.YtkiiameibdhdfaaGreatDoorP10
import Derived.Test.YtkiiameibdhdfaaGreatDoorP13
set_option linter.unusedSimpArgs false
set_option linter.unusedVariables false
/- Right (the document). -/
namespace Go.Proofs.YtkiiameibdhdfaaGreatDoor
open Go.RowKit Go.Shelf Go.Cs
attribute [local go_sem] Oper.semAt_some
set_option linter.unusedVariables false
set_option linter.unusedSimpArgs false
theorem tmod_two {s : Int} : s.tmod 2 = 0 ↔ s % 2 = 0 := by
  constructor
  · intro h
    have := Int.dvd_of_tmod_eq_zero h
    omega
  · intro h
    exact Int.tmod_eq_zero_of_dvd (by omega)
theorem okW_no1 {l : Int} {x : WP} (h : ¬ x.u ≤ 7) : okW l x = false := by unfold okW; rw [decide_eq_false h, Bool.and_false]
theorem okW_no2 {l : Int} {x : WP} (h : x.s.tmod 2 = 0) : okW l x = false := by
  have h2 := tmod_two.1 h
  unfold okW withinP oddP; rw [decide_eq_false (show ¬ (0 < x.s ∧ x.s < 2147483648 ∧ x.s % 2 = 1) by omega)]; rfl
theorem okW_no3 {l : Int} {x : WP} (h : x.s ≤ l) : okW l x = false := by unfold okW withinP; rw [decide_eq_false (show ¬ l < x.s by omega)]; simp
theorem okW_no4 {l : Int} {x : WP} (h : l + 16 < x.s) : okW l x = false := by unfold okW withinP; rw [decide_eq_false (show ¬ x.s - l ≤ 16 by omega)]; simp
theorem okW_no5 {l : Int} {x : WP} (h : 2147483647 < x.s) : okW l x = false := by
  unfold okW withinP oddP; rw [decide_eq_false (show ¬ (0 < x.s ∧ x.s < 2147483648 ∧ x.s % 2 = 1) by omega)]; rfl
theorem okW_yes {l : Int} {x : WP} (h0 : 0 ≤ l) (h1 : x.u ≤ 7) (h2 : ¬ x.s.tmod 2 = 0) (h3 : ¬ x.s ≤ l) (h4 : ¬ l + 16 < x.s) (h5 : ¬ 2147483647 < x.s) : okW l x = true := by
  have h6 := mt tmod_two.2 h2
  unfold okW withinP oddP
  rw [decide_eq_true h1, decide_eq_true (show l < x.s by omega), decide_eq_true (show x.s - l ≤ 16 by omega), decide_eq_true (show 0 < x.s ∧ x.s < 2147483648 ∧ x.s % 2 = 1 by omega)]; rfl
set_option maxHeartbeats 4000000 in
set_option maxRecDepth 100000 in
theorem right_r24 (l : Int) (v : Value) (d : List WP) (w : World) (h : RdW w v d) (hu : ∀ x ∈ d, x.u < 256) :
    Calls Tryz.prog 20 #[.agg #[.int .i64 l, v]] w fun e w' => e = .returned (.bool (rightP l d)) ∧ New w w' := by
  have H := Lib.hid h
  have HU := Lib.hid hu
  have hn1 : d.length ≤ 281474976710656 := h.1
  obtain ⟨ao, cap, rfl⟩ := h.slice
  obtain ⟨n, hn⟩ : ∃ n, d.length = n := ⟨_, rfl⟩
  have Hn := Lib.hid hn
  obtain ⟨z, hz⟩ : ∃ z, rightP l d = z := ⟨_, rfl⟩
  have HZ := Lib.hid hz
  rw [hn] at H hn1
  rw [hz, hn]
  clear h hn hz hu
  have r0 := World.alloc_heap_new w (.cells #[.int .i64 l, .slice ao n cap] 26)
  have hA : New w (w.alloc (.cells #[.int .i64 l, .slice ao n cap] 26)) := (Mods.refl _ _).alloc _
  obtain ⟨W1, hW1⟩ : ∃ W, w.alloc (.cells #[.int .i64 l, .slice ao n cap] 26) = W := ⟨_, rfl⟩
  obtain ⟨B, hB⟩ : ∃ B, w.heap.size = B := ⟨_, rfl⟩
  rw [hW1] at r0 hA
  rw [hB] at r0
  obtain ⟨⟨p0, p1⟩, -⟩ := pc_facts r0
  go_enter Tryz.func20, Tryz.ntmps20
  go_upto_region 1 with fail
  clear hW1 hB
  by_cases hl : l = 0
  · have hok : Hid (l = 0 ∨ oddP l = true) := Lib.hid (.inl hl)
    have hl0 : 0 ≤ l := by omega
    have hl1 : l < 2147483648 := by omega
    have hz0 : ((l : Int) != 0) = false := by simp [hl]
    clear hl
    by_cases hg : n ≤ 4
    · have hgd : decide ((4 : Int) < (n : Int)) = false := decide_eq_false (by omega)
      have r0' := Lib.hid r0
      clear r0
      go_upto_region 4 with fail
      go_loopw [3] (fun t wr => ∃ k : Nat, k ≤ n ∧ t = .int .i64 k ∧ Hid (∀ j, j < k → okW l (d.getD j noW) = true) ∧ Hid (∀ j, j < k → ∀ i, i < j → (d.getD i noW).s ≠ (d.getD j noW).s) ∧ New W1 wr) (fun t _ => n - (intOf t).toNat)
      case atStart => exact ⟨0, Nat.zero_le _, rfl, Lib.hid fun i hi => by omega, Lib.hid fun i hi => by omega, Mods.refl _ _⟩
      case round =>
        obtain ⟨k, hk, rfl, hbef, hdif, hN⟩ := hrel
        have r0 := hN.heap r0'.out id
        clear p0 p1
        obtain ⟨⟨p0, p1⟩, -⟩ := pc_facts r0
        by_cases hlt : k < n
        · have hkd : decide ((k : Int) < (n : Int)) = true := decide_eq_true (by omega)
          obtain ⟨b1, o1, rfl, hrow⟩ := (H.out.new (hA.trans hN)).at.2.2 k hlt
          obtain ⟨x, hx⟩ : ∃ x, d.getD k noW = x := ⟨_, rfl⟩
          have hrow : wr.rangeAt b1 (o1 + k * 3) (wcs x) := by rw [← hx]; exact hrow
          obtain ⟨q0, q1, q2⟩ := cells3w hrow
          have hxm : x ∈ d := by rw [← hx]; exact getD_mem (by have := Hn.out; omega)
          have hxu := HU.out x hxm
          clear hrow hxm
          have r1 := World.alloc_heap_new wr (.cells #[.int .i64 x.s, .int .u8 x.u, .bool x.i] 40)
          have hAx : New wr (wr.alloc (.cells #[.int .i64 x.s, .int .u8 x.u, .bool x.i] 40)) := (Mods.refl _ _).alloc _
          obtain ⟨W2, hW2⟩ : ∃ W, wr.alloc (.cells #[.int .i64 x.s, .int .u8 x.u, .bool x.i] 40) = W := ⟨_, rfl⟩
          obtain ⟨X, hX⟩ : ∃ X, wr.heap.size = X := ⟨_, rfl⟩
          go_upto_region 7 with fail
          rw [hW2] at hAx r1
          rw [hX] at r1
          replace hN := hN.trans hAx
          replace r0 := hAx.heap r0 id
          clear q0 q1 q2 p0 p1 hW2 hX hAx
          obtain ⟨⟨p0, p1⟩, -⟩ := pc_facts r0
          have q0 := cell_of_row _ _ 0 _ _ _ r1
          have q1 := cell_of_row _ _ 1 _ _ _ r1
          have q2 := cell_of_row _ _ 2 _ _ _ r1
          simp only [List.getElem?_toArray, List.getElem?_cons_zero, List.getElem?_cons_succ] at q0 q1 q2
          by_cases h1 : ¬ x.u ≤ 7
          · obtain rfl : z = false := by rw [← HZ.out]; exact right_no3 (by rw [Hn.out]; exact hlt) (by rw [hx]; exact okW_no1 h1)
            clear hbef hdif hx
            refine piece (fun _ => _) (right7_0 _ rfl W2 rfl rfl p0 p1 q0 q1 q2 hxu hl0 hl1 h1) ?_
            rintro a' w3 ⟨zf, rfl, hN3⟩
            simp only [List.setIfInBounds_toArray, List.set_cons_succ, List.set_cons_zero]
            go_wp2_with fail
            go_ret
            exact ⟨rfl, (hA.trans hN).trans hN3⟩
          by_cases h2 : x.s.tmod 2 = 0
          · obtain rfl : z = false := by rw [← HZ.out]; exact right_no3 (by rw [Hn.out]; exact hlt) (by rw [hx]; exact okW_no2 h2)
            clear hbef hdif hx
            refine piece (fun _ => _) (right7_1 _ rfl W2 rfl rfl p0 p1 q0 q1 q2 hxu hl0 hl1 (Decidable.not_not.1 h1) h2) ?_
            rintro a' w3 ⟨zf, rfl, hN3⟩
            simp only [List.setIfInBounds_toArray, List.set_cons_succ, List.set_cons_zero]
            go_wp2_with fail
            go_ret
            exact ⟨rfl, (hA.trans hN).trans hN3⟩
          by_cases h3 : x.s ≤ l
          · obtain rfl : z = false := by rw [← HZ.out]; exact right_no3 (by rw [Hn.out]; exact hlt) (by rw [hx]; exact okW_no3 h3)
            clear hbef hdif hx
            refine piece (fun _ => _) (right7_2 _ rfl W2 rfl rfl p0 p1 q0 q1 q2 hxu hl0 hl1 (Decidable.not_not.1 h1) h2 (decide_eq_true h3)) ?_
            rintro a' w3 ⟨zf, rfl, hN3⟩
            simp only [List.setIfInBounds_toArray, List.set_cons_succ, List.set_cons_zero]
            go_wp2_with fail
            go_ret
            exact ⟨rfl, (hA.trans hN).trans hN3⟩
          by_cases h4 : l + 16 < x.s
          · obtain rfl : z = false := by rw [← HZ.out]; exact right_no3 (by rw [Hn.out]; exact hlt) (by rw [hx]; exact okW_no4 h4)
            clear hbef hdif hx
            refine piece (fun _ => _) (right7_3 _ rfl W2 rfl rfl p0 p1 q0 q1 q2 hxu hl0 hl1 (Decidable.not_not.1 h1) h2 (decide_eq_false h3) (decide_eq_true h4)) ?_
            rintro a' w3 ⟨zf, rfl, hN3⟩
            simp only [List.setIfInBounds_toArray, List.set_cons_succ, List.set_cons_zero]
            go_wp2_with fail
            go_ret
            exact ⟨rfl, (hA.trans hN).trans hN3⟩
          by_cases h5 : 2147483647 < x.s
          · obtain rfl : z = false := by rw [← HZ.out]; exact right_no3 (by rw [Hn.out]; exact hlt) (by rw [hx]; exact okW_no5 h5)
            clear hbef hdif hx
            refine piece (fun _ => _) (right7_4 _ rfl W2 rfl rfl p0 p1 q0 q1 q2 hxu hl0 hl1 (Decidable.not_not.1 h1) h2 (decide_eq_false h3) (decide_eq_false h4) (decide_eq_true h5)) ?_
            rintro a' w3 ⟨zf, rfl, hN3⟩
            simp only [List.setIfInBounds_toArray, List.set_cons_succ, List.set_cons_zero]
            go_wp2_with fail
            go_ret
            exact ⟨rfl, (hA.trans hN).trans hN3⟩
          have hokx : Hid (okW l x = true) := Lib.hid (okW_yes hl0 (Decidable.not_not.1 h1) h2 h3 h4 h5)
          refine piece (fun _ => _) (right7_5 _ rfl W2 rfl rfl p0 p1 q0 q1 q2 hxu hl0 hl1 (Decidable.not_not.1 h1) h2 (decide_eq_false h3) (decide_eq_false h4) (decide_eq_false h5)) ?_
          rintro a' w3 ⟨zf, rfl, hN3⟩
          simp only [List.setIfInBounds_toArray, List.set_cons_succ, List.set_cons_zero]
          have HR1 := Lib.hid (hN3.heap r1 id)
          have HR0 := Lib.hid (hN3.heap r0 id)
          have HX := Lib.hid hx
          replace hN := hN.trans hN3
          clear h1 h2 h3 h4 h5 q0 q1 q2 p0 p1 r1 r0 hN3 hx hxu
          go_upto_region 10 with fail
          go_loopw [5] (fun t wi => ∃ i : Nat, i ≤ k ∧ t = .int .i64 i ∧ Hid (∀ j, j < i → (d.getD j noW).s ≠ x.s) ∧ New w3 wi) (fun t _ => k - (intOf t).toNat)
          case atStart => exact ⟨0, Nat.zero_le _, rfl, Lib.hid fun i hi => by omega, Mods.refl _ _⟩
          case round =>
            obtain ⟨i, hi, rfl, hnone, hNi⟩ := hrel
            have hNa := hN.trans hNi
            obtain ⟨⟨p0, p1⟩, -⟩ := pc_facts (hNi.heap HR0.out id)
            have q0 := cell_of_row _ _ 0 _ _ _ (hNi.heap HR1.out id)
            simp only [List.getElem?_toArray, List.getElem?_cons_zero, List.getElem?_cons_succ] at q0
            by_cases hil : i < k
            · have hid : decide ((i : Int) < (k : Int)) = true := decide_eq_true (by omega)
              obtain ⟨b2, o2, e2, hrow⟩ := (H.out.new (hA.trans hNa)).at.2.2 i (by omega)
              cases e2
              obtain ⟨k0, -, -⟩ := cells3w hrow
              obtain ⟨y, hy⟩ : ∃ y, d.getD i noW = y := ⟨_, rfl⟩
              rw [hy] at k0
              have HY := Lib.hid hy
              clear hrow hy
              by_cases he : y.s = x.s
              · obtain rfl : z = false := by rw [← HZ.out]; exact right_no4 (i := i) (j := k) (by rw [Hn.out]; exact hlt) hil (by rw [HY.out, HX.out]; exact he)
                have hbe : (y.s == x.s) = true := by simp [he]
                clear hbef hdif hnone he
                go_upto_region 12 with fail
                refine piece (fun _ => _) (right12_24 _ rfl _ rfl rfl rfl p1 q0 k0 (by omega) hbe) ?_
                rintro a' w5 ⟨zg, rfl, hN5⟩
                simp only [List.setIfInBounds_toArray, List.set_cons_succ, List.set_cons_zero]
                go_wp2_with fail
                go_ret
                exact ⟨rfl, (hA.trans hNa).trans hN5⟩
              · have hbe : (y.s == x.s) = false := by simp [he]
                have hh : Hid (∀ j, j < i + 1 → (d.getD j noW).s ≠ x.s) := Lib.hid fun j hj => by
                  by_cases e : j < i
                  · exact hnone.out j e
                  · obtain rfl : j = i := by omega
                    rw [HY.out]; exact he
                clear hnone he
                go_upto_region 12 with fail
                refine piece (fun _ => _) (right12_24 _ rfl _ rfl rfl rfl p1 q0 k0 (by omega) hbe) ?_
                rintro a' w5 ⟨zg, rfl, hN5⟩
                simp only [List.setIfInBounds_toArray, List.set_cons_succ, List.set_cons_zero]
                clear p0 p1 q0 k0
                go_wp2_with fail
                go_roundw
                case rel => exact ⟨i + 1, by omega, by go_num, hh, hNi.trans hN5⟩
                case measure => simp [intOf]; omega
            · have hid : decide ((i : Int) < (k : Int)) = false := decide_eq_false (by omega)
              obtain rfl : i = k := by omega
              have hb2 : Hid (∀ j, j < i + 1 → okW l (d.getD j noW) = true) := Lib.hid fun j hj => by
                by_cases e : j < i
                · exact hbef.out j e
                · obtain rfl : j = i := by omega
                  rw [HX.out]; exact hokx.out
              have hd2 : Hid (∀ j, j < i + 1 → ∀ i', i' < j → (d.getD i' noW).s ≠ (d.getD j noW).s) := Lib.hid fun j hj i' hi' => by
                by_cases e : j < i
                · exact hdif.out j e i' hi'
                · obtain rfl : j = i := by omega
                  rw [HX.out]; exact hnone.out i' hi'
              clear hbef hdif hnone hokx p0 p1 q0
              go_wp2_with fail
              go_roundw
              case rel => exact ⟨i + 1, by omega, by go_num, hb2, hd2, hNa⟩
              case measure => simp [intOf]; omega
        · obtain rfl : k = n := by omega
          have hkd : decide ((k : Int) < (k : Int)) = false := decide_eq_false (by omega)
          obtain rfl : z = true := by
            rw [← HZ.out]
            exact right_mk hok.out (by rw [Hn.out]; exact hg) (nodup_of fun j hj => hdif.out j (by have := Hn.out; omega)) (fun j hj => hbef.out j (by have := Hn.out; omega))
          clear hbef hdif
          go_wp2_with fail
          go_ret
          exact ⟨rfl, hA.trans hN⟩
    · have hgd : decide ((4 : Int) < (n : Int)) = true := decide_eq_true (by omega)
      obtain rfl : z = false := by rw [← HZ.out]; exact right_no2 (by rw [Hn.out]; exact hg)
      go_wp2_with fail
      go_ret
      exact ⟨rfl, hA⟩
  · have hz0 : ((l : Int) != 0) = true := by simp [hl]
    cases ho : oddP l with
    | false =>
      obtain rfl : z = false := by rw [← HZ.out]; exact right_no1 hl ho
      have ho := of_decide_eq_false ho
      by_cases h1 : l < 1
      · have hd1 : decide (l < 1) = true := decide_eq_true h1
        clear ho hl
        go_wp2_with fail
        go_ret
        exact ⟨rfl, hA⟩
      · have hd1 : decide (l < 1) = false := decide_eq_false h1
        by_cases h2 : 2147483647 < l
        · have hd2 : decide (2147483647 < l) = true := decide_eq_true h2
          clear ho hl
          go_wp2_with fail
          go_ret
          exact ⟨rfl, hA⟩
        · have hd2 : decide (2147483647 < l) = false := decide_eq_false h2
          have hd3 : l.tmod 2 = 0 := tmod_two.2 (by omega)
          clear ho hl
          go_wp2_with fail
          go_ret
          exact ⟨rfl, hA⟩
    | true =>
      have hok : Hid (l = 0 ∨ oddP l = true) := Lib.hid (.inr ho)
      have ho := odd_facts ho
      have hl0 : 0 ≤ l := by omega
      have hl1 : l < 2147483648 := by omega
      have hd1 : decide (l < 1) = false := decide_eq_false (by omega)
      have hd2 : decide (2147483647 < l) = false := decide_eq_false (by omega)
      have hd3 : l % 2 = 1 := ho.2.2
      clear ho hl
      by_cases hg : n ≤ 4
      · have hgd : decide ((4 : Int) < (n : Int)) = false := decide_eq_false (by omega)
        have r0' := Lib.hid r0
        clear r0
        go_upto_region 4 with fail
        go_loopw [3] (fun t wr => ∃ k : Nat, k ≤ n ∧ t = .int .i64 k ∧ Hid (∀ j, j < k → okW l (d.getD j noW) = true) ∧ Hid (∀ j, j < k → ∀ i, i < j → (d.getD i noW).s ≠ (d.getD j noW).s) ∧ New W1 wr) (fun t _ => n - (intOf t).toNat)
        case atStart => exact ⟨0, Nat.zero_le _, rfl, Lib.hid fun i hi => by omega, Lib.hid fun i hi => by omega, Mods.refl _ _⟩
        case round =>
          obtain ⟨k, hk, rfl, hbef, hdif, hN⟩ := hrel
          have r0 := hN.heap r0'.out id
          clear p0 p1
          obtain ⟨⟨p0, p1⟩, -⟩ := pc_facts r0
          by_cases hlt : k < n
          · have hkd : decide ((k : Int) < (n : Int)) = true := decide_eq_true (by omega)
            obtain ⟨b1, o1, rfl, hrow⟩ := (H.out.new (hA.trans hN)).at.2.2 k hlt
            obtain ⟨x, hx⟩ : ∃ x, d.getD k noW = x := ⟨_, rfl⟩
            have hrow : wr.rangeAt b1 (o1 + k * 3) (wcs x) := by rw [← hx]; exact hrow
            obtain ⟨q0, q1, q2⟩ := cells3w hrow
            have hxm : x ∈ d := by rw [← hx]; exact getD_mem (by have := Hn.out; omega)
            have hxu := HU.out x hxm
            clear hrow hxm
            have r1 := World.alloc_heap_new wr (.cells #[.int .i64 x.s, .int .u8 x.u, .bool x.i] 40)
            have hAx : New wr (wr.alloc (.cells #[.int .i64 x.s, .int .u8 x.u, .bool x.i] 40)) := (Mods.refl _ _).alloc _
            obtain ⟨W2, hW2⟩ : ∃ W, wr.alloc (.cells #[.int .i64 x.s, .int .u8 x.u, .bool x.i] 40) = W := ⟨_, rfl⟩
            obtain ⟨X, hX⟩ : ∃ X, wr.heap.size = X := ⟨_, rfl⟩
            go_upto_region 7 with fail
            rw [hW2] at hAx r1
            rw [hX] at r1
            replace hN := hN.trans hAx
            replace r0 := hAx.heap r0 id
            clear q0 q1 q2 p0 p1 hW2 hX hAx
            obtain ⟨⟨p0, p1⟩, -⟩ := pc_facts r0
            have q0 := cell_of_row _ _ 0 _ _ _ r1
            have q1 := cell_of_row _ _ 1 _ _ _ r1
            have q2 := cell_of_row _ _ 2 _ _ _ r1
            simp only [List.getElem?_toArray, List.getElem?_cons_zero, List.getElem?_cons_succ] at q0 q1 q2
            by_cases h1 : ¬ x.u ≤ 7
            · obtain rfl : z = false := by rw [← HZ.out]; exact right_no3 (by rw [Hn.out]; exact hlt) (by rw [hx]; exact okW_no1 h1)
              clear hbef hdif hx
              refine piece (fun _ => _) (right7_0 _ rfl W2 rfl rfl p0 p1 q0 q1 q2 hxu hl0 hl1 h1) ?_
              rintro a' w3 ⟨zf, rfl, hN3⟩
              simp only [List.setIfInBounds_toArray, List.set_cons_succ, List.set_cons_zero]
              go_wp2_with fail
              go_ret
              exact ⟨rfl, (hA.trans hN).trans hN3⟩
            by_cases h2 : x.s.tmod 2 = 0
            · obtain rfl : z = false := by rw [← HZ.out]; exact right_no3 (by rw [Hn.out]; exact hlt) (by rw [hx]; exact okW_no2 h2)
              clear hbef hdif hx
              refine piece (fun _ => _) (right7_1 _ rfl W2 rfl rfl p0 p1 q0 q1 q2 hxu hl0 hl1 (Decidable.not_not.1 h1) h2) ?_
              rintro a' w3 ⟨zf, rfl, hN3⟩
              simp only [List.setIfInBounds_toArray, List.set_cons_succ, List.set_cons_zero]
              go_wp2_with fail
              go_ret
              exact ⟨rfl, (hA.trans hN).trans hN3⟩
            by_cases h3 : x.s ≤ l
            · obtain rfl : z = false := by rw [← HZ.out]; exact right_no3 (by rw [Hn.out]; exact hlt) (by rw [hx]; exact okW_no3 h3)
              clear hbef hdif hx
              refine piece (fun _ => _) (right7_2 _ rfl W2 rfl rfl p0 p1 q0 q1 q2 hxu hl0 hl1 (Decidable.not_not.1 h1) h2 (decide_eq_true h3)) ?_
              rintro a' w3 ⟨zf, rfl, hN3⟩
              simp only [List.setIfInBounds_toArray, List.set_cons_succ, List.set_cons_zero]
              go_wp2_with fail
              go_ret
              exact ⟨rfl, (hA.trans hN).trans hN3⟩
            by_cases h4 : l + 16 < x.s
            · obtain rfl : z = false := by rw [← HZ.out]; exact right_no3 (by rw [Hn.out]; exact hlt) (by rw [hx]; exact okW_no4 h4)
              clear hbef hdif hx
              refine piece (fun _ => _) (right7_3 _ rfl W2 rfl rfl p0 p1 q0 q1 q2 hxu hl0 hl1 (Decidable.not_not.1 h1) h2 (decide_eq_false h3) (decide_eq_true h4)) ?_
              rintro a' w3 ⟨zf, rfl, hN3⟩
              simp only [List.setIfInBounds_toArray, List.set_cons_succ, List.set_cons_zero]
              go_wp2_with fail
              go_ret
              exact ⟨rfl, (hA.trans hN).trans hN3⟩
            by_cases h5 : 2147483647 < x.s
            · obtain rfl : z = false := by rw [← HZ.out]; exact right_no3 (by rw [Hn.out]; exact hlt) (by rw [hx]; exact okW_no5 h5)
              clear hbef hdif hx
              refine piece (fun _ => _) (right7_4 _ rfl W2 rfl rfl p0 p1 q0 q1 q2 hxu hl0 hl1 (Decidable.not_not.1 h1) h2 (decide_eq_false h3) (decide_eq_false h4) (decide_eq_true h5)) ?_
              rintro a' w3 ⟨zf, rfl, hN3⟩
              simp only [List.setIfInBounds_toArray, List.set_cons_succ, List.set_cons_zero]
              go_wp2_with fail
              go_ret
              exact ⟨rfl, (hA.trans hN).trans hN3⟩
            have hokx : Hid (okW l x = true) := Lib.hid (okW_yes hl0 (Decidable.not_not.1 h1) h2 h3 h4 h5)
            refine piece (fun _ => _) (right7_5 _ rfl W2 rfl rfl p0 p1 q0 q1 q2 hxu hl0 hl1 (Decidable.not_not.1 h1) h2 (decide_eq_false h3) (decide_eq_false h4) (decide_eq_false h5)) ?_
            rintro a' w3 ⟨zf, rfl, hN3⟩
            simp only [List.setIfInBounds_toArray, List.set_cons_succ, List.set_cons_zero]
            have HR1 := Lib.hid (hN3.heap r1 id)
            have HR0 := Lib.hid (hN3.heap r0 id)
            have HX := Lib.hid hx
            replace hN := hN.trans hN3
            clear h1 h2 h3 h4 h5 q0 q1 q2 p0 p1 r1 r0 hN3 hx hxu
            go_upto_region 10 with fail
            go_loopw [5] (fun t wi => ∃ i : Nat, i ≤ k ∧ t = .int .i64 i ∧ Hid (∀ j, j < i → (d.getD j noW).s ≠ x.s) ∧ New w3 wi) (fun t _ => k - (intOf t).toNat)
            case atStart => exact ⟨0, Nat.zero_le _, rfl, Lib.hid fun i hi => by omega, Mods.refl _ _⟩
            case round =>
              obtain ⟨i, hi, rfl, hnone, hNi⟩ := hrel
              have hNa := hN.trans hNi
              obtain ⟨⟨p0, p1⟩, -⟩ := pc_facts (hNi.heap HR0.out id)
              have q0 := cell_of_row _ _ 0 _ _ _ (hNi.heap HR1.out id)
              simp only [List.getElem?_toArray, List.getElem?_cons_zero, List.getElem?_cons_succ] at q0
              by_cases hil : i < k
              · have hid : decide ((i : Int) < (k : Int)) = true := decide_eq_true (by omega)
                obtain ⟨b2, o2, e2, hrow⟩ := (H.out.new (hA.trans hNa)).at.2.2 i (by omega)
                cases e2
                obtain ⟨k0, -, -⟩ := cells3w hrow
                obtain ⟨y, hy⟩ : ∃ y, d.getD i noW = y := ⟨_, rfl⟩
                rw [hy] at k0
                have HY := Lib.hid hy
                clear hrow hy
                by_cases he : y.s = x.s
                · obtain rfl : z = false := by rw [← HZ.out]; exact right_no4 (i := i) (j := k) (by rw [Hn.out]; exact hlt) hil (by rw [HY.out, HX.out]; exact he)
                  have hbe : (y.s == x.s) = true := by simp [he]
                  clear hbef hdif hnone he
                  go_upto_region 12 with fail
                  refine piece (fun _ => _) (right12_24 _ rfl _ rfl rfl rfl p1 q0 k0 (by omega) hbe) ?_
                  rintro a' w5 ⟨zg, rfl, hN5⟩
                  simp only [List.setIfInBounds_toArray, List.set_cons_succ, List.set_cons_zero]
                  go_wp2_with fail
                  go_ret
                  exact ⟨rfl, (hA.trans hNa).trans hN5⟩
                · have hbe : (y.s == x.s) = false := by simp [he]
                  have hh : Hid (∀ j, j < i + 1 → (d.getD j noW).s ≠ x.s) := Lib.hid fun j hj => by
                    by_cases e : j < i
                    · exact hnone.out j e
                    · obtain rfl : j = i := by omega
                      rw [HY.out]; exact he
                  clear hnone he
                  go_upto_region 12 with fail
                  refine piece (fun _ => _) (right12_24 _ rfl _ rfl rfl rfl p1 q0 k0 (by omega) hbe) ?_
                  rintro a' w5 ⟨zg, rfl, hN5⟩
                  simp only [List.setIfInBounds_toArray, List.set_cons_succ, List.set_cons_zero]
                  clear p0 p1 q0 k0
                  go_wp2_with fail
                  go_roundw
                  case rel => exact ⟨i + 1, by omega, by go_num, hh, hNi.trans hN5⟩
                  case measure => simp [intOf]; omega
              · have hid : decide ((i : Int) < (k : Int)) = false := decide_eq_false (by omega)
                obtain rfl : i = k := by omega
                have hb2 : Hid (∀ j, j < i + 1 → okW l (d.getD j noW) = true) := Lib.hid fun j hj => by
                  by_cases e : j < i
                  · exact hbef.out j e
                  · obtain rfl : j = i := by omega
                    rw [HX.out]; exact hokx.out
                have hd2 : Hid (∀ j, j < i + 1 → ∀ i', i' < j → (d.getD i' noW).s ≠ (d.getD j noW).s) := Lib.hid fun j hj i' hi' => by
                  by_cases e : j < i
                  · exact hdif.out j e i' hi'
                  · obtain rfl : j = i := by omega
                    rw [HX.out]; exact hnone.out i' hi'
                clear hbef hdif hnone hokx p0 p1 q0
                go_wp2_with fail
                go_roundw
                case rel => exact ⟨i + 1, by omega, by go_num, hb2, hd2, hNa⟩
                case measure => simp [intOf]; omega
          · obtain rfl : k = n := by omega
            have hkd : decide ((k : Int) < (k : Int)) = false := decide_eq_false (by omega)
            obtain rfl : z = true := by
              rw [← HZ.out]
              exact right_mk hok.out (by rw [Hn.out]; exact hg) (nodup_of fun j hj => hdif.out j (by have := Hn.out; omega)) (fun j hj => hbef.out j (by have := Hn.out; omega))
            clear hbef hdif
            go_wp2_with fail
            go_ret
            exact ⟨rfl, hA.trans hN⟩
      · have hgd : decide ((4 : Int) < (n : Int)) = true := decide_eq_true (by omega)
        obtain rfl : z = false := by rw [← HZ.out]; exact right_no2 (by rw [Hn.out]; exact hg)
        go_wp2_with fail
        go_ret
        exact ⟨rfl, hA⟩
end Go.Proofs.YtkiiameibdhdfaaGreatDoor
/- The wakes of dictionaries: plain facts; the two small functions. -/
namespace Go.Proofs.YtkiiameibdhdfaaGreatDoor
open Go.RowKit Go.Shelf Go.Cs
attribute [local go_sem] Oper.semAt_some
set_option linter.unusedVariables false
set_option linter.unusedSimpArgs false
def opsOf : Code → Array Oper
  | .region _ ops _ => ops
  | _ => #[]
end Go.Proofs.YtkiiameibdhdfaaGreatDoor
/- The wakes of what is known: the great conjunction. -/
namespace Go.Proofs.YtkiiameibdhdfaaGreatDoor
open Go.RowKit Go.Shelf Go.Cs
attribute [local go_sem] Oper.semAt_some
set_option linter.unusedVariables false
set_option linter.unusedSimpArgs false
theorem eq_flt (d : Nat) (b c : Bool) (s t u v : Int) (w : World) : (Op.equalIn (d + 2) 34 (.agg #[.bool b, .int .i64 s, .int .u32 u]) (.agg #[.bool c, .int .i64 t, .int .u32 v])).run Tryz.prog w = .ok (decide (b = c) && (decide (s = t) && decide (u = v))) w := by
  rw [show d + 2 = (d + 1) + 1 from rfl, run_equalIn_agg w (d + 1) 34 _ _ (by unfold Program.fieldsOf; rw [Tryz.underlying34]) (by kernel_rfl)]
  unfold Program.fieldsOf
  rw [Tryz.underlying34]
  have h0 := fun (k : Bool) (y z : Int) w => partAt 4 _ Tryz.underlying4 rfl #[.bool k, .int .i64 y, .int .u32 z] 0 (.bool k) w rfl
  have h1 := fun (k : Bool) (y z : Int) w => partAt 3 _ Tryz.underlying3 rfl #[.bool k, .int .i64 y, .int .u32 z] 1 (.int .i64 y) w rfl
  have h2 := fun (k : Bool) (y z : Int) w => partAt 32 _ Tryz.underlying32 rfl #[.bool k, .int .i64 y, .int .u32 z] 2 (.int .u32 z) w rfl
  have e4 := fun w (a b : Bool) => run_equalIn_bool w d 4 a b Tryz.underlying4
  have e3 := fun w (a b : Int) => run_equalIn_int w d 3 .i64 .i64 a b Tryz.underlying3
  have e5 := fun w (a b : Int) => run_equalIn_int w d 32 .u32 .u32 a b Tryz.underlying32
  have n1 : ("Whole" ≠ "_") = True := by simp
  have n2 : ("Stream" ≠ "_") = True := by simp
  have n3 : ("Code" ≠ "_") = True := by simp
  simp only [Op.eqFields, n1, n2, n3, if_true, Sem.run_bind, h0, e4, Result.andThen_ok]
  by_cases hb : b = c <;> by_cases hs : s = t <;> by_cases hu : u = v <;> simp [hb, hs, hu, Sem.run_bind, h1, h2, e3, e5]
theorem binop_flt (b c : Bool) (s t u v : Int) (w : World) : (binOp .eql 34 (.agg #[.bool b, .int .i64 s, .int .u32 u]) (.agg #[.bool c, .int .i64 t, .int .u32 v])).run Tryz.prog w = .ok (.bool (decide (b = c) && (decide (s = t) && decide (u = v)))) w := by
  have h := eq_flt 9998 b c s t u v w
  simp only [binOp]
  simp [Op.equal, Op.maxDepth, h]
def pwA : List WP := [⟨3, 1, false⟩]
def pwB : List WP := [⟨3, 2, false⟩]
theorem pwR : rightP 0 pwB = true := by decide +kernel
theorem pwR2 : rightP 2 [] = false := by decide +kernel
theorem bound_one {n u : Nat} {s : Int} {i : Bool} (h : u < n) : ∀ x ∈ [(⟨s, u, i⟩ : WP)], x.u < n := fun x hx => by rw [List.mem_singleton] at hx; subst hx; exact h
theorem lit188 (t : Array Value) (h : t.size = 188) : ∃ u : Nat → Value, t = (u 0 :: u 1 :: u 2 :: u 3 :: u 4 :: u 5 :: u 6 :: u 7 :: u 8 :: u 9 :: u 10 :: u 11 :: u 12 :: u 13 :: u 14 :: u 15 :: u 16 :: u 17 :: u 18 :: u 19 :: u 20 :: u 21 :: u 22 :: u 23 :: u 24 :: u 25 :: u 26 :: u 27 :: u 28 :: u 29 :: u 30 :: u 31 :: u 32 :: u 33 :: u 34 :: u 35 :: u 36 :: u 37 :: u 38 :: u 39 :: u 40 :: u 41 :: u 42 :: u 43 :: u 44 :: u 45 :: u 46 :: u 47 :: u 48 :: u 49 :: u 50 :: u 51 :: u 52 :: u 53 :: u 54 :: u 55 :: u 56 :: u 57 :: u 58 :: u 59 :: u 60 :: u 61 :: u 62 :: u 63 :: u 64 :: u 65 :: u 66 :: u 67 :: u 68 :: u 69 :: u 70 :: u 71 :: u 72 :: u 73 :: u 74 :: u 75 :: u 76 :: u 77 :: u 78 :: u 79 :: u 80 :: u 81 :: u 82 :: u 83 :: u 84 :: u 85 :: u 86 :: u 87 :: u 88 :: u 89 :: u 90 :: u 91 :: u 92 :: u 93 :: u 94 :: u 95 :: u 96 :: u 97 :: u 98 :: u 99 :: u 100 :: u 101 :: u 102 :: u 103 :: u 104 :: u 105 :: u 106 :: u 107 :: u 108 :: u 109 :: u 110 :: u 111 :: u 112 :: u 113 :: u 114 :: u 115 :: u 116 :: u 117 :: u 118 :: u 119 :: u 120 :: u 121 :: u 122 :: u 123 :: u 124 :: u 125 :: u 126 :: u 127 :: u 128 :: u 129 :: u 130 :: u 131 :: u 132 :: u 133 :: u 134 :: u 135 :: u 136 :: u 137 :: u 138 :: u 139 :: u 140 :: u 141 :: u 142 :: u 143 :: u 144 :: u 145 :: u 146 :: u 147 :: u 148 :: u 149 :: u 150 :: u 151 :: u 152 :: u 153 :: u 154 :: u 155 :: u 156 :: u 157 :: u 158 :: u 159 :: u 160 :: u 161 :: u 162 :: u 163 :: u 164 :: u 165 :: u 166 :: u 167 :: u 168 :: u 169 :: u 170 :: u 171 :: u 172 :: u 173 :: u 174 :: u 175 :: u 176 :: u 177 :: u 178 :: u 179 :: u 180 :: u 181 :: u 182 :: u 183 :: u 184 :: u 185 :: u 186 :: u 187 :: ([] : List Value)).toArray := ⟨fun i => t.getD i undef, range_lit t 188 h⟩
noncomputable def reg_causeylaw24_wakes_10 : Code := ((Tryz.f13.body.bind (regionOf 10)).getD .skip)
set_option maxHeartbeats 8000000 in
set_option maxRecDepth 100000 in
theorem pk13c (t : Array Value) (hs : t.size = 188) (w0 w : World) {P1 P5 P7 P16 P17 P18 P22 P25 P27 ac bc dc : Nat} {aa ba da : Option Addr} {Q : Exit → Act → World → Prop} (listed : Array Bool) (hl : listed = (true :: true :: true :: true :: true :: true :: true :: true :: true :: true :: true :: true :: true :: true :: true :: true :: true :: true :: true :: true :: true :: true :: true :: true :: true :: true :: true :: true :: true :: true :: true :: true :: true :: true :: true :: true :: true :: true :: true :: true :: true :: true :: true :: true :: true :: true :: true :: true :: true :: true :: true :: true :: true :: true :: true :: true :: true :: true :: true :: true :: true :: true :: true :: true :: true :: true :: true :: true :: false :: false :: false :: false :: false :: false :: false :: false :: false :: false :: false :: false :: false :: false :: false :: false :: false :: false :: false :: false :: false :: ([] : List Bool)).toArray)
    (hq1 : t.getD 1 undef = .pointer (some ⟨P1, 0, none⟩))
    (hq2 : t.getD 2 undef = .int .u8 1)
    (hq5 : t.getD 5 undef = .pointer (some ⟨P5, 0, none⟩))
    (hq6 : t.getD 6 undef = .int .u8 1)
    (hq7 : t.getD 7 undef = .pointer (some ⟨P7, 0, none⟩))
    (hq10 : t.getD 10 undef = .int .u8 0)
    (hq16 : t.getD 16 undef = .pointer (some ⟨P16, 0, none⟩))
    (hq17 : t.getD 17 undef = .pointer (some ⟨P17, 0, none⟩))
    (hq18 : t.getD 18 undef = .pointer (some ⟨P18, 0, none⟩))
    (hq19 : t.getD 19 undef = .bool true)
    (hq21 : t.getD 21 undef = .int .u8 2)
    (hq22 : t.getD 22 undef = .pointer (some ⟨P22, 0, none⟩))
    (hq25 : t.getD 25 undef = .pointer (some ⟨P25, 0, none⟩))
    (hq26 : t.getD 26 undef = .bool false)
    (hq27 : t.getD 27 undef = .pointer (some ⟨P27, 0, none⟩))
    (hq28 : t.getD 28 undef = .bool true)
    (hq29 : t.getD 29 undef = .bool true)
    (hq167 : t.getD 167 undef = .bool true)
    (hS : New w0 w) (a0 : w0.cell? ⟨P1, 0, none⟩ = some (.int .i64 0)) (a1 : w0.cell? ⟨P1, 1, none⟩ = some (.slice aa 1 ac)) (b0 : w0.cell? ⟨P5, 0, none⟩ = some (.int .i64 0)) (b1 : w0.cell? ⟨P5, 1, none⟩ = some (.slice ba 1 bc)) (c0 : w0.cell? ⟨P7, 0, none⟩ = some (.int .u8 2)) (d0 : w0.cell? ⟨P16, 0, none⟩ = some (.bool true)) (d1 : w0.cell? ⟨P16, 1, none⟩ = some (.int .i64 0)) (d2 : w0.cell? ⟨P16, 2, none⟩ = some (.int .u32 1)) (e0 : w0.cell? ⟨P17, 0, none⟩ = some (.int .i64 3)) (e1 : w0.cell? ⟨P17, 1, none⟩ = some (.slice da 0 dc)) (f0 : w0.cell? ⟨P18, 0, none⟩ = some (.int .u8 2)) (g1 : w0.cell? ⟨P22, 1, none⟩ = some (.bool true)) (h0 : w0.cell? ⟨P25, 0, none⟩ = some (.int .u8 3)) (i0 : w0.cell? ⟨P27, 0, none⟩ = some (.int .u8 2))
    (HA : Hid (RdW w0 (.slice aa 1 ac) pwA)) (HB : Hid (RdW w0 (.slice ba 1 bc) pwB))
    (HNP : ∀ c a w, ¬ Q (.panic c) a w) (HQ : ∀ a' W', a'.tmps.size = 188 → a'.defers = [] → a'.tmps.getD 0 undef = .bool true → New w0 W' → Q .normal a' W') :
    wpAnyH Tryz.prog .any (opsOf reg_causeylaw24_wakes_10) Q (fun W => New w0 W) 21 listed ⟨t, []⟩ w := by
  subst hl
  conv => arg 3; whnf
  obtain ⟨u, rfl⟩ := lit188 t hs
  have hq1 : u 1 = .pointer (some ⟨P1, 0, none⟩) := hq1
  have hq2 : u 2 = .int .u8 1 := hq2
  have hq5 : u 5 = .pointer (some ⟨P5, 0, none⟩) := hq5
  have hq6 : u 6 = .int .u8 1 := hq6
  have hq7 : u 7 = .pointer (some ⟨P7, 0, none⟩) := hq7
  have hq10 : u 10 = .int .u8 0 := hq10
  have hq16 : u 16 = .pointer (some ⟨P16, 0, none⟩) := hq16
  have hq17 : u 17 = .pointer (some ⟨P17, 0, none⟩) := hq17
  have hq18 : u 18 = .pointer (some ⟨P18, 0, none⟩) := hq18
  have hq19 : u 19 = .bool true := hq19
  have hq21 : u 21 = .int .u8 2 := hq21
  have hq22 : u 22 = .pointer (some ⟨P22, 0, none⟩) := hq22
  have hq25 : u 25 = .pointer (some ⟨P25, 0, none⟩) := hq25
  have hq26 : u 26 = .bool false := hq26
  have hq27 : u 27 = .pointer (some ⟨P27, 0, none⟩) := hq27
  have hq28 : u 28 = .bool true := hq28
  have hq29 : u 29 = .bool true := hq29
  have hq167 : u 167 = .bool true := hq167
  rw [hq1, hq2, hq5, hq6, hq7, hq10, hq16, hq17, hq18, hq19, hq21, hq22, hq25, hq26, hq27, hq28, hq29, hq167]
  clear hq1 hq2 hq5 hq6 hq7 hq10 hq16 hq17 hq18 hq19 hq21 hq22 hq25 hq26 hq27 hq28 hq29 hq167 hs
  refine anyH_take 68 (some 168) (.agg #[.int .i64 0, .slice ba 1 bc]) rfl rfl (by kernel_rfl) (by kernel_rfl) (by kernel_rfl) (fun _ _ _ h => (HNP _ _ _ h).elim) (.inl ⟨by rfl, fun W hW => by have hh : New w0 W := hW; have q0 := hh.cell b0 id; have q1 := hh.cell b1 id; go_simp⟩) hS ?_
  simp only [Act.put, List.setIfInBounds_toArray, List.set_cons_succ, List.set_cons_zero]
  refine wpAnyH_all (rs := [69]) (by kernel_rfl) (by simp) ?_
  simp only [List.mem_cons, List.not_mem_nil, or_false, forall_eq]
  refine opH_call (some 169) rfl (by rfl) rfl 43 #[.agg #[.int .i64 0, .slice ba 1 bc]] (by go_simp) (((right_p 0 _ pwB _ (HB.out.new hS) (bound_one (by decide))).mono (R' := fun e w' => e = .returned (.bool true) ∧ New _ w') (by rintro e w' ⟨rfl, h⟩; exact ⟨by rw [pwR], h⟩)).mono ?_)
  rintro e w69 ⟨rfl, hk⟩
  have hS := hS.trans hk
  clear hk
  refine ⟨_, rfl, hS, ?_⟩
  simp only [Act.put, List.setIfInBounds_toArray, List.set_cons_succ, List.set_cons_zero]
  refine anyH_take 70 (some 170) (.bool true) rfl rfl (by kernel_rfl) (by kernel_rfl) (by kernel_rfl) (fun _ _ _ h => (HNP _ _ _ h).elim) (.inl ⟨by rfl, fun W hW => by go_simp⟩) hS ?_
  simp only [Act.put, List.setIfInBounds_toArray, List.set_cons_succ, List.set_cons_zero]
  refine anyH_take 71 (some 171) (.bool true) rfl rfl (by kernel_rfl) (by kernel_rfl) (by kernel_rfl) (fun _ _ _ h => (HNP _ _ _ h).elim) (.inl ⟨by rfl, fun W hW => by go_simp⟩) hS ?_
  simp only [Act.put, List.setIfInBounds_toArray, List.set_cons_succ, List.set_cons_zero]
  refine anyH_take 72 (some 172) (.agg #[.int .i64 0, .slice ba 1 bc]) rfl rfl (by kernel_rfl) (by kernel_rfl) (by kernel_rfl) (fun _ _ _ h => (HNP _ _ _ h).elim) (.inl ⟨by rfl, fun W hW => by have hh : New w0 W := hW; have q0 := hh.cell b0 id; have q1 := hh.cell b1 id; go_simp⟩) hS ?_
  simp only [Act.put, List.setIfInBounds_toArray, List.set_cons_succ, List.set_cons_zero]
  refine anyH_take 74 (some 174) (.agg #[.int .i64 0, .slice ba 1 bc]) rfl rfl (by kernel_rfl) (by kernel_rfl) (by kernel_rfl) (fun _ _ _ h => (HNP _ _ _ h).elim) (.inl ⟨by rfl, fun W hW => by have hh : New w0 W := hW; have q0 := hh.cell b0 id; have q1 := hh.cell b1 id; go_simp⟩) hS ?_
  simp only [Act.put, List.setIfInBounds_toArray, List.set_cons_succ, List.set_cons_zero]
  refine wpAnyH_all (rs := [73]) (by kernel_rfl) (by simp) ?_
  simp only [List.mem_cons, List.not_mem_nil, or_false, forall_eq]
  refine opH_call (some 173) rfl (by rfl) rfl 45 #[.agg #[.int .i64 0, .slice ba 1 bc]] (by go_simp) (((own_p 0 _ pwB _ (HB.out.new hS) (by decide)).mono (R' := fun e w' => ∃ oa oc, e = .returned (.agg #[.int .i64 0, .slice oa 1 oc]) ∧ RdW w' (.slice oa 1 oc) pwB ∧ New _ w') (by rintro e w' ⟨v', rfl, hO, h⟩; obtain ⟨oa, oc, rfl⟩ := hO.slice; exact ⟨oa, oc, rfl, hO.reads (by decide), h⟩)).mono ?_)
  rintro e w73 ⟨oa, oc, rfl, hOb, hk⟩
  have hS := hS.trans hk
  clear hk
  refine ⟨_, rfl, hS, ?_⟩
  simp only [Act.put, List.setIfInBounds_toArray, List.set_cons_succ, List.set_cons_zero]
  refine wpAnyH_all (rs := [75]) (by kernel_rfl) (by simp) ?_
  simp only [List.mem_cons, List.not_mem_nil, or_false, forall_eq]
  refine opH_call (some 175) rfl (by rfl) rfl 44 #[.agg #[.int .i64 0, .slice oa 1 oc], .agg #[.int .i64 0, .slice ba 1 bc]] (by go_simp) (((same_p 0 0 _ _ pwB pwB _ hOb (HB.out.new hS)).mono (R' := fun e w' => e = .returned (.bool true) ∧ New _ w') (by rintro e w' ⟨rfl, h⟩; exact ⟨by rw [decide_eq_true rfl, decide_eq_true rfl]; rfl, h⟩)).mono ?_)
  rintro e w75 ⟨rfl, hk⟩
  have hS := hS.trans hk
  clear hk
  refine ⟨_, rfl, hS, ?_⟩
  simp only [Act.put, List.setIfInBounds_toArray, List.set_cons_succ, List.set_cons_zero]
  refine anyH_take 76 (some 176) (.bool true) rfl rfl (by kernel_rfl) (by kernel_rfl) (by kernel_rfl) (fun _ _ _ h => (HNP _ _ _ h).elim) (.inl ⟨by rfl, fun W hW => by go_simp⟩) hS ?_
  simp only [Act.put, List.setIfInBounds_toArray, List.set_cons_succ, List.set_cons_zero]
  refine anyH_take 77 (some 177) (.bool true) rfl rfl (by kernel_rfl) (by kernel_rfl) (by kernel_rfl) (fun _ _ _ h => (HNP _ _ _ h).elim) (.inl ⟨by rfl, fun W hW => by go_simp⟩) hS ?_
  simp only [Act.put, List.setIfInBounds_toArray, List.set_cons_succ, List.set_cons_zero]
  refine anyH_take 78 (some 178) (.agg #[.int .i64 0, .slice aa 1 ac]) rfl rfl (by kernel_rfl) (by kernel_rfl) (by kernel_rfl) (fun _ _ _ h => (HNP _ _ _ h).elim) (.inl ⟨by rfl, fun W hW => by have hh : New w0 W := hW; have q0 := hh.cell a0 id; have q1 := hh.cell a1 id; go_simp⟩) hS ?_
  simp only [Act.put, List.setIfInBounds_toArray, List.set_cons_succ, List.set_cons_zero]
  refine anyH_take 79 (some 179) (.agg #[.int .i64 0, .slice ba 1 bc]) rfl rfl (by kernel_rfl) (by kernel_rfl) (by kernel_rfl) (fun _ _ _ h => (HNP _ _ _ h).elim) (.inl ⟨by rfl, fun W hW => by have hh : New w0 W := hW; have q0 := hh.cell b0 id; have q1 := hh.cell b1 id; go_simp⟩) hS ?_
  simp only [Act.put, List.setIfInBounds_toArray, List.set_cons_succ, List.set_cons_zero]
  refine wpAnyH_all (rs := [80]) (by kernel_rfl) (by simp) ?_
  simp only [List.mem_cons, List.not_mem_nil, or_false, forall_eq]
  refine opH_call (some 180) rfl (by rfl) rfl 44 #[.agg #[.int .i64 0, .slice aa 1 ac], .agg #[.int .i64 0, .slice ba 1 bc]] (by go_simp) (((same_p 0 0 _ _ pwA pwB _ (HA.out.new hS) (HB.out.new hS)).mono (R' := fun e w' => e = .returned (.bool false) ∧ New _ w') (by rintro e w' ⟨rfl, h⟩; exact ⟨by rw [show decide (pwA = pwB) = false by decide +kernel, Bool.and_false], h⟩)).mono ?_)
  rintro e w80 ⟨rfl, hk⟩
  have hS := hS.trans hk
  clear hk
  refine ⟨_, rfl, hS, ?_⟩
  simp only [Act.put, List.setIfInBounds_toArray, List.set_cons_succ, List.set_cons_zero]
  refine anyH_take 81 (some 181) (.bool true) rfl rfl (by kernel_rfl) (by kernel_rfl) (by kernel_rfl) (fun _ _ _ h => (HNP _ _ _ h).elim) (.inl ⟨by rfl, fun W hW => by go_simp⟩) hS ?_
  simp only [Act.put, List.setIfInBounds_toArray, List.set_cons_succ, List.set_cons_zero]
  refine anyH_take 82 (some 182) (.bool true) rfl rfl (by kernel_rfl) (by kernel_rfl) (by kernel_rfl) (fun _ _ _ h => (HNP _ _ _ h).elim) (.inl ⟨by rfl, fun W hW => by go_simp⟩) hS ?_
  simp only [Act.put, List.setIfInBounds_toArray, List.set_cons_succ, List.set_cons_zero]
  refine anyH_take 83 (some 183) (.bool true) rfl rfl (by kernel_rfl) (by kernel_rfl) (by kernel_rfl) (fun _ _ _ h => (HNP _ _ _ h).elim) (.inl ⟨by rfl, fun W hW => by go_simp⟩) hS ?_
  simp only [Act.put, List.setIfInBounds_toArray, List.set_cons_succ, List.set_cons_zero]
  refine anyH_take 84 (some 184) (.agg #[.int .i64 2, .slice none 0 0]) rfl rfl (by kernel_rfl) (by kernel_rfl) (by kernel_rfl) (fun _ _ _ h => (HNP _ _ _ h).elim) (.inl ⟨by rfl, fun W hW => by go_simp⟩) hS ?_
  simp only [Act.put, List.setIfInBounds_toArray, List.set_cons_succ, List.set_cons_zero]
  refine wpAnyH_all (rs := [85]) (by kernel_rfl) (by simp) ?_
  simp only [List.mem_cons, List.not_mem_nil, or_false, forall_eq]
  refine opH_call (some 185) rfl (by rfl) rfl 43 #[.agg #[.int .i64 2, .slice none 0 0]] (by go_simp) (((right_p 2 (.slice none 0 0) [] _ (RowR.nil _ _ _ _ _) (fun x hx => by cases hx)).mono (R' := fun e w' => e = .returned (.bool false) ∧ New _ w') (by rintro e w' ⟨rfl, h⟩; exact ⟨by rw [pwR2], h⟩)).mono ?_)
  rintro e w85 ⟨rfl, hk⟩
  have hS := hS.trans hk
  clear hk
  refine ⟨_, rfl, hS, ?_⟩
  simp only [Act.put, List.setIfInBounds_toArray, List.set_cons_succ, List.set_cons_zero]
  refine anyH_take 86 (some 186) (.bool true) rfl rfl (by kernel_rfl) (by kernel_rfl) (by kernel_rfl) (fun _ _ _ h => (HNP _ _ _ h).elim) (.inl ⟨by rfl, fun W hW => by go_simp⟩) hS ?_
  simp only [Act.put, List.setIfInBounds_toArray, List.set_cons_succ, List.set_cons_zero]
  refine anyH_take 87 (some 187) (.bool true) rfl rfl (by kernel_rfl) (by kernel_rfl) (by kernel_rfl) (fun _ _ _ h => (HNP _ _ _ h).elim) (.inl ⟨by rfl, fun W hW => by go_simp⟩) hS ?_
  simp only [Act.put, List.setIfInBounds_toArray, List.set_cons_succ, List.set_cons_zero]
  refine anyH_take 88 (some 0) (.bool true) rfl rfl (by kernel_rfl) (by kernel_rfl) (by kernel_rfl) (fun _ _ _ h => (HNP _ _ _ h).elim) (.inl ⟨by rfl, fun W hW => by go_simp⟩) hS ?_
  simp only [Act.put, List.setIfInBounds_toArray, List.set_cons_succ, List.set_cons_zero]
  refine wpAnyH_done (by kernel_rfl) ?_ _
  exact HQ _ _ rfl rfl rfl hS
set_option maxHeartbeats 8000000 in
set_option maxRecDepth 100000 in
theorem pk13b (t : Array Value) (hs : t.size = 188) (w0 w : World) {P1 P5 P7 P16 P17 P18 P22 P25 P27 ac bc dc : Nat} {aa ba da : Option Addr} {Q : Exit → Act → World → Prop} (listed : Array Bool) (hl : listed = (true :: true :: true :: true :: true :: true :: true :: true :: true :: true :: true :: true :: true :: true :: true :: true :: true :: true :: true :: true :: true :: true :: true :: true :: true :: true :: true :: true :: true :: true :: true :: true :: true :: true :: false :: false :: false :: false :: false :: false :: false :: false :: false :: false :: false :: false :: false :: false :: false :: false :: false :: false :: false :: false :: false :: false :: false :: false :: false :: false :: false :: false :: false :: false :: false :: false :: false :: false :: false :: false :: false :: false :: false :: false :: false :: false :: false :: false :: false :: false :: false :: false :: false :: false :: false :: false :: false :: false :: false :: ([] : List Bool)).toArray)
    (hq1 : t.getD 1 undef = .pointer (some ⟨P1, 0, none⟩))
    (hq2 : t.getD 2 undef = .int .u8 1)
    (hq5 : t.getD 5 undef = .pointer (some ⟨P5, 0, none⟩))
    (hq6 : t.getD 6 undef = .int .u8 1)
    (hq7 : t.getD 7 undef = .pointer (some ⟨P7, 0, none⟩))
    (hq10 : t.getD 10 undef = .int .u8 0)
    (hq16 : t.getD 16 undef = .pointer (some ⟨P16, 0, none⟩))
    (hq17 : t.getD 17 undef = .pointer (some ⟨P17, 0, none⟩))
    (hq18 : t.getD 18 undef = .pointer (some ⟨P18, 0, none⟩))
    (hq19 : t.getD 19 undef = .bool true)
    (hq21 : t.getD 21 undef = .int .u8 2)
    (hq22 : t.getD 22 undef = .pointer (some ⟨P22, 0, none⟩))
    (hq25 : t.getD 25 undef = .pointer (some ⟨P25, 0, none⟩))
    (hq26 : t.getD 26 undef = .bool false)
    (hq27 : t.getD 27 undef = .pointer (some ⟨P27, 0, none⟩))
    (hq28 : t.getD 28 undef = .bool true)
    (hq29 : t.getD 29 undef = .bool true)
    (hq131 : t.getD 131 undef = .bool true)
    (hq133 : t.getD 133 undef = .int .i64 3)
    (hS : New w0 w) (a0 : w0.cell? ⟨P1, 0, none⟩ = some (.int .i64 0)) (a1 : w0.cell? ⟨P1, 1, none⟩ = some (.slice aa 1 ac)) (b0 : w0.cell? ⟨P5, 0, none⟩ = some (.int .i64 0)) (b1 : w0.cell? ⟨P5, 1, none⟩ = some (.slice ba 1 bc)) (c0 : w0.cell? ⟨P7, 0, none⟩ = some (.int .u8 2)) (d0 : w0.cell? ⟨P16, 0, none⟩ = some (.bool true)) (d1 : w0.cell? ⟨P16, 1, none⟩ = some (.int .i64 0)) (d2 : w0.cell? ⟨P16, 2, none⟩ = some (.int .u32 1)) (e0 : w0.cell? ⟨P17, 0, none⟩ = some (.int .i64 3)) (e1 : w0.cell? ⟨P17, 1, none⟩ = some (.slice da 0 dc)) (f0 : w0.cell? ⟨P18, 0, none⟩ = some (.int .u8 2)) (g1 : w0.cell? ⟨P22, 1, none⟩ = some (.bool true)) (h0 : w0.cell? ⟨P25, 0, none⟩ = some (.int .u8 3)) (i0 : w0.cell? ⟨P27, 0, none⟩ = some (.int .u8 2))
    (HA : Hid (RdW w0 (.slice aa 1 ac) pwA)) (HB : Hid (RdW w0 (.slice ba 1 bc) pwB))
    (HNP : ∀ c a w, ¬ Q (.panic c) a w) (HQ : ∀ a' W', a'.tmps.size = 188 → a'.defers = [] → a'.tmps.getD 0 undef = .bool true → New w0 W' → Q .normal a' W') :
    wpAnyH Tryz.prog .any (opsOf reg_causeylaw24_wakes_10) Q (fun W => New w0 W) 55 listed ⟨t, []⟩ w := by
  subst hl
  conv => arg 3; whnf
  obtain ⟨u, rfl⟩ := lit188 t hs
  have hq1 : u 1 = .pointer (some ⟨P1, 0, none⟩) := hq1
  have hq2 : u 2 = .int .u8 1 := hq2
  have hq5 : u 5 = .pointer (some ⟨P5, 0, none⟩) := hq5
  have hq6 : u 6 = .int .u8 1 := hq6
  have hq7 : u 7 = .pointer (some ⟨P7, 0, none⟩) := hq7
  have hq10 : u 10 = .int .u8 0 := hq10
  have hq16 : u 16 = .pointer (some ⟨P16, 0, none⟩) := hq16
  have hq17 : u 17 = .pointer (some ⟨P17, 0, none⟩) := hq17
  have hq18 : u 18 = .pointer (some ⟨P18, 0, none⟩) := hq18
  have hq19 : u 19 = .bool true := hq19
  have hq21 : u 21 = .int .u8 2 := hq21
  have hq22 : u 22 = .pointer (some ⟨P22, 0, none⟩) := hq22
  have hq25 : u 25 = .pointer (some ⟨P25, 0, none⟩) := hq25
  have hq26 : u 26 = .bool false := hq26
  have hq27 : u 27 = .pointer (some ⟨P27, 0, none⟩) := hq27
  have hq28 : u 28 = .bool true := hq28
  have hq29 : u 29 = .bool true := hq29
  have hq131 : u 131 = .bool true := hq131
  have hq133 : u 133 = .int .i64 3 := hq133
  rw [hq1, hq2, hq5, hq6, hq7, hq10, hq16, hq17, hq18, hq19, hq21, hq22, hq25, hq26, hq27, hq28, hq29, hq131, hq133]
  clear hq1 hq2 hq5 hq6 hq7 hq10 hq16 hq17 hq18 hq19 hq21 hq22 hq25 hq26 hq27 hq28 hq29 hq131 hq133 hs
  refine anyH_take 34 (some 134) (.bool true) rfl rfl (by kernel_rfl) (by kernel_rfl) (by kernel_rfl) (fun _ _ _ h => (HNP _ _ _ h).elim) (.inl ⟨by rfl, fun W hW => by go_simp⟩) hS ?_
  simp only [Act.put, List.setIfInBounds_toArray, List.set_cons_succ, List.set_cons_zero]
  refine anyH_take 35 (some 135) (.bool true) rfl rfl (by kernel_rfl) (by kernel_rfl) (by kernel_rfl) (fun _ _ _ h => (HNP _ _ _ h).elim) (.inl ⟨by rfl, fun W hW => by go_simp⟩) hS ?_
  simp only [Act.put, List.setIfInBounds_toArray, List.set_cons_succ, List.set_cons_zero]
  refine anyH_take 36 (some 136) (.bool true) rfl rfl (by kernel_rfl) (by kernel_rfl) (by kernel_rfl) (fun _ _ _ h => (HNP _ _ _ h).elim) (.inl ⟨by rfl, fun W hW => by go_simp⟩) hS ?_
  simp only [Act.put, List.setIfInBounds_toArray, List.set_cons_succ, List.set_cons_zero]
  refine anyH_take 37 (some 137) (.pointer (some ⟨P17, 1, none⟩)) rfl rfl (by kernel_rfl) (by kernel_rfl) (by kernel_rfl) (fun _ _ _ h => (HNP _ _ _ h).elim) (.inl ⟨by rfl, fun W hW => by go_simp⟩) hS ?_
  simp only [Act.put, List.setIfInBounds_toArray, List.set_cons_succ, List.set_cons_zero]
  refine anyH_take 38 (some 138) (.slice da 0 dc) rfl rfl (by kernel_rfl) (by kernel_rfl) (by kernel_rfl) (fun _ _ _ h => (HNP _ _ _ h).elim) (.inl ⟨by rfl, fun W hW => by have hh : New w0 W := hW; have q := hh.cell e1 id; go_simp⟩) hS ?_
  simp only [Act.put, List.setIfInBounds_toArray, List.set_cons_succ, List.set_cons_zero]
  refine anyH_take 39 (some 139) (.int .i64 0) rfl rfl (by kernel_rfl) (by kernel_rfl) (by kernel_rfl) (fun _ _ _ h => (HNP _ _ _ h).elim) (.inl ⟨by rfl, fun W hW => by go_simp⟩) hS ?_
  simp only [Act.put, List.setIfInBounds_toArray, List.set_cons_succ, List.set_cons_zero]
  refine anyH_take 40 (some 140) (.bool true) rfl rfl (by kernel_rfl) (by kernel_rfl) (by kernel_rfl) (fun _ _ _ h => (HNP _ _ _ h).elim) (.inl ⟨by rfl, fun W hW => by go_simp⟩) hS ?_
  simp only [Act.put, List.setIfInBounds_toArray, List.set_cons_succ, List.set_cons_zero]
  refine anyH_take 41 (some 141) (.bool true) rfl rfl (by kernel_rfl) (by kernel_rfl) (by kernel_rfl) (fun _ _ _ h => (HNP _ _ _ h).elim) (.inl ⟨by rfl, fun W hW => by go_simp⟩) hS ?_
  simp only [Act.put, List.setIfInBounds_toArray, List.set_cons_succ, List.set_cons_zero]
  refine anyH_take 42 (some 142) (.bool true) rfl rfl (by kernel_rfl) (by kernel_rfl) (by kernel_rfl) (fun _ _ _ h => (HNP _ _ _ h).elim) (.inl ⟨by rfl, fun W hW => by go_simp⟩) hS ?_
  simp only [Act.put, List.setIfInBounds_toArray, List.set_cons_succ, List.set_cons_zero]
  refine anyH_take 43 (some 143) (.int .u8 2) rfl rfl (by kernel_rfl) (by kernel_rfl) (by kernel_rfl) (fun _ _ _ h => (HNP _ _ _ h).elim) (.inl ⟨by rfl, fun W hW => by go_simp⟩) hS ?_
  simp only [Act.put, List.setIfInBounds_toArray, List.set_cons_succ, List.set_cons_zero]
  refine anyH_take 44 (some 144) (.bool true) rfl rfl (by kernel_rfl) (by kernel_rfl) (by kernel_rfl) (fun _ _ _ h => (HNP _ _ _ h).elim) (.inl ⟨by rfl, fun W hW => by go_simp⟩) hS ?_
  simp only [Act.put, List.setIfInBounds_toArray, List.set_cons_succ, List.set_cons_zero]
  refine anyH_take 45 (some 145) (.bool true) rfl rfl (by kernel_rfl) (by kernel_rfl) (by kernel_rfl) (fun _ _ _ h => (HNP _ _ _ h).elim) (.inl ⟨by rfl, fun W hW => by go_simp⟩) hS ?_
  simp only [Act.put, List.setIfInBounds_toArray, List.set_cons_succ, List.set_cons_zero]
  refine anyH_take 46 (some 146) (.bool true) rfl rfl (by kernel_rfl) (by kernel_rfl) (by kernel_rfl) (fun _ _ _ h => (HNP _ _ _ h).elim) (.inl ⟨by rfl, fun W hW => by go_simp⟩) hS ?_
  simp only [Act.put, List.setIfInBounds_toArray, List.set_cons_succ, List.set_cons_zero]
  refine anyH_take 47 (some 147) (.pointer (some ⟨P22, 1, none⟩)) rfl rfl (by kernel_rfl) (by kernel_rfl) (by kernel_rfl) (fun _ _ _ h => (HNP _ _ _ h).elim) (.inl ⟨by rfl, fun W hW => by go_simp⟩) hS ?_
  simp only [Act.put, List.setIfInBounds_toArray, List.set_cons_succ, List.set_cons_zero]
  refine anyH_take 48 (some 148) (.bool true) rfl rfl (by kernel_rfl) (by kernel_rfl) (by kernel_rfl) (fun _ _ _ h => (HNP _ _ _ h).elim) (.inl ⟨by rfl, fun W hW => by have hh : New w0 W := hW; have q := hh.cell g1 id; go_simp⟩) hS ?_
  simp only [Act.put, List.setIfInBounds_toArray, List.set_cons_succ, List.set_cons_zero]
  refine anyH_take 49 (some 149) (.bool true) rfl rfl (by kernel_rfl) (by kernel_rfl) (by kernel_rfl) (fun _ _ _ h => (HNP _ _ _ h).elim) (.inl ⟨by rfl, fun W hW => by go_simp⟩) hS ?_
  simp only [Act.put, List.setIfInBounds_toArray, List.set_cons_succ, List.set_cons_zero]
  refine anyH_take 50 (some 150) (.bool true) rfl rfl (by kernel_rfl) (by kernel_rfl) (by kernel_rfl) (fun _ _ _ h => (HNP _ _ _ h).elim) (.inl ⟨by rfl, fun W hW => by go_simp⟩) hS ?_
  simp only [Act.put, List.setIfInBounds_toArray, List.set_cons_succ, List.set_cons_zero]
  refine anyH_take 51 (some 151) (.bool false) rfl rfl (by kernel_rfl) (by kernel_rfl) (by kernel_rfl) (fun _ _ _ h => (HNP _ _ _ h).elim) (.inl ⟨by rfl, fun W hW => by go_simp⟩) hS ?_
  simp only [Act.put, List.setIfInBounds_toArray, List.set_cons_succ, List.set_cons_zero]
  refine anyH_take 52 (some 152) (.bool true) rfl rfl (by kernel_rfl) (by kernel_rfl) (by kernel_rfl) (fun _ _ _ h => (HNP _ _ _ h).elim) (.inl ⟨by rfl, fun W hW => by go_simp⟩) hS ?_
  simp only [Act.put, List.setIfInBounds_toArray, List.set_cons_succ, List.set_cons_zero]
  refine anyH_take 53 (some 153) (.bool true) rfl rfl (by kernel_rfl) (by kernel_rfl) (by kernel_rfl) (fun _ _ _ h => (HNP _ _ _ h).elim) (.inl ⟨by rfl, fun W hW => by go_simp⟩) hS ?_
  simp only [Act.put, List.setIfInBounds_toArray, List.set_cons_succ, List.set_cons_zero]
  refine anyH_take 54 (some 154) (.bool true) rfl rfl (by kernel_rfl) (by kernel_rfl) (by kernel_rfl) (fun _ _ _ h => (HNP _ _ _ h).elim) (.inl ⟨by rfl, fun W hW => by go_simp⟩) hS ?_
  simp only [Act.put, List.setIfInBounds_toArray, List.set_cons_succ, List.set_cons_zero]
  refine anyH_take 55 (some 155) (.pointer (some ⟨P25, 0, none⟩)) rfl rfl (by kernel_rfl) (by kernel_rfl) (by kernel_rfl) (fun _ _ _ h => (HNP _ _ _ h).elim) (.inl ⟨by rfl, fun W hW => by go_simp⟩) hS ?_
  simp only [Act.put, List.setIfInBounds_toArray, List.set_cons_succ, List.set_cons_zero]
  refine anyH_take 56 (some 156) (.int .u8 3) rfl rfl (by kernel_rfl) (by kernel_rfl) (by kernel_rfl) (fun _ _ _ h => (HNP _ _ _ h).elim) (.inl ⟨by rfl, fun W hW => by have hh : New w0 W := hW; have q := hh.cell h0 id; go_simp⟩) hS ?_
  simp only [Act.put, List.setIfInBounds_toArray, List.set_cons_succ, List.set_cons_zero]
  refine anyH_take 57 (some 157) (.bool true) rfl rfl (by kernel_rfl) (by kernel_rfl) (by kernel_rfl) (fun _ _ _ h => (HNP _ _ _ h).elim) (.inl ⟨by rfl, fun W hW => by go_simp⟩) hS ?_
  simp only [Act.put, List.setIfInBounds_toArray, List.set_cons_succ, List.set_cons_zero]
  refine anyH_take 58 (some 158) (.bool true) rfl rfl (by kernel_rfl) (by kernel_rfl) (by kernel_rfl) (fun _ _ _ h => (HNP _ _ _ h).elim) (.inl ⟨by rfl, fun W hW => by go_simp⟩) hS ?_
  simp only [Act.put, List.setIfInBounds_toArray, List.set_cons_succ, List.set_cons_zero]
  refine anyH_take 59 (some 159) (.bool true) rfl rfl (by kernel_rfl) (by kernel_rfl) (by kernel_rfl) (fun _ _ _ h => (HNP _ _ _ h).elim) (.inl ⟨by rfl, fun W hW => by go_simp⟩) hS ?_
  simp only [Act.put, List.setIfInBounds_toArray, List.set_cons_succ, List.set_cons_zero]
  refine anyH_take 60 (some 160) (.bool true) rfl rfl (by kernel_rfl) (by kernel_rfl) (by kernel_rfl) (fun _ _ _ h => (HNP _ _ _ h).elim) (.inl ⟨by rfl, fun W hW => by go_simp⟩) hS ?_
  simp only [Act.put, List.setIfInBounds_toArray, List.set_cons_succ, List.set_cons_zero]
  refine anyH_take 61 (some 161) (.bool true) rfl rfl (by kernel_rfl) (by kernel_rfl) (by kernel_rfl) (fun _ _ _ h => (HNP _ _ _ h).elim) (.inl ⟨by rfl, fun W hW => by go_simp⟩) hS ?_
  simp only [Act.put, List.setIfInBounds_toArray, List.set_cons_succ, List.set_cons_zero]
  refine anyH_take 62 (some 162) (.bool true) rfl rfl (by kernel_rfl) (by kernel_rfl) (by kernel_rfl) (fun _ _ _ h => (HNP _ _ _ h).elim) (.inl ⟨by rfl, fun W hW => by go_simp⟩) hS ?_
  simp only [Act.put, List.setIfInBounds_toArray, List.set_cons_succ, List.set_cons_zero]
  refine anyH_take 63 (some 163) (.pointer (some ⟨P27, 0, none⟩)) rfl rfl (by kernel_rfl) (by kernel_rfl) (by kernel_rfl) (fun _ _ _ h => (HNP _ _ _ h).elim) (.inl ⟨by rfl, fun W hW => by go_simp⟩) hS ?_
  simp only [Act.put, List.setIfInBounds_toArray, List.set_cons_succ, List.set_cons_zero]
  refine anyH_take 64 (some 164) (.int .u8 2) rfl rfl (by kernel_rfl) (by kernel_rfl) (by kernel_rfl) (fun _ _ _ h => (HNP _ _ _ h).elim) (.inl ⟨by rfl, fun W hW => by have hh : New w0 W := hW; have q := hh.cell i0 id; go_simp⟩) hS ?_
  simp only [Act.put, List.setIfInBounds_toArray, List.set_cons_succ, List.set_cons_zero]
  refine anyH_take 65 (some 165) (.bool true) rfl rfl (by kernel_rfl) (by kernel_rfl) (by kernel_rfl) (fun _ _ _ h => (HNP _ _ _ h).elim) (.inl ⟨by rfl, fun W hW => by go_simp⟩) hS ?_
  simp only [Act.put, List.setIfInBounds_toArray, List.set_cons_succ, List.set_cons_zero]
  refine anyH_take 66 (some 166) (.bool true) rfl rfl (by kernel_rfl) (by kernel_rfl) (by kernel_rfl) (fun _ _ _ h => (HNP _ _ _ h).elim) (.inl ⟨by rfl, fun W hW => by go_simp⟩) hS ?_
  simp only [Act.put, List.setIfInBounds_toArray, List.set_cons_succ, List.set_cons_zero]
  refine anyH_take 67 (some 167) (.bool true) rfl rfl (by kernel_rfl) (by kernel_rfl) (by kernel_rfl) (fun _ _ _ h => (HNP _ _ _ h).elim) (.inl ⟨by rfl, fun W hW => by go_simp⟩) hS ?_
  simp only [Act.put, List.setIfInBounds_toArray, List.set_cons_succ, List.set_cons_zero]
  exact pk13c _ rfl w0 _ _ (by kernel_rfl) rfl rfl rfl rfl rfl rfl rfl rfl rfl rfl rfl rfl rfl rfl rfl rfl rfl rfl hS a0 a1 b0 b1 c0 d0 d1 d2 e0 e1 f0 g1 h0 i0 HA HB HNP HQ
set_option maxHeartbeats 8000000 in
set_option maxRecDepth 100000 in
theorem pk13a (t : Array Value) (hs : t.size = 188) (w0 w : World) {P1 P5 P7 P16 P17 P18 P22 P25 P27 ac bc dc : Nat} {aa ba da : Option Addr} {Q : Exit → Act → World → Prop} (listed : Array Bool) (hl : listed = (false :: false :: false :: false :: false :: false :: false :: false :: false :: false :: false :: false :: false :: false :: false :: false :: false :: false :: false :: false :: false :: false :: false :: false :: false :: false :: false :: false :: false :: false :: false :: false :: false :: false :: false :: false :: false :: false :: false :: false :: false :: false :: false :: false :: false :: false :: false :: false :: false :: false :: false :: false :: false :: false :: false :: false :: false :: false :: false :: false :: false :: false :: false :: false :: false :: false :: false :: false :: false :: false :: false :: false :: false :: false :: false :: false :: false :: false :: false :: false :: false :: false :: false :: false :: false :: false :: false :: false :: false :: ([] : List Bool)).toArray)
    (hq1 : t.getD 1 undef = .pointer (some ⟨P1, 0, none⟩))
    (hq2 : t.getD 2 undef = .int .u8 1)
    (hq5 : t.getD 5 undef = .pointer (some ⟨P5, 0, none⟩))
    (hq6 : t.getD 6 undef = .int .u8 1)
    (hq7 : t.getD 7 undef = .pointer (some ⟨P7, 0, none⟩))
    (hq10 : t.getD 10 undef = .int .u8 0)
    (hq16 : t.getD 16 undef = .pointer (some ⟨P16, 0, none⟩))
    (hq17 : t.getD 17 undef = .pointer (some ⟨P17, 0, none⟩))
    (hq18 : t.getD 18 undef = .pointer (some ⟨P18, 0, none⟩))
    (hq19 : t.getD 19 undef = .bool true)
    (hq21 : t.getD 21 undef = .int .u8 2)
    (hq22 : t.getD 22 undef = .pointer (some ⟨P22, 0, none⟩))
    (hq25 : t.getD 25 undef = .pointer (some ⟨P25, 0, none⟩))
    (hq26 : t.getD 26 undef = .bool false)
    (hq27 : t.getD 27 undef = .pointer (some ⟨P27, 0, none⟩))
    (hq28 : t.getD 28 undef = .bool true)
    (hq29 : t.getD 29 undef = .bool true)
    (hS : New w0 w) (a0 : w0.cell? ⟨P1, 0, none⟩ = some (.int .i64 0)) (a1 : w0.cell? ⟨P1, 1, none⟩ = some (.slice aa 1 ac)) (b0 : w0.cell? ⟨P5, 0, none⟩ = some (.int .i64 0)) (b1 : w0.cell? ⟨P5, 1, none⟩ = some (.slice ba 1 bc)) (c0 : w0.cell? ⟨P7, 0, none⟩ = some (.int .u8 2)) (d0 : w0.cell? ⟨P16, 0, none⟩ = some (.bool true)) (d1 : w0.cell? ⟨P16, 1, none⟩ = some (.int .i64 0)) (d2 : w0.cell? ⟨P16, 2, none⟩ = some (.int .u32 1)) (e0 : w0.cell? ⟨P17, 0, none⟩ = some (.int .i64 3)) (e1 : w0.cell? ⟨P17, 1, none⟩ = some (.slice da 0 dc)) (f0 : w0.cell? ⟨P18, 0, none⟩ = some (.int .u8 2)) (g1 : w0.cell? ⟨P22, 1, none⟩ = some (.bool true)) (h0 : w0.cell? ⟨P25, 0, none⟩ = some (.int .u8 3)) (i0 : w0.cell? ⟨P27, 0, none⟩ = some (.int .u8 2))
    (HA : Hid (RdW w0 (.slice aa 1 ac) pwA)) (HB : Hid (RdW w0 (.slice ba 1 bc) pwB))
    (HNP : ∀ c a w, ¬ Q (.panic c) a w) (HQ : ∀ a' W', a'.tmps.size = 188 → a'.defers = [] → a'.tmps.getD 0 undef = .bool true → New w0 W' → Q .normal a' W') :
    wpAnyH Tryz.prog .any (opsOf reg_causeylaw24_wakes_10) Q (fun W => New w0 W) 89 listed ⟨t, []⟩ w := by
  subst hl
  conv => arg 3; whnf
  obtain ⟨u, rfl⟩ := lit188 t hs
  have hq1 : u 1 = .pointer (some ⟨P1, 0, none⟩) := hq1
  have hq2 : u 2 = .int .u8 1 := hq2
  have hq5 : u 5 = .pointer (some ⟨P5, 0, none⟩) := hq5
  have hq6 : u 6 = .int .u8 1 := hq6
  have hq7 : u 7 = .pointer (some ⟨P7, 0, none⟩) := hq7
  have hq10 : u 10 = .int .u8 0 := hq10
  have hq16 : u 16 = .pointer (some ⟨P16, 0, none⟩) := hq16
  have hq17 : u 17 = .pointer (some ⟨P17, 0, none⟩) := hq17
  have hq18 : u 18 = .pointer (some ⟨P18, 0, none⟩) := hq18
  have hq19 : u 19 = .bool true := hq19
  have hq21 : u 21 = .int .u8 2 := hq21
  have hq22 : u 22 = .pointer (some ⟨P22, 0, none⟩) := hq22
  have hq25 : u 25 = .pointer (some ⟨P25, 0, none⟩) := hq25
  have hq26 : u 26 = .bool false := hq26
  have hq27 : u 27 = .pointer (some ⟨P27, 0, none⟩) := hq27
  have hq28 : u 28 = .bool true := hq28
  have hq29 : u 29 = .bool true := hq29
  rw [hq1, hq2, hq5, hq6, hq7, hq10, hq16, hq17, hq18, hq19, hq21, hq22, hq25, hq26, hq27, hq28, hq29]
  clear hq1 hq2 hq5 hq6 hq7 hq10 hq16 hq17 hq18 hq19 hq21 hq22 hq25 hq26 hq27 hq28 hq29 hs
  refine anyH_take 0 (some 100) (.bool true) rfl rfl (by kernel_rfl) (by kernel_rfl) (by kernel_rfl) (fun _ _ _ h => (HNP _ _ _ h).elim) (.inl ⟨by rfl, fun W hW => by go_simp⟩) hS ?_
  simp only [Act.put, List.setIfInBounds_toArray, List.set_cons_succ, List.set_cons_zero]
  refine anyH_take 1 (some 101) (.bool true) rfl rfl (by kernel_rfl) (by kernel_rfl) (by kernel_rfl) (fun _ _ _ h => (HNP _ _ _ h).elim) (.inl ⟨by rfl, fun W hW => by go_simp⟩) hS ?_
  simp only [Act.put, List.setIfInBounds_toArray, List.set_cons_succ, List.set_cons_zero]
  refine anyH_take 2 (some 102) (.int .u8 1) rfl rfl (by kernel_rfl) (by kernel_rfl) (by kernel_rfl) (fun _ _ _ h => (HNP _ _ _ h).elim) (.inl ⟨by rfl, fun W hW => by go_simp⟩) hS ?_
  simp only [Act.put, List.setIfInBounds_toArray, List.set_cons_succ, List.set_cons_zero]
  refine anyH_take 3 (some 103) (.bool true) rfl rfl (by kernel_rfl) (by kernel_rfl) (by kernel_rfl) (fun _ _ _ h => (HNP _ _ _ h).elim) (.inl ⟨by rfl, fun W hW => by go_simp⟩) hS ?_
  simp only [Act.put, List.setIfInBounds_toArray, List.set_cons_succ, List.set_cons_zero]
  refine anyH_take 4 (some 104) (.bool true) rfl rfl (by kernel_rfl) (by kernel_rfl) (by kernel_rfl) (fun _ _ _ h => (HNP _ _ _ h).elim) (.inl ⟨by rfl, fun W hW => by go_simp⟩) hS ?_
  simp only [Act.put, List.setIfInBounds_toArray, List.set_cons_succ, List.set_cons_zero]
  refine anyH_take 5 (some 105) (.bool true) rfl rfl (by kernel_rfl) (by kernel_rfl) (by kernel_rfl) (fun _ _ _ h => (HNP _ _ _ h).elim) (.inl ⟨by rfl, fun W hW => by go_simp⟩) hS ?_
  simp only [Act.put, List.setIfInBounds_toArray, List.set_cons_succ, List.set_cons_zero]
  refine anyH_take 6 (some 106) (.int .u8 1) rfl rfl (by kernel_rfl) (by kernel_rfl) (by kernel_rfl) (fun _ _ _ h => (HNP _ _ _ h).elim) (.inl ⟨by rfl, fun W hW => by go_simp⟩) hS ?_
  simp only [Act.put, List.setIfInBounds_toArray, List.set_cons_succ, List.set_cons_zero]
  refine anyH_take 7 (some 107) (.bool true) rfl rfl (by kernel_rfl) (by kernel_rfl) (by kernel_rfl) (fun _ _ _ h => (HNP _ _ _ h).elim) (.inl ⟨by rfl, fun W hW => by go_simp⟩) hS ?_
  simp only [Act.put, List.setIfInBounds_toArray, List.set_cons_succ, List.set_cons_zero]
  refine anyH_take 8 (some 108) (.bool true) rfl rfl (by kernel_rfl) (by kernel_rfl) (by kernel_rfl) (fun _ _ _ h => (HNP _ _ _ h).elim) (.inl ⟨by rfl, fun W hW => by go_simp⟩) hS ?_
  simp only [Act.put, List.setIfInBounds_toArray, List.set_cons_succ, List.set_cons_zero]
  refine anyH_take 9 (some 109) (.bool true) rfl rfl (by kernel_rfl) (by kernel_rfl) (by kernel_rfl) (fun _ _ _ h => (HNP _ _ _ h).elim) (.inl ⟨by rfl, fun W hW => by go_simp⟩) hS ?_
  simp only [Act.put, List.setIfInBounds_toArray, List.set_cons_succ, List.set_cons_zero]
  refine anyH_take 10 (some 110) (.pointer (some ⟨P7, 0, none⟩)) rfl rfl (by kernel_rfl) (by kernel_rfl) (by kernel_rfl) (fun _ _ _ h => (HNP _ _ _ h).elim) (.inl ⟨by rfl, fun W hW => by go_simp⟩) hS ?_
  simp only [Act.put, List.setIfInBounds_toArray, List.set_cons_succ, List.set_cons_zero]
  refine anyH_take 11 (some 111) (.int .u8 2) rfl rfl (by kernel_rfl) (by kernel_rfl) (by kernel_rfl) (fun _ _ _ h => (HNP _ _ _ h).elim) (.inl ⟨by rfl, fun W hW => by have hh : New w0 W := hW; have q := hh.cell c0 id; go_simp⟩) hS ?_
  simp only [Act.put, List.setIfInBounds_toArray, List.set_cons_succ, List.set_cons_zero]
  refine anyH_take 12 (some 112) (.bool true) rfl rfl (by kernel_rfl) (by kernel_rfl) (by kernel_rfl) (fun _ _ _ h => (HNP _ _ _ h).elim) (.inl ⟨by rfl, fun W hW => by go_simp⟩) hS ?_
  simp only [Act.put, List.setIfInBounds_toArray, List.set_cons_succ, List.set_cons_zero]
  refine anyH_take 13 (some 113) (.bool true) rfl rfl (by kernel_rfl) (by kernel_rfl) (by kernel_rfl) (fun _ _ _ h => (HNP _ _ _ h).elim) (.inl ⟨by rfl, fun W hW => by go_simp⟩) hS ?_
  simp only [Act.put, List.setIfInBounds_toArray, List.set_cons_succ, List.set_cons_zero]
  refine anyH_take 14 (some 114) (.bool true) rfl rfl (by kernel_rfl) (by kernel_rfl) (by kernel_rfl) (fun _ _ _ h => (HNP _ _ _ h).elim) (.inl ⟨by rfl, fun W hW => by go_simp⟩) hS ?_
  simp only [Act.put, List.setIfInBounds_toArray, List.set_cons_succ, List.set_cons_zero]
  refine anyH_take 15 (some 115) (.int .u8 0) rfl rfl (by kernel_rfl) (by kernel_rfl) (by kernel_rfl) (fun _ _ _ h => (HNP _ _ _ h).elim) (.inl ⟨by rfl, fun W hW => by go_simp⟩) hS ?_
  simp only [Act.put, List.setIfInBounds_toArray, List.set_cons_succ, List.set_cons_zero]
  refine anyH_take 16 (some 116) (.bool true) rfl rfl (by kernel_rfl) (by kernel_rfl) (by kernel_rfl) (fun _ _ _ h => (HNP _ _ _ h).elim) (.inl ⟨by rfl, fun W hW => by go_simp⟩) hS ?_
  simp only [Act.put, List.setIfInBounds_toArray, List.set_cons_succ, List.set_cons_zero]
  refine anyH_take 17 (some 117) (.bool true) rfl rfl (by kernel_rfl) (by kernel_rfl) (by kernel_rfl) (fun _ _ _ h => (HNP _ _ _ h).elim) (.inl ⟨by rfl, fun W hW => by go_simp⟩) hS ?_
  simp only [Act.put, List.setIfInBounds_toArray, List.set_cons_succ, List.set_cons_zero]
  refine anyH_take 18 (some 118) (.bool true) rfl rfl (by kernel_rfl) (by kernel_rfl) (by kernel_rfl) (fun _ _ _ h => (HNP _ _ _ h).elim) (.inl ⟨by rfl, fun W hW => by go_simp⟩) hS ?_
  simp only [Act.put, List.setIfInBounds_toArray, List.set_cons_succ, List.set_cons_zero]
  refine anyH_take 19 (some 119) (.agg #[.bool true, .int .i64 0, .int .u32 1]) rfl rfl (by kernel_rfl) (by kernel_rfl) (by kernel_rfl) (fun _ _ _ h => (HNP _ _ _ h).elim) (.inl ⟨by rfl, fun W hW => by have hh : New w0 W := hW; have q0 := hh.cell d0 id; have q1 := hh.cell d1 id; have q2 := hh.cell d2 id; go_simp⟩) hS ?_
  simp only [Act.put, List.setIfInBounds_toArray, List.set_cons_succ, List.set_cons_zero]
  refine anyH_take 20 (some 120) (.agg #[.bool true, .int .i64 0, .int .u32 1]) rfl rfl (by kernel_rfl) (by kernel_rfl) (by kernel_rfl) (fun _ _ _ h => (HNP _ _ _ h).elim) (.inl ⟨by rfl, fun W hW => by go_simp⟩) hS ?_
  simp only [Act.put, List.setIfInBounds_toArray, List.set_cons_succ, List.set_cons_zero]
  refine anyH_take 21 (some 121) (.bool true) rfl rfl (by kernel_rfl) (by kernel_rfl) (by kernel_rfl) (fun _ _ _ h => (HNP _ _ _ h).elim) (.inl ⟨by rfl, fun W hW => by have q := binop_flt true true 0 0 1 1; simp only [decide_true, Bool.and_self] at q; have q' : (binOp .eql 34 (.agg #[.bool true, .int .i64 0, .int .u32 1]) (.agg #[.bool true, .int .i64 0, .int .u32 1])).run Tryz.prog W = .ok (.bool true) W := q W; clear q; go_simp⟩) hS ?_
  simp only [Act.put, List.setIfInBounds_toArray, List.set_cons_succ, List.set_cons_zero]
  refine anyH_take 22 (some 122) (.bool true) rfl rfl (by kernel_rfl) (by kernel_rfl) (by kernel_rfl) (fun _ _ _ h => (HNP _ _ _ h).elim) (.inl ⟨by rfl, fun W hW => by go_simp⟩) hS ?_
  simp only [Act.put, List.setIfInBounds_toArray, List.set_cons_succ, List.set_cons_zero]
  refine anyH_take 23 (some 123) (.bool true) rfl rfl (by kernel_rfl) (by kernel_rfl) (by kernel_rfl) (fun _ _ _ h => (HNP _ _ _ h).elim) (.inl ⟨by rfl, fun W hW => by go_simp⟩) hS ?_
  simp only [Act.put, List.setIfInBounds_toArray, List.set_cons_succ, List.set_cons_zero]
  refine anyH_take 24 (some 124) (.bool true) rfl rfl (by kernel_rfl) (by kernel_rfl) (by kernel_rfl) (fun _ _ _ h => (HNP _ _ _ h).elim) (.inl ⟨by rfl, fun W hW => by go_simp⟩) hS ?_
  simp only [Act.put, List.setIfInBounds_toArray, List.set_cons_succ, List.set_cons_zero]
  refine anyH_take 25 (some 125) (.bool true) rfl rfl (by kernel_rfl) (by kernel_rfl) (by kernel_rfl) (fun _ _ _ h => (HNP _ _ _ h).elim) (.inl ⟨by rfl, fun W hW => by go_simp⟩) hS ?_
  simp only [Act.put, List.setIfInBounds_toArray, List.set_cons_succ, List.set_cons_zero]
  refine anyH_take 26 (some 126) (.bool true) rfl rfl (by kernel_rfl) (by kernel_rfl) (by kernel_rfl) (fun _ _ _ h => (HNP _ _ _ h).elim) (.inl ⟨by rfl, fun W hW => by go_simp⟩) hS ?_
  simp only [Act.put, List.setIfInBounds_toArray, List.set_cons_succ, List.set_cons_zero]
  refine anyH_take 27 (some 127) (.pointer (some ⟨P18, 0, none⟩)) rfl rfl (by kernel_rfl) (by kernel_rfl) (by kernel_rfl) (fun _ _ _ h => (HNP _ _ _ h).elim) (.inl ⟨by rfl, fun W hW => by go_simp⟩) hS ?_
  simp only [Act.put, List.setIfInBounds_toArray, List.set_cons_succ, List.set_cons_zero]
  refine anyH_take 28 (some 128) (.int .u8 2) rfl rfl (by kernel_rfl) (by kernel_rfl) (by kernel_rfl) (fun _ _ _ h => (HNP _ _ _ h).elim) (.inl ⟨by rfl, fun W hW => by have hh : New w0 W := hW; have q := hh.cell f0 id; go_simp⟩) hS ?_
  simp only [Act.put, List.setIfInBounds_toArray, List.set_cons_succ, List.set_cons_zero]
  refine anyH_take 29 (some 129) (.bool true) rfl rfl (by kernel_rfl) (by kernel_rfl) (by kernel_rfl) (fun _ _ _ h => (HNP _ _ _ h).elim) (.inl ⟨by rfl, fun W hW => by go_simp⟩) hS ?_
  simp only [Act.put, List.setIfInBounds_toArray, List.set_cons_succ, List.set_cons_zero]
  refine anyH_take 30 (some 130) (.bool true) rfl rfl (by kernel_rfl) (by kernel_rfl) (by kernel_rfl) (fun _ _ _ h => (HNP _ _ _ h).elim) (.inl ⟨by rfl, fun W hW => by go_simp⟩) hS ?_
  simp only [Act.put, List.setIfInBounds_toArray, List.set_cons_succ, List.set_cons_zero]
  refine anyH_take 31 (some 131) (.bool true) rfl rfl (by kernel_rfl) (by kernel_rfl) (by kernel_rfl) (fun _ _ _ h => (HNP _ _ _ h).elim) (.inl ⟨by rfl, fun W hW => by go_simp⟩) hS ?_
  simp only [Act.put, List.setIfInBounds_toArray, List.set_cons_succ, List.set_cons_zero]
  refine anyH_take 32 (some 132) (.pointer (some ⟨P17, 0, none⟩)) rfl rfl (by kernel_rfl) (by kernel_rfl) (by kernel_rfl) (fun _ _ _ h => (HNP _ _ _ h).elim) (.inl ⟨by rfl, fun W hW => by go_simp⟩) hS ?_
  simp only [Act.put, List.setIfInBounds_toArray, List.set_cons_succ, List.set_cons_zero]
  refine anyH_take 33 (some 133) (.int .i64 3) rfl rfl (by kernel_rfl) (by kernel_rfl) (by kernel_rfl) (fun _ _ _ h => (HNP _ _ _ h).elim) (.inl ⟨by rfl, fun W hW => by have hh : New w0 W := hW; have q := hh.cell e0 id; go_simp⟩) hS ?_
  simp only [Act.put, List.setIfInBounds_toArray, List.set_cons_succ, List.set_cons_zero]
  exact pk13b _ rfl w0 _ _ (by kernel_rfl) rfl rfl rfl rfl rfl rfl rfl rfl rfl rfl rfl rfl rfl rfl rfl rfl rfl rfl rfl hS a0 a1 b0 b1 c0 d0 d1 d2 e0 e1 f0 g1 h0 i0 HA HB HNP HQ
set_option maxHeartbeats 4000000 in
set_option maxRecDepth 100000 in
theorem pk13 (t : Array Value) (hs : t.size = 188) (w : World) {P1 P5 P7 P16 P17 P18 P22 P25 P27 ac bc dc : Nat} {aa ba da : Option Addr}
    (hq1 : t.getD 1 undef = .pointer (some ⟨P1, 0, none⟩))
    (hq2 : t.getD 2 undef = .int .u8 1)
    (hq5 : t.getD 5 undef = .pointer (some ⟨P5, 0, none⟩))
    (hq6 : t.getD 6 undef = .int .u8 1)
    (hq7 : t.getD 7 undef = .pointer (some ⟨P7, 0, none⟩))
    (hq10 : t.getD 10 undef = .int .u8 0)
    (hq16 : t.getD 16 undef = .pointer (some ⟨P16, 0, none⟩))
    (hq17 : t.getD 17 undef = .pointer (some ⟨P17, 0, none⟩))
    (hq18 : t.getD 18 undef = .pointer (some ⟨P18, 0, none⟩))
    (hq19 : t.getD 19 undef = .bool true)
    (hq21 : t.getD 21 undef = .int .u8 2)
    (hq22 : t.getD 22 undef = .pointer (some ⟨P22, 0, none⟩))
    (hq25 : t.getD 25 undef = .pointer (some ⟨P25, 0, none⟩))
    (hq26 : t.getD 26 undef = .bool false)
    (hq27 : t.getD 27 undef = .pointer (some ⟨P27, 0, none⟩))
    (hq28 : t.getD 28 undef = .bool true)
    (hq29 : t.getD 29 undef = .bool true)
    (a0 : w.cell? ⟨P1, 0, none⟩ = some (.int .i64 0)) (a1 : w.cell? ⟨P1, 1, none⟩ = some (.slice aa 1 ac)) (b0 : w.cell? ⟨P5, 0, none⟩ = some (.int .i64 0)) (b1 : w.cell? ⟨P5, 1, none⟩ = some (.slice ba 1 bc)) (c0 : w.cell? ⟨P7, 0, none⟩ = some (.int .u8 2)) (d0 : w.cell? ⟨P16, 0, none⟩ = some (.bool true)) (d1 : w.cell? ⟨P16, 1, none⟩ = some (.int .i64 0)) (d2 : w.cell? ⟨P16, 2, none⟩ = some (.int .u32 1)) (e0 : w.cell? ⟨P17, 0, none⟩ = some (.int .i64 3)) (e1 : w.cell? ⟨P17, 1, none⟩ = some (.slice da 0 dc)) (f0 : w.cell? ⟨P18, 0, none⟩ = some (.int .u8 2)) (g1 : w.cell? ⟨P22, 1, none⟩ = some (.bool true)) (h0 : w.cell? ⟨P25, 0, none⟩ = some (.int .u8 3)) (i0 : w.cell? ⟨P27, 0, none⟩ = some (.int .u8 2))
    (HA : Hid (RdW w (.slice aa 1 ac) pwA)) (HB : Hid (RdW w (.slice ba 1 bc) pwB)) :
    reg_causeylaw24_wakes_10.wp Tryz.prog (Only fun a' W' => (a'.tmps.size = 188 ∧ a'.defers = [] ∧ a'.tmps.getD 0 undef = .bool true) ∧ New w W') ⟨t, []⟩ w := by
  have hd : New w w.drew := (Mods.refl _ _).drew
  conv => arg 2; whnf
  refine wp_region_held (S := fun W => New w.drew W) (by kernel_rfl) ?_
  exact pk13a t hs w.drew w.drew _ (by kernel_rfl) hq1 hq2 hq5 hq6 hq7 hq10 hq16 hq17 hq18 hq19 hq21 hq22 hq25 hq26 hq27 hq28 hq29 (Mods.refl _ _) a0 a1 b0 b1 c0 d0 d1 d2 e0 e1 f0 g1 h0 i0 (Lib.hid (HA.out.new hd)) (Lib.hid (HB.out.new hd)) (fun _ _ _ h => h) (fun a' W' h1 h2 h3 h4 => ⟨⟨h1, h2, h3⟩, hd.trans h4⟩)
end Go.Proofs.YtkiiameibdhdfaaGreatDoor
