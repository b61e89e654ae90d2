/- An order, looked for. -/
import Derived.Test.YtkjloeefcaadlaaP20
set_option linter.unusedSimpArgs false
set_option linter.unusedVariables false
namespace Go.Proofs.Ytkjloeefcaadlaa
open Go.RowKit Go.Shelf Go.Cs
attribute [local go_sem] Oper.semAt_some
theorem run_eql_answer' {o : Oper} {a : Act} {w : World} (x y : Operand) (ho : o.op = .binOp .eql 89 x y 89) (s s' : Int) (b b' : Bool) (hx : a.eval x = .agg (aCs s b).toArray) (hy : a.eval y = .agg (aCs s' b').toArray) {e : Bool} (he : (s == s' && b == b') = e) :
    (execOp a.eval o).run Try.prog w = .ok (.value (.bool e)) w := by rw [← he]; exact run_eql_answer x y ho s s' b b' hx hy
def FromAt (hh : Value) (H : List Mo) (tw f : Nat) : Prop := ∀ (x left : Nat) (w : World), ReadsF w hh H.length 8 (mosF H) → x < 18446744073709551616 → left < 256 → cnt left < f →
  Calls Try.prog 107 #[.agg #[hh, .int .u64 tw], .int .u64 x, .int .u8 left] w fun e w' => e = .returned (.bool (fromM DS H tw f x left)) ∧ New w w'
set_option maxRecDepth 100000 in
set_option maxHeartbeats 8000000 in
theorem from_step (hh : Value) (H : List Mo) (tw f : Nat) (h8 : H.length ≤ 8) (hin : InH H) (hI : FromAt hh H tw f) : FromAt hh H tw (f + 1) := by
  intro x0 left w hv hx0 hl hcnt
  have HI := Lib.hid hI
  have Hin := Lib.hid hin
  have HV := Lib.hid hv
  have HX0 := Lib.hid hx0
  clear hI hin hx0
  have hN0 := Lib.hid (show New w (w.alloc (.cells #[hh, .int .u64 tw] 146)) from (Mods.refl _ _).alloc _)
  have hB0 : Hid (SB (w.alloc (.cells #[hh, .int .u64 tw] 146)) w.heap.size hh tw) := Lib.hid (World.alloc_heap_new w _)
  have HO := Lib.hid (over_S hh H tw left _ (hv.new hN0.out) h8 hl)
  obtain ⟨_, ao, cap, rfl, _⟩ := hv
  obtain ⟨r, hr⟩ : ∃ r, fromM DS H tw (f + 1) x0 left = r := ⟨_, rfl⟩
  have Hr := Lib.hid hr
  rw [hr]
  obtain ⟨ov, hov⟩ : ∃ ov, overM H left = ov := ⟨_, rfl⟩
  rw [hov] at HO
  have Hov := Lib.hid hov
  obtain ⟨n, hn⟩ : ∃ n, H.length = n := ⟨_, rfl⟩
  have Hn := Lib.hid hn
  have HW := Lib.hid fun i (hi : i < H.length) W (hW : New w W) => waits_S (.slice ao H.length cap) H tw i left W (HV.out.new hW) h8 hl hi
  rw [hn] at HV h8 HO HW HI hB0 hN0 ⊢
  clear hr hn hov
  have hsv : (w.alloc (.cells #[.slice ao n cap, .int .u64 tw] 146)).heap[w.heap.size]? = some (.cells #[.slice ao n cap, .int .u64 tw] 146 (0, 0)) := hB0.out
  have hgo : (ov = true ∧ x0 = tw) ∨ ((decide (x0 = tw) && ov) = false) := by
    by_cases h : x0 = tw
    · cases ov with
      | true => exact .inl ⟨rfl, h⟩
      | false => right; simp
    · right; simp [h]
  rcases hgo with ⟨rfl, h⟩ | hgo
  · have f1 : ((x0 : Int) == (tw : Int)) = true := by rw [h]; simp
    have hrf : Hid (r = true) := Lib.hid (by rw [← Hr.out, fromM_succ, Hov.out, decide_eq_true h]; rfl)
    clear h
    go_enter Try.func107, Try.ntmps107
    go_wp2_with (refine op_value_g (by rfl) (run_load_row 146 (.tmp 3) rfl w.heap.size rfl 146 #[.slice ao n cap, .int .u64 tw] (0, 0) _ hsv Try.underlying146 rfl info146) ?_)
    refine HO.out.mono ?_
    rintro e w1 ⟨rfl, hN1⟩
    have HN1 := Lib.hid (hN0.out.trans hN1)
    clear hN1
    go_wp2_with fail
    go_ret
    exact ⟨by rw [hrf.out]; rfl, HN1.out⟩
  have Hgo := Lib.hid hgo
  have hfin : (∀ q, q < n → cand H tw f x0 left q = false) → r = false := fun h => by
    rw [← Hr.out, fromM_succ, Hov.out, Hgo.out, Bool.false_or, List.any_eq_false]
    intro q hq
    rw [h q (by have := List.mem_range.1 hq; rw [Hn.out] at this; exact this)]
    simp
  have Hfin := Lib.hid hfin
  have hyes : ∀ q, q < n → cand H tw f x0 left q = true → Hid (r = true) := fun q hq h => Lib.hid (by
    rw [← Hr.out, fromM_succ, Bool.or_eq_true]
    right
    rw [List.any_eq_true]
    exact ⟨q, List.mem_range.2 (by rw [Hn.out]; exact hq), h⟩)
  have Hyes0 := Lib.hid hyes
  clear hfin hyes
  have hcase : x0 = tw ∨ ((x0 : Int) == (tw : Int)) = false := by
    by_cases h : x0 = tw
    · exact .inl h
    · right; simp; omega
  go_enter Try.func107, Try.ntmps107
  rcases hcase with h | f1
  case' inl =>
    have hov : ov = false := by rw [decide_eq_true h, Bool.true_and] at hgo; exact hgo
    subst hov
    have f1 : ((x0 : Int) == (tw : Int)) = true := by rw [h]; simp
    clear h hgo
    go_wp2_with (refine op_value_g (by rfl) (run_load_row 146 (.tmp 3) rfl w.heap.size rfl 146 #[.slice ao n cap, .int .u64 tw] (0, 0) _ hsv Try.underlying146 rfl info146) ?_)
    refine HO.out.mono ?_
    rintro e W0 ⟨rfl, hN1⟩
    have HN0 := Lib.hid (hN0.out.trans hN1)
    have HB0 : Hid (SB W0 w.heap.size (.slice ao n cap) tw) := Lib.hid (hN1.heap hB0.out id)
    have c0 := HB0.out.c0
    clear hN1 hsv hN0 hB0
    go_wp2_with fail
  case' inr =>
    obtain ⟨W0, hW0⟩ : ∃ W0, w.alloc (.cells #[.slice ao n cap, .int .u64 tw] 146) = W0 := ⟨_, rfl⟩
    have HN0 := hN0
    have HB0 := hB0
    rw [hW0] at HN0 HB0
    have c0 := HB0.out.c0
    have c1 := HB0.out.c1
    clear hN0 hB0 hsv HO hgo
    go_wp2_with fail
    clear c1 hW0
  all_goals
    go_loopw [23] (fun c wr => ∃ k : Nat, k ≤ n ∧ c = .int .i64 k ∧ Hid (∀ q, q < k → cand H tw f x0 left q = false) ∧ Hid (SB wr w.heap.size (.slice ao n cap) tw) ∧ Hid (New w wr)) (fun c _ => n - (intOf c).toNat)
    case atStart => exact ⟨0, Nat.zero_le _, rfl, Lib.hid (fun i hi => by omega), HB0, HN0⟩
    case round =>
      obtain ⟨k, hk, rfl, hbef, hB, hN⟩ := hrel
      clear c0 HB0 HN0
      by_cases hkn : k < n
      · have hkd : decide ((k : Int) < (n : Int)) = true := decide_eq_true (by omega)
        have k0 : (0 : Int) ≤ (k : Int) := by omega
        have k1 : (k : Int) < (n : Int) := by omega
        have k8 : (k : Int) < 8 := by omega
        obtain ⟨_, q1, q2, he, hc⟩ := HV.out
        cases he
        obtain ⟨b, o, rfl, hra⟩ := hc k hkn
        obtain ⟨x, hx⟩ : ∃ x, H.getD k .no = x := ⟨_, rfl⟩
        unfold mosF at hra
        rw [hx] at hra
        have Hx := Lib.hid hx
        replace hra : wr.rangeAt b (o + k * 8) x.cs := fun j v hv => hN.out.cell (hra j v hv) id
        have hone := mo_one x
        have hNa1 : New wr (wr.alloc (.cells x.cs.toArray 95)) := (Mods.refl _ wr).alloc (.cells x.cs.toArray 95)
        have hNa := Lib.hid (hN.out.trans hNa1)
        have hBa : Hid (SB (wr.alloc (.cells x.cs.toArray 95)) w.heap.size (.slice (some ⟨b, o, none⟩) n cap) tw) := Lib.hid (hNa1.heap hB.out id)
        have hE := World.alloc_heap_new wr (.cells x.cs.toArray 95)
        have hDin := Lib.hid (show InD x.deed by rw [← Hx.out]; exact Hin.out k (by rw [Hn.out]; exact hkn))
        clear hx hc hNa1
        go_upto_region 5 with fail
        go_upto_region 6 with (first | (refine op_value rfl (run_load_mid 95 (.tmp 26) rfl b (o + k * 8) rfl x.cs _ hra Try.underlying95 rfl info95) ?_) | (refine op_skip rfl (run_store_new 95 (.tmp 8) (.tmp 27) rfl 95 [.int .i64 0, .int .u8 0, .int .i64 0, .int .i64 0, .int .i64 0, .int .i64 0, .int .i64 0, .bool false] x.cs rfl rfl info95 rfl hone) ?_))
        obtain ⟨E, hEE⟩ : ∃ E, wr.heap.size = E := ⟨_, rfl⟩
        obtain ⟨W, hW⟩ : ∃ W, wr.alloc (.cells x.cs.toArray 95) = W := ⟨_, rfl⟩
        rw [hW] at hE hNa hBa ⊢
        rw [hEE] at hE ⊢
        clear hW hEE hra hone hB hN
        have hsb : W.heap[w.heap.size]? = some (.cells #[.slice (some ⟨b, o, none⟩) n cap, .int .u64 tw] 146 (0, 0)) := hBa.out
        have Hnext : Hid (cand H tw f x0 left k = false → Hid (∀ q, q < k + 1 → cand H tw f x0 left q = false)) := Lib.hid (fun h => Lib.hid (fun q hq => by
          by_cases hik : q < k
          · exact hbef.out q hik
          · obtain rfl : q = k := by omega
            exact h))
        have Hyes := Lib.hid (Hyes0.out k hkn)
        cases hb : bit left k with
        | false =>
          have hbb := bits_none hl (by omega : k < 8) hb
          have hnx := Hnext.out (by unfold cand; rw [hb]; rfl)
          clear hb
          go_wp2_with fail
          go_roundw
          case rel => exact ⟨k + 1, by omega, by go_num, hnx, hBa, hNa⟩
          case measure => simp [intOf]; omega
        | true =>
          have hbb := bits_one hl (by omega : k < 8) hb
          have Hbit := Lib.hid hb
          clear hb
          have HWk := Lib.hid (HW.out k hkn W hNa.out)
          obtain ⟨wt, hwt⟩ : ∃ wt, waitsM H k left = wt := ⟨_, rfl⟩
          rw [hwt] at HWk
          have Hwt := Lib.hid hwt
          clear hwt
          go_wp2_with (refine op_value_g (by rfl) (run_load_row 146 (.tmp 3) rfl w.heap.size rfl 146 #[.slice (some ⟨b, o, none⟩) n cap, .int .u64 tw] (0, 0) _ hsb Try.underlying146 rfl info146) ?_)
          refine HWk.out.mono ?_
          rintro e w1 ⟨rfl, hN1⟩
          have HN1 := Lib.hid (hNa.out.trans hN1)
          have HB1 : Hid (SB w1 w.heap.size (.slice (some ⟨b, o, none⟩) n cap) tw) := Lib.hid (hN1.heap hBa.out id)
          have hE1 := hN1.heap hE id
          clear hN1 hE hsb
          cases wt with
          | true =>
            have hnx := Hnext.out (by unfold cand; rw [Hbit.out, Hwt.out]; rfl)
            clear hE1
            go_wp2_with fail
            go_roundw
            case rel => exact ⟨k + 1, by omega, by go_num, hnx, HB1, HN1⟩
            case measure => simp [intOf]; omega
          | false =>
            have hed : w1.rangeAt E 1 x.deed.cs := fun j v hv => by
              rw [cell_of_row _ _ _ _ _ _ hE1]
              match j, hv with
              | 0, hv => exact hv
              | 1, hv => exact hv
              | 2, hv => exact hv
            have HD := Lib.hid (does_S x0 x.deed.d x.deed.s x.deed.u HX0.out hDin.out.1.1 hDin.out.1.2 hDin.out.2.1 hDin.out.2.2)
            obtain ⟨⟨y, sl, ok⟩, hy⟩ : ∃ y, DS x0 x.deed = y := ⟨_, rfl⟩
            have hy' : doesS x0 x.deed.d x.deed.s x.deed.u = (y, sl, ok) := hy
            rw [hy'] at HD
            have Hy := Lib.hid hy
            clear hy hy' hbb
            go_upto_region 7 with fail
            go_wp2_with (refine op_value rfl (run_load_mid 93 (.tmp 41) rfl E 1 rfl x.deed.cs _ hed Try.underlying93 rfl info93) ?_)
            refine (HD.out _).mono ?_
            rintro e w2 ⟨rfl, hN2⟩
            have hA := World.alloc_heap_new w2 (.cells (aCs (sl : Nat) ok).toArray 89)
            have hNA : New w2 (w2.alloc (.cells (aCs (sl : Nat) ok).toArray 89)) := (Mods.refl _ _).alloc _
            have hN3 := Lib.hid ((HN1.out.trans hN2).trans hNA)
            have hE3 := hNA.heap (hN2.heap hE1 id) id
            have hB3 : Hid (SB (w2.alloc (.cells (aCs (sl : Nat) ok).toArray 89)) w.heap.size (.slice (some ⟨b, o, none⟩) n cap) tw) := Lib.hid (hNA.heap (hN2.heap HB1.out id) id)
            unfold ansV
            clear hed hE1 hN2 hNA HD HWk
            go_upto_region 8 with (refine op_skip rfl (run_store_new 89 (.tmp 10) (.tmp 45) rfl 89 [.int .i64 0, .bool false] (aCs (sl : Nat) ok) rfl rfl info89 rfl (by simp [Value.oneCell', aCs])) ?_)
            obtain ⟨A, hAA⟩ : ∃ A, w2.heap.size = A := ⟨_, rfl⟩
            obtain ⟨W3, hW3⟩ : ∃ W, w2.alloc (.cells (aCs (sl : Nat) ok).toArray 89) = W := ⟨_, rfl⟩
            rw [hW3] at hA hN3 hE3 hB3 ⊢
            rw [hAA] at hA ⊢
            have hA3 := hA
            have e5 : W3.cell? ⟨E, 5, none⟩ = some (.int .i64 x.en) := by rw [cell_of_row _ _ _ _ _ _ hE3]; rfl
            have hE63 : W3.rangeAt E 6 (aCs x.slot x.ok) := fun j v hv => by
              rw [cell_of_row _ _ _ _ _ _ hE3]
              match j, hv with
              | 0, hv => exact hv
              | 1, hv => exact hv
            have hcl : cnt (left - 2 ^ k) < f := by
              have := cnt_fin ⟨left, hl⟩ ⟨k, by omega⟩ Hbit.out
              dsimp only at this
              omega
            have hyl : y < 18446744073709551616 := by
              have := DS_lt (w := x0) x.deed HX0.out
              rw [Hy.out] at this
              exact this
            have HC : Hid (∀ W : World, New W3 W → Calls Try.prog 107 #[.agg #[.slice (some ⟨b, o, none⟩) n cap, .int .u64 tw], .int .u64 (y : Nat), .int .u8 ((left - 2 ^ k : Nat) : Int)] W fun e w' => e = .returned (.bool (fromM DS H tw f y (left - 2 ^ k))) ∧ New W w') := Lib.hid (fun W hW => HI.out y (left - 2 ^ k) _ (by rw [Hn.out]; exact HV.out.new (hN3.out.trans hW)) hyl (Nat.lt_of_le_of_lt (Nat.sub_le _ _) hl) hcl)
            obtain ⟨c, hc⟩ : ∃ c, fromM DS H tw f y (left - 2 ^ k) = c := ⟨_, rfl⟩
            rw [hc] at HC
            have Hc := Lib.hid hc
            have Hcand : Hid (cand H tw f x0 left k = (ansM (y, sl, ok) x && c)) := Lib.hid (by unfold cand; rw [Hbit.out, Hwt.out, Hx.out, Hy.out, Hc.out]; rfl)
            clear hA hE3 hW3 hAA hc hcl hyl HN1 HB1
            simp only [Act.put]
            by_cases hen : x.en = -1
            · have f5 : (x.en == -1) = true := by simpa using hen
              have Hans : Hid (ansM (y, sl, ok) x = true) := Lib.hid (by unfold ansM; rw [decide_eq_true hen]; rfl)
              clear hen
              refine piece (fun a a' W' => a' = (a.put (some 46) (.pointer (some ⟨E, 5, none⟩)) |>.put (some 47) (.int .i64 x.en) |>.put (some 48) (.bool true) |>.put (some 49) (.bool true) |>.put (some 50) (undef) |>.put (some 51) (undef) |>.put (some 52) (undef) |>.put (some 53) (undef) |>.put (some 54) (.bool true) |>.put (some 55) (.bool true) |>.put (some 56) (.agg #[.slice (some ⟨b, o, none⟩) n cap, .int .u64 tw]) |>.put (some 57) (.int .u64 (y : Nat)) |>.put (some 58) (.int .u8 (left : Nat)) |>.put (some 59) (.int .i64 (k : Nat)) |>.put (some 60) (.int .u8 ((2 ^ k : Nat) : Int)) |>.put (some 61) (.int .u8 ((left - 2 ^ k : Nat) : Int)) |>.put (some 62) (.bool c) |>.put (some 63) (.bool c)) ∧ New W3 W') ?_ ?_
              · refine (wpIn_wide (n := 0)).1 ?_
                refine wpIn_region_any (by kernel_rfl) ?_
                show wpAnyIn _ _ _ _ _ _ _ _ _ W3.drew
                have hNd : New W3 W3.drew := (Mods.refl _ W3).drew
                have e5 := hNd.cell e5 id
                have hA := hNd.heap hA3 id
                have hBd := hNd.heap (show W3.heap[w.heap.size]? = some (.cells #[.slice (some ⟨b, o, none⟩) n cap, .int .u64 tw] 146 (0, 0)) from hB3.out) id
                have hE6 : W3.drew.rangeAt E 6 (aCs x.slot x.ok) := fun q v hv => hNd.cell (hE63 q v hv) id
                obtain ⟨Wd, hWd⟩ : ∃ Wd, W3.drew = Wd := ⟨_, rfl⟩
                rw [hWd] at hNd e5 hA hBd hE6 ⊢
                clear hWd
                refine any_take 0 (some 46) (.pointer (some ⟨E, 5, none⟩)) rfl rfl (by kernel_rfl) (by kernel_rfl) (by kernel_rfl) (fun _ _ _ h => h.elim) (.value rfl fun w => by go_simp) ?_
                simp only [Act.put, List.setIfInBounds_toArray, List.set_cons_succ, List.set_cons_zero]
                refine wpAnyIn_all (rs := [1]) (by kernel_rfl) (by simp) ?_
                simp only [List.mem_cons, List.not_mem_nil, or_false, forall_eq_or_imp, forall_eq]
                refine opIn_value (some 47) (v := .int .i64 x.en) (w' := Wd) rfl rfl rfl rfl (by go_simp) ?_
                simp only [Act.put, List.setIfInBounds_toArray, List.set_cons_succ, List.set_cons_zero]
                refine any_take 2 (some 48) (.bool true) rfl rfl (by kernel_rfl) (by kernel_rfl) (by kernel_rfl) (fun _ _ _ h => h.elim) (.value rfl fun w => by go_simp) ?_
                simp only [Act.put, List.setIfInBounds_toArray, List.set_cons_succ, List.set_cons_zero]
                refine any_take 3 (some 49) (.bool true) rfl rfl (by kernel_rfl) (by kernel_rfl) (by kernel_rfl) (fun _ _ _ h => h.elim) (.value rfl fun w => by go_simp) ?_
                simp only [Act.put, List.setIfInBounds_toArray, List.set_cons_succ, List.set_cons_zero]
                refine any_take 4 (some 50) (undef) rfl rfl (by kernel_rfl) (by kernel_rfl) (by kernel_rfl) (fun _ _ _ h => h.elim) (Sure.skip (by rfl)) ?_
                simp only [Act.put, List.setIfInBounds_toArray, List.set_cons_succ, List.set_cons_zero]
                refine any_take 5 (some 51) (undef) rfl rfl (by kernel_rfl) (by kernel_rfl) (by kernel_rfl) (fun _ _ _ h => h.elim) (Sure.skip (by rfl)) ?_
                simp only [Act.put, List.setIfInBounds_toArray, List.set_cons_succ, List.set_cons_zero]
                refine any_take 6 (some 52) (undef) rfl rfl (by kernel_rfl) (by kernel_rfl) (by kernel_rfl) (fun _ _ _ h => h.elim) (Sure.skip (by rfl)) ?_
                simp only [Act.put, List.setIfInBounds_toArray, List.set_cons_succ, List.set_cons_zero]
                refine any_take 7 (some 53) (undef) rfl rfl (by kernel_rfl) (by kernel_rfl) (by kernel_rfl) (fun _ _ _ h => h.elim) (Sure.skip (by rfl)) ?_
                simp only [Act.put, List.setIfInBounds_toArray, List.set_cons_succ, List.set_cons_zero]
                refine any_take 8 (some 54) (.bool true) rfl rfl (by kernel_rfl) (by kernel_rfl) (by kernel_rfl) (fun _ _ _ h => h.elim) (.value rfl fun w => by go_simp) ?_
                simp only [Act.put, List.setIfInBounds_toArray, List.set_cons_succ, List.set_cons_zero]
                refine any_take 9 (some 55) (.bool true) rfl rfl (by kernel_rfl) (by kernel_rfl) (by kernel_rfl) (fun _ _ _ h => h.elim) (.value rfl fun w => by go_simp) ?_
                simp only [Act.put, List.setIfInBounds_toArray, List.set_cons_succ, List.set_cons_zero]
                refine any_take 11 (some 57) (.int .u64 (y : Nat)) rfl rfl (by kernel_rfl) (by kernel_rfl) (by kernel_rfl) (fun _ _ _ h => h.elim) (Sure.want (by rfl) fun w => by go_simp) ?_
                simp only [Act.put, List.setIfInBounds_toArray, List.set_cons_succ, List.set_cons_zero]
                refine any_take 12 (some 58) (.int .u8 (left : Nat)) rfl rfl (by kernel_rfl) (by kernel_rfl) (by kernel_rfl) (fun _ _ _ h => h.elim) (Sure.want (by rfl) fun w => by go_simp) ?_
                simp only [Act.put, List.setIfInBounds_toArray, List.set_cons_succ, List.set_cons_zero]
                refine any_take 13 (some 59) (.int .i64 (k : Nat)) rfl rfl (by kernel_rfl) (by kernel_rfl) (by kernel_rfl) (fun _ _ _ h => h.elim) (Sure.want (by rfl) fun w => by go_simp) ?_
                simp only [Act.put, List.setIfInBounds_toArray, List.set_cons_succ, List.set_cons_zero]
                refine any_take 14 (some 60) (.int .u8 ((2 ^ k : Nat) : Int)) rfl rfl (by kernel_rfl) (by kernel_rfl) (by kernel_rfl) (fun _ _ _ h => h.elim) (Sure.want (by rfl) fun w => run_shl8 (.tmp 59) rfl k (by omega) rfl) ?_
                simp only [Act.put, List.setIfInBounds_toArray, List.set_cons_succ, List.set_cons_zero]
                refine any_take 15 (some 61) (.int .u8 ((left - 2 ^ k : Nat) : Int)) rfl rfl (by kernel_rfl) (by kernel_rfl) (by kernel_rfl) (fun _ _ _ h => h.elim) (Sure.want (by rfl) fun w => run_andNot8 (.tmp 58) (.tmp 60) rfl left k hl (by omega) Hbit.out rfl rfl) ?_
                simp only [Act.put, List.setIfInBounds_toArray, List.set_cons_succ, List.set_cons_zero]
                refine wpAnyIn_all (rs := [10]) (by kernel_rfl) (by simp) ?_
                simp only [List.mem_cons, List.not_mem_nil, or_false, forall_eq_or_imp, forall_eq]
                refine opIn_valueg (some 56) (v := .agg #[.slice (some ⟨b, o, none⟩) n cap, .int .u64 tw]) (w' := Wd) rfl rfl (by rfl) rfl (run_load_row 146 (.tmp 3) rfl w.heap.size rfl 146 #[.slice (some ⟨b, o, none⟩) n cap, .int .u64 tw] (0, 0) _ hBd Try.underlying146 rfl info146) ?_
                simp only [Act.put, List.setIfInBounds_toArray, List.set_cons_succ, List.set_cons_zero]
                refine wpAnyIn_all (rs := [16]) (by kernel_rfl) (by simp) ?_
                simp only [List.mem_cons, List.not_mem_nil, or_false, forall_eq_or_imp, forall_eq]
                refine opIn_callg (some 62) rfl rfl (by rfl) rfl 107 #[.agg #[.slice (some ⟨b, o, none⟩) n cap, .int .u64 tw], .int .u64 (y : Nat), .int .u8 ((left - 2 ^ k : Nat) : Int)] (by go_simp) ((HC.out _ hNd).mono ?_)
                rintro e W2 ⟨rfl, hN2⟩
                refine ⟨_, rfl, ?_⟩
                simp only [Act.put, List.setIfInBounds_toArray, List.set_cons_succ, List.set_cons_zero]
                refine any_take 17 (some 63) (.bool c) rfl rfl (by kernel_rfl) (by kernel_rfl) (by kernel_rfl) (fun _ _ _ h => h.elim) (.value rfl fun w => by go_simp) ?_
                simp only [Act.put, List.setIfInBounds_toArray, List.set_cons_succ, List.set_cons_zero]
                refine wpAnyIn_done (by kernel_rfl) ?_ _
                exact ⟨rfl, hNd.trans hN2⟩
              rintro a' W' ⟨rfl, hN4⟩
              simp only [Act.put, List.setIfInBounds_toArray, List.set_cons_succ, List.set_cons_zero]
              cases c with
              | true =>
                have HN4 := Lib.hid (hN3.out.trans hN4)
                have HB4 : Hid (SB W' w.heap.size (.slice (some ⟨b, o, none⟩) n cap) tw) := Lib.hid (hN4.heap hB3.out id)
                clear hN4
                have hrf : Hid (r = true) := Hyes.out (by rw [Hcand.out, Hans.out]; rfl)
                go_wp2_with fail
                go_ret
                exact ⟨by rw [hrf.out]; rfl, HN4.out⟩
              | false =>
                have HN4 := Lib.hid (hN3.out.trans hN4)
                have HB4 : Hid (SB W' w.heap.size (.slice (some ⟨b, o, none⟩) n cap) tw) := Lib.hid (hN4.heap hB3.out id)
                clear hN4
                have hnx := Hnext.out (by rw [Hcand.out, Hans.out]; rfl)
                go_wp2_with fail
                go_roundw
                case rel => exact ⟨k + 1, by omega, by go_num, hnx, HB4, HN4⟩
                case measure => simp [intOf]; omega
            · have f5 : (x.en == -1) = false := by simpa using hen
              have Hen := Lib.hid hen
              clear hen
              obtain ⟨an, han⟩ : ∃ an, (((sl : Nat) : Int) == x.slot && ok == x.ok) = an := ⟨_, rfl⟩
              have Hans := Lib.hid han
              have Han : Hid (ansM (y, sl, ok) x = an) := Lib.hid (by
                unfold ansM
                rw [decide_eq_false Hen.out, ← Hans.out, Bool.false_or]
                rfl)
              clear han
              cases an with
              | true =>
                refine piece (fun a a' W' => a' = (a.put (some 46) (.pointer (some ⟨E, 5, none⟩)) |>.put (some 47) (.int .i64 x.en) |>.put (some 48) (.bool false) |>.put (some 49) (.bool false) |>.put (some 50) (.agg (aCs (sl : Nat) ok).toArray) |>.put (some 51) (.pointer (some ⟨E, 6, none⟩)) |>.put (some 52) (.agg (aCs x.slot x.ok).toArray) |>.put (some 53) (.bool true) |>.put (some 54) (.bool true) |>.put (some 55) (.bool true) |>.put (some 56) (.agg #[.slice (some ⟨b, o, none⟩) n cap, .int .u64 tw]) |>.put (some 57) (.int .u64 (y : Nat)) |>.put (some 58) (.int .u8 (left : Nat)) |>.put (some 59) (.int .i64 (k : Nat)) |>.put (some 60) (.int .u8 ((2 ^ k : Nat) : Int)) |>.put (some 61) (.int .u8 ((left - 2 ^ k : Nat) : Int)) |>.put (some 62) (.bool c) |>.put (some 63) (.bool c)) ∧ New W3 W') ?_ ?_
                · refine (wpIn_wide (n := 0)).1 ?_
                  refine wpIn_region_any (by kernel_rfl) ?_
                  show wpAnyIn _ _ _ _ _ _ _ _ _ W3.drew
                  have hNd : New W3 W3.drew := (Mods.refl _ W3).drew
                  have e5 := hNd.cell e5 id
                  have hA := hNd.heap hA3 id
                  have hBd := hNd.heap (show W3.heap[w.heap.size]? = some (.cells #[.slice (some ⟨b, o, none⟩) n cap, .int .u64 tw] 146 (0, 0)) from hB3.out) id
                  have hE6 : W3.drew.rangeAt E 6 (aCs x.slot x.ok) := fun q v hv => hNd.cell (hE63 q v hv) id
                  obtain ⟨Wd, hWd⟩ : ∃ Wd, W3.drew = Wd := ⟨_, rfl⟩
                  rw [hWd] at hNd e5 hA hBd hE6 ⊢
                  clear hWd
                  refine any_take 0 (some 46) (.pointer (some ⟨E, 5, none⟩)) rfl rfl (by kernel_rfl) (by kernel_rfl) (by kernel_rfl) (fun _ _ _ h => h.elim) (.value rfl fun w => by go_simp) ?_
                  simp only [Act.put, List.setIfInBounds_toArray, List.set_cons_succ, List.set_cons_zero]
                  refine wpAnyIn_all (rs := [1]) (by kernel_rfl) (by simp) ?_
                  simp only [List.mem_cons, List.not_mem_nil, or_false, forall_eq_or_imp, forall_eq]
                  refine opIn_value (some 47) (v := .int .i64 x.en) (w' := Wd) rfl rfl rfl rfl (by go_simp) ?_
                  simp only [Act.put, List.setIfInBounds_toArray, List.set_cons_succ, List.set_cons_zero]
                  refine any_take 2 (some 48) (.bool false) rfl rfl (by kernel_rfl) (by kernel_rfl) (by kernel_rfl) (fun _ _ _ h => h.elim) (.value rfl fun w => by go_simp) ?_
                  simp only [Act.put, List.setIfInBounds_toArray, List.set_cons_succ, List.set_cons_zero]
                  refine any_take 3 (some 49) (.bool false) rfl rfl (by kernel_rfl) (by kernel_rfl) (by kernel_rfl) (fun _ _ _ h => h.elim) (.value rfl fun w => by go_simp) ?_
                  simp only [Act.put, List.setIfInBounds_toArray, List.set_cons_succ, List.set_cons_zero]
                  refine any_take 5 (some 51) (.pointer (some ⟨E, 6, none⟩)) rfl rfl (by kernel_rfl) (by kernel_rfl) (by kernel_rfl) (fun _ _ _ h => h.elim) (Sure.want (by rfl) fun w => by go_simp) ?_
                  simp only [Act.put, List.setIfInBounds_toArray, List.set_cons_succ, List.set_cons_zero]
                  refine wpAnyIn_all (rs := [4, 6]) (by kernel_rfl) (by simp) ?_
                  simp only [List.mem_cons, List.not_mem_nil, or_false, forall_eq_or_imp, forall_eq]
                  refine ⟨?_, ?_⟩
                  · refine opIn_valueg (some 50) (v := .agg (aCs (sl : Nat) ok).toArray) (w' := Wd) rfl rfl (by rfl) rfl (run_load_row 89 (.tmp 10) rfl A rfl 89 (aCs (sl : Nat) ok).toArray (0, 0) _ hA Try.underlying89 rfl info89) ?_
                    simp only [Act.put, List.setIfInBounds_toArray, List.set_cons_succ, List.set_cons_zero]
                    refine wpAnyIn_all (rs := [6]) (by kernel_rfl) (by simp) ?_
                    simp only [List.mem_cons, List.not_mem_nil, or_false, forall_eq_or_imp, forall_eq]
                    refine opIn_valueg (some 52) (v := .agg (aCs x.slot x.ok).toArray) (w' := Wd) rfl rfl (by rfl) rfl (run_load_mid 89 (.tmp 51) rfl E 6 rfl (aCs x.slot x.ok) _ hE6 Try.underlying89 rfl info89) ?_
                    simp only [Act.put, List.setIfInBounds_toArray, List.set_cons_succ, List.set_cons_zero]
                    refine any_take 7 (some 53) (.bool true) rfl rfl (by kernel_rfl) (by kernel_rfl) (by kernel_rfl) (fun _ _ _ h => h.elim) (Sure.want (by rfl) fun w => run_eql_answer' (.tmp 50) (.tmp 52) rfl _ _ _ _ rfl rfl Hans.out) ?_
                    simp only [Act.put, List.setIfInBounds_toArray, List.set_cons_succ, List.set_cons_zero]
                    refine any_take 8 (some 54) (.bool true) rfl rfl (by kernel_rfl) (by kernel_rfl) (by kernel_rfl) (fun _ _ _ h => h.elim) (.value rfl fun w => by go_simp) ?_
                    simp only [Act.put, List.setIfInBounds_toArray, List.set_cons_succ, List.set_cons_zero]
                    refine any_take 9 (some 55) (.bool true) rfl rfl (by kernel_rfl) (by kernel_rfl) (by kernel_rfl) (fun _ _ _ h => h.elim) (.value rfl fun w => by go_simp) ?_
                    simp only [Act.put, List.setIfInBounds_toArray, List.set_cons_succ, List.set_cons_zero]
                    refine any_take 11 (some 57) (.int .u64 (y : Nat)) rfl rfl (by kernel_rfl) (by kernel_rfl) (by kernel_rfl) (fun _ _ _ h => h.elim) (Sure.want (by rfl) fun w => by go_simp) ?_
                    simp only [Act.put, List.setIfInBounds_toArray, List.set_cons_succ, List.set_cons_zero]
                    refine any_take 12 (some 58) (.int .u8 (left : Nat)) rfl rfl (by kernel_rfl) (by kernel_rfl) (by kernel_rfl) (fun _ _ _ h => h.elim) (Sure.want (by rfl) fun w => by go_simp) ?_
                    simp only [Act.put, List.setIfInBounds_toArray, List.set_cons_succ, List.set_cons_zero]
                    refine any_take 13 (some 59) (.int .i64 (k : Nat)) rfl rfl (by kernel_rfl) (by kernel_rfl) (by kernel_rfl) (fun _ _ _ h => h.elim) (Sure.want (by rfl) fun w => by go_simp) ?_
                    simp only [Act.put, List.setIfInBounds_toArray, List.set_cons_succ, List.set_cons_zero]
                    refine any_take 14 (some 60) (.int .u8 ((2 ^ k : Nat) : Int)) rfl rfl (by kernel_rfl) (by kernel_rfl) (by kernel_rfl) (fun _ _ _ h => h.elim) (Sure.want (by rfl) fun w => run_shl8 (.tmp 59) rfl k (by omega) rfl) ?_
                    simp only [Act.put, List.setIfInBounds_toArray, List.set_cons_succ, List.set_cons_zero]
                    refine any_take 15 (some 61) (.int .u8 ((left - 2 ^ k : Nat) : Int)) rfl rfl (by kernel_rfl) (by kernel_rfl) (by kernel_rfl) (fun _ _ _ h => h.elim) (Sure.want (by rfl) fun w => run_andNot8 (.tmp 58) (.tmp 60) rfl left k hl (by omega) Hbit.out rfl rfl) ?_
                    simp only [Act.put, List.setIfInBounds_toArray, List.set_cons_succ, List.set_cons_zero]
                    refine wpAnyIn_all (rs := [10]) (by kernel_rfl) (by simp) ?_
                    simp only [List.mem_cons, List.not_mem_nil, or_false, forall_eq_or_imp, forall_eq]
                    refine opIn_valueg (some 56) (v := .agg #[.slice (some ⟨b, o, none⟩) n cap, .int .u64 tw]) (w' := Wd) rfl rfl (by rfl) rfl (run_load_row 146 (.tmp 3) rfl w.heap.size rfl 146 #[.slice (some ⟨b, o, none⟩) n cap, .int .u64 tw] (0, 0) _ hBd Try.underlying146 rfl info146) ?_
                    simp only [Act.put, List.setIfInBounds_toArray, List.set_cons_succ, List.set_cons_zero]
                    refine wpAnyIn_all (rs := [16]) (by kernel_rfl) (by simp) ?_
                    simp only [List.mem_cons, List.not_mem_nil, or_false, forall_eq_or_imp, forall_eq]
                    refine opIn_callg (some 62) rfl rfl (by rfl) rfl 107 #[.agg #[.slice (some ⟨b, o, none⟩) n cap, .int .u64 tw], .int .u64 (y : Nat), .int .u8 ((left - 2 ^ k : Nat) : Int)] (by go_simp) ((HC.out _ hNd).mono ?_)
                    rintro e W2 ⟨rfl, hN2⟩
                    refine ⟨_, rfl, ?_⟩
                    simp only [Act.put, List.setIfInBounds_toArray, List.set_cons_succ, List.set_cons_zero]
                    refine any_take 17 (some 63) (.bool c) rfl rfl (by kernel_rfl) (by kernel_rfl) (by kernel_rfl) (fun _ _ _ h => h.elim) (.value rfl fun w => by go_simp) ?_
                    simp only [Act.put, List.setIfInBounds_toArray, List.set_cons_succ, List.set_cons_zero]
                    refine wpAnyIn_done (by kernel_rfl) ?_ _
                    exact ⟨rfl, hNd.trans hN2⟩
                  · refine opIn_valueg (some 52) (v := .agg (aCs x.slot x.ok).toArray) (w' := Wd) rfl rfl (by rfl) rfl (run_load_mid 89 (.tmp 51) rfl E 6 rfl (aCs x.slot x.ok) _ hE6 Try.underlying89 rfl info89) ?_
                    simp only [Act.put, List.setIfInBounds_toArray, List.set_cons_succ, List.set_cons_zero]
                    refine wpAnyIn_all (rs := [4]) (by kernel_rfl) (by simp) ?_
                    simp only [List.mem_cons, List.not_mem_nil, or_false, forall_eq_or_imp, forall_eq]
                    refine opIn_valueg (some 50) (v := .agg (aCs (sl : Nat) ok).toArray) (w' := Wd) rfl rfl (by rfl) rfl (run_load_row 89 (.tmp 10) rfl A rfl 89 (aCs (sl : Nat) ok).toArray (0, 0) _ hA Try.underlying89 rfl info89) ?_
                    simp only [Act.put, List.setIfInBounds_toArray, List.set_cons_succ, List.set_cons_zero]
                    refine any_take 7 (some 53) (.bool true) rfl rfl (by kernel_rfl) (by kernel_rfl) (by kernel_rfl) (fun _ _ _ h => h.elim) (Sure.want (by rfl) fun w => run_eql_answer' (.tmp 50) (.tmp 52) rfl _ _ _ _ rfl rfl Hans.out) ?_
                    simp only [Act.put, List.setIfInBounds_toArray, List.set_cons_succ, List.set_cons_zero]
                    refine any_take 8 (some 54) (.bool true) rfl rfl (by kernel_rfl) (by kernel_rfl) (by kernel_rfl) (fun _ _ _ h => h.elim) (.value rfl fun w => by go_simp) ?_
                    simp only [Act.put, List.setIfInBounds_toArray, List.set_cons_succ, List.set_cons_zero]
                    refine any_take 9 (some 55) (.bool true) rfl rfl (by kernel_rfl) (by kernel_rfl) (by kernel_rfl) (fun _ _ _ h => h.elim) (.value rfl fun w => by go_simp) ?_
                    simp only [Act.put, List.setIfInBounds_toArray, List.set_cons_succ, List.set_cons_zero]
                    refine any_take 11 (some 57) (.int .u64 (y : Nat)) rfl rfl (by kernel_rfl) (by kernel_rfl) (by kernel_rfl) (fun _ _ _ h => h.elim) (Sure.want (by rfl) fun w => by go_simp) ?_
                    simp only [Act.put, List.setIfInBounds_toArray, List.set_cons_succ, List.set_cons_zero]
                    refine any_take 12 (some 58) (.int .u8 (left : Nat)) rfl rfl (by kernel_rfl) (by kernel_rfl) (by kernel_rfl) (fun _ _ _ h => h.elim) (Sure.want (by rfl) fun w => by go_simp) ?_
                    simp only [Act.put, List.setIfInBounds_toArray, List.set_cons_succ, List.set_cons_zero]
                    refine any_take 13 (some 59) (.int .i64 (k : Nat)) rfl rfl (by kernel_rfl) (by kernel_rfl) (by kernel_rfl) (fun _ _ _ h => h.elim) (Sure.want (by rfl) fun w => by go_simp) ?_
                    simp only [Act.put, List.setIfInBounds_toArray, List.set_cons_succ, List.set_cons_zero]
                    refine any_take 14 (some 60) (.int .u8 ((2 ^ k : Nat) : Int)) rfl rfl (by kernel_rfl) (by kernel_rfl) (by kernel_rfl) (fun _ _ _ h => h.elim) (Sure.want (by rfl) fun w => run_shl8 (.tmp 59) rfl k (by omega) rfl) ?_
                    simp only [Act.put, List.setIfInBounds_toArray, List.set_cons_succ, List.set_cons_zero]
                    refine any_take 15 (some 61) (.int .u8 ((left - 2 ^ k : Nat) : Int)) rfl rfl (by kernel_rfl) (by kernel_rfl) (by kernel_rfl) (fun _ _ _ h => h.elim) (Sure.want (by rfl) fun w => run_andNot8 (.tmp 58) (.tmp 60) rfl left k hl (by omega) Hbit.out rfl rfl) ?_
                    simp only [Act.put, List.setIfInBounds_toArray, List.set_cons_succ, List.set_cons_zero]
                    refine wpAnyIn_all (rs := [10]) (by kernel_rfl) (by simp) ?_
                    simp only [List.mem_cons, List.not_mem_nil, or_false, forall_eq_or_imp, forall_eq]
                    refine opIn_valueg (some 56) (v := .agg #[.slice (some ⟨b, o, none⟩) n cap, .int .u64 tw]) (w' := Wd) rfl rfl (by rfl) rfl (run_load_row 146 (.tmp 3) rfl w.heap.size rfl 146 #[.slice (some ⟨b, o, none⟩) n cap, .int .u64 tw] (0, 0) _ hBd Try.underlying146 rfl info146) ?_
                    simp only [Act.put, List.setIfInBounds_toArray, List.set_cons_succ, List.set_cons_zero]
                    refine wpAnyIn_all (rs := [16]) (by kernel_rfl) (by simp) ?_
                    simp only [List.mem_cons, List.not_mem_nil, or_false, forall_eq_or_imp, forall_eq]
                    refine opIn_callg (some 62) rfl rfl (by rfl) rfl 107 #[.agg #[.slice (some ⟨b, o, none⟩) n cap, .int .u64 tw], .int .u64 (y : Nat), .int .u8 ((left - 2 ^ k : Nat) : Int)] (by go_simp) ((HC.out _ hNd).mono ?_)
                    rintro e W2 ⟨rfl, hN2⟩
                    refine ⟨_, rfl, ?_⟩
                    simp only [Act.put, List.setIfInBounds_toArray, List.set_cons_succ, List.set_cons_zero]
                    refine any_take 17 (some 63) (.bool c) rfl rfl (by kernel_rfl) (by kernel_rfl) (by kernel_rfl) (fun _ _ _ h => h.elim) (.value rfl fun w => by go_simp) ?_
                    simp only [Act.put, List.setIfInBounds_toArray, List.set_cons_succ, List.set_cons_zero]
                    refine wpAnyIn_done (by kernel_rfl) ?_ _
                    exact ⟨rfl, hNd.trans hN2⟩
                rintro a' W' ⟨rfl, hN4⟩
                simp only [Act.put, List.setIfInBounds_toArray, List.set_cons_succ, List.set_cons_zero]
                cases c with
                | true =>
                  have HN4 := Lib.hid (hN3.out.trans hN4)
                  have HB4 : Hid (SB W' w.heap.size (.slice (some ⟨b, o, none⟩) n cap) tw) := Lib.hid (hN4.heap hB3.out id)
                  clear hN4
                  have hrf : Hid (r = true) := Hyes.out (by rw [Hcand.out, Han.out]; rfl)
                  go_wp2_with fail
                  go_ret
                  exact ⟨by rw [hrf.out]; rfl, HN4.out⟩
                | false =>
                  have HN4 := Lib.hid (hN3.out.trans hN4)
                  have HB4 : Hid (SB W' w.heap.size (.slice (some ⟨b, o, none⟩) n cap) tw) := Lib.hid (hN4.heap hB3.out id)
                  clear hN4
                  have hnx := Hnext.out (by rw [Hcand.out, Han.out]; rfl)
                  go_wp2_with fail
                  go_roundw
                  case rel => exact ⟨k + 1, by omega, by go_num, hnx, HB4, HN4⟩
                  case measure => simp [intOf]; omega
              | false =>
                refine piece (fun a a' W' => a' = (a.put (some 46) (.pointer (some ⟨E, 5, none⟩)) |>.put (some 47) (.int .i64 x.en) |>.put (some 48) (.bool false) |>.put (some 49) (.bool false) |>.put (some 50) (.agg (aCs (sl : Nat) ok).toArray) |>.put (some 51) (.pointer (some ⟨E, 6, none⟩)) |>.put (some 52) (.agg (aCs x.slot x.ok).toArray) |>.put (some 53) (.bool false) |>.put (some 54) (.bool false) |>.put (some 55) (.bool false) |>.put (some 56) (undef) |>.put (some 57) (undef) |>.put (some 58) (undef) |>.put (some 59) (undef) |>.put (some 60) (undef) |>.put (some 61) (undef) |>.put (some 62) (undef) |>.put (some 63) (.bool false)) ∧ New W3 W') ?_ ?_
                · refine (wpIn_wide (n := 0)).1 ?_
                  refine wpIn_region_any (by kernel_rfl) ?_
                  show wpAnyIn _ _ _ _ _ _ _ _ _ W3.drew
                  have hNd : New W3 W3.drew := (Mods.refl _ W3).drew
                  have e5 := hNd.cell e5 id
                  have hA := hNd.heap hA3 id
                  have hBd := hNd.heap (show W3.heap[w.heap.size]? = some (.cells #[.slice (some ⟨b, o, none⟩) n cap, .int .u64 tw] 146 (0, 0)) from hB3.out) id
                  have hE6 : W3.drew.rangeAt E 6 (aCs x.slot x.ok) := fun q v hv => hNd.cell (hE63 q v hv) id
                  obtain ⟨Wd, hWd⟩ : ∃ Wd, W3.drew = Wd := ⟨_, rfl⟩
                  rw [hWd] at hNd e5 hA hBd hE6 ⊢
                  clear hWd
                  refine any_take 0 (some 46) (.pointer (some ⟨E, 5, none⟩)) rfl rfl (by kernel_rfl) (by kernel_rfl) (by kernel_rfl) (fun _ _ _ h => h.elim) (.value rfl fun w => by go_simp) ?_
                  simp only [Act.put, List.setIfInBounds_toArray, List.set_cons_succ, List.set_cons_zero]
                  refine wpAnyIn_all (rs := [1]) (by kernel_rfl) (by simp) ?_
                  simp only [List.mem_cons, List.not_mem_nil, or_false, forall_eq_or_imp, forall_eq]
                  refine opIn_value (some 47) (v := .int .i64 x.en) (w' := Wd) rfl rfl rfl rfl (by go_simp) ?_
                  simp only [Act.put, List.setIfInBounds_toArray, List.set_cons_succ, List.set_cons_zero]
                  refine any_take 2 (some 48) (.bool false) rfl rfl (by kernel_rfl) (by kernel_rfl) (by kernel_rfl) (fun _ _ _ h => h.elim) (.value rfl fun w => by go_simp) ?_
                  simp only [Act.put, List.setIfInBounds_toArray, List.set_cons_succ, List.set_cons_zero]
                  refine any_take 3 (some 49) (.bool false) rfl rfl (by kernel_rfl) (by kernel_rfl) (by kernel_rfl) (fun _ _ _ h => h.elim) (.value rfl fun w => by go_simp) ?_
                  simp only [Act.put, List.setIfInBounds_toArray, List.set_cons_succ, List.set_cons_zero]
                  refine any_take 5 (some 51) (.pointer (some ⟨E, 6, none⟩)) rfl rfl (by kernel_rfl) (by kernel_rfl) (by kernel_rfl) (fun _ _ _ h => h.elim) (Sure.want (by rfl) fun w => by go_simp) ?_
                  simp only [Act.put, List.setIfInBounds_toArray, List.set_cons_succ, List.set_cons_zero]
                  refine wpAnyIn_all (rs := [4, 6]) (by kernel_rfl) (by simp) ?_
                  simp only [List.mem_cons, List.not_mem_nil, or_false, forall_eq_or_imp, forall_eq]
                  refine ⟨?_, ?_⟩
                  · refine opIn_valueg (some 50) (v := .agg (aCs (sl : Nat) ok).toArray) (w' := Wd) rfl rfl (by rfl) rfl (run_load_row 89 (.tmp 10) rfl A rfl 89 (aCs (sl : Nat) ok).toArray (0, 0) _ hA Try.underlying89 rfl info89) ?_
                    simp only [Act.put, List.setIfInBounds_toArray, List.set_cons_succ, List.set_cons_zero]
                    refine wpAnyIn_all (rs := [6]) (by kernel_rfl) (by simp) ?_
                    simp only [List.mem_cons, List.not_mem_nil, or_false, forall_eq_or_imp, forall_eq]
                    refine opIn_valueg (some 52) (v := .agg (aCs x.slot x.ok).toArray) (w' := Wd) rfl rfl (by rfl) rfl (run_load_mid 89 (.tmp 51) rfl E 6 rfl (aCs x.slot x.ok) _ hE6 Try.underlying89 rfl info89) ?_
                    simp only [Act.put, List.setIfInBounds_toArray, List.set_cons_succ, List.set_cons_zero]
                    refine any_take 7 (some 53) (.bool false) rfl rfl (by kernel_rfl) (by kernel_rfl) (by kernel_rfl) (fun _ _ _ h => h.elim) (Sure.want (by rfl) fun w => run_eql_answer' (.tmp 50) (.tmp 52) rfl _ _ _ _ rfl rfl Hans.out) ?_
                    simp only [Act.put, List.setIfInBounds_toArray, List.set_cons_succ, List.set_cons_zero]
                    refine any_take 8 (some 54) (.bool false) rfl rfl (by kernel_rfl) (by kernel_rfl) (by kernel_rfl) (fun _ _ _ h => h.elim) (.value rfl fun w => by go_simp) ?_
                    simp only [Act.put, List.setIfInBounds_toArray, List.set_cons_succ, List.set_cons_zero]
                    refine any_take 9 (some 55) (.bool false) rfl rfl (by kernel_rfl) (by kernel_rfl) (by kernel_rfl) (fun _ _ _ h => h.elim) (.value rfl fun w => by go_simp) ?_
                    simp only [Act.put, List.setIfInBounds_toArray, List.set_cons_succ, List.set_cons_zero]
                    refine any_take 10 (some 56) (undef) rfl rfl (by kernel_rfl) (by kernel_rfl) (by kernel_rfl) (fun _ _ _ h => h.elim) (Sure.skip (by rfl)) ?_
                    simp only [Act.put, List.setIfInBounds_toArray, List.set_cons_succ, List.set_cons_zero]
                    refine any_take 11 (some 57) (undef) rfl rfl (by kernel_rfl) (by kernel_rfl) (by kernel_rfl) (fun _ _ _ h => h.elim) (Sure.skip (by rfl)) ?_
                    simp only [Act.put, List.setIfInBounds_toArray, List.set_cons_succ, List.set_cons_zero]
                    refine any_take 12 (some 58) (undef) rfl rfl (by kernel_rfl) (by kernel_rfl) (by kernel_rfl) (fun _ _ _ h => h.elim) (Sure.skip (by rfl)) ?_
                    simp only [Act.put, List.setIfInBounds_toArray, List.set_cons_succ, List.set_cons_zero]
                    refine any_take 13 (some 59) (undef) rfl rfl (by kernel_rfl) (by kernel_rfl) (by kernel_rfl) (fun _ _ _ h => h.elim) (Sure.skip (by rfl)) ?_
                    simp only [Act.put, List.setIfInBounds_toArray, List.set_cons_succ, List.set_cons_zero]
                    refine any_take 14 (some 60) (undef) rfl rfl (by kernel_rfl) (by kernel_rfl) (by kernel_rfl) (fun _ _ _ h => h.elim) (Sure.skip (by rfl)) ?_
                    simp only [Act.put, List.setIfInBounds_toArray, List.set_cons_succ, List.set_cons_zero]
                    refine any_take 15 (some 61) (undef) rfl rfl (by kernel_rfl) (by kernel_rfl) (by kernel_rfl) (fun _ _ _ h => h.elim) (Sure.skip (by rfl)) ?_
                    simp only [Act.put, List.setIfInBounds_toArray, List.set_cons_succ, List.set_cons_zero]
                    refine any_take 16 (some 62) (undef) rfl rfl (by kernel_rfl) (by kernel_rfl) (by kernel_rfl) (fun _ _ _ h => h.elim) (Sure.skip (by rfl)) ?_
                    simp only [Act.put, List.setIfInBounds_toArray, List.set_cons_succ, List.set_cons_zero]
                    refine any_take 17 (some 63) (.bool false) rfl rfl (by kernel_rfl) (by kernel_rfl) (by kernel_rfl) (fun _ _ _ h => h.elim) (.value rfl fun w => by go_simp) ?_
                    simp only [Act.put, List.setIfInBounds_toArray, List.set_cons_succ, List.set_cons_zero]
                    refine wpAnyIn_done (by kernel_rfl) ?_ _
                    exact ⟨rfl, hNd⟩
                  · refine opIn_valueg (some 52) (v := .agg (aCs x.slot x.ok).toArray) (w' := Wd) rfl rfl (by rfl) rfl (run_load_mid 89 (.tmp 51) rfl E 6 rfl (aCs x.slot x.ok) _ hE6 Try.underlying89 rfl info89) ?_
                    simp only [Act.put, List.setIfInBounds_toArray, List.set_cons_succ, List.set_cons_zero]
                    refine wpAnyIn_all (rs := [4]) (by kernel_rfl) (by simp) ?_
                    simp only [List.mem_cons, List.not_mem_nil, or_false, forall_eq_or_imp, forall_eq]
                    refine opIn_valueg (some 50) (v := .agg (aCs (sl : Nat) ok).toArray) (w' := Wd) rfl rfl (by rfl) rfl (run_load_row 89 (.tmp 10) rfl A rfl 89 (aCs (sl : Nat) ok).toArray (0, 0) _ hA Try.underlying89 rfl info89) ?_
                    simp only [Act.put, List.setIfInBounds_toArray, List.set_cons_succ, List.set_cons_zero]
                    refine any_take 7 (some 53) (.bool false) rfl rfl (by kernel_rfl) (by kernel_rfl) (by kernel_rfl) (fun _ _ _ h => h.elim) (Sure.want (by rfl) fun w => run_eql_answer' (.tmp 50) (.tmp 52) rfl _ _ _ _ rfl rfl Hans.out) ?_
                    simp only [Act.put, List.setIfInBounds_toArray, List.set_cons_succ, List.set_cons_zero]
                    refine any_take 8 (some 54) (.bool false) rfl rfl (by kernel_rfl) (by kernel_rfl) (by kernel_rfl) (fun _ _ _ h => h.elim) (.value rfl fun w => by go_simp) ?_
                    simp only [Act.put, List.setIfInBounds_toArray, List.set_cons_succ, List.set_cons_zero]
                    refine any_take 9 (some 55) (.bool false) rfl rfl (by kernel_rfl) (by kernel_rfl) (by kernel_rfl) (fun _ _ _ h => h.elim) (.value rfl fun w => by go_simp) ?_
                    simp only [Act.put, List.setIfInBounds_toArray, List.set_cons_succ, List.set_cons_zero]
                    refine any_take 10 (some 56) (undef) rfl rfl (by kernel_rfl) (by kernel_rfl) (by kernel_rfl) (fun _ _ _ h => h.elim) (Sure.skip (by rfl)) ?_
                    simp only [Act.put, List.setIfInBounds_toArray, List.set_cons_succ, List.set_cons_zero]
                    refine any_take 11 (some 57) (undef) rfl rfl (by kernel_rfl) (by kernel_rfl) (by kernel_rfl) (fun _ _ _ h => h.elim) (Sure.skip (by rfl)) ?_
                    simp only [Act.put, List.setIfInBounds_toArray, List.set_cons_succ, List.set_cons_zero]
                    refine any_take 12 (some 58) (undef) rfl rfl (by kernel_rfl) (by kernel_rfl) (by kernel_rfl) (fun _ _ _ h => h.elim) (Sure.skip (by rfl)) ?_
                    simp only [Act.put, List.setIfInBounds_toArray, List.set_cons_succ, List.set_cons_zero]
                    refine any_take 13 (some 59) (undef) rfl rfl (by kernel_rfl) (by kernel_rfl) (by kernel_rfl) (fun _ _ _ h => h.elim) (Sure.skip (by rfl)) ?_
                    simp only [Act.put, List.setIfInBounds_toArray, List.set_cons_succ, List.set_cons_zero]
                    refine any_take 14 (some 60) (undef) rfl rfl (by kernel_rfl) (by kernel_rfl) (by kernel_rfl) (fun _ _ _ h => h.elim) (Sure.skip (by rfl)) ?_
                    simp only [Act.put, List.setIfInBounds_toArray, List.set_cons_succ, List.set_cons_zero]
                    refine any_take 15 (some 61) (undef) rfl rfl (by kernel_rfl) (by kernel_rfl) (by kernel_rfl) (fun _ _ _ h => h.elim) (Sure.skip (by rfl)) ?_
                    simp only [Act.put, List.setIfInBounds_toArray, List.set_cons_succ, List.set_cons_zero]
                    refine any_take 16 (some 62) (undef) rfl rfl (by kernel_rfl) (by kernel_rfl) (by kernel_rfl) (fun _ _ _ h => h.elim) (Sure.skip (by rfl)) ?_
                    simp only [Act.put, List.setIfInBounds_toArray, List.set_cons_succ, List.set_cons_zero]
                    refine any_take 17 (some 63) (.bool false) rfl rfl (by kernel_rfl) (by kernel_rfl) (by kernel_rfl) (fun _ _ _ h => h.elim) (.value rfl fun w => by go_simp) ?_
                    simp only [Act.put, List.setIfInBounds_toArray, List.set_cons_succ, List.set_cons_zero]
                    refine wpAnyIn_done (by kernel_rfl) ?_ _
                    exact ⟨rfl, hNd⟩
                rintro a' W' ⟨rfl, hN4⟩
                simp only [Act.put, List.setIfInBounds_toArray, List.set_cons_succ, List.set_cons_zero]
                have HN4 := Lib.hid (hN3.out.trans hN4)
                have HB4 : Hid (SB W' w.heap.size (.slice (some ⟨b, o, none⟩) n cap) tw) := Lib.hid (hN4.heap hB3.out id)
                clear hN4
                have hnx := Hnext.out (by rw [Hcand.out, Han.out]; rfl)
                go_wp2_with fail
                go_roundw
                case rel => exact ⟨k + 1, by omega, by go_num, hnx, HB4, HN4⟩
                case measure => simp [intOf]; omega
      · obtain rfl : k = n := by omega
        have hkd : decide ((k : Int) < (k : Int)) = false := decide_eq_false (by omega)
        have hrf : Hid (r = false) := Lib.hid (Hfin.out hbef.out)
        go_wp2_with fail
        go_ret
        exact ⟨by rw [hrf.out]; rfl, hN.out⟩
end Go.Proofs.Ytkjloeefcaadlaa
