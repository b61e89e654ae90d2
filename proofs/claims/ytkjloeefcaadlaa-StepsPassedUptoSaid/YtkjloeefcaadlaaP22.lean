/- Histories that are linear. -/
import Derived.Test.YtkjloeefcaadlaaP21
set_option linter.unusedSimpArgs false
set_option linter.unusedVariables false
namespace Go.Proofs.Ytkjloeefcaadlaa
open Go.RowKit Go.Shelf Go.Cs
attribute [local go_sem] Oper.semAt_some
theorem notdeed_moment (p : Mo) (w : World) : Calls Try.prog 105 #[.agg p.cs.toArray] w fun e w' => e = .returned (.bool (!isDeed p.deed.d)) ∧ New w w' := by
  have HD := Lib.hid (deed_any p.deed.d p.deed.s p.deed.u)
  have hh := World.alloc_heap_new w (.cells p.cs.toArray 95)
  have hN := (Mods.refl (fun _ => False) w).alloc (.cells p.cs.toArray 95)
  have hr : (w.alloc (.cells p.cs.toArray 95)).rangeAt w.heap.size 1 p.deed.cs := fun j v hv => by
    rw [cell_of_row _ _ _ _ _ _ hh]
    match j, hv with
    | 0, hv => exact hv
    | 1, hv => exact hv
    | 2, hv => exact hv
  obtain ⟨b, hb⟩ : ∃ b, isDeed p.deed.d = b := ⟨_, rfl⟩
  rw [hb] at HD ⊢
  clear hb
  go_enter Try.func105, Try.ntmps105
  go_wp2_with (refine op_value rfl (run_load_mid 93 (.tmp 3) rfl w.heap.size 1 rfl p.deed.cs _ hr Try.underlying93 rfl info93) ?_)
  refine (HD.out _).mono ?_
  rintro e w1 ⟨rfl, hN1⟩
  go_wp2_with fail
  go_ret
  exact ⟨rfl, hN.trans hN1⟩
set_option maxHeartbeats 1000000 in
theorem index_moments (v : Value) (L : List Mo) (w : World) (hv : ReadsF w v L.length 8 (mosF L)) :
    Calls Try.prog 149 #[v, fn 105] w fun e w' => ∃ r : Int, e = .returned (.int .i64 r) ∧ (decide (0 ≤ r) = !(L.all fun p => isDeed p.deed.d)) ∧ New w w' := by
  obtain ⟨hl, ao, cap, rfl, hc⟩ := hv
  have HF := Lib.hid notdeed_moment
  obtain ⟨n, hn⟩ : ∃ n, L.length = n := ⟨_, rfl⟩
  have Hn := Lib.hid hn
  rw [hn] at hl hc ⊢
  have Hc := Lib.hid hc
  clear hn hc
  unfold fn
  go_enter Try.func149, Try.ntmps149
  go_wp2_with fail
  go_loopw [5, 8] (fun _ c wr => ∃ k : Nat, k ≤ n ∧ c = .int .i64 k ∧ Hid (∀ i, i < k → isDeed (L.getD i .no).deed.d = true) ∧ New w wr) (fun _ c _ => n - (intOf c).toNat)
  case atStart => exact ⟨0, Nat.zero_le _, rfl, Lib.hid (fun i hi => by omega), Mods.refl _ _⟩
  case round =>
    obtain ⟨k, hk, rfl, hbef, hN⟩ := hrel
    by_cases hkn : k < n
    · have hkd : decide ((k : Int) < (n : Int)) = true := decide_eq_true (by omega)
      obtain ⟨b, o, rfl, hr⟩ := Hc.out k hkn
      have hr : wr.rangeAt b (o + k * 8) (L.getD k .no).cs := fun j v hv => hN.cell (hr j v hv) id
      obtain ⟨p, hp⟩ : ∃ p, L.getD k .no = p := ⟨_, rfl⟩
      have Hp := Lib.hid hp
      rw [hp] at hr
      clear hp
      have HFp := Lib.hid (HF.out p)
      obtain ⟨t, ht⟩ : ∃ t, isDeed p.deed.d = t := ⟨_, rfl⟩
      have Ht := Lib.hid ht
      rw [ht] at HFp
      clear ht
      go_wp2_with (refine op_value rfl (run_load_mid 95 (.tmp 14) rfl b (o + k * 8) rfl p.cs _ hr Try.underlying95 rfl info95) ?_)
      refine (HFp.out _).mono ?_
      rintro e w1 ⟨rfl, hN1⟩
      cases t with
      | true =>
        have hnext : Hid (∀ i, i < k + 1 → isDeed (L.getD i .no).deed.d = true) := Lib.hid (fun i hi => by
          by_cases h : i < k
          · exact hbef.out i h
          · obtain rfl : i = k := by omega
            rw [Hp.out]; exact Ht.out)
        clear hr hbef
        go_wp2_with fail
        go_roundw
        case rel => exact ⟨k + 1, by omega, by go_num, hnext, hN.trans hN1⟩
        case measure => simp [intOf]; omega
      | false =>
        have hall : (L.all fun p => isDeed p.deed.d) = false := by
          rw [List.all_eq_false]
          have hkl : k < L.length := by rw [Hn.out]; exact hkn
          refine ⟨L[k], List.getElem_mem hkl, ?_⟩
          have := Hp.out
          simp only [List.getD, List.getElem?_eq_getElem hkl, Option.getD_some] at this
          rw [this, Ht.out]
          simp
        have Hall := Lib.hid hall
        clear hr hbef hall
        go_wp2_with fail
        go_ret
        exact ⟨_, rfl, by rw [Hall.out]; simp, hN.trans hN1⟩
    · obtain rfl : k = n := by omega
      have hkd : decide ((k : Int) < (k : Int)) = false := decide_eq_false (by omega)
      have hall : (L.all fun p => isDeed p.deed.d) = true := by
        rw [List.all_eq_true]
        intro p hp
        obtain ⟨i, hi, rfl⟩ := List.getElem_of_mem hp
        have := hbef.out i (by have := Hn.out; omega)
        simpa only [List.getD, List.getElem?_eq_getElem hi, Option.getD_some] using this
      have Hall := Lib.hid hall
      clear hbef hall
      go_wp2_with fail
      go_ret
      exact ⟨-1, rfl, by rw [Hall.out]; rfl, hN⟩
theorem contains_S (v : Value) (L : List Mo) (w : World) (hv : ReadsF w v L.length 8 (mosF L)) :
    Calls Try.prog 104 #[v, fn 105] w fun e w' => e = .returned (.bool (!(L.all fun p => isDeed p.deed.d))) ∧ New w w' := by
  have HI := Lib.hid (index_moments v L w hv)
  obtain ⟨b, hb⟩ : ∃ b, (L.all fun p => isDeed p.deed.d) = b := ⟨_, rfl⟩
  rw [hb] at HI ⊢
  obtain ⟨_, ao, cap, rfl, _⟩ := hv
  clear hb
  unfold fn at HI ⊢
  go_enter Try.func104, Try.ntmps104
  go_wp2_with fail
  refine HI.out.mono ?_
  rintro e w1 ⟨r, rfl, hr, hN⟩
  go_wp2_with fail
  go_ret
  exact ⟨rfl, hN⟩
theorem from_S (hh : Value) (H : List Mo) (tw : Nat) (h8 : H.length ≤ 8) (hin : InH H) : ∀ f, FromAt hh H tw f
  | 0 => fun _ _ _ _ _ _ h => absurd h (Nat.not_lt_zero _)
  | f + 1 => from_step hh H tw f h8 hin (from_S hh H tw h8 hin f)
theorem full_mod : ∀ n : Fin 9, ((2 : Int) ^ n.val - 1) % 256 = ((2 ^ n.val - 1 : Nat) : Int) := by decide +kernel
theorem run_full8 {o : Oper} {a : Act} {w : World} (y : Operand) (ho : o.op = .binOp .shl 5 (.const (.int .u8 1)) y 3) (k : Nat) (hk : k ≤ 8) (hy : a.eval y = .int .i64 (k : Nat)) : (execOp a.eval o).run Try.prog w = .ok (.value (.int .u8 ((2 ^ k % 256 : Nat) : Int))) w := by
  unfold execOp
  have h : k = 0 ∨ k = 1 ∨ k = 2 ∨ k = 3 ∨ k = 4 ∨ k = 5 ∨ k = 6 ∨ k = 7 ∨ k = 8 := by omega
  have h1 : a.eval (.const (.int .u8 1)) = .int .u8 1 := rfl
  simp only [ho, hy, h1]
  rcases h with rfl | rfl | rfl | rfl | rfl | rfl | rfl | rfl | rfl <;> first | (go_simp; done) | (go_simp; rfl)
theorem full_sub : ∀ n : Fin 9, IntKind.u8.wrap (((2 ^ n.val % 256 : Nat) : Int) - 1) = ((2 ^ n.val - 1 : Nat) : Int) := by decide +kernel
set_option maxRecDepth 100000 in
set_option maxHeartbeats 4000000 in
theorem linear_S (x tw : Nat) (hh : Value) (H : List Mo) (w : World) (hv : ReadsF w hh H.length 8 (mosF H)) (hx : x < 18446744073709551616) (hin : InH H) :
    Calls Try.prog 52 #[.int .u64 x, hh, .int .u64 tw] w fun e w' => e = .returned (.bool (linM DS rightB x H tw)) ∧ New w w' := by
  have HV := Lib.hid hv
  have HW := Lib.hid (right_any x hx)
  have HC := Lib.hid fun W (hW : New w W) => contains_S hh H W (hv.new hW)
  obtain ⟨hl, ao, cap, rfl, _⟩ := hv
  unfold linM
  by_cases h8 : H.length ≤ 8
  · have HF := Lib.hid (from_S (.slice ao H.length cap) H tw h8 hin 9)
    rw [decide_eq_true h8, Bool.true_and]
    have d1 : decide ((8 : Int) < (H.length : Int)) = false := decide_eq_false (by omega)
    obtain ⟨rb, hrb⟩ : ∃ rb, rightB x = rb := ⟨_, rfl⟩
    obtain ⟨al, hal⟩ : ∃ al, (H.all fun h => isD h.deed.d) = al := ⟨_, rfl⟩
    rw [hrb] at HW ⊢
    rw [show (H.all fun p => isDeed p.deed.d) = al from hal] at HC
    rw [hal]
    have Hx := Lib.hid hx
    clear hrb hal hin hx
    cases rb with
    | false =>
      go_enter Try.func52, Try.ntmps52
      go_wp2_with fail
      refine (HW.out _).mono ?_
      rintro e w1 ⟨rfl, hN1⟩
      go_wp2_with fail
      go_ret
      exact ⟨rfl, hN1⟩
    | true =>
      unfold fn at HC
      cases al with
      | false =>
        go_enter Try.func52, Try.ntmps52
        go_wp2_with fail
        refine (HW.out _).mono ?_
        rintro e w1 ⟨rfl, hN1⟩
        go_wp2_with fail
        refine (HC.out _ hN1).mono ?_
        rintro e w2 ⟨rfl, hN2⟩
        go_wp2_with fail
        go_ret
        exact ⟨rfl, hN1.trans hN2⟩
      | true =>
        go_enter Try.func52, Try.ntmps52
        go_wp2_with fail
        refine (HW.out _).mono ?_
        rintro e w1 ⟨rfl, hN1⟩
        go_wp2_with fail
        refine (HC.out _ hN1).mono ?_
        rintro e w2 ⟨rfl, hN2⟩
        have hf := full_sub ⟨H.length, by omega⟩
        dsimp only at hf
        have HN := Lib.hid (hN1.trans hN2)
        have hcall := HF.out x (2 ^ H.length - 1) w2 (HV.out.new HN.out) Hx.out (full_lt ⟨H.length, by omega⟩) (Nat.lt_succ_of_le (cnt_le8 ⟨2 ^ H.length - 1, full_lt ⟨H.length, by omega⟩⟩))
        have HK := Lib.hid hcall
        clear hcall hN1 hN2
        go_wp2_with (refine op_value rfl (run_full8 (.tmp 24) rfl H.length h8 rfl) ?_)
        have hm := full_mod ⟨H.length, by omega⟩
        dsimp only at hm
        rw [hm]
        refine HK.out.mono ?_
        rintro e w3 ⟨rfl, hN3⟩
        have HN3 := Lib.hid (HN.out.trans hN3)
        clear hm hf hN3 HK
        obtain ⟨c, hc⟩ : ∃ c, fromM DS H tw 9 x (2 ^ H.length - 1) = c := ⟨_, rfl⟩
        rw [hc]
        go_wp2_with fail
        go_ret
        exact ⟨by rw [← hc]; rfl, HN3.out⟩
  · rw [decide_eq_false h8, Bool.false_and]
    have d1 : decide ((8 : Int) < (H.length : Int)) = true := decide_eq_true (by omega)
    clear hin HC HW
    go_enter Try.func52, Try.ntmps52
    go_wp2_with fail
    go_ret
    exact ⟨rfl, Mods.refl _ _⟩
end Go.Proofs.Ytkjloeefcaadlaa
