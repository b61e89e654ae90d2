/- QueueTells, walked. -/
import Derived.Test.YtkjloeefcaadlaaV9
import Derived.Test.YtkjloeefcaadlaaQ6
namespace Go.Proofs.Ytkjloeefcaadlaa
open Go.RowKit Go.Shelf Go.Cs
attribute [local go_sem] Oper.semAt_some
theorem cell_lt {W : World} {a : Addr} {v : Value} (h : W.cell? a = some v) : a.block < W.heap.size := by
  rcases Nat.lt_or_ge a.block W.heap.size with h1 | h1
  · exact h1
  · rw [World.cell?, Array.getElem?_eq_none h1] at h
    simp at h
/-- A slice of deeds: three numbers each. -/
def ReadsD (W : World) (ao : Option Addr) (n : Nat) (D : Nat → Nat → Int) : Prop :=
  ∀ i, i < n → ∃ b o, ao = some ⟨b, o, none⟩ ∧ ∀ j, j < 3 → W.cell? ⟨b, o + i * 3 + j, none⟩ = some (.int .i64 (D i j)) ∧ -9223372036854775808 ≤ D i j ∧ D i j ≤ 9223372036854775807
theorem aft_enc {l l' : List (Nat × Nat)} {ok : Bool} (h : ok = false → l' = l) : aft (enc l) (enc l', ok) = enc l' := by
  cases ok with
  | true => rfl
  | false => rw [h rfl]; rfl
theorem d_push {l : List (Nat × Nat)} (h : OkL l) (s u : Int) : ∃ l' ok, OkL l' ∧ pushF (enc l) s u = (enc l', ok) ∧ (ok = false → l' = l) := by
  by_cases hc : canPush l s u
  · refine ⟨insL l s.toNat u.toNat, true, insL_ok h (by have := hc.1; have := hc.2.1; omega) (by have := hc.2.2.1; have := hc.2.2.2.1; omega) (fun p hp e => hc.2.2.2.2 p hp (by have := hc.1; omega)), push_enc_any h hc, fun h => by cases h⟩
  · exact ⟨l, false, h, push_enc_no h hc, fun _ => rfl⟩
theorem d_out {l : List (Nat × Nat)} (h : OkL l) (s : Int) : ∃ l' ok, OkL l' ∧ outF (enc l) s = (enc l', ok) ∧ (ok = false → l' = l) := by
  cases hf : fi l s with
  | none => exact ⟨l, false, h, out_enc_no h (fi_none hf), fun _ => rfl⟩
  | some k =>
    obtain ⟨hk, h1, h2⟩ := fi_some hf
    have hok' : OkL (l.take k ++ l.getD k (0, 0) :: l.drop (k + 1)) := by rw [← h2]; exact h
    refine ⟨l.take k ++ l.drop (k + 1), true, ?_, okL_cut h hf, fun h => by cases h⟩
    rw [← delL_split hok', ← h2]
    exact delL_ok h _
theorem d_turn {l : List (Nat × Nat)} (h : OkL l) (s u : Int) : ∃ l' ok, OkL l' ∧ turnF (enc l) s u = (enc l', ok) ∧ (ok = false → l' = l) := by
  cases hf : fi l s with
  | none => exact ⟨l, false, h, turn_enc_no h u (fi_none hf), fun _ => rfl⟩
  | some k =>
    obtain ⟨hk, h1, h2⟩ := fi_some hf
    have hok' : OkL (l.take k ++ l.getD k (0, 0) :: l.drop (k + 1)) := by rw [← h2]; exact h
    by_cases hbad : ((l.getD k (0, 0)).2 : Int) = u ∨ u < 0 ∨ 8 ≤ u
    · have ht := turn_enc_same hok' hbad
      rw [← h2, h1] at ht
      exact ⟨l, false, h, ht, fun _ => rfl⟩
    · obtain ⟨u', rfl⟩ := Int.eq_ofNat_of_zero_le (show 0 ≤ u by omega)
      have ht := turn_enc hok' (u := u') (by omega) (by omega)
      rw [← h2, h1] at ht
      have hdel : l.take k ++ l.drop (k + 1) = delL l (l.getD k (0, 0)).1 := by
        have := delL_split hok'
        rw [← h2] at this; exact this.symm
      exact ⟨_, true, insL_ok (by rw [hdel]; exact delL_ok h _) (h.inn (l.getD k (0, 0)) (by simp [List.getD, hk])).1 (by omega) (fun p hp => by rw [hdel] at hp; exact (delL_mem.1 hp).2), ht, fun h => by cases h⟩
theorem d_best {l : List (Nat × Nat)} (h : OkL l) : ∃ (l' : List (Nat × Nat)) (s : Nat) (ok : Bool), OkL l' ∧ bestF (enc l) = (enc l', s, ok) ∧ (ok = false → l' = l) := by
  cases l with
  | nil => exact ⟨[], 0, false, h, best_enc_nil, fun _ => rfl⟩
  | cons p t => exact ⟨t, p.1, true, okL_tail h, best_enc_cons h, fun h => by cases h⟩
set_option maxRecDepth 100000 in
set_option maxHeartbeats 4000000 in
theorem tells_law (x : Nat) (hx : x < 18446744073709551616) (ao : Option Addr) (n cap : Nat) (D : Nat → Nat → Int) (w : World) (hn : n ≤ 40) (hD : ReadsD w ao n D) (hr : rightB x = true) :
    Calls Try.prog 3 #[.int .u64 x, .slice ao n cap] w fun e w' => e = .returned (.bool true) ∧ New w w' := by
  have HD := Lib.hid hD
  have HF := Lib.hid (from_yes x hx hr)
  have HR := Lib.hid (right_gen x hx)
  rw [hr] at HR
  obtain ⟨l0, hok0, hx0⟩ := enc_dec hr
  have Hok0 := Lib.hid hok0
  have Hx0 := Lib.hid hx0
  have hd40 : decide ((40 : Int) < (n : Int)) = false := decide_eq_false (by omega)
  clear hD hr hok0 hx0
  go_enter Try.func3, Try.ntmps3
  go_wp2_with fail
  refine (HF.out _).mono ?_
  rintro e w1 ⟨Q, rfl, hb, hQ, hN1⟩
  go_wp2_with fail
  refine (HR.out _).mono ?_
  rintro e wa ⟨rfl, hNa⟩
  have hba := Lib.hid (hNa.boxed hb id)
  have hNw := Lib.hid (hN1.trans hNa)
  clear hb hN1 hNa HF HR
  go_wp2_with fail
  go_loopw [0, 7, 8, 9, 10, 11, 12, 13, 14, 15, 16] (fun y i _ _ _ _ _ _ _ _ _ wr => ∃ (k : Nat) (l : List (Nat × Nat)), k ≤ n ∧ i = .int .i64 k ∧ y = .int .u64 (enc l) ∧ Hid (OkL l) ∧ Hid (Boxed wr Q 121 (.int .u64 (enc l))) ∧ Mods (fun b => b = Q) wa wr) (fun _ i _ _ _ _ _ _ _ _ _ _ => n - (intOf i).toNat)
  case atStart => exact ⟨0, l0, Nat.zero_le _, rfl, by rw [← Hx0.out], Hok0.out, by rw [← Hx0.out]; exact hba.out, Mods.refl _ _⟩
  case round =>
    obtain ⟨k, l, hk, rfl, rfl, hok, hb, hM⟩ := hrel
    by_cases hlt : k < n
    · obtain ⟨b, o, rfl, hcell⟩ := HD.out k hlt
      have hc : ∀ j, j < 3 → wr.cell? ⟨b, o + k * 3 + j, none⟩ = some (.int .i64 (D k j)) := fun j hj => hM.cell ((hNw.out).cell (hcell j hj).1 id) (fun e => by have := cell_lt (hcell j hj).1; dsimp only at this e; omega)
      have h0 := hc 0 (by omega)
      have h1 := hc 1 (by omega)
      have h2 := hc 2 (by omega)
      obtain ⟨_, d1, d2⟩ := hcell 0 (by omega)
      obtain ⟨_, s1, s2⟩ := hcell 1 (by omega)
      obtain ⟨_, q1, q2⟩ := hcell 2 (by omega)
      simp only [Nat.add_zero] at h0
      obtain ⟨d, hd⟩ : ∃ d, D k 0 = d := ⟨_, rfl⟩
      obtain ⟨s, hs⟩ : ∃ d, D k 1 = d := ⟨_, rfl⟩
      obtain ⟨u, hu⟩ : ∃ d, D k 2 = d := ⟨_, rfl⟩
      rw [hd] at h0 d1 d2
      rw [hs] at h1 s1 s2
      rw [hu] at h2 q1 q2
      clear hc hcell hd hs hu
      obtain ⟨x1, hx1⟩ : ∃ x1, enc l = x1 := ⟨_, rfl⟩
      have hcc := Lib.hid hx1
      rw [hx1]
      clear hx1
      go_wp2_with fail
      go_quiet (fail)
      obtain ⟨wd, hwd⟩ : ∃ W, wr.drewN nq = W := ⟨_, rfl⟩
      have hN4 : New wr wd := by rw [← hwd]; exact (Mods.refl _ _).drewN _
      rw [hwd]
      have h0 := hN4.cell h0 id
      have hM := hM.trans (Mods.ofNew hN4)
      have hb := Lib.hid (hN4.boxed hb.out id)
      rw [← hcc.out]
      clear hwd h1 h2 hN4
      by_cases hd0 : d = 0
      · subst hd0
        obtain ⟨l', ok, hok', hr, hno⟩ := d_push hok.out s u
        have HQ := push_q Q (enc l) s u wd hb.out (enc_lt hok.out) s1 s2 q1 q2
        have HR := Lib.hid (fun w => push_ref hok.out s u w)
        rw [hr] at HQ HR
        rw [aft_enc hno] at HQ
        have HQ := Lib.hid HQ
        unfold pair at HR
        obtain ⟨x, hx⟩ : ∃ x, enc l = x := ⟨_, rfl⟩
        rw [hx] at HR ⊢
        clear hr hno hx hb hok hcc
        go_wp2_with fail
        refine HQ.out.mono ?_
        rintro e w2 ⟨rfl, hM2, hb⟩
        go_wp2_with fail
        refine (HR.out _).mono ?_
        rintro e w3 ⟨rfl, hN3⟩
        clear HQ HR
        have hb2 := Lib.hid (hN3.boxed hb id)
        have HWd := Lib.hid (word_q Q (enc l') w3 hb2.out)
        have HMq := Lib.hid (fun W (hW : New w3 W) => many_q Q (enc l') (enc_lt hok') W (hW.boxed hb2.out id))
        rw [many_enc hok'] at HMq
        have HMr := Lib.hid (fun w => many_ref hok' w)
        have hM3 := Lib.hid ((hM.trans hM2).trans (Mods.ofNew hN3))
        have Hok' := Lib.hid hok'
        obtain ⟨y, hy⟩ : ∃ y, enc l' = y := ⟨_, rfl⟩
        obtain ⟨m, hm⟩ : ∃ m, l'.length = m := ⟨_, rfl⟩
        rw [hy] at HWd HMr ⊢
        rw [hm] at HMr HMq
        have Hy := Lib.hid hy
        have hoo : (ok != ok) = false := by cases ok <;> rfl
        clear hb hM2 hN3 hok' hM hy hm
        go_wp2_with fail
        refine HWd.out.mono ?_
        rintro e w4 ⟨rfl, rfl⟩
        go_wp2_with fail
        refine (HMq.out _ (Mods.refl _ _)).mono ?_
        rintro e w5 ⟨rfl, hN5⟩
        go_wp2_with fail
        refine (HMr.out _).mono ?_
        rintro e w6 ⟨rfl, hN6⟩
        have hNN := hN5.trans hN6
        have hb6 := Lib.hid (hNN.boxed hb2.out id)
        have hM6 := Lib.hid (hM3.out.trans (Mods.ofNew hNN))
        clear hN5 hN6 hNN
        go_wp2_with fail
        go_roundw
        case rel => exact ⟨k + 1, l', by omega, by go_num, by rw [Hy.out], Hok'.out, hb6.out, hM6.out⟩
        case measure => simp [intOf]; omega
      · have b0 : (d == 0) = false := by simpa using hd0
        by_cases hd1 : d = 1
        · subst hd1
          obtain ⟨l', s', ok, hok', hr, hno⟩ := d_best hok.out
          have HQ := best_q Q (enc l) wd hb.out (enc_lt hok.out)
          have HR := Lib.hid (fun w => best_ref hok.out w)
          rw [hr] at HQ HR
          rw [aft_enc hno] at HQ
          have HQ := Lib.hid HQ
          unfold trip' at HR
          dsimp only at HR
          obtain ⟨x, hx⟩ : ∃ x, enc l = x := ⟨_, rfl⟩
          rw [hx] at HR ⊢
          clear hr hno hx hb hok hcc
          go_wp2_with fail
          refine HQ.out.mono ?_
          rintro e w2 ⟨rfl, hM2, hb⟩
          go_wp2_with fail
          refine (HR.out _).mono ?_
          rintro e w3 ⟨rfl, hN3⟩
          clear HQ HR
          have hb2 := Lib.hid (hN3.boxed hb id)
          have HWd := Lib.hid (word_q Q (enc l') w3 hb2.out)
          have HMq := Lib.hid (fun W (hW : New w3 W) => many_q Q (enc l') (enc_lt hok') W (hW.boxed hb2.out id))
          rw [many_enc hok'] at HMq
          have HMr := Lib.hid (fun w => many_ref hok' w)
          have hM3 := Lib.hid ((hM.trans hM2).trans (Mods.ofNew hN3))
          have Hok' := Lib.hid hok'
          obtain ⟨y, hy⟩ : ∃ y, enc l' = y := ⟨_, rfl⟩
          obtain ⟨m, hm⟩ : ∃ m, l'.length = m := ⟨_, rfl⟩
          rw [hy] at HWd HMr ⊢
          rw [hm] at HMr HMq
          have Hy := Lib.hid hy
          have hoo : (ok != ok) = false := by cases ok <;> rfl
          clear hb hM2 hN3 hok' hM hy hm
          go_wp2_with fail
          refine HWd.out.mono ?_
          rintro e w4 ⟨rfl, rfl⟩
          go_wp2_with fail
          refine (HMq.out _ (Mods.refl _ _)).mono ?_
          rintro e w5 ⟨rfl, hN5⟩
          go_wp2_with fail
          refine (HMr.out _).mono ?_
          rintro e w6 ⟨rfl, hN6⟩
          have hNN := hN5.trans hN6
          have hb6 := Lib.hid (hNN.boxed hb2.out id)
          have hM6 := Lib.hid (hM3.out.trans (Mods.ofNew hNN))
          clear hN5 hN6 hNN
          go_wp2_with fail
          go_roundw
          case rel => exact ⟨k + 1, l', by omega, by go_num, by rw [Hy.out], Hok'.out, hb6.out, hM6.out⟩
          case measure => simp [intOf]; omega
        · have b1 : (d == 1) = false := by simpa using hd1
          by_cases hd2 : d = 2
          · subst hd2
            obtain ⟨l', ok, hok', hr, hno⟩ := d_turn hok.out s u
            have HQ := turn_q Q (enc l) s u wd hb.out (enc_lt hok.out) s1 s2 q1 q2
            have HR := Lib.hid (fun w => turn_ref hok.out s u w)
            rw [hr] at HQ HR
            rw [aft_enc hno] at HQ
            have HQ := Lib.hid HQ
            unfold pair at HR
            obtain ⟨x, hx⟩ : ∃ x, enc l = x := ⟨_, rfl⟩
            rw [hx] at HR ⊢
            clear hr hno hx hb hok hcc
            go_wp2_with fail
            refine HQ.out.mono ?_
            rintro e w2 ⟨rfl, hM2, hb⟩
            go_wp2_with fail
            refine (HR.out _).mono ?_
            rintro e w3 ⟨rfl, hN3⟩
            clear HQ HR
            have hb2 := Lib.hid (hN3.boxed hb id)
            have HWd := Lib.hid (word_q Q (enc l') w3 hb2.out)
            have HMq := Lib.hid (fun W (hW : New w3 W) => many_q Q (enc l') (enc_lt hok') W (hW.boxed hb2.out id))
            rw [many_enc hok'] at HMq
            have HMr := Lib.hid (fun w => many_ref hok' w)
            have hM3 := Lib.hid ((hM.trans hM2).trans (Mods.ofNew hN3))
            have Hok' := Lib.hid hok'
            obtain ⟨y, hy⟩ : ∃ y, enc l' = y := ⟨_, rfl⟩
            obtain ⟨m, hm⟩ : ∃ m, l'.length = m := ⟨_, rfl⟩
            rw [hy] at HWd HMr ⊢
            rw [hm] at HMr HMq
            have Hy := Lib.hid hy
            have hoo : (ok != ok) = false := by cases ok <;> rfl
            clear hb hM2 hN3 hok' hM hy hm
            go_wp2_with fail
            refine HWd.out.mono ?_
            rintro e w4 ⟨rfl, rfl⟩
            go_wp2_with fail
            refine (HMq.out _ (Mods.refl _ _)).mono ?_
            rintro e w5 ⟨rfl, hN5⟩
            go_wp2_with fail
            refine (HMr.out _).mono ?_
            rintro e w6 ⟨rfl, hN6⟩
            have hNN := hN5.trans hN6
            have hb6 := Lib.hid (hNN.boxed hb2.out id)
            have hM6 := Lib.hid (hM3.out.trans (Mods.ofNew hNN))
            clear hN5 hN6 hNN
            go_wp2_with fail
            go_roundw
            case rel => exact ⟨k + 1, l', by omega, by go_num, by rw [Hy.out], Hok'.out, hb6.out, hM6.out⟩
            case measure => simp [intOf]; omega
          · have b2 : (d == 2) = false := by simpa using hd2
            obtain ⟨l', ok, hok', hr, hno⟩ := d_out hok.out s
            have HQ := out_q Q (enc l) s wd hb.out (enc_lt hok.out)
            have HR := Lib.hid (fun w => out_ref hok.out s w)
            rw [hr] at HQ HR
            rw [aft_enc hno] at HQ
            have HQ := Lib.hid HQ
            unfold pair at HR
            obtain ⟨x, hx⟩ : ∃ x, enc l = x := ⟨_, rfl⟩
            rw [hx] at HR ⊢
            clear hr hno hx hb hok hcc
            go_wp2_with fail
            refine HQ.out.mono ?_
            rintro e w2 ⟨rfl, hM2, hb⟩
            go_wp2_with fail
            refine (HR.out _).mono ?_
            rintro e w3 ⟨rfl, hN3⟩
            clear HQ HR
            have hb2 := Lib.hid (hN3.boxed hb id)
            have HWd := Lib.hid (word_q Q (enc l') w3 hb2.out)
            have HMq := Lib.hid (fun W (hW : New w3 W) => many_q Q (enc l') (enc_lt hok') W (hW.boxed hb2.out id))
            rw [many_enc hok'] at HMq
            have HMr := Lib.hid (fun w => many_ref hok' w)
            have hM3 := Lib.hid ((hM.trans hM2).trans (Mods.ofNew hN3))
            have Hok' := Lib.hid hok'
            obtain ⟨y, hy⟩ : ∃ y, enc l' = y := ⟨_, rfl⟩
            obtain ⟨m, hm⟩ : ∃ m, l'.length = m := ⟨_, rfl⟩
            rw [hy] at HWd HMr ⊢
            rw [hm] at HMr HMq
            have Hy := Lib.hid hy
            have hoo : (ok != ok) = false := by cases ok <;> rfl
            clear hb hM2 hN3 hok' hM hy hm
            go_wp2_with fail
            refine HWd.out.mono ?_
            rintro e w4 ⟨rfl, rfl⟩
            go_wp2_with fail
            refine (HMq.out _ (Mods.refl _ _)).mono ?_
            rintro e w5 ⟨rfl, hN5⟩
            go_wp2_with fail
            refine (HMr.out _).mono ?_
            rintro e w6 ⟨rfl, hN6⟩
            have hNN := hN5.trans hN6
            have hb6 := Lib.hid (hNN.boxed hb2.out id)
            have hM6 := Lib.hid (hM3.out.trans (Mods.ofNew hNN))
            clear hN5 hN6 hNN
            go_wp2_with fail
            go_roundw
            case rel => exact ⟨k + 1, l', by omega, by go_num, by rw [Hy.out], Hok'.out, hb6.out, hM6.out⟩
            case measure => simp [intOf]; omega
    · have hkd : decide ((k : Int) < (n : Int)) = false := decide_eq_false (by omega)
      have HDq := Lib.hid (drain_q Q l hok.out wr hb.out)
      have HDr := Lib.hid (fun w => drain_ref hok.out w)
      obtain ⟨x1, hx1⟩ : ∃ x1, enc l = x1 := ⟨_, rfl⟩
      rw [hx1] at HDr ⊢
      obtain ⟨L, hL⟩ : ∃ L, slots l = L := ⟨_, rfl⟩
      rw [hL] at HDq HDr
      clear hx1 hok hb hL
      go_wp2_with fail
      refine HDq.out.mono ?_
      rintro e w2 ⟨v, rfl, hown, hM2, hb⟩
      have hv := Lib.hid (ReadsI.ofOwns (xs := L) hown)
      have hb2 := Lib.hid hb
      obtain ⟨ao1, cap1, rfl⟩ := owns_slice hown
      have hM3 := Lib.hid (hM.trans hM2)
      clear hown hM2 hb HDq hM
      go_wp2_with fail
      refine (HDr.out _).mono ?_
      rintro e w3 ⟨v', rfl, hown, hN3⟩
      have HI := Lib.hid (ints_any _ _ L L w3 (hv.out.new hN3) (ReadsI.ofOwns (xs := L) hown))
      rw [decide_eq_true (rfl : L = L)] at HI
      obtain ⟨ao2, cap2, rfl⟩ := owns_slice hown
      have hb3 := Lib.hid (hN3.boxed hb2.out id)
      have hN3' := Lib.hid hN3
      clear hown hN3 hv hb2 HDr
      go_wp2_with fail
      refine HI.out.mono ?_
      rintro e w4 ⟨rfl, hN4⟩
      have HWd := Lib.hid (word_q Q _ w4 (hN4.boxed hb3.out id))
      rw [k11] at HWd
      have hM4 := Lib.hid ((hM3.out.trans (Mods.ofNew hN3'.out)).trans (Mods.ofNew hN4))
      clear hN4 HI
      go_wp2_with fail
      refine HWd.out.mono ?_
      rintro e w5 ⟨rfl, rfl⟩
      go_wp2_with fail
      refine (wakes_any _).mono ?_
      rintro e w6 ⟨rfl, hN6⟩
      go_wp2_with fail
      go_ret
      have hNN := ((Mods.ofNew hNw.out).trans hM4.out).new (fun k (hk : k = Q) => by omega)
      exact ⟨rfl, hNN.trans hN6⟩
end Go.Proofs.Ytkjloeefcaadlaa
