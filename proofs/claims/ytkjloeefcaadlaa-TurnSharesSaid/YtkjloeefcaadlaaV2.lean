/- The document's own words of a word: which may be, of any word; how many, who is where. -/
import Derived.Test.YtkjloeefcaadlaaV1
namespace Go.Proofs.Ytkjloeefcaadlaa
open Go.RowKit Go.Shelf Go.Cs
attribute [local go_sem] Oper.semAt_some
/-- Two places that may not both be so. -/
def badP (l : List (Nat × Nat)) (k i : Nat) : Bool := (l.getD k (0, 0)).1 == (l.getD i (0, 0)).1 || decide ((l.getD i (0, 0)).2 < (l.getD k (0, 0)).2)
theorem okL_of {l : List (Nat × Nat)} (h : InL l) (hb : ∀ k i, k < i → i < l.length → badP l k i = false) : OkL l := by
  refine ⟨h, List.pairwise_iff_getElem.2 (fun k i hk hi hki => ?_)⟩
  have := hb k i hki hi
  unfold badP at this
  simp only [List.getD, List.getElem?_eq_getElem hk, List.getElem?_eq_getElem hi, Option.getD_some, Bool.or_eq_false_iff, beq_eq_false_iff_ne, decide_eq_false_iff_not] at this
  exact ⟨this.1, by omega⟩
theorem okL_no {l : List (Nat × Nat)} (h : OkL l) {k i : Nat} (hki : k < i) (hi : i < l.length) : badP l k i = false := by
  have := List.pairwise_iff_getElem.1 h.pair k i (by omega) hi hki
  unfold badP
  simp only [List.getD, List.getElem?_eq_getElem (show k < l.length by omega), List.getElem?_eq_getElem hi, Option.getD_some, Bool.or_eq_false_iff, beq_eq_false_iff_ne, decide_eq_false_iff_not]
  exact ⟨this.1, by omega⟩
theorem right_list {x : Nat} (h : rightB x = true) : OkL (dec x (min (x / 2 ^ 60) 8)) ∧ enc (dec x (min (x / 2 ^ 60) 8)) = x := by
  obtain ⟨l, hl, rfl⟩ := enc_dec h
  have e := enc_div hl.inn hl.len
  rw [e, Nat.min_eq_left hl.len, dec_enc hl.inn hl.len]
  exact ⟨hl, rfl⟩
set_option maxRecDepth 100000 in
set_option maxHeartbeats 1000000 in
theorem right_gen (x : Nat) (hx : x < 18446744073709551616) (w : World) :
    Calls Try.prog 19 #[.int .u64 x] w fun e w' => e = .returned (.bool (rightB x)) ∧ New w w' := by
  obtain ⟨n, hn⟩ : ∃ n, min (x / 2 ^ 60) 8 = n := ⟨_, rfl⟩
  have HL := Lib.hid (list_gen x n hx hn)
  have hlen : (dec x n).length = n := by simp [dec]
  have hrl := fun h => right_list (x := x) h
  rw [hn] at hrl
  have hin := dec_in x n
  have HW := Lib.hid (word_gen (dec x n) hin (by omega))
  obtain ⟨l, hl⟩ : ∃ l, dec x n = l := ⟨_, rfl⟩
  rw [hl] at HL hlen hrl hin HW
  have n8 : n ≤ 8 := by omega
  obtain ⟨b, hb⟩ : ∃ b, rightB x = b := ⟨_, rfl⟩
  rw [hb] at hrl ⊢
  by_cases hy : enc l = x
  · have Hno : Hid (b = true → ∀ k i, k < i → i < n → badP l k i = false) := Lib.hid (fun h k i h1 h2 => okL_no (hrl h).1 h1 (by omega))
    have Hyes : Hid ((∀ k i, k < i → i < n → badP l k i = false) → b = true) := Lib.hid (fun h => by
      have := right_enc (okL_of hin (fun k i h1 h2 => h k i h1 (by omega)))
      rw [hy, hb] at this; exact this)
    rw [hy] at HW
    have Hlen := Lib.hid hlen
    clear hrl hin hl hy hb hn hlen
    go_enter Try.func19, Try.ntmps19
    go_wp2_with fail
    refine (HL.out _).mono ?_
    rintro e w1 ⟨v, rfl, hown, hN1⟩
    have hv := ReadsP.ofOwns Hlen.out.symm hown
    clear hown
    go_wp2_with fail
    refine (HW.out v _ hv).mono ?_
    rintro e w2 ⟨rfl, hN2⟩
    have hN := hN1.trans hN2
    obtain ⟨ao, cap, rfl, hc⟩ := hv.new hN2
    have hlen := Hlen.out
    rw [hlen] at hc ⊢
    clear hv hN1 hN2 HL HW hlen
    have Hc := Lib.hid hc
    clear hc
    go_wp2
    go_loopw [4, 5] (fun i _ wr => ∃ k : Nat, k ≤ n ∧ i = .int .i64 k ∧ Hid (∀ a c, a < c → c < k → badP l a c = false) ∧ New w2 wr) (fun i _ _ => n - (intOf i).toNat)
    case atStart => exact ⟨0, Nat.zero_le _, rfl, (fun a c _ h => by omega), Mods.refl _ _⟩
    case round =>
      obtain ⟨i, hi, rfl, hbef, hNi⟩ := hrel
      by_cases hlt : i < n
      · go_wp2
        obtain ⟨wo, hwo⟩ : ∃ wo, wr = wo := ⟨_, rfl⟩
        rw [hwo] at hNi ⊢
        clear hwo wr
        go_loopw [5] (fun c wr => ∃ k : Nat, k ≤ i ∧ c = .int .i64 k ∧ Hid (∀ a, a < k → badP l a i = false) ∧ New wo wr) (fun c _ => i - (intOf c).toNat)
        case atStart => exact ⟨0, Nat.zero_le _, rfl, (fun a h => by omega), Mods.refl _ _⟩
        case round =>
          obtain ⟨k, hk, rfl, hrow, hNk⟩ := hrel
          by_cases hlk : k < i
          · obtain ⟨b1, rfl, h1, h2⟩ := Hc.out k (by omega)
            obtain ⟨b2, hb2, h3, h4⟩ := Hc.out i hlt
            simp only [Option.some.injEq, Addr.mk.injEq, and_true] at hb2
            subst hb2
            have hNN := hNi.trans hNk
            have h1 := hNN.cell h1 id
            have h2 := hNN.cell h2 id
            have h3 := hNN.cell h3 id
            have h4 := hNN.cell h4 id
            have hbad : badP l k i = ((l.getD k (0, 0)).1 == (l.getD i (0, 0)).1 || decide ((l.getD i (0, 0)).2 < (l.getD k (0, 0)).2)) := rfl
            obtain ⟨t, ht⟩ : ∃ t, badP l k i = t := ⟨_, rfl⟩
            rw [ht] at hbad
            obtain ⟨s1, hs1⟩ : ∃ s, (l.getD k (0, 0)).1 = s := ⟨_, rfl⟩
            obtain ⟨u1, hu1⟩ : ∃ s, (l.getD k (0, 0)).2 = s := ⟨_, rfl⟩
            obtain ⟨s2, hs2⟩ : ∃ s, (l.getD i (0, 0)).1 = s := ⟨_, rfl⟩
            obtain ⟨u2, hu2⟩ : ∃ s, (l.getD i (0, 0)).2 = s := ⟨_, rfl⟩
            rw [hs1] at h1 hbad
            rw [hu1] at h2 hbad
            rw [hs2] at h3 hbad
            rw [hu2] at h4 hbad
            clear hs1 hu1 hs2 hu2
            have hkn : k < n := by omega
            have Ht := Lib.hid ht
            clear ht
            by_cases e1 : s1 = s2
            · have q1 : ((s1 : Int) == (s2 : Int)) = true := by rw [e1]; simp
              have htt : t = true := by rw [hbad, e1]; simp
              have hbf : b = false := by
                cases b with
                | false => rfl
                | true =>
                  have h1 := Hno.out rfl k i hlk hlt
                  have h2 := Ht.out
                  rw [htt, h1] at h2
                  exact h2.symm
              clear hbad e1
              go_wp2
              go_quiet (fail)
              go_wp2
              go_ret
              exact ⟨by rw [hbf]; rfl, (hN.trans hNN).drewN _⟩
            · have q1 : ((s1 : Int) == (s2 : Int)) = false := beq_eq_false_iff_ne.2 (by omega)
              by_cases e2 : u2 < u1
              · have q2 : decide ((u2 : Int) < (u1 : Int)) = true := decide_eq_true (by omega)
                have htt : t = true := by rw [hbad]; simp [e2]
                have hbf : b = false := by
                  cases b with
                  | false => rfl
                  | true =>
                    have h1 := Hno.out rfl k i hlk hlt
                    have h2 := Ht.out
                    rw [htt, h1] at h2
                    exact h2.symm
                clear hbad e1
                go_wp2
                go_quiet (fail)
                go_wp2
                go_ret
                exact ⟨by rw [hbf]; rfl, (hN.trans hNN).drewN _⟩
              · have q2 : decide ((u2 : Int) < (u1 : Int)) = false := decide_eq_false (by omega)
                have htf : t = false := by rw [hbad]; simp [e1, e2]
                have hnext : Hid (∀ a, a < k + 1 → badP l a i = false) := Lib.hid (fun a ha => by
                  by_cases h : a < k
                  · exact hrow.out a h
                  · obtain rfl : a = k := by omega
                    exact Ht.out.trans htf)
                clear hbad hrow htf Ht
                go_wp2
                go_quiet (fail)
                go_wp2
                go_roundw
                case rel => exact ⟨k + 1, by omega, by go_num, hnext, hNk.drewN _⟩
                case measure => simp [intOf]; omega
          · obtain rfl : k = i := by omega
            have hnext : Hid (∀ a c, a < c → c < k + 1 → badP l a c = false) := Lib.hid (fun a c h1 h2 => by
              by_cases h : c < k
              · exact hbef.out a c h1 h
              · obtain rfl : c = k := by omega
                exact hrow.out a h1)
            clear hrow hbef
            go_wp2
            go_roundw
            case rel => exact ⟨k + 1, by omega, by go_num, hnext, hNi.trans hNk⟩
            case measure => simp [intOf]; omega
      · obtain rfl : i = n := by omega
        have hbt := Hyes.out hbef.out
        clear hbef
        go_wp2
        go_ret
        exact ⟨by rw [hbt]; rfl, hN.trans hNi⟩
  · have hbf : b = false := by
      cases b with
      | false => rfl
      | true => exact absurd (hrl rfl).2 hy
    have hl64 : enc l ≠ x := hy
    obtain ⟨y, hyy⟩ : ∃ y, enc l = y := ⟨_, rfl⟩
    rw [hyy] at HW hl64
    have hne : ((y : Int) != (x : Int)) = true := by simp; omega
    have Hlen := Lib.hid hlen
    subst hbf
    clear hrl hin hl hy hb hn hlen hyy hl64
    go_enter Try.func19, Try.ntmps19
    go_wp2_with fail
    refine (HL.out _).mono ?_
    rintro e w1 ⟨v, rfl, hown, hN1⟩
    have hv := ReadsP.ofOwns Hlen.out.symm hown
    clear hown
    go_wp2_with fail
    refine (HW.out v _ hv).mono ?_
    rintro e w2 ⟨rfl, hN2⟩
    clear hv
    go_wp2_with fail
    go_ret
    exact ⟨rfl, hN1.trans hN2⟩
end Go.Proofs.Ytkjloeefcaadlaa
