/- The document's answer: plain fields, trailers; lists that are too great, lists that are the same. -/
import Derived.Test.YtkjghojdfjhhkaaDoorM06
import Derived.Test.YtkjghojdfjhhkaaDoorM05
import Derived.Deep.CutRange
set_option linter.unusedSimpArgs false
set_option linter.unusedVariables false
namespace Go.Proofs.YtkjghojdfjhhkaaDoor
open Go.RowKit Go.Shelf Go.Cs
attribute [local go_sem] Oper.semAt_some
theorem eq_const (a : ByteArray) (l : List UInt8) : (a.toList == l) = decide (a = ⟨l.toArray⟩) := by
  rw [Lib.toList_data, Bool.eq_iff_iff]
  obtain ⟨⟨x⟩⟩ := a
  simp
theorem ne_const {a : ByteArray} {l : List UInt8} (h : ¬ a = ⟨l.toArray⟩) : (a.toList == l) = false := by rw [eq_const, decide_eq_false h]
theorem is_const {a : ByteArray} {l : List UInt8} (h : a = ⟨l.toArray⟩) : (a.toList == l) = true := by rw [eq_const, decide_eq_true h]
set_option maxHeartbeats 1000000 in
set_option maxRecDepth 100000 in
theorem plain_ref (p : Fd) (w : World) (hn : p.name.size ≤ 9223372036854775807) (hv : p.val.size ≤ 9223372036854775807) :
    Calls Tryd.prog 47 #[p.v] w fun e w' => e = .returned (.bool (plainF p)) ∧ New w w' := by
  obtain ⟨a, b⟩ := p
  have HN := Lib.hid (fun w => name_ref a w hn)
  have HV := Lib.hid (fun w => value_ref b w hv)
  obtain ⟨r, hr⟩ : ∃ r, plainF ⟨a, b⟩ = r := ⟨_, rfl⟩
  have Hr : Hid ((if a = bTe then decide (b = bTrailers) else !(forbB a) && (nameB a.data.toList && valueB b.data.toList)) = r) := Lib.hid hr
  rw [hr]
  clear hr hn hv
  unfold Fd.v
  by_cases h1 : a = bConnection
  · have e1 := is_const h1
    obtain rfl : r = false := by rw [← Hr.out, if_neg (by rw [h1]; decide), forbB, decide_eq_true h1]; rfl
    clear Hr h1
    go_enter Tryd.func47, Tryd.ntmps47
    go_wp2_with fail
    go_ret
    exact ⟨rfl, (Mods.refl _ _).alloc _⟩
  have e1 := ne_const h1
  by_cases h2 : a = bKeep
  · have e2 := is_const h2
    obtain rfl : r = false := by rw [← Hr.out, if_neg (by rw [h2]; decide), forbB, decide_eq_true h2]; simp
    clear Hr h1 h2
    go_enter Tryd.func47, Tryd.ntmps47
    go_wp2_with fail
    go_ret
    exact ⟨rfl, (Mods.refl _ _).alloc _⟩
  have e2 := ne_const h2
  by_cases h3 : a = bProxy
  · have e3 := is_const h3
    obtain rfl : r = false := by rw [← Hr.out, if_neg (by rw [h3]; decide), forbB, decide_eq_true h3]; simp
    clear Hr h1 h2 h3
    go_enter Tryd.func47, Tryd.ntmps47
    go_wp2_with fail
    go_ret
    exact ⟨rfl, (Mods.refl _ _).alloc _⟩
  have e3 := ne_const h3
  by_cases h4 : a = bTransfer
  · have e4 := is_const h4
    obtain rfl : r = false := by rw [← Hr.out, if_neg (by rw [h4]; decide), forbB, decide_eq_true h4]; simp
    clear Hr h1 h2 h3 h4
    go_enter Tryd.func47, Tryd.ntmps47
    go_wp2_with fail
    go_ret
    exact ⟨rfl, (Mods.refl _ _).alloc _⟩
  have e4 := ne_const h4
  by_cases h5 : a = bUpgrade
  · have e5 := is_const h5
    obtain rfl : r = false := by rw [← Hr.out, if_neg (by rw [h5]; decide), forbB, decide_eq_true h5]; simp
    clear Hr h1 h2 h3 h4 h5
    go_enter Tryd.func47, Tryd.ntmps47
    go_wp2_with fail
    go_ret
    exact ⟨rfl, (Mods.refl _ _).alloc _⟩
  have e5 := ne_const h5
  by_cases h6 : a = bTe
  · have e6 := is_const h6
    have hr : r = (b.toList == [116, 114, 97, 105, 108, 101, 114, 115]) := by rw [← Hr.out, if_pos h6, eq_const]; rfl
    have Hr' := Lib.hid hr
    clear Hr hr h1 h2 h3 h4 h5 h6
    go_enter Tryd.func47, Tryd.ntmps47
    go_wp2_with fail
    go_ret
    exact ⟨by rw [Hr'.out]; rfl, (Mods.refl _ _).alloc _⟩
  have e6 := ne_const h6
  have hr : r = (nameB a.data.toList && valueB b.data.toList) := by
    rw [← Hr.out, if_neg h6, forbB, decide_eq_false h1, decide_eq_false h2, decide_eq_false h3, decide_eq_false h4, decide_eq_false h5]; rfl
  have Hr' := Lib.hid hr
  clear Hr hr h1 h2 h3 h4 h5 h6
  obtain ⟨x, hx⟩ : ∃ x, nameB a.data.toList = x := ⟨_, rfl⟩
  obtain ⟨y, hy⟩ : ∃ x, valueB b.data.toList = x := ⟨_, rfl⟩
  rw [hx] at HN Hr'
  rw [hy] at HV Hr'
  clear hx hy
  cases x with
  | true =>
    obtain rfl : r = y := Hr'.out
    clear Hr'
    go_enter Tryd.func47, Tryd.ntmps47
    go_wp2_with (first | (go_at_call 43; refine (HN.out _).mono ?_; rintro e w' ⟨rfl, rfl⟩) | (go_at_call 45; refine (HV.out _).mono ?_; rintro e w' ⟨rfl, rfl⟩))
    go_ret
    exact ⟨rfl, (Mods.refl _ _).alloc _⟩
  | false =>
    obtain rfl : r = false := Hr'.out
    clear Hr'
    go_enter Tryd.func47, Tryd.ntmps47
    go_wp2_with (first | (go_at_call 43; refine (HN.out _).mono ?_; rintro e w' ⟨rfl, rfl⟩) | (go_at_call 45; refine (HV.out _).mono ?_; rintro e w' ⟨rfl, rfl⟩))
    go_ret
    exact ⟨rfl, (Mods.refl _ _).alloc _⟩
end Go.Proofs.YtkjghojdfjhhkaaDoor
/- Lists of fields that came in, of whatever length; which are too great. -/
namespace Go.Proofs.YtkjghojdfjhhkaaDoor
open Go.RowKit Go.Cs
/-- A slice of fields of whatever length. -/
def ReadsU (W : World) (v : Value) (L : List Fd) : Prop := L.length ≤ 9223372036854775807 ∧ ∃ ao cap, v = .slice ao L.length cap ∧ ∀ k, k < L.length → ∃ b o, ao = some ⟨b, o, none⟩ ∧ W.cell? ⟨b, o + k * 2, none⟩ = some (.string (L.getD k .no).name) ∧ W.cell? ⟨b, o + k * 2 + 1, none⟩ = some (.string (L.getD k .no).val)
def fsz (p : Fd) : Nat := p.name.size + p.val.size
def sumZ (L : List Fd) : Nat := (L.map fsz).sum
def ReachF (p : Fd) : Prop := p.name.size ≤ 140737488351232 ∧ p.val.size ≤ 140737488351232
def ReachL (L : List Fd) : Prop := ∀ p ∈ L, ReachF p
def greatL (L : List Fd) : Bool := decide (140 < L.length) || decide (5000 < sumZ (L.take 141))
theorem ReachF.no : ReachF .no := ⟨by decide, by decide⟩
theorem ReachL.at {L : List Fd} (h : ReachL L) (i : Nat) : ReachF (L.getD i .no) := by
  by_cases hi : i < L.length
  · exact h _ (getD_mem hi)
  · rw [List.getD_eq_getElem?_getD, List.getElem?_eq_none (by omega)]
    exact .no
theorem sumZ_mem {L : List Fd} {p : Fd} (h : p ∈ L) : fsz p ≤ sumZ L := by
  induction L with
  | nil => cases h
  | cons q L ih =>
    simp only [sumZ, List.map_cons, List.sum_cons] at ih ⊢
    rcases List.mem_cons.1 h with rfl | h
    · omega
    · have := ih h; omega
theorem sumZ_take (L : List Fd) (k : Nat) (hk : k < L.length) : sumZ (L.take (k + 1)) = sumZ (L.take k) + fsz (L.getD k .no) := by
  rw [List.take_add_one, List.getElem?_eq_getElem hk]
  unfold sumZ
  rw [List.map_append, List.sum_append]
  simp [List.getD, hk]
theorem sumZ_le {L : List Fd} (h : ReachL L) (k : Nat) : sumZ (L.take k) ≤ k * 281474976702464 := by
  induction k with
  | zero => simp [sumZ]
  | succ k ih =>
    by_cases hk : k < L.length
    · have e := sumZ_take L k hk
      have := h.at k
      unfold fsz at e
      have h1 := this.1
      have h2 := this.2
      omega
    · have e : L.take (k + 1) = L.take k := by rw [List.take_of_length_le (by omega), List.take_of_length_le (by omega)]
      have e' := congrArg sumZ e
      omega
/-- One that is not too great is small. -/
theorem small_of {L : List Fd} (h : greatL L = false) : L.length ≤ 140 ∧ sumZ L ≤ 5000 ∧ SmallL L := by
  unfold greatL at h
  simp at h
  have h2 := h.2
  rw [List.take_of_length_le (by omega)] at h2
  refine ⟨h.1, h2, fun p hp => ?_⟩
  have := sumZ_mem hp
  unfold fsz at this
  exact ⟨by omega, by omega⟩
theorem ReadsU.small {W : World} {v : Value} {L : List Fd} (h : ReadsU W v L) (hl : L.length ≤ 2000000) : ReadsL W v L := by
  obtain ⟨_, ao, cap, e, hc⟩ := h
  refine ⟨hl, ao, cap, e, fun i hi => ?_⟩
  obtain ⟨b, o, e', h1, h2⟩ := hc i hi
  refine ⟨b, o, e', fun j v hv => ?_⟩
  match j, hv with
  | 0, hv => simp [Fd.cs] at hv; subst hv; exact h1
  | 1, hv => simp [Fd.cs] at hv; subst hv; exact h2
  | j + 2, hv => simp [Fd.cs] at hv
theorem ReadsL.wide {W : World} {v : Value} {L : List Fd} (h : ReadsL W v L) : ReadsU W v L := by
  obtain ⟨ao, cap, rfl⟩ := h.slice
  exact ⟨by have := h.1; omega, ao, cap, rfl, fun k hk => h.at hk⟩
theorem ReadsU.new {W W' : World} {v : Value} {L : List Fd} (h : ReadsU W v L) (hN : New W W') : ReadsU W' v L := by
  obtain ⟨hl, ao, cap, e, hc⟩ := h
  refine ⟨hl, ao, cap, e, fun i hi => ?_⟩
  obtain ⟨b, o, e', h1, h2⟩ := hc i hi
  exact ⟨b, o, e', hN.cell h1 id, hN.cell h2 id⟩
end Go.Proofs.YtkjghojdfjhhkaaDoor
/- Trailers of the document; lists that are too great, lists that are the same. -/
namespace Go.Proofs.YtkjghojdfjhhkaaDoor
open Go.RowKit Go.Shelf Go.Cs
attribute [local go_sem] Oper.semAt_some
set_option maxHeartbeats 1000000 in
set_option maxRecDepth 100000 in
theorem trailers_ref (v : Value) (L : List Fd) (w : World) (hR : ReadsL w v L) (hS : SmallL L) :
    Calls Tryd.prog 49 #[v] w fun e w' => e = .returned (.bool (trailersB L)) ∧ New w w' := by
  obtain ⟨ao, cap, rfl⟩ := hR.slice
  have HR := Lib.hid hR
  have HS := Lib.hid hS
  have hlen : L.length ≤ 2000000 := hR.1
  obtain ⟨r, hr⟩ : ∃ r, trailersB L = r := ⟨_, rfl⟩
  rw [hr]
  have Hr := Lib.hid hr
  clear hR hS hr
  obtain ⟨n, hn⟩ : ∃ n, L.length = n := ⟨_, rfl⟩
  have Hn := Lib.hid hn
  rw [hn] at HR hlen ⊢
  clear hn
  go_enter Tryd.func49, Tryd.ntmps49
  go_wp2_with fail
  go_loopw [3] (fun c wr => ∃ k : Nat, k ≤ n ∧ c = .int .i64 k ∧ Hid (∀ i, i < k → plainF (L.getD i .no) = true) ∧ New w wr) (fun c _ => n - (intOf c).toNat)
  case atStart => exact ⟨0, Nat.zero_le _, rfl, Lib.hid (fun i hi => by omega), Mods.refl _ _⟩
  case round =>
    obtain ⟨k, hk, rfl, hbef, hN⟩ := hrel
    by_cases hkn : k < n
    · have hkd : decide ((k : Int) < (n : Int)) = true := decide_eq_true (by omega)
      obtain ⟨b, o, rfl, hc1, hc2⟩ := (HR.out.new hN).at hkn
      have hsm := HS.out.at k
      obtain ⟨p, hp⟩ : ∃ p, L.getD k .no = p := ⟨_, rfl⟩
      have Hp := Lib.hid hp
      rw [hp] at hc1 hc2 hsm
      clear hp
      obtain ⟨pn, pv⟩ := p
      simp only at hc1 hc2
      have HPl := Lib.hid (fun w => plain_ref ⟨pn, pv⟩ w (Nat.le_trans (Nat.le_of_lt hsm.1) (by decide)) (Nat.le_trans (Nat.le_of_lt hsm.2) (by decide)))
      clear hsm
      cases hpl : plainF ⟨pn, pv⟩ with
      | true =>
        rw [hpl] at HPl
        have hnext : Hid (∀ i, i < k + 1 → plainF (L.getD i .no) = true) := Lib.hid (fun i hi => by
          by_cases h : i < k
          · exact hbef.out i h
          · obtain rfl : i = k := by omega
            rw [Hp.out]; exact hpl)
        clear hbef hpl
        go_wp2_with fail
        refine (HPl.out _).mono ?_
        rintro e w1 ⟨rfl, hN1⟩
        go_wp2_with fail
        go_roundw
        case rel => exact ⟨k + 1, by omega, by go_num, hnext, hN.trans hN1⟩
        case measure => simp [intOf]; omega
      | false =>
        rw [hpl] at HPl
        have hR : r = false := by
          rw [← Hr.out, trailersB, List.all_eq_false]
          exact ⟨_, getD_mem (by rw [Hn.out]; exact hkn), by rw [Hp.out, hpl]; simp⟩
        subst hR
        clear hbef hpl Hr
        go_wp2_with fail
        refine (HPl.out _).mono ?_
        rintro e w1 ⟨rfl, hN1⟩
        go_wp2_with fail
        go_ret
        exact ⟨rfl, hN.trans hN1⟩
    · obtain rfl : k = n := by omega
      have hkd : decide ((k : Int) < (k : Int)) = false := decide_eq_false (by omega)
      have hR : r = true := by
        rw [← Hr.out, trailersB, List.all_eq_true]
        intro x hx
        obtain ⟨i, hi⟩ := List.getElem?_of_mem hx
        have hl := (List.getElem?_eq_some_iff.1 hi).1
        have := hbef.out i (by rw [← Hn.out]; exact hl)
        rw [List.getD_eq_getElem?_getD, hi] at this
        exact this
      subst hR
      clear hbef Hr
      go_wp2_with fail
      go_ret
      exact ⟨rfl, hN⟩
set_option maxHeartbeats 1000000 in
set_option maxRecDepth 100000 in
theorem great_any (v : Value) (L : List Fd) (w : World) (hR : ReadsU w v L) (hS : ReachL L) :
    Calls Tryd.prog 13 #[v] w fun e w' => e = .returned (.bool (greatL L)) ∧ New w w' := by
  have HB : Hid (greatL L = (decide (140 < L.length) || decide (5000 < sumZ (L.take 141)))) := Lib.hid rfl
  obtain ⟨r, hr⟩ : ∃ r, greatL L = r := ⟨_, rfl⟩
  rw [hr] at HB ⊢
  obtain ⟨hlen, ao, cap, rfl, hc⟩ := hR
  have HC := Lib.hid hc
  have HS := Lib.hid hS
  clear hS hr hc
  obtain ⟨n, hn⟩ : ∃ n, L.length = n := ⟨_, rfl⟩
  have Hn := Lib.hid hn
  rw [hn] at HC hlen HB ⊢
  clear hn
  go_enter Tryd.func13, Tryd.ntmps13
  go_wp2_with fail
  go_loopw [3, 4] (fun s c wr => ∃ k : Nat, k ≤ n ∧ k ≤ 141 ∧ c = .int .i64 k ∧ s = .int .i64 (sumZ (L.take k) : Nat) ∧ New w wr) (fun _ c _ => n - (intOf c).toNat)
  case atStart => exact ⟨0, Nat.zero_le _, by omega, rfl, rfl, Mods.refl _ _⟩
  case round =>
    obtain ⟨k, hk, hk141, rfl, rfl, hN⟩ := hrel
    have hsl := sumZ_le HS.out k
    by_cases hkn : k < n
    · have hkd : decide ((k : Int) < (n : Int)) = true := decide_eq_true (by omega)
      by_cases h140 : k ≤ 140
      · have hkd2 : decide ((k : Int) ≤ 140) = true := decide_eq_true (by omega)
        obtain ⟨b, o, rfl, hc1, hc2⟩ := HC.out k hkn
        have hc1 := hN.cell hc1 id
        have hc2 := hN.cell hc2 id
        have hrc := HS.out.at k
        have hst := sumZ_take L k (by rw [Hn.out]; exact hkn)
        obtain ⟨p, hp⟩ : ∃ p, L.getD k .no = p := ⟨_, rfl⟩
        rw [hp] at hc1 hc2 hrc hst
        clear hp
        obtain ⟨pn, pv⟩ := p
        simp only [fsz] at hc1 hc2 hst
        have Hst := Lib.hid hst
        obtain ⟨h1, h2⟩ := hrc
        simp only at h1 h2
        obtain ⟨t, ht⟩ : ∃ t, sumZ (L.take k) = t := ⟨_, rfl⟩
        rw [ht] at Hst hsl ⊢
        have ht' : t ≤ 140 * 281474976702464 := Nat.le_trans hsl (Nat.mul_le_mul_right _ h140)
        clear hst ht hsl
        have hw1 : IntKind.i64.wrap ((t : Int) + (pn.size : Int)) = (t : Int) + (pn.size : Int) := wrap_small (by omega) (by omega)
        have hw2 : IntKind.i64.wrap ((t : Int) + (pn.size : Int) + (pv.size : Int)) = (t : Int) + (pn.size : Int) + (pv.size : Int) := wrap_small (by omega) (by omega)
        have Hw1 := Lib.hid hw1
        have Hw2 := Lib.hid hw2
        clear hw1 hw2
        go_upto_region 5 with fail
        have hw1 := Hw1.out
        have hw2 := Hw2.out
        go_quiet (fail)
        clear hw1 hw2
        go_wp2_with fail
        go_roundw
        case rel => exact ⟨k + 1, by omega, by omega, by go_num, by rw [Hst.out]; congr 1; omega, hN.drewN _⟩
        case measure => simp [intOf]; omega
      · have hkd2 : decide ((k : Int) ≤ 140) = false := decide_eq_false (by omega)
        have hd : decide ((140 : Int) < (n : Int)) = true := decide_eq_true (by omega)
        obtain rfl : r = true := by rw [HB.out, decide_eq_true (by omega)]; rfl
        clear HB hsl
        go_wp2_with fail
        go_ret
        exact ⟨rfl, hN⟩
    · obtain rfl : k = n := by omega
      have hkd : decide ((k : Int) < (k : Int)) = false := decide_eq_false (by omega)
      by_cases h140 : 140 < k
      · have hd : decide ((140 : Int) < (k : Int)) = true := decide_eq_true (by omega)
        obtain rfl : r = true := by rw [HB.out, decide_eq_true h140]; rfl
        clear HB hsl
        go_wp2_with fail
        go_ret
        exact ⟨rfl, hN⟩
      · have hd : decide ((140 : Int) < (k : Int)) = false := decide_eq_false (by omega)
        have ht : L.take 141 = L.take k := by
          have := Hn.out
          rw [List.take_of_length_le (by omega), List.take_of_length_le (by omega)]
        have hr : r = decide (5000 < sumZ (L.take k)) := by rw [HB.out, decide_eq_false h140, ht, Bool.false_or]
        obtain ⟨t, ht⟩ : ∃ t, sumZ (L.take k) = t := ⟨_, rfl⟩
        rw [ht] at hr hsl ⊢
        have hd2 : decide ((5000 : Int) < (t : Int)) = r := by rw [hr, Bool.eq_iff_iff]; simp; omega
        clear HB ht hr hsl h140
        go_wp2_with fail
        go_ret
        exact ⟨rfl, hN⟩
end Go.Proofs.YtkjghojdfjhhkaaDoor
/- Lists that are the same. -/
namespace Go.Proofs.YtkjghojdfjhhkaaDoor
open Go.RowKit Go.Shelf Go.Cs
attribute [local go_sem] Oper.semAt_some
theorem neq54 (a b c d : ByteArray) (w : World) : (binOp .neq 54 (.agg #[.string a, .string b]) (.agg #[.string c, .string d])).run Tryd.prog w = .ok (.bool (!decide ((⟨a, b⟩ : Fd) = ⟨c, d⟩))) w := by
  have he := eq_field 9998 ⟨a, b⟩ ⟨c, d⟩ w
  unfold Fd.v at he
  rw [run_neq_struct w 54 _ _, show (10000 : Nat) = 9998 + 2 from rfl, he]
  rfl
theorem gd54 (op : BinOp) (x y : Operand) (a b c d : ByteArray) (w : World) : (eqGuard op 54 x y (.agg #[.string a, .string b]) (.agg #[.string c, .string d])).run Tryd.prog w = .ok () w := run_eqGuard_agg w op 54 x y _ _ guard54
set_option maxHeartbeats 1000000 in
set_option maxRecDepth 100000 in
theorem fields_any (v v' : Value) (L M : List Fd) (w : World) (hR : ReadsL w v L) (hR' : ReadsL w v' M) :
    Calls Tryd.prog 18 #[v, v'] w fun e w' => e = .returned (.bool (decide (L = M))) ∧ New w w' := by
  obtain ⟨ao, cap, rfl⟩ := hR.slice
  obtain ⟨ao', cap', rfl⟩ := hR'.slice
  have HR := Lib.hid hR
  have HR' := Lib.hid hR'
  obtain ⟨r, hr⟩ : ∃ r, decide (L = M) = r := ⟨_, rfl⟩
  rw [hr]
  have Hr := Lib.hid hr
  have hl1 : L.length ≤ 2000000 := hR.1
  have hl2 : M.length ≤ 2000000 := hR'.1
  obtain ⟨n, hn⟩ : ∃ n, L.length = n := ⟨_, rfl⟩
  have Hn := Lib.hid hn
  obtain ⟨m, hm⟩ : ∃ n, M.length = n := ⟨_, rfl⟩
  have Hm := Lib.hid hm
  rw [hn] at HR hl1 ⊢
  rw [hm] at HR' hl2 ⊢
  clear hR hR' hr hn hm
  by_cases hnm : n = m
  · subst hnm
    go_enter Tryd.func18, Tryd.ntmps18
    go_wp2_with fail
    go_loopw [5] (fun c wr => ∃ k : Nat, k ≤ n ∧ c = .int .i64 k ∧ Hid (∀ i, i < k → L.getD i .no = M.getD i .no) ∧ New w wr) (fun c _ => n - (intOf c).toNat)
    case atStart => exact ⟨0, Nat.zero_le _, rfl, Lib.hid (fun i hi => by omega), Mods.refl _ _⟩
    case round =>
      obtain ⟨k, hk, rfl, hbef, hN⟩ := hrel
      by_cases hkn : k < n
      · have hkd : decide ((k : Int) < (n : Int)) = true := decide_eq_true (by omega)
        obtain ⟨b, o, rfl, hc1, hc2⟩ := (HR.out.new hN).at hkn
        obtain ⟨b', o', rfl, hc1', hc2'⟩ := (HR'.out.new hN).at hkn
        obtain ⟨p, hp⟩ : ∃ p, L.getD k .no = p := ⟨_, rfl⟩
        obtain ⟨q, hq⟩ : ∃ p, M.getD k .no = p := ⟨_, rfl⟩
        have Hp := Lib.hid hp
        have Hq := Lib.hid hq
        rw [hp] at hc1 hc2
        rw [hq] at hc1' hc2'
        clear hp hq
        obtain ⟨pn, pv⟩ := p
        obtain ⟨qn, qv⟩ := q
        simp only at hc1 hc2 hc1' hc2'
        have hne := fun w => neq54 pn pv qn qv w
        have hgd := fun op x y w => gd54 op x y pn pv qn qv w
        obtain ⟨t, ht⟩ : ∃ t, decide ((⟨pn, pv⟩ : Fd) = ⟨qn, qv⟩) = t := ⟨_, rfl⟩
        have Ht := Lib.hid ht
        rw [ht] at hne
        clear ht
        go_upto_region 6 with fail
        go_quiet (fail)
        clear hne hgd
        cases t with
        | true =>
          have hnext : Hid (∀ i, i < k + 1 → L.getD i .no = M.getD i .no) := Lib.hid (fun i hi => by
            by_cases h : i < k
            · exact hbef.out i h
            · obtain rfl : i = k := by omega
              rw [Hp.out, Hq.out]; exact of_decide_eq_true Ht.out)
          clear hbef
          go_wp2_with fail
          go_roundw
          case rel => exact ⟨k + 1, by omega, by go_num, hnext, hN.drewN _⟩
          case measure => simp [intOf]; omega
        | false =>
          obtain rfl : r = false := by
            rw [← Hr.out, decide_eq_false_iff_not]
            rintro rfl
            have := of_decide_eq_false Ht.out
            exact this (Hp.out.symm.trans Hq.out)
          clear hbef Hr
          go_wp2_with fail
          go_ret
          exact ⟨rfl, hN.drewN _⟩
      · obtain rfl : k = n := by omega
        have hkd : decide ((k : Int) < (k : Int)) = false := decide_eq_false (by omega)
        obtain rfl : r = true := by
          rw [← Hr.out, decide_eq_true_iff]
          apply List.ext_getElem?
          intro i
          by_cases hi : i < k
          · have := hbef.out i hi
            have h1 : i < L.length := by rw [Hn.out]; exact hi
            have h2 : i < M.length := by rw [Hm.out]; exact hi
            simpa [List.getD, h1, h2] using this
          · rw [List.getElem?_eq_none (by rw [Hn.out]; omega), List.getElem?_eq_none (by rw [Hm.out]; omega)]
        clear hbef Hr
        go_wp2_with fail
        go_ret
        exact ⟨rfl, hN⟩
  · obtain rfl : r = false := by
      rw [← Hr.out, decide_eq_false_iff_not]
      rintro rfl
      exact hnm (Hn.out.symm.trans Hm.out)
    have e : ((n : Int) != (m : Int)) = true := by simp; omega
    have e' : (n != m) = true := by simpa using hnm
    clear hnm Hr
    go_enter Tryd.func18, Tryd.ntmps18
    go_wp2_with fail
    go_ret
    exact ⟨rfl, Mods.refl _ _⟩
end Go.Proofs.YtkjghojdfjhhkaaDoor
/- Lists that are the same by the library; a list's clone; requests that are the same. -/
namespace Go.Proofs.YtkjghojdfjhhkaaDoor
open Go.RowKit Go.Shelf Go.Cs
attribute [local go_sem] Oper.semAt_some
set_option maxHeartbeats 1000000 in
set_option maxRecDepth 100000 in
theorem equal_any (v v' : Value) (L M : List Fd) (w : World) (hR : ReadsL w v L) (hR' : ReadsL w v' M) :
    Calls Tryd.prog 84 #[v, v'] w fun e w' => e = .returned (.bool (decide (L = M))) ∧ New w w' := by
  obtain ⟨ao, cap, rfl⟩ := hR.slice
  obtain ⟨ao', cap', rfl⟩ := hR'.slice
  have HR := Lib.hid hR
  have HR' := Lib.hid hR'
  obtain ⟨r, hr⟩ : ∃ r, decide (L = M) = r := ⟨_, rfl⟩
  rw [hr]
  have Hr := Lib.hid hr
  have hl1 : L.length ≤ 2000000 := hR.1
  have hl2 : M.length ≤ 2000000 := hR'.1
  obtain ⟨n, hn⟩ : ∃ n, L.length = n := ⟨_, rfl⟩
  have Hn := Lib.hid hn
  obtain ⟨m, hm⟩ : ∃ n, M.length = n := ⟨_, rfl⟩
  have Hm := Lib.hid hm
  rw [hn] at HR hl1 ⊢
  rw [hm] at HR' hl2 ⊢
  clear hR hR' hr hn hm
  by_cases hnm : n = m
  · subst hnm
    go_enter Tryd.func84, Tryd.ntmps84
    go_wp2_with fail
    go_loopw [5, 13] (fun _ c wr => ∃ k : Nat, k ≤ n ∧ c = .int .i64 k ∧ Hid (∀ i, i < k → L.getD i .no = M.getD i .no) ∧ New w wr) (fun _ c _ => n - (intOf c).toNat)
    case atStart => exact ⟨0, Nat.zero_le _, rfl, Lib.hid (fun i hi => by omega), Mods.refl _ _⟩
    case round =>
      obtain ⟨k, hk, rfl, hbef, hN⟩ := hrel
      by_cases hkn : k < n
      · have hkd : decide ((k : Int) < (n : Int)) = true := decide_eq_true (by omega)
        obtain ⟨b, o, rfl, hc1, hc2⟩ := (HR.out.new hN).at hkn
        obtain ⟨b', o', rfl, hc1', hc2'⟩ := (HR'.out.new hN).at hkn
        obtain ⟨p, hp⟩ : ∃ p, L.getD k .no = p := ⟨_, rfl⟩
        obtain ⟨q, hq⟩ : ∃ p, M.getD k .no = p := ⟨_, rfl⟩
        have Hp := Lib.hid hp
        have Hq := Lib.hid hq
        rw [hp] at hc1 hc2
        rw [hq] at hc1' hc2'
        clear hp hq
        obtain ⟨pn, pv⟩ := p
        obtain ⟨qn, qv⟩ := q
        simp only at hc1 hc2 hc1' hc2'
        have hne := fun w => neq54 pn pv qn qv w
        have hgd := fun op x y w => gd54 op x y pn pv qn qv w
        obtain ⟨t, ht⟩ : ∃ t, decide ((⟨pn, pv⟩ : Fd) = ⟨qn, qv⟩) = t := ⟨_, rfl⟩
        have Ht := Lib.hid ht
        rw [ht] at hne
        clear ht
        go_upto_region 6 with fail
        go_quiet (fail)
        clear hne hgd
        cases t with
        | true =>
          have hnext : Hid (∀ i, i < k + 1 → L.getD i .no = M.getD i .no) := Lib.hid (fun i hi => by
            by_cases h : i < k
            · exact hbef.out i h
            · obtain rfl : i = k := by omega
              rw [Hp.out, Hq.out]; exact of_decide_eq_true Ht.out)
          clear hbef
          go_wp2_with fail
          go_roundw
          case rel => exact ⟨k + 1, by omega, by go_num, hnext, hN.drewN _⟩
          case measure => simp [intOf]; omega
        | false =>
          obtain rfl : r = false := by
            rw [← Hr.out, decide_eq_false_iff_not]
            rintro rfl
            have := of_decide_eq_false Ht.out
            exact this (Hp.out.symm.trans Hq.out)
          clear hbef Hr
          go_wp2_with fail
          go_ret
          exact ⟨rfl, hN.drewN _⟩
      · obtain rfl : k = n := by omega
        have hkd : decide ((k : Int) < (k : Int)) = false := decide_eq_false (by omega)
        obtain rfl : r = true := by
          rw [← Hr.out, decide_eq_true_iff]
          apply List.ext_getElem?
          intro i
          by_cases hi : i < k
          · have := hbef.out i hi
            have h1 : i < L.length := by rw [Hn.out]; exact hi
            have h2 : i < M.length := by rw [Hm.out]; exact hi
            simpa [List.getD, h1, h2] using this
          · rw [List.getElem?_eq_none (by rw [Hn.out]; omega), List.getElem?_eq_none (by rw [Hm.out]; omega)]
        clear hbef Hr
        go_wp2_with fail
        go_ret
        exact ⟨rfl, hN⟩
  · obtain rfl : r = false := by
      rw [← Hr.out, decide_eq_false_iff_not]
      rintro rfl
      exact hnm (Hn.out.symm.trans Hm.out)
    have e : ((n : Int) != (m : Int)) = true := by simp; omega
    have e' : (n != m) = true := by simpa using hnm
    clear hnm Hr
    go_enter Tryd.func84, Tryd.ntmps84
    go_wp2_with fail
    go_ret
    exact ⟨rfl, Mods.refl _ _⟩
theorem info54' : (Tryd.prog.info? 54).map (fun i => (i.zero, i.size, i.bytes)) = some (some (.agg #[.string ⟨#[]⟩, .string ⟨#[]⟩]), 2, 32) := by kernel_rfl
theorem flat_one (L : List Fd) (n : Nat) : ∀ u ∈ flatF n (fun i => (L.getD i .no).cs), u.oneCell' = true :=
  flatF_one fun i _ u hu => by
    simp [Fd.cs] at hu
    rcases hu with rfl | rfl <;> rfl
/-- What a clone leaves: the same fields, in memory of its own. -/
def OwnL (N : Nat) (W : World) (v : Value) (L : List Fd) : Prop := ReadsL W v L ∧ ∀ g, v.ownBlock = some g → N ≤ g
theorem eqS (d : Nat) (t e : TypeId) (h : Tryd.prog.underlying t = some (.slice e)) (a : Option Addr) (n c : Nat) (w : World) : (Op.equalIn (d + 1) t (.slice a n c) (.slice none 0 0)).run Tryd.prog w = .ok a.isNone w := by
  simp only [Op.equalIn, Sem.run_bind, run_underlying h w, Result.andThen_ok]
  cases a <;> rfl
theorem run_nil_slice (t e : TypeId) (h : Tryd.prog.underlying t = some (.slice e)) (a : Option Addr) (n c : Nat) (w : World) : (binOp .eql t (.slice a n c) (.slice none 0 0)).run Tryd.prog w = .ok (.bool a.isNone) w := by
  have h1 := eqS 9999 t e h a n c w
  simp only [binOp]
  simp [Op.equal, Op.maxDepth, h1]
set_option maxHeartbeats 1000000 in
set_option maxRecDepth 100000 in
theorem clone_any (v : Value) (L : List Fd) (w : World) (hR : ReadsL w v L) :
    Calls Tryd.prog 70 #[v] w fun e w' => ∃ v', e = .returned v' ∧ OwnL w.heap.size w' v' L ∧ New w w' := by
  obtain ⟨ao, cap, rfl⟩ := hR.slice
  have hl := hR.1
  have hcells := (show ReadsF w (.slice ao L.length cap) L.length 2 (fun i => (L.getD i .no).cs) from hR).cells (sz := 2) (by decide) (fun i => rfl)
  cases ao with
  | none =>
    have hL : L = [] := List.length_eq_zero_iff.1 (hcells.1 rfl)
    subst hL
    have hL0 : ([] : List Fd).length = 0 := rfl
    rw [hL0]
    have hq := fun w => run_nil_slice 25 54 Tryd.underlying25 none 0 cap w
    go_enter Tryd.func70, Tryd.ntmps70
    go_wp2_with fail
    go_ret
    exact ⟨_, rfl, ⟨ReadsL.nil _ _ _, fun g hg => by cases hg⟩, Mods.refl _ _⟩
  | some a =>
    have hnews := hcells.2 a rfl
    obtain ⟨i0, hi, hz0, hz1, hz2⟩ := info_parts info54'
    have hlen := flatF_len (sz := 2) (f := fun i => (L.getD i .no).cs) (fun i => rfl) L.length
    have hone := flat_one L L.length
    have HO : Hid (∀ (w' : World) v', w'.ownsRow w.heap.size 54 2 v' L.length (flatF L.length fun i => (L.getD i .no).cs) → OwnL w.heap.size w' v' L) := Lib.hid fun w' v' hown => ⟨ReadsF.ofOwns (by decide) (fun i => rfl) hl hown, fun g hg => (World.ownsRow.lt hown g hg).1⟩
    obtain ⟨n, hn⟩ : ∃ n, L.length = n := ⟨_, rfl⟩
    obtain ⟨F, hF⟩ : ∃ F, flatF L.length (fun i => (L.getD i .no).cs) = F := ⟨_, rfl⟩
    rw [hF] at hnews hlen hone HO
    rw [hn] at hl hlen HO ⊢
    clear hcells hn hF hR
    have hown : (w.alloc (.cells #[] 54)).ownsRow w.heap.size 54 2 (.slice (some ⟨w.heap.size, 0, none⟩) 0 0) 0 [] :=
      ⟨rfl, .inr ⟨w.heap.size, 0, #[], rfl, Nat.le_refl _, World.alloc_heap_new w _, Nat.le_refl _, by unfold maxLen; omega, rfl, rfl⟩⟩
    have hnews' : ∀ j u, F[j]? = some u → (w.alloc (.cells #[] 54)).cell? (a.add j) = some u := fun j u hj => ((Mods.refl (fun _ => False) w).alloc _).cell (hnews j u hj) id
    have hq := fun w => run_nil_slice 25 54 Tryd.underlying25 (some a) n cap w
    go_enter Tryd.func70, Tryd.ntmps70
    go_wp2_with (at_builtin; refine wpList_append_own _ rfl _ _ 25 rfl w.heap.size 54 i0 _ 2 32 Tryd.underlying25 hi hz0 hz1 hz2 rfl (by decide) _ _ _ rfl hown a n cap F rfl hlen hnews' hone ?c3 ?c4 ?c5 ?_)
    case c3 => unfold maxLen; omega
    case c4 => omega
    case c5 => simp
    intro v' w2 hown' hgrow _
    have hN2 : New w w2 := ((Mods.refl _ w).alloc (.cells #[] 54)).grown hgrow (by intro g hg; have := hown.lt g hg; omega)
    have hO := Lib.hid (HO.out _ _ hown')
    clear hown'
    go_wp2_with fail
    go_ret
    exact ⟨_, rfl, hO.out, hN2⟩
end Go.Proofs.YtkjghojdfjhhkaaDoor
/- Requests: in memory, compared. -/
namespace Go.Proofs.YtkjghojdfjhhkaaDoor
open Go.RowKit Go.Shelf Go.Cs
attribute [local go_sem] Oper.semAt_some
/-- A request. -/
structure Rq where
  meth : ByteArray
  scheme : ByteArray
  path : ByteArray
  host : ByteArray
  fields : List Fd
def Rq.no : Rq := ⟨bNo, bNo, bNo, bNo, []⟩
def Rq.cs (r : Rq) (v : Value) : List Value := [.string r.meth, .string r.scheme, .string r.path, .string r.host, v]
def sameR (a b : Rq) : Bool := decide (a.meth = b.meth) && (decide (a.scheme = b.scheme) && (decide (a.path = b.path) && (decide (a.host = b.host) && decide (a.fields = b.fields))))
/-- A request in memory. -/
def ReadsR (W : World) (v : Value) (r : Rq) : Prop := ∃ fv, v = .agg (r.cs fv).toArray ∧ ReadsL W fv r.fields
theorem ReadsR.new {W W' : World} {v : Value} {r : Rq} (h : ReadsR W v r) (hN : New W W') : ReadsR W' v r := by
  obtain ⟨fv, e, h⟩ := h
  exact ⟨fv, e, h.new hN⟩
theorem sameR_false {a b : Rq} {b1 b2 b3 b4 : Bool} (h1 : decide (a.meth = b.meth) = b1) (h2 : decide (a.scheme = b.scheme) = b2) (h3 : decide (a.path = b.path) = b3) (h4 : decide (a.host = b.host) = b4) : sameR a b = (b1 && (b2 && (b3 && (b4 && decide (a.fields = b.fields))))) := by
  rw [sameR, h1, h2, h3, h4]
set_option maxHeartbeats 2000000 in
set_option maxRecDepth 100000 in
theorem same_any (v v' : Value) (a b : Rq) (w : World) (hR : ReadsR w v a) (hR' : ReadsR w v' b) :
    Calls Tryd.prog 50 #[v, v'] w fun e w' => e = .returned (.bool (sameR a b)) ∧ New w w' := by
  obtain ⟨fv, rfl, hL⟩ := hR
  obtain ⟨fv', rfl, hL'⟩ := hR'
  have HC : Hid (∀ W, New w W → Calls Tryd.prog 84 #[fv, fv'] W fun e w' => e = .returned (.bool (decide (a.fields = b.fields))) ∧ New W w') := Lib.hid fun W hN => equal_any fv fv' a.fields b.fields W (hL.new hN) (hL'.new hN)
  obtain ⟨ao, cap, rfl⟩ := hL.slice
  obtain ⟨ao', cap', rfl⟩ := hL'.slice
  obtain ⟨m, s, p, h, L⟩ := a
  obtain ⟨m', s', p', h', L'⟩ := b
  have e1 := bytes_toList m m'
  have e2 := bytes_toList s s'
  have e3 := bytes_toList p p'
  have e4 := bytes_toList h h'
  obtain ⟨r, hr⟩ : ∃ r, sameR ⟨m, s, p, h, L⟩ ⟨m', s', p', h', L'⟩ = r := ⟨_, rfl⟩
  rw [hr]
  obtain ⟨b1, h1⟩ : ∃ b, decide (m = m') = b := ⟨_, rfl⟩
  obtain ⟨b2, h2⟩ : ∃ b, decide (s = s') = b := ⟨_, rfl⟩
  obtain ⟨b3, h3⟩ : ∃ b, decide (p = p') = b := ⟨_, rfl⟩
  obtain ⟨b4, h4⟩ : ∃ b, decide (h = h') = b := ⟨_, rfl⟩
  have hS := sameR_false (a := ⟨m, s, p, h, L⟩) (b := ⟨m', s', p', h', L'⟩) h1 h2 h3 h4
  rw [hr] at hS
  simp only at hS HC
  obtain ⟨n, hn⟩ : ∃ n, L.length = n := ⟨_, rfl⟩
  obtain ⟨n', hn'⟩ : ∃ n, L'.length = n := ⟨_, rfl⟩
  rw [h1] at e1
  rw [h2] at e2
  rw [h3] at e3
  rw [h4] at e4
  obtain ⟨d, hd⟩ : ∃ d, decide (L = L') = d := ⟨_, rfl⟩
  rw [hd] at hS HC
  simp only [hn, hn'] at HC ⊢
  have HS := Lib.hid hS
  unfold Rq.cs
  simp only [hn, hn']
  clear hr hS hL hL' h1 h2 h3 h4 hn hn' hd
  cases b1 with
  | false =>
    obtain rfl : r = false := HS.out
    go_enter Tryd.func50, Tryd.ntmps50
    go_wp2_with fail
    go_ret
    exact ⟨rfl, ((Mods.refl _ _).alloc _).alloc _⟩
  | true =>
  cases b2 with
  | false =>
    obtain rfl : r = false := HS.out
    go_enter Tryd.func50, Tryd.ntmps50
    go_wp2_with fail
    go_ret
    exact ⟨rfl, ((Mods.refl _ _).alloc _).alloc _⟩
  | true =>
  cases b3 with
  | false =>
    obtain rfl : r = false := HS.out
    go_enter Tryd.func50, Tryd.ntmps50
    go_wp2_with fail
    go_ret
    exact ⟨rfl, ((Mods.refl _ _).alloc _).alloc _⟩
  | true =>
  cases b4 with
  | false =>
    obtain rfl : r = false := HS.out
    go_enter Tryd.func50, Tryd.ntmps50
    go_wp2_with fail
    go_ret
    exact ⟨rfl, ((Mods.refl _ _).alloc _).alloc _⟩
  | true =>
    obtain rfl : r = d := HS.out
    clear HS
    go_enter Tryd.func50, Tryd.ntmps50
    go_wp2_with fail
    have hN0 : New w ((w.alloc (.cells #[.string m, .string s, .string p, .string h, .slice ao n cap] 56)).alloc (.cells #[.string m', .string s', .string p', .string h', .slice ao' n' cap'] 56)) := ((Mods.refl _ _).alloc _).alloc _
    refine (HC.out _ hN0).mono ?_
    rintro e w1 ⟨rfl, hN1⟩
    go_wp2_with fail
    go_ret
    exact ⟨rfl, hN0.trans hN1⟩
set_option maxHeartbeats 2000000 in
set_option maxRecDepth 100000 in
theorem same_ref (v v' : Value) (a b : Rq) (w : World) (hR : ReadsR w v a) (hR' : ReadsR w v' b) :
    Calls Tryd.prog 41 #[v, v'] w fun e w' => e = .returned (.bool (sameR a b)) ∧ New w w' := by
  obtain ⟨fv, rfl, hL⟩ := hR
  obtain ⟨fv', rfl, hL'⟩ := hR'
  have HC : Hid (∀ W, New w W → Calls Tryd.prog 18 #[fv, fv'] W fun e w' => e = .returned (.bool (decide (a.fields = b.fields))) ∧ New W w') := Lib.hid fun W hN => fields_any fv fv' a.fields b.fields W (hL.new hN) (hL'.new hN)
  obtain ⟨ao, cap, rfl⟩ := hL.slice
  obtain ⟨ao', cap', rfl⟩ := hL'.slice
  obtain ⟨m, s, p, h, L⟩ := a
  obtain ⟨m', s', p', h', L'⟩ := b
  have e1 := bytes_toList m m'
  have e2 := bytes_toList s s'
  have e3 := bytes_toList p p'
  have e4 := bytes_toList h h'
  obtain ⟨r, hr⟩ : ∃ r, sameR ⟨m, s, p, h, L⟩ ⟨m', s', p', h', L'⟩ = r := ⟨_, rfl⟩
  rw [hr]
  obtain ⟨b1, h1⟩ : ∃ b, decide (m = m') = b := ⟨_, rfl⟩
  obtain ⟨b2, h2⟩ : ∃ b, decide (s = s') = b := ⟨_, rfl⟩
  obtain ⟨b3, h3⟩ : ∃ b, decide (p = p') = b := ⟨_, rfl⟩
  obtain ⟨b4, h4⟩ : ∃ b, decide (h = h') = b := ⟨_, rfl⟩
  have hS := sameR_false (a := ⟨m, s, p, h, L⟩) (b := ⟨m', s', p', h', L'⟩) h1 h2 h3 h4
  rw [hr] at hS
  simp only at hS HC
  obtain ⟨n, hn⟩ : ∃ n, L.length = n := ⟨_, rfl⟩
  obtain ⟨n', hn'⟩ : ∃ n, L'.length = n := ⟨_, rfl⟩
  rw [h1] at e1
  rw [h2] at e2
  rw [h3] at e3
  rw [h4] at e4
  obtain ⟨d, hd⟩ : ∃ d, decide (L = L') = d := ⟨_, rfl⟩
  rw [hd] at hS HC
  simp only [hn, hn'] at HC ⊢
  have HS := Lib.hid hS
  unfold Rq.cs
  simp only [hn, hn']
  clear hr hS hL hL' h1 h2 h3 h4 hn hn' hd
  cases b1 with
  | false =>
    obtain rfl : r = false := HS.out
    go_enter Tryd.func41, Tryd.ntmps41
    go_wp2_with fail
    go_ret
    exact ⟨rfl, ((Mods.refl _ _).alloc _).alloc _⟩
  | true =>
  cases b2 with
  | false =>
    obtain rfl : r = false := HS.out
    go_enter Tryd.func41, Tryd.ntmps41
    go_wp2_with fail
    go_ret
    exact ⟨rfl, ((Mods.refl _ _).alloc _).alloc _⟩
  | true =>
  cases b3 with
  | false =>
    obtain rfl : r = false := HS.out
    go_enter Tryd.func41, Tryd.ntmps41
    go_wp2_with fail
    go_ret
    exact ⟨rfl, ((Mods.refl _ _).alloc _).alloc _⟩
  | true =>
  cases b4 with
  | false =>
    obtain rfl : r = false := HS.out
    go_enter Tryd.func41, Tryd.ntmps41
    go_wp2_with fail
    go_ret
    exact ⟨rfl, ((Mods.refl _ _).alloc _).alloc _⟩
  | true =>
    obtain rfl : r = d := HS.out
    clear HS
    go_enter Tryd.func41, Tryd.ntmps41
    go_wp2_with fail
    have hN0 : New w ((w.alloc (.cells #[.string m, .string s, .string p, .string h, .slice ao n cap] 56)).alloc (.cells #[.string m', .string s', .string p', .string h', .slice ao' n' cap'] 56)) := ((Mods.refl _ _).alloc _).alloc _
    refine (HC.out _ hN0).mono ?_
    rintro e w1 ⟨rfl, hN1⟩
    go_wp2_with fail
    go_ret
    exact ⟨rfl, hN0.trans hN1⟩
end Go.Proofs.YtkjghojdfjhhkaaDoor
/- Requests of lists: plain. -/
namespace Go.Proofs.YtkjghojdfjhhkaaDoor
open Go.RowKit Go.Cs
def nMethod : ByteArray := ⟨#[58, 109, 101, 116, 104, 111, 100]⟩
def nScheme : ByteArray := ⟨#[58, 115, 99, 104, 101, 109, 101]⟩
def nPath : ByteArray := ⟨#[58, 112, 97, 116, 104]⟩
def nAuth : ByteArray := ⟨#[58, 97, 117, 116, 104, 111, 114, 105, 116, 121]⟩
def idxOf (n : ByteArray) : Option Nat := if n = nMethod then some 0 else if n = nScheme then some 1 else if n = nPath then some 2 else if n = nAuth then some 3 else none
def pseudoB (n : ByteArray) : Bool := Lib.hasPrefix n.data.toList [58]
/-- What was seen. -/
abbrev PS := Nat → Option ByteArray
def ps0 : PS := fun _ => none
def upd (st : PS) (i : Nat) (v : ByteArray) : PS := fun j => if j = i then some v else st j
def part (st : PS) (i : Nat) : ByteArray := (st i).getD bNo
def ofGo : List Fd → PS → Option (PS × List Fd)
  | [], st => some (st, [])
  | f :: l, st => if pseudoB f.name = false then some (st, f :: l) else
    match idxOf f.name with
    | none => none
    | some i => if (st i).isSome || !(valueB f.val.data.toList) then none else ofGo l (upd st i f.val)
def fine (st : PS) (rest : List Fd) : Bool := (st 1).isSome && (methodB (part st 0).data.toList && (!(part st 2).data.toList.isEmpty && trailersB rest))
def ofR (L : List Fd) : Option Rq := (ofGo L ps0).bind fun p => if fine p.1 p.2 then some ⟨part p.1 0, part p.1 1, part p.1 2, part p.1 3, p.2⟩ else none
theorem idx_lt {n : ByteArray} {i : Nat} (h : idxOf n = some i) : i < 4 := by
  unfold idxOf at h
  repeat' split at h
  all_goals simp_all
  all_goals omega
theorem idx_inj {n m : ByteArray} {i : Nat} (h : idxOf n = some i) (h' : idxOf m = some i) : n = m := by
  unfold idxOf at h h'
  repeat' split at h
  all_goals repeat' split at h'
  all_goals simp_all
  all_goals omega
/-- The map of what was seen. -/
def seenF (st : PS) (q : Fd) : Option Value := if q.val = bNo then (idxOf q.name).bind fun i => (st i).map fun _ => .int .i64 1 else none
theorem seenF_upd (st : PS) {n : ByteArray} {i : Nat} (h : idxOf n = some i) (v : ByteArray) (b : Fd) : (if b = (⟨n, bNo⟩ : Fd) then some (.int .i64 1) else seenF st b) = seenF (upd st i v) b := by
  unfold seenF
  by_cases hb : b.val = bNo
  · rw [if_pos hb, if_pos hb]
    by_cases hn : b.name = n
    · rw [if_pos (Fd.eq_iff.2 ⟨hn, hb⟩), hn, h]
      simp [upd]
    · rw [if_neg (fun e => hn (Fd.eq_iff.1 e).1)]
      cases hi : idxOf b.name with
      | none => rfl
      | some j =>
        have : j ≠ i := by rintro rfl; exact hn (idx_inj hi h)
        simp [upd, this]
  · rw [if_neg hb, if_neg hb, if_neg (fun e => hb (Fd.eq_iff.1 e).2)]
theorem seenF_0 (q : Fd) : seenF ps0 q = none := by
  unfold seenF ps0
  split
  · cases idxOf q.name <;> rfl
  · rfl
theorem seenF_at (st : PS) {n : ByteArray} {i : Nat} (h : idxOf n = some i) : seenF st ⟨n, bNo⟩ = (st i).map fun _ => .int .i64 1 := by
  unfold seenF
  rw [if_pos rfl, h]
  rfl
/-- The map of places. -/
def placeF (n : ByteArray) : Option Value := (idxOf n).map fun i => .int .i64 (i : Nat)
theorem placeF_eq (n : ByteArray) : (if n = nAuth then some (.int .i64 3) else if n = nPath then some (.int .i64 2) else if n = nScheme then some (.int .i64 1) else if n = nMethod then some (.int .i64 0) else none) = placeF n := by
  unfold placeF idxOf
  have h1 : nMethod ≠ nScheme := by decide
  have h2 : nMethod ≠ nPath := by decide
  have h3 : nMethod ≠ nAuth := by decide
  have h4 : nScheme ≠ nPath := by decide
  have h5 : nScheme ≠ nAuth := by decide
  have h6 : nPath ≠ nAuth := by decide
  repeat' split
  all_goals simp_all
/-- The first fields are pseudo-fields. -/
theorem ofGo_step {f : Fd} {l : List Fd} {st : PS} {i : Nat} (hp : pseudoB f.name = true) (hi : idxOf f.name = some i) (hs : (st i).isSome = false) (hv : valueB f.val.data.toList = true) : ofGo (f :: l) st = ofGo l (upd st i f.val) := by
  rw [ofGo, hp, if_neg (by simp), hi]
  simp [hs, hv]
theorem ofGo_stop {f : Fd} {l : List Fd} {st : PS} (hp : pseudoB f.name = false) : ofGo (f :: l) st = some (st, f :: l) := by
  rw [ofGo, hp, if_pos rfl]
theorem ofGo_no {f : Fd} {l : List Fd} {st : PS} (hp : pseudoB f.name = true) (h : idxOf f.name = none ∨ ∃ i, idxOf f.name = some i ∧ ((st i).isSome = true ∨ valueB f.val.data.toList = false)) : ofGo (f :: l) st = none := by
  rw [ofGo, hp, if_neg (by simp)]
  rcases h with h | ⟨i, h, h'⟩
  · rw [h]
  · rw [h]
    rcases h' with h' | h' <;> simp [h']
theorem ReadsL.drop {W : World} {b o n cap : Nat} {L : List Fd} (h : ReadsL W (.slice (some ⟨b, o, none⟩) n cap) L) {k : Nat} (hk : k < n) : ReadsL W (.slice (some ⟨b, o + k * 2, none⟩) (n - k) (cap - k)) (L.drop k) := by
  have hl := h.1
  obtain ⟨ao', cap', e⟩ := h.slice
  cases e
  refine ⟨by rw [List.length_drop]; omega, some ⟨b, o + k * 2, none⟩, cap - k, by rw [List.length_drop], fun i hi => ⟨b, o + k * 2, rfl, ?_⟩⟩
  rw [List.length_drop] at hi
  obtain ⟨_, _, _, e, hc⟩ := h
  cases e
  obtain ⟨b', o', e, hr⟩ := hc (k + i) (by omega)
  cases e
  have e1 : (L.drop k).getD i .no = L.getD (k + i) .no := by simp [List.getD, List.getElem?_drop]
  show W.rangeAt b (o + k * 2 + i * 2) ((L.drop k).getD i .no).cs
  rw [e1, show o + k * 2 + i * 2 = o + (k + i) * 2 by omega]
  exact hr
end Go.Proofs.YtkjghojdfjhhkaaDoor
