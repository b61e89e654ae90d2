/- Answers. -/
import Derived.Test.YtkjghojdfjhhkaaDoorM08
import Derived.Laws.AppendOwnNone
import Derived.Lib.AppendIntMem
import Derived.Lib.SmallJoins
import Derived.Test.YtkjghojdfjhhkaaDoorM07
set_option linter.unusedSimpArgs false
set_option linter.unusedVariables false
namespace Go.Proofs.YtkjghojdfjhhkaaDoor
open Go.RowKit Go.Shelf Go.Cs
attribute [local go_sem] Oper.semAt_some
/-- The table of powers lies where it was laid. -/
def Tab (W : World) : Prop := Lib.TabIs Tryd.prog W "internal/strconv.uint64pow10" .u64 Lib.pow10Tab
theorem gPow : Tryd.prog.globalNamed "internal/strconv.uint64pow10" = some 0 := by kernel_rfl
theorem Tab.below {W W' : World} (h : Tab W) {B : Nat} (hB : Below B W W') (hb : W.heap.size ≤ B) : Tab W' := Go.Joins.tab_stays gPow h hB hb
theorem Tab.new {W W' : World} (h : Tab W) (hN : New W W') : Tab W' := h.below hN.toBelow (Nat.le_refl _)
def CapOk (v : Value) : Prop := ∀ ao n cap, v = .slice ao n cap → n ≤ cap ∧ (ao = none → cap = 0)
def nStatus : ByteArray := ⟨#[58, 115, 116, 97, 116, 117, 115]⟩
def digs (n : Int) : ByteArray := ⟨(Lib.itoa n).toArray⟩
def answerL (n : Int) (L : List Fd) : Option (List Fd) := if n < 200 ∨ 600 ≤ n ∨ trailersB L = false then none else some (⟨nStatus, digs n⟩ :: L)
theorem flatF_cons (p : Fd) (L : List Fd) : flatF (p :: L).length (fun i => ((p :: L).getD i .no).cs) = p.cs ++ flatF L.length (fun i => (L.getD i .no).cs) := by
  unfold flatF
  rw [List.length_cons, List.range_succ_eq_map, List.flatMap_cons, List.flatMap_map]
  rfl
def AnsRet (w : World) (o : Option (List Fd)) (e : Ending) (w' : World) : Prop := ∃ v, e = .returned (.tuple #[v, .bool o.isSome]) ∧ OwnL w.heap.size w' v (o.getD []) ∧ CapOk v ∧ New w w'
set_option maxHeartbeats 2000000 in
set_option maxRecDepth 100000 in
theorem answer_any (n : Int) (h0 : -9223372036854775808 ≤ n) (h1 : n ≤ 9223372036854775807) (v : Value) (L : List Fd) (w : World) (hR : ReadsL w v L) (hS : SmallL L) (hc : CapOk v) (hT : Tab w) (hL : L.length ≤ 1000000) :
    Calls Tryd.prog 38 #[.int .i64 n, v] w (AnsRet w (answerL n L)) := by
  have HTr := Lib.hid (trailers_any v L w hR hS)
  unfold AnsRet
  by_cases hlo : n < 200
  · have hA : answerL n L = none := by rw [answerL, if_pos (.inl hlo)]
    rw [hA]
    obtain ⟨ao, cap, rfl⟩ := hR.slice
    go_enter Tryd.func38, Tryd.ntmps38
    go_wp2_with fail
    go_ret2
    exact ⟨_, rfl, ⟨ReadsL.nil _ _ _, fun g hg => by cases hg⟩, (fun ao n cap h => by cases h; exact ⟨Nat.le_refl _, fun _ => rfl⟩), Mods.refl _ _⟩
  by_cases hhi : 600 ≤ n
  · have hA : answerL n L = none := by rw [answerL, if_pos (.inr (.inl hhi))]
    rw [hA]
    obtain ⟨ao, cap, rfl⟩ := hR.slice
    go_enter Tryd.func38, Tryd.ntmps38
    go_wp2_with fail
    go_ret2
    exact ⟨_, rfl, ⟨ReadsL.nil _ _ _, fun g hg => by cases hg⟩, (fun ao n cap h => by cases h; exact ⟨Nat.le_refl _, fun _ => rfl⟩), Mods.refl _ _⟩
  have d1 : decide (n < 200) = false := decide_eq_false hlo
  have d2 : decide (600 ≤ n) = false := decide_eq_false hhi
  cases htb : trailersB L with
  | false =>
    have hA : answerL n L = none := by rw [answerL, if_pos (.inr (.inr htb))]
    rw [hA]
    rw [htb] at HTr
    obtain ⟨ao, cap, rfl⟩ := hR.slice
    clear htb
    go_enter Tryd.func38, Tryd.ntmps38
    go_wp2_with (go_at_call 48; refine HTr.out.mono ?_; rintro e w1 ⟨rfl, hN⟩)
    go_ret2
    exact ⟨_, rfl, ⟨ReadsL.nil _ _ _, fun g hg => by cases hg⟩, (fun ao n cap h => by cases h; exact ⟨Nat.le_refl _, fun _ => rfl⟩), hN⟩
  | true =>
    have hA : answerL n L = some (⟨nStatus, digs n⟩ :: L) := by
      rw [answerL, if_neg]
      rintro (h | h | h)
      · exact hlo h
      · exact hhi h
      · rw [htb] at h; cases h
    rw [hA]
    rw [htb] at HTr
    obtain ⟨ao, cap, rfl⟩ := hR.slice
    obtain ⟨hcap, hnil⟩ := hc _ _ _ rfl
    have HI : Hid (∀ W, New w W → Calls Tryd.prog 75 #[.int .i64 n] W fun e w' => e = .returned (.string (digs n)) ∧ New W w') := Lib.hid fun W hN => (Tryd.strconv_Itoa n h0 h1 W (hT.new hN)).mono (by
      rintro e w' ⟨he, k, os, rfl⟩
      exact ⟨he, Mods.below (Lib.below_grow W.heap.size W (Nat.le_refl _) k os) (Nat.le_refl _)⟩)
    have HR := Lib.hid hR
    clear hA hR hc htb hT h0 h1
    go_enter Tryd.func38, Tryd.ntmps38
    go_wp2_with (go_at_call 48; refine HTr.out.mono ?_; rintro e w1 ⟨rfl, hN1⟩)
    refine (HI.out _ hN1).mono ?_
    rintro e w2 ⟨rfl, hN2⟩
    have hNw := hN1.trans hN2
    obtain ⟨i0, hi, hz0, hz1, hz2⟩ := info_parts info54'
    have hown : (w2.alloc (.cells #[.string nStatus, .string (digs n)] 54)).ownsRow w2.heap.size 54 2 (.slice (some ⟨w2.heap.size, 0, none⟩) 1 1) 1 [.string nStatus, .string (digs n)] :=
      ⟨rfl, .inr ⟨w2.heap.size, 1, _, rfl, Nat.le_refl _, World.alloc_heap_new w2 _, Nat.le_refl _, by unfold maxLen; omega, rfl, rfl⟩⟩
    unfold nStatus at hown
    have hN3 : New w (w2.alloc (.cells #[.string ⟨#[58, 115, 116, 97, 116, 117, 115]⟩, .string (digs n)] 54)) := hNw.alloc _
    have hcells := (show ReadsF w (.slice ao L.length cap) L.length 2 (fun i => (L.getD i .no).cs) from HR.out).cells (sz := 2) (by decide) (fun i => rfl)
    have hlen := flatF_len (sz := 2) (f := fun i => (L.getD i .no).cs) (fun i => rfl) L.length
    have hone := flat_one L L.length
    have hcons := flatF_cons ⟨nStatus, digs n⟩ L
    obtain ⟨F, hF⟩ : ∃ F, flatF L.length (fun i => (L.getD i .no).cs) = F := ⟨_, rfl⟩
    rw [hF] at hcells hlen hone hcons
    have HO : Hid (∀ (w' : World) v', w'.ownsRow w2.heap.size 54 2 v' (1 + L.length) ([.string ⟨#[58, 115, 116, 97, 116, 117, 115]⟩, .string (digs n)] ++ F) → New w w' → OwnL w.heap.size w' v' (⟨nStatus, digs n⟩ :: L) ∧ CapOk v') := Lib.hid fun w' v' hown hN => by
      have hown' : w'.ownsRow w2.heap.size 54 2 v' (⟨nStatus, digs n⟩ :: L).length (flatF (⟨nStatus, digs n⟩ :: L).length (fun i => ((⟨nStatus, digs n⟩ :: L).getD i .no).cs)) := by
        rw [hcons, List.length_cons, Nat.add_comm]; exact hown
      refine ⟨⟨ReadsF.ofOwns (by decide) (fun i => rfl) (by rw [List.length_cons]; omega) hown', fun g hg => Nat.le_trans hNw.size (World.ownsRow.lt hown' g hg).1⟩, ?_⟩
      rintro ao n cap rfl
      rcases hown'.2 with ⟨h, _⟩ | ⟨g, c, cur, h, _, _, hnc, _⟩
      · cases h
        exact ⟨Nat.le_refl _, fun _ => rfl⟩
      · cases h
        exact ⟨hnc, fun h => by cases h⟩
    clear hF hcons HI HTr
    cases ao with
    | none =>
      obtain rfl : cap = 0 := hnil rfl
      have hl0 : L.length = 0 := hcells.1 rfl
      rw [hl0] at HO hlen
      rw [hl0]
      obtain rfl : F = [] := List.length_eq_zero_iff.1 (by omega)
      go_wp2_with (at_builtin; refine wpList_append_own_none rfl _ _ 25 rfl w2.heap.size 54 i0 2 Tryd.underlying25 hi _ _ _ rfl hown rfl ?_)
      go_ret2
      obtain ⟨h1, h2⟩ := HO.out _ _ hown hN3
      exact ⟨_, rfl, h1, h2, hN3⟩
    | some a =>
      have hnews := hcells.2 a rfl
      have hnews' : ∀ j u, F[j]? = some u → (w2.alloc (.cells #[.string ⟨#[58, 115, 116, 97, 116, 117, 115]⟩, .string (digs n)] 54)).cell? (a.add j) = some u := fun j u hj => hN3.cell (hnews j u hj) id
      go_wp2_with (at_builtin; refine wpList_append_own _ rfl _ _ 25 rfl w2.heap.size 54 i0 _ 2 32 Tryd.underlying25 hi hz0 hz1 hz2 rfl (by decide) _ _ _ rfl hown a L.length cap F rfl hlen hnews' hone ?c3 ?c4 ?c5 ?_)
      case c3 => unfold maxLen; omega
      case c4 => omega
      case c5 => simp
      intro v' w4 hown' hgrow _
      have hN4 : New w w4 := hN3.grown hgrow (by intro g hg; have := hown.lt g hg; have := hNw.size; omega)
      have hh := Lib.hid (HO.out _ _ hown' hN4)
      clear hown'
      go_wp2_with fail
      go_ret2
      exact ⟨_, rfl, hh.out.1, hh.out.2, hN4⟩
end Go.Proofs.YtkjghojdfjhhkaaDoor
/- Urgencies' texts. -/
namespace Go.Proofs.YtkjghojdfjhhkaaDoor
open Go.RowKit Go.Shelf Go.Cs
attribute [local go_sem] Oper.semAt_some
def nPriority : ByteArray := ⟨#[112, 114, 105, 111, 114, 105, 116, 121]⟩
def valsOf (L : List Fd) : List ByteArray := (L.filter fun p => decide (p.name = nPriority)).map (·.val)
def urgL (L : List Fd) : List UInt8 := Lib.join ((valsOf L).map (·.data.toList)) [44, 32]
theorem vals_take (L : List Fd) (k : Nat) (hk : k < L.length) : valsOf (L.take (k + 1)) = valsOf (L.take k) ++ (if (L.getD k .no).name = nPriority then [(L.getD k .no).val] else []) := by
  have e : L.getD k .no = L[k] := by simp [List.getD, hk]
  rw [List.take_add_one, List.getElem?_eq_getElem hk, e]
  unfold valsOf
  rw [List.filter_append, List.map_append]
  by_cases h : L[k].name = nPriority <;> simp [h]
theorem vals_len (L : List Fd) (k : Nat) : (valsOf (L.take k)).length ≤ k := by
  unfold valsOf
  rw [List.length_map]
  have := List.length_filter_le (fun p : Fd => decide (p.name = nPriority)) (L.take k)
  have h2 : (L.take k).length ≤ k := List.length_take_le _ _
  omega
theorem tail_len (sep : List UInt8) : ∀ r : List (List UInt8), (Lib.joinTail sep r).length = (r.map List.length).sum + r.length * sep.length
  | [] => by simp [Lib.joinTail]
  | x :: r => by
    have ih := tail_len sep r
    unfold Lib.joinTail at ih ⊢
    rw [List.map_cons, List.flatten_cons, List.length_append, List.length_append, ih, List.map_cons, List.sum_cons, List.length_cons, Nat.succ_mul]
    omega
theorem join_le (sep : List UInt8) (xs : List (List UInt8)) : (Lib.join xs sep).length ≤ (xs.map List.length).sum + xs.length * sep.length := by
  cases xs with
  | nil => rw [Lib.join_nil]; simp
  | cons x r =>
    rw [Lib.join_cons, List.length_append, tail_len, List.map_cons, List.sum_cons, List.length_cons, Nat.succ_mul]
    omega
theorem vals_sum : ∀ L : List Fd, (((valsOf L).map (·.data.toList)).map List.length).sum ≤ sumZ L
  | [] => by simp [valsOf, sumZ]
  | p :: L => by
    have ih := vals_sum L
    unfold valsOf sumZ fsz at ih ⊢
    rw [List.filter_cons]
    split
    · simp only [List.map_cons, List.sum_cons] at ih ⊢
      have : p.val.data.toList.length = p.val.size := by simp
      omega
    · simp only [List.map_cons, List.sum_cons] at ih ⊢
      omega
theorem urg_le {L : List Fd} {n : Nat} (hn : L.length = n) (hl : n ≤ 140) (hz : sumZ L ≤ 5000) : (urgL L).length ≤ 10000 := by
  have h1 := join_le [44, 32] ((valsOf L).map (·.data.toList))
  have h2 := vals_sum L
  have h3 := vals_len L n
  rw [List.take_of_length_le (by omega)] at h3
  rw [List.length_map] at h1
  have h4 : ([44, 32] : List UInt8).length = 2 := rfl
  rw [h4] at h1
  unfold urgL
  omega
set_option maxHeartbeats 2000000 in
set_option maxRecDepth 100000 in
theorem urgency_any (v : Value) (L : List Fd) (w : World) (hR : ReadsL w v L) (hl : L.length ≤ 140) (hz : sumZ L ≤ 5000) :
    Calls Tryd.prog 39 #[v] w fun e w' => e = .returned (.tuple #[.string ⟨(urgL L).toArray⟩, .bool (!(valsOf L).isEmpty)]) ∧ New w w' := by
  obtain ⟨ao, cap, rfl⟩ := hR.slice
  have HR := Lib.hid hR
  obtain ⟨i0, hi, hz0, hz1, hz2⟩ := info_parts (show (Tryd.prog.info? 9).map (fun i => (i.zero, i.size, i.bytes)) = some (some (.string ⟨#[]⟩), 1, 16) by kernel_rfl)
  obtain ⟨n, hn⟩ : ∃ n, L.length = n := ⟨_, rfl⟩
  have Hn := Lib.hid hn
  rw [hn] at HR hl ⊢
  clear hn hR
  have HZ := Lib.hid hz
  clear hz
  go_enter Tryd.func39, Tryd.ntmps39
  go_wp2_with fail
  go_loopw [4, 9] (fun s c wr => ∃ k : Nat, k ≤ n ∧ c = .int .i64 k ∧ Hid (wr.ownsRow w.heap.size 9 1 s (valsOf (L.take k)).length ((valsOf (L.take k)).map Value.string)) ∧ New w wr) (fun _ c _ => n - (intOf c).toNat)
  case atStart => exact ⟨0, Nat.zero_le _, rfl, Lib.hid (World.ownsRow_nil _ _ _ _), Mods.refl _ _⟩
  case round =>
    obtain ⟨k, hk, rfl, hown, hN⟩ := hrel
    by_cases hkn : k < n
    · have hkd : decide ((k : Int) < (n : Int)) = true := decide_eq_true (by omega)
      obtain ⟨b, o, rfl, hc1, hc2⟩ := (HR.out.new hN).at hkn
      have hvt := vals_take L k (by rw [Hn.out]; exact hkn)
      have hvl := vals_len L k
      obtain ⟨p, hp⟩ : ∃ p, L.getD k .no = p := ⟨_, rfl⟩
      rw [hp] at hc1 hc2 hvt
      clear hp
      obtain ⟨pn, pv⟩ := p
      simp only at hc1 hc2 hvt
      by_cases hpr : pn = nPriority
      · rw [if_pos hpr] at hvt
        have Hvt := Lib.hid hvt
        have e1 := is_const hpr
        have hwsz := hN.size
        have hown' := hown.out
        obtain ⟨xs, hxs⟩ : ∃ xs, valsOf (L.take k) = xs := ⟨_, rfl⟩
        rw [hxs] at hown' hvl Hvt
        obtain ⟨m, hm⟩ : ∃ m, xs.length = m := ⟨_, rfl⟩
        rw [hm] at hown' hvl
        obtain ⟨X, hX⟩ : ∃ X, xs.map Value.string = X := ⟨_, rfl⟩
        rw [hX] at hown'
        have HX := Lib.hid hX
        have Hm := Lib.hid hm
        clear hpr hvt hown hxs hm hX
        have hown2 := (hown'.alloc (.cells #[.string pn, .string pv] 54)).alloc (.cells #[.string pv] 9)
        have hN2 : New w ((wr.alloc (.cells #[.string pn, .string pv] 54)).alloc (.cells #[.string pv] 9)) := (hN.alloc _).alloc _
        go_wp2_with (at_builtin; refine wpList_append_own _ rfl _ _ 93 rfl w.heap.size 9 i0 _ 1 16 Tryd.underlying93 hi hz0 hz1 hz2 rfl (by decide) _ _ _ rfl hown2 ⟨wr.heap.size + 1, 0, none⟩ 1 1 [.string pv] rfl rfl ?c1 ?c2 ?c3 ?c4 ?c5 ?_)
        case c1 =>
          have e : wr.heap.size + 1 = (wr.alloc (.cells #[.string pn, .string pv] 54)).heap.size := by simp
          rw [e]
          exact cells_new (cs := [.string pv]) (World.alloc_heap_new _ _)
        case c2 =>
          intro u hu
          simp at hu
          subst hu
          rfl
        case c3 => unfold maxLen; omega
        case c4 => omega
        case c5 => simp; omega
        intro v' w4 hown4 hgrow _
        have hN4 : New w w4 := hN2.grown hgrow (by intro g hg; have := hown2.lt g hg; omega)
        have HO := Lib.hid hown4
        clear hown4 hown2 hown'
        go_wp2_with fail
        go_roundw
        case rel => exact ⟨k + 1, by omega, by go_num, Lib.hid (by rw [Hvt.out, List.length_append, List.map_append, HX.out, Hm.out]; exact HO.out), hN4⟩
        case measure => simp [intOf]; omega
      · rw [if_neg hpr, List.append_nil] at hvt
        have Hvt := Lib.hid hvt
        have e1 := ne_const hpr
        have HO : Hid _ := Lib.hid (hown.out.alloc (.cells #[.string pn, .string pv] 54))
        clear hpr hvt hown
        go_wp2_with fail
        go_roundw
        case rel => exact ⟨k + 1, by omega, by go_num, Lib.hid (by rw [Hvt.out]; exact HO.out), hN.alloc _⟩
        case measure => simp [intOf]; omega
    · obtain rfl : k = n := by omega
      have hkd : decide ((k : Int) < (k : Int)) = false := decide_eq_false (by omega)
      have ht : L.take k = L := List.take_of_length_le (by rw [Hn.out]; exact Nat.le_refl _)
      have ho := hown.out
      rw [ht] at ho
      have hj := urg_le Hn.out hl HZ.out
      have hvl := vals_len L k
      rw [ht] at hvl
      have hR : (!(valsOf L).isEmpty) = decide (0 < (valsOf L).length) := by cases valsOf L <;> simp
      have HRs := Lib.hid hR
      clear hown hR
      have HJ : Hid (Calls Tryd.prog 76 #[u4, .string ⟨#[44, 32]⟩] wr fun e w' => e = .returned (.string ⟨(urgL L).toArray⟩) ∧ New wr w') := Lib.hid (by
        rcases ho.2 with ⟨rfl, h0⟩ | ⟨g, cap', cur, rfl, hg, hh, hnc, _⟩
        · have hv : valsOf L = [] := List.length_eq_zero_iff.1 h0
          refine (Tryd.strings_Join_none none 0 ⟨#[44, 32]⟩ wr).mono ?_
          rintro e w' ⟨rfl, rfl⟩
          exact ⟨by rw [urgL, hv]; rfl, Mods.refl _ _⟩
        · refine (Tryd.strings_Join g 0 cap' (valsOf L) ⟨#[44, 32]⟩ wr (fun j x hj => ?_) (Array.getElem?_eq_some_iff.1 hh).1 (by omega) hnc (by unfold urgL at hj; exact Nat.le_trans hj (by decide))).mono ?_
          · have := World.ownsRow.cells ho (g := g) rfl j (.string x) (by rw [List.getElem?_map, hj]; rfl)
            rw [add_at] at this
            rw [Nat.zero_add]
            exact this
          · rintro e w' ⟨rfl, hB⟩
            exact ⟨rfl, Mods.below hB (Nat.le_refl _)⟩)
      obtain ⟨ao', cap', rfl⟩ : ∃ ao cap, u4 = .slice ao (valsOf L).length cap := owns_slice ho
      obtain ⟨m, hm⟩ : ∃ m, (valsOf L).length = m := ⟨_, rfl⟩
      rw [hm] at HJ HRs ⊢
      obtain ⟨B, hB⟩ : ∃ B, (!(valsOf L).isEmpty) = B := ⟨_, rfl⟩
      rw [hB] at HRs
      have HB := Lib.hid hB
      clear ho hm hj hvl hB
      go_wp2_with (go_at_call 76; refine HJ.out.mono ?_; rintro e w1 ⟨rfl, hN1⟩)
      go_ret2
      exact ⟨by rw [HB.out, HRs.out]; rfl, hN.trans hN1⟩
end Go.Proofs.YtkjghojdfjhhkaaDoor
/- The document's answer of requests: plain; it tells the same. -/
namespace Go.Proofs.YtkjghojdfjhhkaaDoor
open Go.RowKit Go.Cs
/-- How many fields a list begins with that are pseudo-fields. -/
def headN : List Fd → Nat
  | [] => 0
  | f :: l => if pseudoB f.name then headN l + 1 else 0
def cntN (l : List Fd) (n : ByteArray) : Nat := (l.filter fun p => decide (p.name = n)).length
def valN (l : List Fd) (n : ByteArray) : ByteArray := ((l.find? fun p => decide (p.name = n)).map (·.val)).getD bNo
def badRef (H rest : List Fd) : Bool := decide (cntN H nMethod + cntN H nScheme + cntN H nPath + cntN H nAuth ≠ H.length) || (decide (cntN H nMethod ≠ 1) || (decide (cntN H nScheme ≠ 1) || (decide (cntN H nPath ≠ 1) || (decide (1 < cntN H nAuth) || (!(methodB (valN H nMethod).data.toList) || (decide ((valN H nPath).size = 0) || !(trailersB rest)))))))
def refOf (L : List Fd) : Option Rq :=
  if badRef (L.take (headN L)) (L.drop (headN L)) then none else
  if (L.take (headN L)).all (fun f => valueB f.val.data.toList) then some ⟨valN (L.take (headN L)) nMethod, valN (L.take (headN L)) nScheme, valN (L.take (headN L)) nPath, valN (L.take (headN L)) nAuth, L.drop (headN L)⟩ else none
/-- All steps over the head. -/
def steps : List Fd → PS → Option PS
  | [], st => some st
  | f :: l, st => match idxOf f.name with
    | none => none
    | some i => if (st i).isSome || !(valueB f.val.data.toList) then none else steps l (upd st i f.val)
theorem go_steps : ∀ (L : List Fd) (st : PS), ofGo L st = (steps (L.take (headN L)) st).map fun s => (s, L.drop (headN L))
  | [], st => rfl
  | f :: l, st => by
    rw [ofGo, headN]
    cases hp : pseudoB f.name with
    | false => rfl
    | true =>
      rw [if_neg (by simp), if_pos rfl, List.take_succ_cons, List.drop_succ_cons, steps]
      cases idxOf f.name with
      | none => rfl
      | some i =>
        dsimp only
        split
        · rfl
        · exact go_steps l _
def cntI (l : List Fd) (i : Nat) : Nat := (l.filter fun p => decide (idxOf p.name = some i)).length
def lookI (l : List Fd) (i : Nat) : Option ByteArray := (l.find? fun p => decide (idxOf p.name = some i)).map (·.val)
def okAll (l : List Fd) : Bool := l.all fun f => (idxOf f.name).isSome && valueB f.val.data.toList
def have1 (st : PS) (i : Nat) : Nat := if (st i).isSome then 1 else 0
theorem cntI_cons (f : Fd) (l : List Fd) (i : Nat) : cntI (f :: l) i = cntI l i + if idxOf f.name = some i then 1 else 0 := by
  unfold cntI
  rw [List.filter_cons]
  by_cases h : idxOf f.name = some i <;> simp [h]
theorem lookI_cons (f : Fd) (l : List Fd) (i : Nat) : lookI (f :: l) i = if idxOf f.name = some i then some f.val else lookI l i := by
  unfold lookI
  rw [List.find?_cons]
  by_cases h : idxOf f.name = some i <;> simp [h]
def Cond (l : List Fd) (st : PS) : Prop := okAll l = true ∧ ∀ i, cntI l i + have1 st i ≤ 1
theorem steps_eq : ∀ (l : List Fd) (st : PS), (Cond l st → steps l st = some (fun i => (lookI l i).or (st i))) ∧ (¬ Cond l st → steps l st = none)
  | [], st => by
    have hc : Cond [] st := by
      refine ⟨rfl, fun i => ?_⟩
      unfold cntI have1
      simp
      split <;> omega
    exact ⟨fun _ => by rw [steps]; simp [lookI], fun h => absurd hc h⟩
  | f :: l, st => by
    rw [steps]
    cases hi : idxOf f.name with
    | none => exact ⟨fun ⟨h, _⟩ => by simp [okAll, hi] at h, fun _ => rfl⟩
    | some i =>
      dsimp only
      cases hv : valueB f.val.data.toList with
      | false => exact ⟨fun ⟨h, _⟩ => by simp [okAll, hv] at h, fun _ => by rw [if_pos (by simp)]⟩
      | true =>
        cases hs : (st i).isSome with
        | true =>
          refine ⟨fun ⟨_, h⟩ => ?_, fun _ => by rw [if_pos (by simp)]⟩
          have := h i
          rw [cntI_cons, if_pos hi] at this
          unfold have1 at this
          rw [hs] at this
          simp at this
        | false =>
          rw [if_neg (by simp)]
          have hok : okAll (f :: l) = okAll l := by simp [okAll, hi, hv]
          have hcond : Cond l (upd st i f.val) ↔ Cond (f :: l) st := by
            have hj : ∀ j, cntI (f :: l) j + have1 st j = cntI l j + have1 (upd st i f.val) j := by
              intro j
              rw [cntI_cons, hi]
              unfold have1 upd
              by_cases e : j = i
              · subst e
                simp [hs]
              · have : ¬ some i = some j := by simp; exact fun h => e h.symm
                simp [e, this]
            unfold Cond
            rw [hok]
            constructor
            · rintro ⟨h0, h⟩; exact ⟨h0, fun j => by rw [hj]; exact h j⟩
            · rintro ⟨h0, h⟩; exact ⟨h0, fun j => by rw [← hj]; exact h j⟩
          obtain ⟨ih1, ih2⟩ := steps_eq l (upd st i f.val)
          refine ⟨fun hc => ?_, fun hc => ih2 fun h => hc (hcond.1 h)⟩
          have hc' := hcond.2 hc
          rw [ih1 hc']
          congr 1
          funext j
          rw [lookI_cons, hi]
          unfold upd
          by_cases e : j = i
          · subst e
            have h1 := hc'.2 j
            unfold have1 upd at h1
            simp at h1
            have h2 : lookI l j = none := by
              unfold lookI
              rw [List.find?_eq_none.2]
              · rfl
              · intro x hx
                unfold cntI at h1
                have := List.eq_nil_of_length_eq_zero h1
                rw [List.filter_eq_nil_iff] at this
                exact this x hx
            rw [h2]
            simp
          · have : ¬ some i = some j := by simp; exact fun h => e h.symm
            simp [e, this]
/-- By name. -/
theorem idx_name {n : ByteArray} : (idxOf n = some 0 ↔ n = nMethod) ∧ (idxOf n = some 1 ↔ n = nScheme) ∧ (idxOf n = some 2 ↔ n = nPath) ∧ (idxOf n = some 3 ↔ n = nAuth) := by
  have h1 : nMethod ≠ nScheme := by decide
  have h2 : nMethod ≠ nPath := by decide
  have h3 : nMethod ≠ nAuth := by decide
  have h4 : nScheme ≠ nPath := by decide
  have h5 : nScheme ≠ nAuth := by decide
  have h6 : nPath ≠ nAuth := by decide
  unfold idxOf
  refine ⟨⟨fun h => ?_, ?_⟩, ⟨fun h => ?_, ?_⟩, ⟨fun h => ?_, ?_⟩, ⟨fun h => ?_, ?_⟩⟩
  all_goals first
    | (rintro rfl; simp [*, Ne.symm h1, Ne.symm h2, Ne.symm h3, Ne.symm h4, Ne.symm h5, Ne.symm h6]; done)
    | (repeat' split at h
       all_goals simp_all)
theorem cnt_eq (l : List Fd) : cntI l 0 = cntN l nMethod ∧ cntI l 1 = cntN l nScheme ∧ cntI l 2 = cntN l nPath ∧ cntI l 3 = cntN l nAuth := by
  unfold cntI cntN
  refine ⟨?_, ?_, ?_, ?_⟩
  · congr 2; funext p; rw [decide_eq_decide]; exact idx_name.1
  · congr 2; funext p; rw [decide_eq_decide]; exact idx_name.2.1
  · congr 2; funext p; rw [decide_eq_decide]; exact idx_name.2.2.1
  · congr 2; funext p; rw [decide_eq_decide]; exact idx_name.2.2.2
theorem val_eq (l : List Fd) : (lookI l 0).getD bNo = valN l nMethod ∧ (lookI l 1).getD bNo = valN l nScheme ∧ (lookI l 2).getD bNo = valN l nPath ∧ (lookI l 3).getD bNo = valN l nAuth := by
  unfold lookI valN
  refine ⟨?_, ?_, ?_, ?_⟩
  · congr 3; funext p; rw [decide_eq_decide]; exact idx_name.1
  · congr 3; funext p; rw [decide_eq_decide]; exact idx_name.2.1
  · congr 3; funext p; rw [decide_eq_decide]; exact idx_name.2.2.1
  · congr 3; funext p; rw [decide_eq_decide]; exact idx_name.2.2.2
/-- The known ones counted. -/
theorem cnt_sum : ∀ l : List Fd, cntI l 0 + cntI l 1 + cntI l 2 + cntI l 3 + (l.filter fun p => (idxOf p.name).isNone).length = l.length
  | [] => by simp [cntI]
  | f :: l => by
    have ih := cnt_sum l
    rw [cntI_cons, cntI_cons, cntI_cons, cntI_cons, List.filter_cons, List.length_cons]
    cases h : idxOf f.name with
    | none => simp; omega
    | some i =>
      have := idx_lt h
      have h4 : i = 0 ∨ i = 1 ∨ i = 2 ∨ i = 3 := by omega
      rcases h4 with rfl | rfl | rfl | rfl <;> simp <;> omega
theorem cnt_big (l : List Fd) {i : Nat} (h : 4 ≤ i) : cntI l i = 0 := by
  unfold cntI
  rw [List.length_eq_zero_iff, List.filter_eq_nil_iff]
  intro p _ hp
  have := idx_lt (of_decide_eq_true hp)
  omega
theorem look_some {l : List Fd} {i : Nat} (h : (lookI l i).isSome = true) : 1 ≤ cntI l i := by
  unfold lookI at h
  rw [Option.isSome_map] at h
  obtain ⟨p, hp⟩ := Option.isSome_iff_exists.1 h
  have hm := List.mem_of_find?_eq_some hp
  have hq := List.find?_some hp
  unfold cntI
  exact List.length_pos_of_mem (List.mem_filter.2 ⟨hm, hq⟩)
theorem look_none {l : List Fd} {i : Nat} (h : (lookI l i).isSome = false) : cntI l i = 0 := by
  unfold lookI at h
  rw [Option.isSome_map] at h
  have : (l.find? fun p => decide (idxOf p.name = some i)) = none := by simpa using h
  rw [List.find?_eq_none] at this
  unfold cntI
  rw [List.length_eq_zero_iff, List.filter_eq_nil_iff]
  exact this
end Go.Proofs.YtkjghojdfjhhkaaDoor
/- The document's answer of requests is that of the steps. -/
namespace Go.Proofs.YtkjghojdfjhhkaaDoor
open Go.RowKit Go.Cs
theorem method_nil : methodB [] = false := rfl
theorem size_zero (s : ByteArray) : (s.size = 0) ↔ s.data.toList.isEmpty = true := by
  have h : s.data.toList.length = s.size := by simp
  rw [List.isEmpty_iff, ← List.length_eq_zero_iff, h]
theorem fine_bad (H rest : List Fd) (hc : Cond H ps0) : fine (lookI H) rest = !(badRef H rest) := by
  obtain ⟨hok, hle⟩ := hc
  have h0 : ∀ i, cntI H i ≤ 1 := fun i => by have := hle i; unfold have1 ps0 at this; simpa using this
  obtain ⟨c0, c1, c2, c3⟩ := cnt_eq H
  obtain ⟨v0, v1, v2, v3⟩ := val_eq H
  have hsum := cnt_sum H
  have hnone : (H.filter fun p => (idxOf p.name).isNone).length = 0 := by
    rw [List.length_eq_zero_iff, List.filter_eq_nil_iff]
    intro p hp
    have := List.all_eq_true.1 hok p hp
    simp at this
    simp [Option.isSome_iff_ne_none.1 this.1]
  rw [hnone, c0, c1, c2, c3] at hsum
  have hA : 1 < cntN H nAuth ↔ False := by have := h0 3; rw [c3] at this; exact ⟨fun h => by omega, fun h => h.elim⟩
  have hS : decide (cntN H nScheme ≠ 1) = !(lookI H 1).isSome := by
    have h := h0 1
    rw [c1] at h
    cases hs : (lookI H 1).isSome with
    | true => have := look_some hs; rw [c1] at this; simp; omega
    | false => have := look_none hs; rw [c1] at this; simp; omega
  have hM : methodB (valN H nMethod).data.toList = true → cntN H nMethod = 1 := fun hm => by
    have h := h0 0
    rw [c0] at h
    cases hs : (lookI H 0).isSome with
    | true => have := look_some hs; rw [c0] at this; omega
    | false =>
      have e : lookI H 0 = none := by simpa using hs
      rw [← v0, e] at hm
      simp [bNo, method_nil] at hm
  have hP : (valN H nPath).data.toList.isEmpty = false → cntN H nPath = 1 := fun hm => by
    have h := h0 2
    rw [c2] at h
    cases hs : (lookI H 2).isSome with
    | true => have := look_some hs; rw [c2] at this; omega
    | false =>
      have e : lookI H 2 = none := by simpa using hs
      rw [← v2, e] at hm
      simp [bNo] at hm
  have hPz : decide ((valN H nPath).size = 0) = (valN H nPath).data.toList.isEmpty := by
    rw [Bool.eq_iff_iff, decide_eq_true_iff]; exact size_zero _
  have hL : decide (cntN H nMethod + cntN H nScheme + cntN H nPath + cntN H nAuth ≠ H.length) = false := by simp; omega
  have p0 : part (lookI H) 0 = valN H nMethod := v0
  have p2 : part (lookI H) 2 = valN H nPath := v2
  unfold fine badRef
  rw [hL, hS, hPz, p0, p2, decide_eq_false (fun h => hA.1 h)]
  cases hs : (lookI H 1).isSome <;> cases hm : methodB (valN H nMethod).data.toList <;> cases hp : (valN H nPath).data.toList.isEmpty <;> simp
  · rw [hM hm, hP hp]; simp
theorem refOf_eq (L : List Fd) : refOf L = ofR L := by
  unfold refOf ofR
  rw [go_steps]
  obtain ⟨H, hH⟩ : ∃ H, L.take (headN L) = H := ⟨_, rfl⟩
  obtain ⟨rest, hr⟩ : ∃ H, L.drop (headN L) = H := ⟨_, rfl⟩
  rw [hH, hr]
  obtain ⟨s1, s2⟩ := steps_eq H ps0
  by_cases hc : Cond H ps0
  · rw [s1 hc]
    have hst : (fun i => (lookI H i).or (ps0 i)) = lookI H := by funext i; simp [ps0]
    rw [hst]
    have hf := fine_bad H rest hc
    have hall : (H.all fun f => valueB f.val.data.toList) = true := by
      rw [List.all_eq_true]
      intro p hp
      have := List.all_eq_true.1 hc.1 p hp
      simp at this
      exact this.2
    rw [hall, if_pos rfl]
    obtain ⟨v0, v1, v2, v3⟩ := val_eq H
    have p0 : part (lookI H) 0 = valN H nMethod := v0
    have p1 : part (lookI H) 1 = valN H nScheme := v1
    have p2 : part (lookI H) 2 = valN H nPath := v2
    have p3 : part (lookI H) 3 = valN H nAuth := v3
    simp only [Option.map_some, Option.bind_some, p0, p1, p2, p3, hf]
    cases badRef H rest <;> rfl
  · rw [s2 hc]
    simp only [Option.map_none, Option.bind_none]
    cases hb : badRef H rest with
    | true => rfl
    | false =>
      rw [if_neg (by simp)]
      unfold badRef at hb
      simp only [Bool.or_eq_false_iff, decide_eq_false_iff_not, Decidable.not_not] at hb
      obtain ⟨b1, b2, b3, b4, b5, _⟩ := hb
      obtain ⟨c0, c1, c2, c3⟩ := cnt_eq H
      have hsum := cnt_sum H
      rw [c0, c1, c2, c3] at hsum
      have hnone : (H.filter fun p => (idxOf p.name).isNone).length = 0 := by omega
      rw [if_neg]
      intro hall
      apply hc
      refine ⟨?_, fun i => ?_⟩
      · unfold okAll
        rw [List.all_eq_true]
        intro p hp
        have h1 := List.all_eq_true.1 hall p hp
        rw [List.length_eq_zero_iff, List.filter_eq_nil_iff] at hnone
        have h2 := hnone p hp
        rw [h1, Bool.and_true]
        cases hi : idxOf p.name with
        | none => rw [hi] at h2; simp at h2
        | some i => rfl
      · unfold have1 ps0
        simp only [Option.isSome_none, if_false, Nat.add_zero, Bool.false_eq_true]
        by_cases h4 : 4 ≤ i
        · rw [cnt_big H h4]; omega
        · have : i = 0 ∨ i = 1 ∨ i = 2 ∨ i = 3 := by omega
          rcases this with rfl | rfl | rfl | rfl
          · rw [c0]; omega
          · rw [c1]; omega
          · rw [c2]; omega
          · rw [c3]; omega
end Go.Proofs.YtkjghojdfjhhkaaDoor
/- The document's answer of requests: its small functions. -/
namespace Go.Proofs.YtkjghojdfjhhkaaDoor
open Go.RowKit Go.Shelf Go.Cs
attribute [local go_sem] Oper.semAt_some
theorem hasPrefix_one (l : List UInt8) (c : UInt8) : Lib.hasPrefix l [c] = (!l.isEmpty && decide ((l.getD 0 0) = c)) := by
  cases l with
  | nil => rfl
  | cons a t =>
    unfold Lib.hasPrefix
    simp [List.isPrefixOf]
    rw [Bool.eq_iff_iff]
    simp
    exact eq_comm
set_option maxHeartbeats 1000000 in
set_option maxRecDepth 100000 in
theorem pseudo_ref (p : Fd) (w : World) (hs : p.name.size ≤ 9223372036854775807) :
    Calls Tryd.prog 71 #[p.v] w fun e w' => e = .returned (.bool (pseudoB p.name)) ∧ New w w' := by
  obtain ⟨a, b⟩ := p
  simp only at hs
  have hq : pseudoB a = (!a.data.toList.isEmpty && decide (gb a 0 = 58)) := hasPrefix_one _ _
  obtain ⟨r, hr⟩ : ∃ r, pseudoB a = r := ⟨_, rfl⟩
  rw [hr] at hq ⊢
  have Hq := Lib.hid hq
  clear hq hr
  unfold Fd.v
  by_cases h0 : a.size = 0
  · have e1 : decide (0 < a.size) = false := decide_eq_false (by omega)
    obtain rfl : r = false := by rw [Hq.out, (size_zero a).1 h0]; rfl
    clear Hq
    go_enter Tryd.func71, Tryd.ntmps71
    go_wp2_with fail
    go_ret
    exact ⟨rfl, (Mods.refl _ _).alloc _⟩
  · have h0' : 0 < a.size := by omega
    have hg0 := gb_eq a 0 h0'
    obtain ⟨c, hc⟩ : ∃ c : UInt8, a[0]'h0' = c := ⟨_, rfl⟩
    have hne : a.data.toList.isEmpty = false := by
      cases h : a.data.toList.isEmpty with
      | false => rfl
      | true => exact absurd ((size_zero a).2 h) h0
    have hr : r = ((c.toNat : Int) == 58) := by
      rw [Hq.out, hne, ← hg0, hc, Bool.eq_iff_iff]
      simp [← UInt8.toNat_inj]
      omega
    have Hr := Lib.hid hr
    clear Hq hr hne hg0 h0
    go_enter Tryd.func71, Tryd.ntmps71
    go_wp2_with fail
    go_ret
    exact ⟨by rw [Hr.out]; rfl, (Mods.refl _ _).alloc _⟩
theorem valN_take (L : List Fd) (s : ByteArray) (k : Nat) (hk : k < L.length) (h : ∀ i, i < k → (L.getD i .no).name ≠ s) : valN L s = if (L.getD k .no).name = s then (L.getD k .no).val else valN (L.drop (k + 1)) s := by
  induction L generalizing k with
  | nil => simp at hk
  | cons p L ih =>
    cases k with
    | zero =>
      simp only [List.getD_cons_zero, List.drop_succ_cons, List.drop_zero]
      unfold valN
      rw [List.find?_cons]
      by_cases hp : p.name = s <;> simp [hp]
    | succ k =>
      have h0 : p.name ≠ s := h 0 (by omega)
      have := ih k (by simpa using hk) (fun i hi => h (i + 1) (by omega))
      have e : valN (p :: L) s = valN L s := by
        unfold valN
        rw [List.find?_cons]
        simp [h0]
      rw [e, this]
      simp
theorem valN_none (L : List Fd) (s : ByteArray) (h : ∀ i, i < L.length → (L.getD i .no).name ≠ s) : valN L s = bNo := by
  unfold valN
  rw [List.find?_eq_none.2]
  · rfl
  · intro p hp
    obtain ⟨i, hi⟩ := List.getElem?_of_mem hp
    have hl := (List.getElem?_eq_some_iff.1 hi).1
    have := h i hl
    rw [List.getD_eq_getElem?_getD, hi] at this
    simpa using this
set_option maxHeartbeats 1000000 in
set_option maxRecDepth 100000 in
theorem value_of_ref (v : Value) (L : List Fd) (s : ByteArray) (w : World) (hR : ReadsL w v L) :
    Calls Tryd.prog 72 #[v, .string s] w fun e w' => e = .returned (.string (valN L s)) ∧ w' = w := by
  obtain ⟨ao, cap, rfl⟩ := hR.slice
  have HR := Lib.hid hR
  have hlen := hR.size
  obtain ⟨r, hr⟩ : ∃ r, valN L s = r := ⟨_, rfl⟩
  rw [hr]
  have Hr := Lib.hid hr
  obtain ⟨n, hn⟩ : ∃ n, L.length = n := ⟨_, rfl⟩
  have Hn := Lib.hid hn
  rw [hn] at HR hlen ⊢
  clear hn hR hr
  go_enter Tryd.func72, Tryd.ntmps72
  go_wp2_with fail
  go_loop [5] (fun c => ∃ k : Nat, k ≤ n ∧ c = .int .i64 k ∧ Hid (∀ i, i < k → (L.getD i .no).name ≠ s)) (fun c => n - (intOf c).toNat)
  case atStart => exact ⟨0, Nat.zero_le _, rfl, Lib.hid fun i hi => by omega⟩
  case round =>
    obtain ⟨k, hk, rfl, hbef⟩ := hrel
    by_cases hkn : k < n
    · have hkd : decide ((k : Int) < (n : Int)) = true := decide_eq_true (by omega)
      obtain ⟨b, o, rfl, hc1, hc2⟩ := HR.out.at hkn
      have hvt := valN_take L s k (by rw [Hn.out]; exact hkn) hbef.out
      obtain ⟨p, hp⟩ : ∃ p, L.getD k .no = p := ⟨_, rfl⟩
      have Hp := Lib.hid hp
      rw [hp] at hc1 hc2 hvt
      clear hp
      obtain ⟨pn, pv⟩ := p
      simp only at hc1 hc2 hvt
      have hb := bytes_toList pn s
      by_cases hpn : pn = s
      · rw [decide_eq_true hpn] at hb
        rw [if_pos hpn] at hvt
        have HV : Hid (r = pv) := Lib.hid (Hr.out.symm.trans hvt)
        clear hpn hvt hbef
        go_wp2_with fail
        go_ret
        exact ⟨by rw [HV.out]; rfl, rfl⟩
      · rw [decide_eq_false hpn] at hb
        have hh : Hid (∀ i, i < k + 1 → (L.getD i .no).name ≠ s) := Lib.hid fun i hi => by
          by_cases h : i < k
          · exact hbef.out i h
          · obtain rfl : i = k := by omega
            rw [Hp.out]; exact hpn
        clear hpn hvt hbef
        go_wp2_with fail
        go_round
        case rel => exact ⟨k + 1, by omega, by go_num, hh⟩
        case measure => simp [intOf]; omega
    · obtain rfl : k = n := by omega
      have hkd : decide ((k : Int) < (k : Int)) = false := decide_eq_false (by omega)
      have HV : Hid (r = bNo) := Lib.hid (Hr.out.symm.trans (valN_none L s fun i hi => hbef.out i (by rw [← Hn.out]; exact hi)))
      clear hbef
      go_wp2_with fail
      go_ret
      exact ⟨by rw [HV.out]; rfl, rfl⟩
theorem cnt_take (L : List Fd) (s : ByteArray) (k : Nat) (hk : k < L.length) : cntN (L.take (k + 1)) s = cntN (L.take k) s + if (L.getD k .no).name = s then 1 else 0 := by
  have e : L.getD k .no = L[k] := by simp [List.getD, hk]
  rw [List.take_add_one, List.getElem?_eq_getElem hk, e]
  unfold cntN
  rw [List.filter_append, List.length_append]
  by_cases h : L[k].name = s <;> simp [h]
theorem cnt_le (L : List Fd) (s : ByteArray) : cntN L s ≤ L.length := List.length_filter_le _ _
set_option maxHeartbeats 1000000 in
set_option maxRecDepth 100000 in
theorem count_ref (v : Value) (L : List Fd) (s : ByteArray) (w : World) (hR : ReadsL w v L) :
    Calls Tryd.prog 73 #[v, .string s] w fun e w' => e = .returned (.int .i64 (cntN L s : Nat)) ∧ w' = w := by
  obtain ⟨ao, cap, rfl⟩ := hR.slice
  have HR := Lib.hid hR
  have hlen := hR.size
  obtain ⟨n, hn⟩ : ∃ n, L.length = n := ⟨_, rfl⟩
  have Hn := Lib.hid hn
  rw [hn] at HR hlen ⊢
  clear hn hR
  go_enter Tryd.func73, Tryd.ntmps73
  go_wp2_with fail
  go_loop [5, 6] (fun s5 c => ∃ k : Nat, k ≤ n ∧ c = .int .i64 k ∧ s5 = .int .i64 (cntN (L.take k) s : Nat)) (fun _ c => n - (intOf c).toNat)
  case atStart => exact ⟨0, Nat.zero_le _, rfl, rfl⟩
  case round =>
    obtain ⟨k, hk, rfl, rfl⟩ := hrel
    by_cases hkn : k < n
    · have hkd : decide ((k : Int) < (n : Int)) = true := decide_eq_true (by omega)
      obtain ⟨b, o, rfl, hc1, hc2⟩ := HR.out.at hkn
      have hvt := cnt_take L s k (by rw [Hn.out]; exact hkn)
      have hle : cntN (L.take k) s ≤ k := Nat.le_trans (cnt_le _ _) (List.length_take_le _ _)
      obtain ⟨t, ht⟩ : ∃ t, cntN (L.take k) s = t := ⟨_, rfl⟩
      rw [ht] at hvt hle ⊢
      obtain ⟨p, hp⟩ : ∃ p, L.getD k .no = p := ⟨_, rfl⟩
      rw [hp] at hc1 hc2 hvt
      clear hp ht
      obtain ⟨pn, pv⟩ := p
      simp only at hc1 hc2 hvt
      have hb := bytes_toList pn s
      by_cases hpn : pn = s
      · rw [decide_eq_true hpn] at hb
        rw [if_pos hpn] at hvt
        have HV := Lib.hid hvt
        clear hpn hvt
        go_wp2_with fail
        go_round
        case rel => exact ⟨k + 1, by omega, by go_num, by rw [HV.out]; go_num⟩
        case measure => simp [intOf]; omega
      · rw [decide_eq_false hpn] at hb
        rw [if_neg hpn] at hvt
        have hvt := hvt.trans (Nat.add_zero _)
        have HV := Lib.hid hvt
        clear hpn hvt
        go_wp2_with fail
        go_round
        case rel => exact ⟨k + 1, by omega, by go_num, by rw [HV.out]⟩
        case measure => simp [intOf]; omega
    · obtain rfl : k = n := by omega
      have hkd : decide ((k : Int) < (k : Int)) = false := decide_eq_false (by omega)
      have ht : L.take k = L := List.take_of_length_le (by rw [Hn.out]; exact Nat.le_refl _)
      rw [ht]
      clear ht
      go_wp2_with fail
      go_ret
      exact ⟨rfl, rfl⟩
end Go.Proofs.YtkjghojdfjhhkaaDoor
/- A list's head, a list's tail: as slices. -/
namespace Go.Proofs.YtkjghojdfjhhkaaDoor
open Go.RowKit Go.Shelf Go.Cs
attribute [local go_sem] Oper.semAt_some
theorem elem25 : Tryd.prog.elem 25 = 54 := by kernel_rfl
theorem under25 : Tryd.prog.underlying 25 = some (.slice (Tryd.prog.elem 25)) := by rw [elem25]; exact Tryd.underlying25
def tailA (ao : Option Addr) (cap k : Nat) : Option Addr := if cap = k then ao else ao.map (·.add (k * 2))
theorem exec_tail {o : Oper} {a : Act} {w : World} (x lo : Operand) (ho : o.op = .slice 25 x (some lo) none none) (ao : Option Addr) (n cap k : Nat) (hx : a.eval x = .slice ao n cap) (hl : a.eval lo = .int .i64 (k : Nat)) (h1 : k ≤ n) (h2 : n ≤ cap) :
    (execOp a.eval o).run Tryd.prog w = .ok (.value (.slice (tailA ao cap k) (n - k) (cap - k))) w := by
  have hs := run_slice_l (P := Tryd.prog) w 25 ao n cap under25 .i64 (k : Int) (by omega) (by omega)
  have h54 : (sizeOf (Tryd.prog.elem 25)).run Tryd.prog w = .ok 2 w := by rw [elem25]; exact Tryd.sizeOf54 w
  rw [h54] at hs
  unfold execOp
  simp only [ho, hx, hl, Option.map_some, Option.map_none, run_sliceAt_slice w 25 _ _ _ _ under25, hs, Sem.run_bind, Result.andThen, sliced, Int.toNat_natCast]
  rfl
theorem exec_head {o : Oper} {a : Act} {w : World} (x hi : Operand) (ho : o.op = .slice 25 x none (some hi) none) (ao : Option Addr) (n cap k : Nat) (hx : a.eval x = .slice ao n cap) (hl : a.eval hi = .int .i64 (k : Nat)) (h1 : k ≤ cap) :
    (execOp a.eval o).run Tryd.prog w = .ok (.value (.slice (tailA ao cap 0) k cap)) w := by
  have hs := run_slice_h (P := Tryd.prog) w 25 ao n cap under25 .i64 (k : Int) (by omega) (by omega)
  have h54 : (sizeOf (Tryd.prog.elem 25)).run Tryd.prog w = .ok 2 w := by rw [elem25]; exact Tryd.sizeOf54 w
  rw [h54] at hs
  unfold execOp
  simp only [ho, hx, hl, Option.map_some, Option.map_none, run_sliceAt_slice w 25 _ _ _ _ under25, hs, Sem.run_bind, Result.andThen, sliced, Int.toNat_natCast]
  rfl
theorem ReadsL.take {W : World} {ao : Option Addr} {n cap : Nat} {L : List Fd} (h : ReadsL W (.slice ao n cap) L) {k : Nat} (hk : k ≤ n) (hc : n ≤ cap) : ReadsL W (.slice (tailA ao cap 0) k cap) (L.take k) := by
  obtain ⟨hl, hn⟩ := h.len
  subst hl
  have hlk : (L.take k).length = k := by rw [List.length_take]; omega
  refine ⟨by rw [hlk]; omega, tailA ao cap 0, cap, by rw [hlk], fun i hi => ?_⟩
  rw [hlk] at hi
  obtain ⟨_, _, _, e, hcx⟩ := h
  cases e
  obtain ⟨b, o, e, hr⟩ := hcx i (by omega)
  subst e
  refine ⟨b, o, ?_, ?_⟩
  · unfold tailA
    split
    · rfl
    · simp [Addr.add]
  · have e1 : (L.take k).getD i .no = L.getD i .no := by simp [List.getD, hi]
    show W.rangeAt b (o + i * 2) ((L.take k).getD i .no).cs
    rw [e1]
    exact hr
theorem ReadsL.tail {W : World} {ao : Option Addr} {n cap : Nat} {L : List Fd} (h : ReadsL W (.slice ao n cap) L) {k : Nat} (hk : k ≤ n) (hc : n ≤ cap) : ReadsL W (.slice (tailA ao cap k) (n - k) (cap - k)) (L.drop k) := by
  by_cases hkn : k < n
  · obtain ⟨b, o, rfl, _⟩ := h.at hkn
    have e : tailA (some ⟨b, o, none⟩) cap k = some ⟨b, o + k * 2, none⟩ := by
      unfold tailA
      rw [if_neg (by omega)]
      simp [Addr.add]
    rw [e]
    exact h.drop hkn
  · obtain ⟨hl, hn⟩ := h.len
    have e : n - k = 0 := by omega
    have e2 : L.drop k = [] := List.drop_eq_nil_of_le (by omega)
    rw [e, e2]
    exact ReadsL.nil _ _ _
end Go.Proofs.YtkjghojdfjhhkaaDoor
/- The document's answer of requests: its great condition. -/
namespace Go.Proofs.YtkjghojdfjhhkaaDoor
open Go.RowKit Go.Shelf Go.Cs
attribute [local go_sem] Oper.semAt_some
theorem valN_small {L : List Fd} (h : SmallL L) (s : ByteArray) : (valN L s).size < 4294967281 := by
  unfold valN
  cases hf : L.find? fun p => decide (p.name = s) with
  | none => show (0 : Nat) < 4294967281; omega
  | some p => exact (h p (List.mem_of_find?_eq_some hf)).2
theorem refOf_no {L H rest : List Fd} (h : L.take (headN L) = H ∧ L.drop (headN L) = rest) (hb : badRef H rest = true) : refOf L = none := by
  unfold refOf
  rw [h.1, h.2, hb, if_pos rfl]
theorem refOf_val {L H rest : List Fd} (h : L.take (headN L) = H ∧ L.drop (headN L) = rest) {i : Nat} (hi : i < H.length) (hv : valueB (H.getD i .no).val.data.toList = false) : refOf L = none := by
  unfold refOf
  rw [h.1, h.2]
  split
  · rfl
  · rw [if_neg]
    intro ha
    have := List.all_eq_true.1 ha _ (getD_mem (d := .no) hi)
    rw [hv] at this
    cases this
theorem refOf_ok {L H rest : List Fd} (h : L.take (headN L) = H ∧ L.drop (headN L) = rest) (hb : badRef H rest = false) (hv : ∀ i, i < H.length → valueB (H.getD i .no).val.data.toList = true) : refOf L = some ⟨valN H nMethod, valN H nScheme, valN H nPath, valN H nAuth, rest⟩ := by
  unfold refOf
  rw [h.1, h.2, hb, if_neg (by simp), if_pos]
  rw [List.all_eq_true]
  intro p hp
  obtain ⟨i, hi⟩ := List.getElem?_of_mem hp
  have hl := (List.getElem?_eq_some_iff.1 hi).1
  have := hv i hl
  rw [List.getD_eq_getElem?_getD, hi] at this
  exact this
theorem zone : ∀ u ∈ ([.string ⟨#[]⟩, .string ⟨#[]⟩, .string ⟨#[]⟩, .string ⟨#[]⟩, .slice none 0 0] : List Value), u.oneCell' = true := by
  intro u hu
  simp at hu
  rcases hu with rfl | rfl <;> rfl
theorem owns_other {W W' : World} {base : Nat} {e : TypeId} {sz n : Nat} {v : Value} {xs : List Value} (h : W.ownsRow base e sz v n xs) (hk : ∀ g o, base ≤ g → W.heap[g]? = some o → W'.heap[g]? = some o) : W'.ownsRow base e sz v n xs := by
  refine ⟨h.1, h.2.imp id ?_⟩
  rintro ⟨g, cap, cur, rfl, hg, hh, r⟩
  exact ⟨g, cap, cur, rfl, hg, hk _ _ hg hh, r⟩
theorem cell_other {W : World} {T i k : Nat} {v : Value} {ob : Obj} (h : W.heap[k]? = some ob) (hne : k ≠ T) : (W.setCell ⟨T, i, none⟩ v).heap[k]? = some ob :=
  ((Mods.refl (fun b => b = T) W).setCell (p := ⟨T, i, none⟩) (.inr rfl) v).heap h (fun h => hne h)
/-- The region of that number. -/
def regionOf (id : Nat) : Code → Option Code
  | .region i ops c => if i = id then some (.region i ops c) else none
  | .block _ c => regionOf id c
  | .seq a b => match regionOf id a with
    | some c => some c
    | none => regionOf id b
  | .loop c => regionOf id c
  | .scope c => regionOf id c
  | .cond _ a b => match regionOf id a with
    | some c => some c
    | none => regionOf id b
  | _ => none
noncomputable def reg7 : Code := ((Tryd.f37.body.bind (regionOf 7)).getD .skip)
set_option maxHeartbeats 4000000 in
set_option maxRecDepth 100000 in
theorem bad7 {w W4 : World} {hva rva : Option Addr} {n cap k T R c0 c1 c2 c3 : Nat} {v0 v1 v2 v3 : ByteArray} {tr bd : Bool} (u : Nat → Value)
    (hN3 : New w W4) (hT : W4.heap[T]? = some (.cells #[.string v0, .string v1, .string v2, .string v3, .slice none 0 0] 56 (0, 0)))
    (_ : c0 ≤ k) (_ : c1 ≤ k) (_ : c2 ≤ k) (_ : c3 ≤ k) (hk : k ≤ n) (hlen : n ≤ 2000000)
    (HC0 : Hid (∀ W, New w W → Calls Tryd.prog 73 #[.slice hva k cap, .string nMethod] W fun e w' => e = .returned (.int .i64 (c0 : Nat)) ∧ W = w'))
    (HC1 : Hid (∀ W, New w W → Calls Tryd.prog 73 #[.slice hva k cap, .string nScheme] W fun e w' => e = .returned (.int .i64 (c1 : Nat)) ∧ W = w'))
    (HC2 : Hid (∀ W, New w W → Calls Tryd.prog 73 #[.slice hva k cap, .string nPath] W fun e w' => e = .returned (.int .i64 (c2 : Nat)) ∧ W = w'))
    (HC3 : Hid (∀ W, New w W → Calls Tryd.prog 73 #[.slice hva k cap, .string nAuth] W fun e w' => e = .returned (.int .i64 (c3 : Nat)) ∧ W = w'))
    (HT : Hid (∀ W, New w W → Calls Tryd.prog 49 #[.slice rva (n - k) (cap - k)] W fun e w' => e = .returned (.bool tr) ∧ New W w'))
    (Hv0 : v0.size < 4294967281) (hbad : Hid (bd = (decide (c0 + c1 + c2 + c3 ≠ k) || (decide (c0 ≠ 1) || (decide (c1 ≠ 1) || (decide (c2 ≠ 1) || (decide (1 < c3) || (!(methodB v0.data.toList) || (decide (v2.size = 0) || !tr))))))))) :
    reg7.wp Tryd.prog (Only fun a' W' => (a'.tmps.size = 108 ∧ a'.defers = [] ∧ a'.tmps.getD 2 undef = .pointer (some ⟨R, 0, none⟩) ∧ a'.tmps.getD 3 undef = .bool false ∧ a'.tmps.getD 4 undef = .int .i64 (k : Nat) ∧ a'.tmps.getD 5 undef = .slice hva k cap ∧ a'.tmps.getD 6 undef = .slice rva (n - k) (cap - k) ∧ a'.tmps.getD 7 undef = .pointer (some ⟨T, 0, none⟩) ∧ a'.tmps.getD 88 undef = .bool (bd)) ∧ New W4 W') (⟨(u 0 :: u 1 :: .pointer (some ⟨R, 0, none⟩) :: .bool false :: .int .i64 (k : Nat) :: .slice hva k cap :: .slice rva (n - k) (cap - k) :: .pointer (some ⟨T, 0, none⟩) :: .int .i64 ((c0 : Int) + (c1 : Int) + (c2 : Int) + (c3 : Int)) :: u 9 :: u 10 :: u 11 :: u 12 :: u 13 :: u 14 :: u 15 :: u 16 :: u 17 :: u 18 :: u 19 :: u 20 :: u 21 :: u 22 :: u 23 :: u 24 :: u 25 :: u 26 :: u 27 :: u 28 :: u 29 :: u 30 :: u 31 :: u 32 :: u 33 :: u 34 :: u 35 :: u 36 :: u 37 :: u 38 :: u 39 :: u 40 :: u 41 :: u 42 :: u 43 :: u 44 :: u 45 :: u 46 :: u 47 :: u 48 :: u 49 :: u 50 :: u 51 :: u 52 :: u 53 :: u 54 :: u 55 :: u 56 :: u 57 :: u 58 :: u 59 :: u 60 :: u 61 :: u 62 :: u 63 :: u 64 :: u 65 :: u 66 :: u 67 :: u 68 :: u 69 :: u 70 :: u 71 :: u 72 :: u 73 :: u 74 :: u 75 :: u 76 :: u 77 :: u 78 :: u 79 :: u 80 :: u 81 :: u 82 :: u 83 :: u 84 :: u 85 :: u 86 :: u 87 :: u 88 :: u 89 :: u 90 :: u 91 :: u 92 :: u 93 :: u 94 :: u 95 :: u 96 :: u 97 :: u 98 :: u 99 :: u 100 :: u 101 :: u 102 :: u 103 :: u 104 :: u 105 :: u 106 :: u 107 :: ([] : List Value)).toArray, []⟩ : Act) W4 := by
  conv => arg 2; whnf
  have HMe : Hid (∀ W, Calls Tryd.prog 74 #[.string v0] W fun e w' => e = .returned (.bool (methodB v0.data.toList)) ∧ W = w') := Lib.hid fun W => (method_ref v0 W (Nat.le_trans (Nat.le_of_lt Hv0) (by decide))).mono fun _ _ h => ⟨h.1, h.2.symm⟩
  have kT0 : W4.cell? ⟨T, 0, none⟩ = some (.string v0) := cell_of_row _ _ _ _ _ _ hT
  have kT2 : W4.cell? ⟨T, 2, none⟩ = some (.string v2) := cell_of_row _ _ _ _ _ _ hT
  by_cases hs : c0 + c1 + c2 + c3 = k
  case neg =>
    have HB : Hid (true = bd) := Lib.hid (by rw [hbad.out]; simp [hs])
    have e1 : ((c0 : Int) + (c1 : Int) + (c2 : Int) + (c3 : Int) != (k : Int)) = true := by simp; omega
    clear hs hbad
    go_wp2_with fail
    exact ⟨⟨rfl, rfl, rfl, rfl, rfl, rfl, rfl, rfl, congrArg Value.bool HB.out⟩, Mods.refl _ _⟩
  have e1 : ((c0 : Int) + (c1 : Int) + (c2 : Int) + (c3 : Int) != (k : Int)) = false := by simp; omega
  by_cases h0 : c0 = 1
  case neg =>
    have HB : Hid (true = bd) := Lib.hid (by rw [hbad.out]; simp [h0])
    have d0 : ((c0 : Int) != 1) = true := by simp; omega
    clear hs hbad h0
    go_wp2_with fail
    refine (HC0.out _ hN3).mono ?_
    rintro e w' ⟨rfl, rfl⟩
    go_wp2_with fail
    exact ⟨⟨rfl, rfl, rfl, rfl, rfl, rfl, rfl, rfl, congrArg Value.bool HB.out⟩, Mods.refl _ _⟩
  have d0 : ((c0 : Int) != 1) = false := by simp; omega
  by_cases h1 : c1 = 1
  case neg =>
    have HB : Hid (true = bd) := Lib.hid (by rw [hbad.out]; simp [h1])
    have d1 : ((c1 : Int) != 1) = true := by simp; omega
    clear hs hbad h0 h1
    go_wp2_with fail
    refine (HC0.out _ hN3).mono ?_
    rintro e w' ⟨rfl, rfl⟩
    go_wp2_with fail
    refine (HC1.out _ hN3).mono ?_
    rintro e w' ⟨rfl, rfl⟩
    go_wp2_with fail
    exact ⟨⟨rfl, rfl, rfl, rfl, rfl, rfl, rfl, rfl, congrArg Value.bool HB.out⟩, Mods.refl _ _⟩
  have d1 : ((c1 : Int) != 1) = false := by simp; omega
  by_cases h2 : c2 = 1
  case neg =>
    have HB : Hid (true = bd) := Lib.hid (by rw [hbad.out]; simp [h2])
    have d2 : ((c2 : Int) != 1) = true := by simp; omega
    clear hs hbad h0 h1 h2
    go_wp2_with fail
    refine (HC0.out _ hN3).mono ?_
    rintro e w' ⟨rfl, rfl⟩
    go_wp2_with fail
    refine (HC1.out _ hN3).mono ?_
    rintro e w' ⟨rfl, rfl⟩
    go_wp2_with fail
    refine (HC2.out _ hN3).mono ?_
    rintro e w' ⟨rfl, rfl⟩
    go_wp2_with fail
    exact ⟨⟨rfl, rfl, rfl, rfl, rfl, rfl, rfl, rfl, congrArg Value.bool HB.out⟩, Mods.refl _ _⟩
  have d2 : ((c2 : Int) != 1) = false := by simp; omega
  by_cases h3 : 1 < c3
  case pos =>
    have HB : Hid (true = bd) := Lib.hid (by rw [hbad.out]; simp [h3])
    have d3 : decide ((1 : Int) < (c3 : Int)) = true := decide_eq_true (by omega)
    clear hs hbad h0 h1 h2 h3
    go_wp2_with fail
    refine (HC0.out _ hN3).mono ?_
    rintro e w' ⟨rfl, rfl⟩
    go_wp2_with fail
    refine (HC1.out _ hN3).mono ?_
    rintro e w' ⟨rfl, rfl⟩
    go_wp2_with fail
    refine (HC2.out _ hN3).mono ?_
    rintro e w' ⟨rfl, rfl⟩
    go_wp2_with fail
    refine (HC3.out _ hN3).mono ?_
    rintro e w' ⟨rfl, rfl⟩
    go_wp2_with fail
    exact ⟨⟨rfl, rfl, rfl, rfl, rfl, rfl, rfl, rfl, congrArg Value.bool HB.out⟩, Mods.refl _ _⟩
  have d3 : decide ((1 : Int) < (c3 : Int)) = false := decide_eq_false (by omega)
  cases hmb : methodB v0.data.toList with
  | false =>
    have HB : Hid (true = bd) := Lib.hid (by rw [hbad.out]; simp [hmb])
    rw [hmb] at HMe
    clear hs hbad h0 h1 h2 h3 hmb
    go_wp2_with fail
    refine (HC0.out _ hN3).mono ?_
    rintro e w' ⟨rfl, rfl⟩
    go_wp2_with fail
    refine (HC1.out _ hN3).mono ?_
    rintro e w' ⟨rfl, rfl⟩
    go_wp2_with fail
    refine (HC2.out _ hN3).mono ?_
    rintro e w' ⟨rfl, rfl⟩
    go_wp2_with fail
    refine (HC3.out _ hN3).mono ?_
    rintro e w' ⟨rfl, rfl⟩
    go_wp2_with fail
    refine (HMe.out _).mono ?_
    rintro e w' ⟨rfl, rfl⟩
    go_wp2_with fail
    exact ⟨⟨rfl, rfl, rfl, rfl, rfl, rfl, rfl, rfl, congrArg Value.bool HB.out⟩, Mods.refl _ _⟩
  | true =>
    rw [hmb] at HMe
    by_cases hp : v2.size = 0
    case pos =>
      have HB : Hid (true = bd) := Lib.hid (by rw [hbad.out]; simp [hp])
      have e2 : ((v2.size : Int) == 0) = true := by rw [hp]; rfl
      clear hs hbad h0 h1 h2 h3 hp hmb
      go_wp2_with fail
      refine (HC0.out _ hN3).mono ?_
      rintro e w' ⟨rfl, rfl⟩
      go_wp2_with fail
      refine (HC1.out _ hN3).mono ?_
      rintro e w' ⟨rfl, rfl⟩
      go_wp2_with fail
      refine (HC2.out _ hN3).mono ?_
      rintro e w' ⟨rfl, rfl⟩
      go_wp2_with fail
      refine (HC3.out _ hN3).mono ?_
      rintro e w' ⟨rfl, rfl⟩
      go_wp2_with fail
      refine (HMe.out _).mono ?_
      rintro e w' ⟨rfl, rfl⟩
      go_wp2_with fail
      exact ⟨⟨rfl, rfl, rfl, rfl, rfl, rfl, rfl, rfl, congrArg Value.bool HB.out⟩, Mods.refl _ _⟩
    have e2 : ((v2.size : Int) == 0) = false := beq_eq_false_iff_ne.2 (by omega)
    have HB : Hid ((!(tr)) = bd) := Lib.hid (by rw [hbad.out, decide_eq_false (p := c0 + c1 + c2 + c3 ≠ k) (fun h => h hs), decide_eq_false (p := v2.size = 0) hp]; simp [h0, h1, h2, h3, hmb])
    clear hs hbad h0 h1 h2 h3 hp hmb
    go_wp2_with fail
    refine (HC0.out _ hN3).mono ?_
    rintro e w' ⟨rfl, rfl⟩
    go_wp2_with fail
    refine (HC1.out _ hN3).mono ?_
    rintro e w' ⟨rfl, rfl⟩
    go_wp2_with fail
    refine (HC2.out _ hN3).mono ?_
    rintro e w' ⟨rfl, rfl⟩
    go_wp2_with fail
    refine (HC3.out _ hN3).mono ?_
    rintro e w' ⟨rfl, rfl⟩
    go_wp2_with fail
    refine (HMe.out _).mono ?_
    rintro e w' ⟨rfl, rfl⟩
    go_wp2_with fail
    refine (HT.out _ hN3).mono ?_
    rintro e W5 ⟨rfl, hN5⟩
    go_wp2_with fail
    exact ⟨⟨rfl, rfl, rfl, rfl, rfl, rfl, rfl, rfl, congrArg Value.bool HB.out⟩, hN5⟩
end Go.Proofs.YtkjghojdfjhhkaaDoor
