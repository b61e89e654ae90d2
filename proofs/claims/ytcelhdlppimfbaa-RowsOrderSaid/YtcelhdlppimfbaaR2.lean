/- Which rows may be. -/
import Derived.Test.YtcelhdlppimfbaaR1
import Derived.Laws.BitsAllLaws
namespace Go.Proofs.Ytcelhdlppimfbaa
open Go.RowKit Go.Shelf Go.Cs
attribute [local go_sem] Oper.semAt_some
def eightB (n : Int) : Bool := decide (0 ≤ n ∧ n < 8)
theorem eight_any (n : Int) (h1 : -9223372036854775808 ≤ n) (h2 : n ≤ 9223372036854775807) (w : World) :
    Calls Try.prog 23 #[.int .i64 n] w fun e w' => e = .returned (.bool (eightB n)) ∧ w = w' := by
  obtain ⟨m, hm, hm64, hb⟩ : ∃ m : Nat, IntKind.u64.wrap n = (m : Int) ∧ m < 18446744073709551616 ∧ (((m : Int) / 8 == 0) = eightB n) := by
    rcases Int.lt_or_le n 0 with h | h
    · refine ⟨(n + 18446744073709551616).toNat, ?_, by omega, ?_⟩
      · rw [IntKind.wrap_u64]; omega
      · rw [eightB, Bool.eq_iff_iff]; simp; omega
    · refine ⟨n.toNat, ?_, by omega, ?_⟩
      · rw [IntKind.wrap_u64]; omega
      · rw [eightB, Bool.eq_iff_iff]; simp; omega
  obtain ⟨b, hbb⟩ : ∃ b, eightB n = b := ⟨_, rfl⟩
  rw [hbb] at hb ⊢
  clear hbb
  go_enter Try.func23, Try.ntmps23
  go_wp2
  go_ret
  exact ⟨rfl, rfl⟩
theorem each_any (vs : List Value) (w : World) :
    Calls Try.prog 26 #[.agg vs.toArray] w fun e w' => e = .returned (.func (.func 30) #[] #[.pointer (some ⟨w.heap.size, 0, none⟩)]) ∧ w.alloc (.cells vs.toArray 23) = w' := by
  go_enter Try.func26, Try.ntmps26
  go_wp2
  go_ret
  exact ⟨rfl, rfl⟩
def seenF : Option Nat → Int → Option Nat
  | none, _ => none
  | some s, n => if eightB n = false ∨ s / 2 ^ n.toNat % 2 = 1 then none else some (s ||| 2 ^ n.toNat)
def stR (L : List (Nat × Int)) : Option Nat := (L.map (·.2)).foldl seenF (some 0)
theorem stR_snoc (L : List (Nat × Int)) (p : Nat × Int) : stR (L ++ [p]) = seenF (stR L) p.2 := by simp [stR]
def rightR (X : Nat → List Int) : Bool := (stR (flat X)).isSome
theorem seen_lt : ∀ (l : List Int) (s t : Nat), s < 256 → l.foldl seenF (some s) = some t → t < 256
  | [], s, t, hs, h => by cases h; exact hs
  | n :: l, s, t, hs, h => by
    rw [List.foldl_cons, seenF] at h
    split at h
    · exfalso
      have hf : ∀ l : List Int, l.foldl seenF none = none := fun l => by induction l with
        | nil => rfl
        | cons a l ih => exact ih
      rw [hf] at h
      cases h
    · rename_i hn
      simp only [not_or, Bool.not_eq_false] at hn
      have h8 := of_decide_eq_true hn.1
      exact seen_lt l _ t (Nat.or_lt_two_pow (n := 8) hs (Nat.pow_lt_pow_right (by decide) (by omega))) h
theorem stR_lt {L : List (Nat × Int)} {s : Nat} (h : stR L = some s) : s < 256 := seen_lt _ 0 s (by decide) h
theorem flatTo_mem (X : Nat → List Int) {p : Nat × Int} : ∀ u, p ∈ flatTo X u → p.2 ∈ X p.1 ∧ p.1 < u
  | 0, h => by cases h
  | u + 1, h => by
    rcases List.mem_append.1 h with h | h
    · have := flatTo_mem X u h; exact ⟨this.1, by omega⟩
    · obtain ⟨n, hn, rfl⟩ := List.mem_map.1 h; exact ⟨hn, by dsimp only; omega⟩
def In64 (X : Nat → List Int) : Prop := ∀ u n, n ∈ X u → -9223372036854775808 ≤ n ∧ n ≤ 9223372036854775807
theorem flat_in {X : Nat → List Int} (hx : In64 X) {k : Nat} {p : Nat × Int} (h : (flat X)[k]? = some p) : -9223372036854775808 ≤ p.2 ∧ p.2 ≤ 9223372036854775807 ∧ p.1 < 8 := by
  have := flatTo_mem X 8 (List.mem_of_getElem? h)
  exact ⟨(hx _ _ this.1).1, (hx _ _ this.1).2, this.2⟩
theorem stR_none {X : Nat → List Int} {k : Nat} (h : stR ((flat X).take k) = none) : stR (flat X) = none := by
  have e := List.take_append_drop k (flat X)
  have hf : ∀ l : List Int, l.foldl seenF none = none := fun l => by induction l with
    | nil => rfl
    | cons a l ih => exact ih
  rw [← e]
  unfold stR at h ⊢
  rw [List.map_append, List.foldl_append, h]
  exact hf _
theorem take_snoc {L : List (Nat × Int)} {k : Nat} {p : Nat × Int} (h : L[k]? = some p) : L.take (k + 1) = L.take k ++ [p] := by
  obtain ⟨hk, rfl⟩ := List.getElem?_eq_some_iff.1 h
  exact List.take_succ_eq_append_getElem hk
theorem shr_u8 (x s : Nat) (hx : x < 256) (yk : IntKind) : Op.shift .shr .u8 (x : Int) yk (s : Int) = pure (.int .u8 ((x / 2 ^ s : Nat) : Int)) := by
  rw [shift_shr_any .u8 yk _ _ (by omega)]
  simp only [Int.toNat_natCast, IntKind.bits]
  rw [div_cast]
  congr 3
  by_cases h : s ≤ 8
  · rw [Nat.min_eq_left h]
  · rw [Nat.min_eq_right (by omega), Nat.div_eq_of_lt (by exact hx), Nat.div_eq_of_lt]
    exact Nat.lt_of_lt_of_le hx (Nat.pow_le_pow_right (n := 2) (by decide) (show 8 ≤ s by omega))
theorem and1_u8 (a : Nat) (ha : a < 256) : bits .and .u8 (a : Int) 1 = ((a % 2 : Nat) : Int) := by
  rw [show (1 : Int) = ((1 : Nat) : Int) from rfl, u8_and_nat a 1 ha (by decide), Nat.and_one_is_mod]
set_option maxHeartbeats 1000000 in
theorem right_any (vs : List Value) (hl : vs.length = 8) (X : Nat → List Int) (w : World) (hr : Rd w vs X) (hx : In64 X) :
    Calls Try.prog 20 #[.agg vs.toArray] w fun e w' => e = .returned (.bool (rightR X)) ∧ New w w' := by
  obtain ⟨b, hb⟩ : ∃ b, rightR X = b := ⟨_, rfl⟩
  have Hb := Lib.hid hb
  have Hx := Lib.hid hx
  rw [hb]
  clear hb hx
  refine calls_of_marks Try.func20 rfl ?_
  simp only [Try.ntmps20, List.size_toArray, List.length_cons, List.length_nil, Nat.reduceAdd, Nat.reduceSub, Array.replicate_succ, Array.replicate_zero, List.push_toArray, List.append_toArray, List.nil_append, List.cons_append]
  go_wp2
  refine wp_scope_fwd 0 (fun a W => a.tmps.size = 24 ∧ (a.defers = [] ∨ ∃ D, a.defers = [{ target := .collected D, args := #[] }] ∧ w.heap.size ≤ D ∧ W.heap[D]? = some (.deferred (some []))) ∧ New w W ∧ b = false) rfl ?first ?pass
  case pass =>
    rintro ⟨tmps, defers⟩ W ⟨hs, hd, hN, rfl⟩
    go_wp2
    rcases hd with rfl | ⟨D, rfl, hD, hWD⟩
    · exact marks_none rfl (v := .bool false) (by simp [results, Try.f20, hs]) ⟨rfl, hN⟩
    · exact marks_one rfl hWD (v := .bool false) (by simp [results, Try.f20, hs]) ⟨rfl, hN.putObj hD _⟩
  case first =>
    have Hi := Lib.hid (show (Try.prog.info? 23).map (·.size) = some vs.toArray.size by rw [List.size_toArray, hl]; exact info23)
    have Hl := Lib.hid hl
    clear hl
    have hh0 : ((w.alloc (.cells vs.toArray 23)).alloc (.cells #[.int .u8 0] 5)).heap[w.heap.size]? = some (.cells vs.toArray 23 (0, 0)) := ((Mods.refl (fun _ => False) _).alloc _).heap (World.alloc_heap_new w _) id
    go_wp2_with (refine op_value rfl (run_load_row 23 (.tmp 1) rfl w.heap.size rfl 23 vs.toArray (0, 0) _ hh0 Try.underlying23 rfl Hi.out) ?_)
    obtain ⟨W0, hW0⟩ : ∃ W0, (w.alloc (.cells vs.toArray 23)).alloc (.cells #[.int .u8 0] 5) = W0 := ⟨_, rfl⟩
    have hN0 : New w W0 := by rw [← hW0]; exact ((Mods.refl _ _).alloc _).alloc _
    have hsz : W0.heap.size = w.heap.size + 2 := by rw [← hW0]; simp
    have hb1 : Boxed W0 (w.heap.size + 1) 5 (.int .u8 ((0 : Nat) : Int)) := by rw [← hW0]; exact boxed1 w _ _ _
    rw [hW0]
    have hr0 := hr.new hN0
    clear hW0 hh0
    refine (each_any vs _).mono ?_
    rintro e w2 ⟨rfl, hw2⟩
    have hN2 : New W0 w2 := by rw [← hw2]; exact (Mods.refl _ _).alloc _
    have hB2 : w2.heap[W0.heap.size]? = some (.cells vs.toArray 23 (0, 0)) := by rw [← hw2]; exact World.alloc_heap_new W0 _
    have hb2 := hN2.boxed hb1 id
    have hr2 := hr0.new hN2
    have hsz2 : w2.heap.size = W0.heap.size + 1 := by rw [← hw2]; simp
    have hNw := hN0.trans hN2
    rw [hsz] at hB2
    clear hw2 hb1 hr0 hN0 hN2
    go_wp2_with fail
    refine wp_rangeList (gf := 30) (lb := #[.pointer (some ⟨w.heap.size + 2, 0, none⟩)]) rfl (enters_of Try.func30 (by kernel_rfl) rfl) (flat X) encR (fun b => b = w.heap.size + 1)
      (fun W hW => each1_iter _ vs Hl.out X _ (fun u hu hx g hg e => by have := hr.block hu hx hg; omega) W (hW.heap hB2 id) (hr2.new hW)) (fun _ => rfl)
      (fun k W => ∃ s, stR ((flat X).take k) = some s ∧ Boxed W (w.heap.size + 1) 5 (.int .u8 (s : Nat)) ∧ Mods (fun b => b = w.heap.size + 1) w2 W)
      (fun c k W => c = .goto 0 ∧ stR ((flat X).take k) = none ∧ Mods (fun b => b = w.heap.size + 1) w2 W)
      (fun k => .ex fun s => .and (.pure _) (.and (.boxed _ _ _) (.mods (Nat.le_refl _))))
      (fun c k => .and (.pure _) (.and (.pure _) (.mods (Nat.le_refl _))))
      ⟨0, rfl, hb2, Mods.refl _ _⟩
      (fun p t => ((t.setIfInBounds 8 (.int .i64 p.1)).setIfInBounds 9 (.int .i64 p.2)).setIfInBounds 5 (.int .i64 p.2)) ?assign ?body ?done ?stop
    case assign =>
      rintro l ⟨p1, p2⟩ W K hK
      simp only [encR] at hK ⊢
      gi_wp2
      exact hK
    case body =>
      rintro l k p W hp hl _ ⟨s, hst, hbs, hM⟩
      have hs256 := stR_lt hst
      obtain ⟨i1, i2, i3⟩ := flat_in Hx.out hp
      have hst1 : stR ((flat X).take (k + 1)) = seenF (some s) p.2 := by rw [take_snoc hp, stR_snoc, hst]
      obtain ⟨p1, n⟩ := p
      dsimp only at i1 i2 i3 hst1 ⊢
      have HE := Lib.hid (eight_any n i1 i2)
      clear hp hb2 hB2 hr hr2
      simp only [seenF] at hst1
      have HN : stR ((flat X).take (k + 1)) = none → roundQ (fun b => b = w.heap.size + 1) (fun k W => ∃ s, stR ((flat X).take k) = some s ∧ Boxed W (w.heap.size + 1) 5 (.int .u8 (s : Nat)) ∧ Mods (fun b => b = w.heap.size + 1) w2 W)
          (fun c k W => c = .goto 0 ∧ stR ((flat X).take k) = none ∧ Mods (fun b => b = w.heap.size + 1) w2 W) (k + 1) W (.goto 0) { tmps := #[], defers := [] } W := fun h => ⟨Mods.refl _ _, rfl, h, hM⟩
      cases he : eightB n with
      | false =>
        rw [he] at HE
        have HN := Lib.hid (HN (by rw [hst1, if_pos (.inl he)]))
        clear hst1 he
        gi_wp2_with (refine at_round (HE.out _) ?_; rintro e w' ⟨rfl, rfl⟩)
        exact wpIn_goto HN.out
      | true =>
        rw [he] at HE
        have h8 := of_decide_eq_true he
        obtain ⟨m, rfl⟩ := Int.eq_ofNat_of_zero_le h8.1
        have hm8 : m < 8 := by omega
        have hsh := div_cast s m
        have ha := and1_u8 (s / 2 ^ m) (Nat.lt_of_le_of_lt (Nat.div_le_self _ _) hs256)
        have hbt8 : 2 ^ m < 256 := Nat.pow_lt_pow_right (n := 8) (by decide) hm8
        have hsl : IntKind.u8.wrap (2 ^ m) = ((2 ^ m : Nat) : Int) := by rw [IntKind.wrap_u8', cast_pow]; exact Int.emod_eq_of_lt (Int.natCast_nonneg _) (Int.ofNat_lt.2 hbt8)
        have hor := u8_or_nat s (2 ^ m) hs256 hbt8
        rw [he, Int.toNat_natCast] at hst1
        obtain ⟨q, hq⟩ : ∃ q, s / 2 ^ m = q := ⟨_, rfl⟩
        rw [hq] at hsh ha hst1
        obtain ⟨bt, hbt⟩ : ∃ q, 2 ^ m = q := ⟨_, rfl⟩
        rw [hbt] at hor hbt8 hst1
        rw [hbt] at hsl
        obtain ⟨o, ho⟩ : ∃ o, s ||| bt = o := ⟨_, rfl⟩
        rw [ho] at hor hst1
        obtain ⟨c1, f1⟩ := hbs.both
        clear hq hbt ho hst he
        have hcases : q % 2 = 1 ∨ q % 2 = 0 := by omega
        rcases hcases with hc | hc
        · rw [hc] at ha
          have ha : bits .and .u8 (q : Int) 1 = 1 := ha
          have HN := Lib.hid (HN (by rw [hst1, if_pos (.inr hc)]))
          clear hst1 hc
          gi_wp2_with (refine at_round (HE.out _) ?_; rintro e w' ⟨rfl, rfl⟩)
          exact wpIn_goto HN.out
        · rw [hc] at ha
          have ha : bits .and .u8 (q : Int) 1 = 0 := ha
          have HI := Lib.hid (show stR ((flat X).take (k + 1)) = some o by rw [hst1, if_neg (by simp; omega)])
          clear hst1 hc HN
          gi_wp2_with (refine at_round (HE.out _) ?_; rintro e w' ⟨rfl, rfl⟩)
          refine wpIn_region_any (by kernel_rfl) ?_
          have c1 : W.drew.cell? ⟨w.heap.size + 1, 0, none⟩ = some (.int .u8 s) := c1
          have f1 : W.drew.frozen? ⟨w.heap.size + 1, 0, none⟩ = false := f1
          refine any_take 1 (some 21) (.int .i64 m) rfl rfl (by kernel_rfl) (by kernel_rfl) (by kernel_rfl) (fun _ _ _ h => h) (.value rfl fun w => rfl) ?_
          refine any_take 2 (some 22) (.int .u8 bt) rfl rfl (by kernel_rfl) (by kernel_rfl) (by kernel_rfl) (fun _ _ _ h => h) (.value rfl fun w => by go_simp) ?_
          simp only [Act.put, List.setIfInBounds_toArray, List.set_cons_succ, List.set_cons_zero]
          refine wpAnyIn_all (rs := [0]) (by kernel_rfl) (by simp) ?_
          simp only [List.mem_cons, List.not_mem_nil, or_false, forall_eq]
          refine opIn_value (some 20) (v := .int .u8 s) (w' := W.drew) rfl rfl rfl rfl (by go_simp) ?_
          simp only [Act.put, List.setIfInBounds_toArray, List.set_cons_succ, List.set_cons_zero]
          refine wpAnyIn_all (rs := [3]) (by kernel_rfl) (by simp) ?_
          simp only [List.mem_cons, List.not_mem_nil, or_false, forall_eq]
          refine opIn_value (some 23) (v := .int .u8 o) (w' := W.drew) rfl rfl rfl rfl (by go_simp) ?_
          simp only [Act.put, List.setIfInBounds_toArray, List.set_cons_succ, List.set_cons_zero]
          refine wpAnyIn_all (rs := [4]) (by kernel_rfl) (by simp) ?_
          simp only [List.mem_cons, List.not_mem_nil, or_false, forall_eq]
          refine opIn_skip none (w' := W.drew.setCell ⟨w.heap.size + 1, 0, none⟩ (.int .u8 o)) rfl rfl rfl rfl (by go_simp) ?_
          refine wpAnyIn_done (by kernel_rfl) ?_ _
          exact ⟨mset (Mods.refl _ _).drew _, o, HI.out, hbs.set _, mset hM.drew _⟩
    case done =>
      rintro W ⟨s, hst, hbs, hM⟩ hD
      rw [List.take_length] at hst
      have HS := Lib.hid hst
      clear hst
      go_wp2
      refine marks_one rfl hD (v := .bool true) (by simp [results, Try.f20]) ⟨?_, (((Mods.ofNew hNw).trans hM).new (by omega)).putObj (by omega) _⟩
      rw [← Hb.out, rightR, HS.out]; rfl
    case stop =>
      rintro c k W hk ⟨rfl, hst, hM⟩ hD
      exact wp_goto (And.intro rfl ⟨rfl, .inr ⟨_, rfl, by omega, hD⟩, ((Mods.ofNew hNw).trans hM).new (by omega), by rw [← Hb.out, rightR, stR_none hst]; rfl⟩)
end Go.Proofs.Ytcelhdlppimfbaa
