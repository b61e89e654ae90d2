/- Who may be ready. -/
import Derived.Test.YtkjloeefcaadlaaP05
import Derived.Deep.QuietTactic
import Derived.BigQuiet
set_option linter.unusedSimpArgs false
set_option linter.unusedVariables false
namespace Go.Proofs.Ytkjloeefcaadlaa
open Go.RowKit Go.Shelf Go.Cs
attribute [local go_sem] Oper.semAt_some
theorem number_t (n : Int) (w : World) (h1 : -9223372036854775808 ≤ n) (h2 : n ≤ 9223372036854775807) : Calls Try.prog 91 #[.int .i64 n] w fun e w' => e = .returned (.bool (numB n)) ∧ w = w' := by
  have e : (n / 8 == 0) = numB n := by
    rw [Bool.eq_iff_iff, numB_iff, beq_iff_eq]
    omega
  obtain ⟨b, hb⟩ : ∃ b, numB n = b := ⟨_, rfl⟩
  rw [hb] at e ⊢
  clear hb
  go_enter Try.func91, Try.ntmps91
  go_wp2
  go_ret
  exact ⟨rfl, rfl⟩
theorem all_in8 {x : Nat} {h : Nat → Int} (hk : heldOk h = true) {p : Int × Nat} (hp : p ∈ allT x h) : 0 ≤ p.1 ∧ p.1 < 8 ∧ p.2 < 8 := by
  obtain ⟨s, u⟩ := p
  obtain ⟨hu, h1⟩ := mem_allTo.1 hp
  rcases h1 with ⟨h3, rfl⟩ | h3
  · have := heldOk_iff.1 hk u hu
    exact ⟨by dsimp only; omega, by dsimp only; omega, hu⟩
  · have := rowsF_in _ _ _ h3
    exact ⟨this.1, this.2, hu⟩
def bc (f : Nat → Bool) : List Value := [.bool (f 0), .bool (f 1), .bool (f 2), .bool (f 3), .bool (f 4), .bool (f 5), .bool (f 6), .bool (f 7)]
theorem bc_at (f : Nat → Bool) (u : Nat) (hu : u < 8) : (bc f)[u]? = some (.bool (f u)) := by
  match u, hu with
  | 0, _ => rfl
  | 1, _ => rfl
  | 2, _ => rfl
  | 3, _ => rfl
  | 4, _ => rfl
  | 5, _ => rfl
  | 6, _ => rfl
  | 7, _ => rfl
/-- Which slots were seen. -/
def SeenAt (W : World) (B : Nat) (L : List Int) : Prop := W.heap[B]? = some (.cells (bc fun t => decide ((t : Int) ∈ L)).toArray 103 (0, 0))
theorem SeenAt.cell {W : World} {B : Nat} {L : List Int} (h : SeenAt W B L) {u : Nat} (hu : u < 8) : W.cell? ⟨B, u, none⟩ = some (.bool (decide ((u : Int) ∈ L))) := by
  rw [cell_of_row W B _ _ 103 _ h, List.getElem?_toArray]
  exact bc_at _ u hu
theorem SeenAt.frozen {W : World} {B : Nat} {L : List Int} (h : SeenAt W B L) (u : Nat) : W.frozen? ⟨B, u, none⟩ = false := by
  unfold World.frozen?
  rw [h]
  rfl
theorem bc_set (f g : Nat → Bool) (u : Nat) (hu : u < 8) (h1 : g u = true) (h2 : ∀ t, t < 8 → t ≠ u → g t = f t) : (bc f).set u (.bool true) = bc g := by
  apply List.ext_getElem?
  intro i
  by_cases hi : i < 8
  · rw [List.getElem?_set, bc_at g i hi, bc_at f i hi]
    split
    · rename_i e; subst e; rw [if_pos (show u < (bc f).length from hu), h1]
    · rename_i e; rw [h2 i hi (Ne.symm e)]
  · rw [List.getElem?_eq_none (by simp [bc]; omega), List.getElem?_eq_none (by simp [bc]; omega)]
theorem SeenAt.set {W : World} {B : Nat} {L : List Int} (h : SeenAt W B L) {u : Nat} (hu : u < 8) : SeenAt (W.setCell ⟨B, u, none⟩ (.bool true)) B (L ++ [(u : Int)]) := by
  unfold SeenAt
  rw [heap_setCell_same W B u _ 103 _ h, List.setIfInBounds_toArray, bc_set _ (fun t => decide ((t : Int) ∈ L ++ [(u : Int)])) u hu (by simp)]
  intro t _ hne
  simp only [List.mem_append, List.mem_singleton, decide_eq_decide]
  constructor
  · rintro (h | h)
    · exact h
    · omega
  · exact .inl
theorem _root_.Go.Cs.Stab.seen {C : Nat} (B : Nat) (L : List Int) : Stab C (fun W => SeenAt W B L) := fun _ _ h k => k.block _ _ h (.inr rfl)
/-- Whose turn was handed out, ahead of a place. -/
def slotsTo (x : Nat) (h : Nat → Int) (k : Nat) : List Int := ((allT x h).take k).map (·.1)
theorem slotsTo_succ {x : Nat} {h : Nat → Int} {k : Nat} {p : Int × Nat} (hp : (allT x h)[k]? = some p) : slotsTo x h (k + 1) = slotsTo x h k ++ [p.1] := by
  obtain ⟨hk, rfl⟩ := List.getElem?_eq_some_iff.1 hp
  unfold slotsTo
  rw [List.take_succ_eq_append_getElem hk, List.map_append]
  rfl
theorem slots_twice {x : Nat} {h : Nat → Int} {k : Nat} {p : Int × Nat} (hp : (allT x h)[k]? = some p) (hm : p.1 ∈ slotsTo x h k) : ¬ ((allT x h).map (·.1)).Nodup := by
  intro hd
  obtain ⟨hk, rfl⟩ := List.getElem?_eq_some_iff.1 hp
  have e := List.take_append_drop k (allT x h)
  rw [← e, List.map_append, List.nodup_append] at hd
  refine hd.2.2 _ hm _ ?_ rfl
  rw [List.drop_eq_getElem_cons hk, List.map_cons]
  exact List.mem_cons_self
theorem slots_next {x : Nat} {h : Nat → Int} {k : Nat} {p : Int × Nat} (hp : (allT x h)[k]? = some p) (hd : (slotsTo x h k).Nodup) (hm : ¬ p.1 ∈ slotsTo x h k) : (slotsTo x h (k + 1)).Nodup := by
  rw [slotsTo_succ hp, List.nodup_append]
  refine ⟨hd, by simp, fun a ha b hb e => ?_⟩
  simp at hb
  subst hb
  subst e
  exact hm ha
def In8 (h : Nat → Int) : Prop := ∀ u, u < 8 → -9223372036854775808 ≤ h u ∧ h u ≤ 9223372036854775807
set_option maxRecDepth 100000 in
set_option maxHeartbeats 1000000 in
theorem right_t (x : Nat) (h : Nat → Int) (hx : x < 18446744073709551616) (hh : In8 h) (w : World) :
    Calls Try.prog 84 #[.agg (rc x h).toArray] w fun e w' => e = .returned (.bool (rightT x h)) ∧ New w w' := by
  obtain ⟨r, hr⟩ : ∃ r, rightT x h = r := ⟨_, rfl⟩
  have Hr := Lib.hid hr
  rw [hr]
  clear hr
  have Hh := Lib.hid hh
  have HW := Lib.hid (right_any x hx)
  obtain ⟨rb, hrb⟩ : ∃ r, rightB x = r := ⟨_, rfl⟩
  rw [hrb] at HW
  have Hrb := Lib.hid hrb
  clear hrb hh
  refine calls_of_marks Try.func84 rfl ?_
  simp only [Try.ntmps84, List.size_toArray, List.length_cons, List.length_nil, Nat.reduceAdd, Nat.reduceSub, Array.replicate_succ, Array.replicate_zero, List.push_toArray, List.append_toArray, List.nil_append, List.cons_append]
  go_wp2_with fail
  refine wp_scope_fwd 0 (fun a W => a.tmps.size = 33 ∧ (a.defers = [] ∨ ∃ D, a.defers = [{ target := .collected D, args := #[] }] ∧ w.heap.size ≤ D ∧ W.heap[D]? = some (.deferred (some []))) ∧ New w W ∧ r = false) rfl ?first ?pass
  case pass =>
    rintro ⟨tmps, defers⟩ W ⟨hs, hd, hN, rfl⟩
    go_wp2
    rcases hd with rfl | ⟨D, rfl, hD, hWD⟩
    · exact marks_none rfl (v := .bool false) (by simp [results, Try.f84, hs]) ⟨rfl, hN⟩
    · exact marks_one rfl hWD (v := .bool false) (by simp [results, Try.f84, hs]) ⟨rfl, hN.putObj hD _⟩
  case first =>
    have hB0 : RAt ((w.alloc (.cells (rc x h).toArray 51)).alloc (.cells #[.bool false, .bool false, .bool false, .bool false, .bool false, .bool false, .bool false, .bool false] 103)) w.heap.size x h := ((Mods.refl (fun _ => False) _).alloc _).heap (World.alloc_heap_new w _) id
    have c0 := hB0.cell
    go_wp2_with fail
    have hS0 : SeenAt ((w.alloc (.cells (rc x h).toArray 51)).alloc (.cells #[.bool false, .bool false, .bool false, .bool false, .bool false, .bool false, .bool false, .bool false] 103)) (w.heap.size + 1) [] := by
      have := World.alloc_heap_new (w.alloc (.cells (rc x h).toArray 51)) (.cells #[.bool false, .bool false, .bool false, .bool false, .bool false, .bool false, .bool false, .bool false] 103)
      rw [World.size_alloc] at this
      exact this
    obtain ⟨W0, hW0⟩ : ∃ W0, (w.alloc (.cells (rc x h).toArray 51)).alloc (.cells #[.bool false, .bool false, .bool false, .bool false, .bool false, .bool false, .bool false, .bool false] 103) = W0 := ⟨_, rfl⟩
    have hN0 : New w W0 := by rw [← hW0]; exact ((Mods.refl _ _).alloc _).alloc _
    have hsz : W0.heap.size = w.heap.size + 2 := by rw [← hW0]; simp
    rw [hW0] at hB0 hS0 ⊢
    clear hW0 c0
    refine (HW.out _).mono ?_
    rintro e w1 ⟨rfl, hN1⟩
    have hB1 := hB0.mods hN1 id
    have hS1 : SeenAt w1 (w.heap.size + 1) [] := hN1.heap hS0 id
    have hNw := hN0.trans hN1
    have hsz1 : w.heap.size + 2 ≤ w1.heap.size := by have := hN1.size; omega
    clear hB0 hS0 hN0 hN1 hsz
    cases rb with
    | false =>
      have hR : r = false := by rw [← Hr.out]; simp [rightT, Hrb.out]
      go_wp2_with fail
      exact wp_goto (And.intro rfl ⟨rfl, .inl rfl, hNw, hR⟩)
    | true =>
      have Hk : Hid (r = (heldOk h && decide ((allT x h).map (·.1)).Nodup)) := Lib.hid (by rw [← Hr.out]; simp [rightT, Hrb.out])
      have hH := hB1.held
      go_wp2_with (refine op_value rfl (run_load_mid 49 (.tmp 11) rfl w.heap.size 1 rfl (hc h) _ hH Try.underlying49 rfl info49) ?_)
      clear hH
      go_loopw [13] (fun c wr => ∃ u : Nat, u ≤ 8 ∧ c = .int .i64 u ∧ Hid (∀ v, v < u → h v = -1 ∨ (0 ≤ h v ∧ h v < 8)) ∧ w1 = wr) (fun c _ => 8 - (intOf c).toNat)
      case atStart => exact ⟨0, by omega, rfl, Lib.hid (fun v hv => by omega), rfl⟩
      case round =>
        obtain ⟨u, hu, rfl, hbef, rfl⟩ := hrel
        by_cases hu8 : u < 8
        · have hi := hc_idx h u hu8
          have hud : decide ((u : Int) < 8) = true := by simp; omega
          have hz64 := Hh.out u hu8
          obtain ⟨z, hz⟩ : ∃ z, h u = z := ⟨_, rfl⟩
          have Hz := Lib.hid hz
          rw [hz] at hi hz64
          have HN := Lib.hid (fun w => number_t z w hz64.1 hz64.2)
          clear hz
          by_cases hm : z = -1
          · have hzm : (z != -1) = false := by rw [hm]; rfl
            have hnext : Hid (∀ v, v < u + 1 → h v = -1 ∨ (0 ≤ h v ∧ h v < 8)) := Lib.hid (fun v hv => by
              by_cases e : v < u
              · exact hbef.out v e
              · obtain rfl : v = u := by omega
                exact .inl (Hz.out.trans hm))
            clear hm hbef
            go_wp2_with (with_reducible refine ⟨fun f hf => (by cases hf), ?_⟩)
            go_roundw
            case rel => exact ⟨u + 1, by omega, by go_num, hnext, trivial⟩
            case measure => simp [intOf]; omega
          · have hzm : (z != -1) = true := by simpa using hm
            obtain ⟨nb, hnb⟩ : ∃ b, numB z = b := ⟨_, rfl⟩
            rw [hnb] at HN
            have Hnb := Lib.hid hnb
            clear hnb
            go_wp2_with fail
            refine (HN.out _).mono ?_
            rintro e w2 ⟨rfl, rfl⟩
            cases nb with
            | true =>
              have hnext : Hid (∀ v, v < u + 1 → h v = -1 ∨ (0 ≤ h v ∧ h v < 8)) := Lib.hid (fun v hv => by
                by_cases e : v < u
                · exact hbef.out v e
                · obtain rfl : v = u := by omega
                  rw [Hz.out]
                  exact .inr (numB_iff.1 Hnb.out))
              clear hm hbef
              go_wp2_with fail
              go_roundw
              case rel => exact ⟨u + 1, by omega, by go_num, hnext, trivial⟩
              case measure => simp [intOf]; omega
            | false =>
              have hR : r = false := by
                rw [Hk.out]
                have : heldOk h = false := by
                  rw [← Bool.not_eq_true, heldOk_iff]
                  intro h2
                  rcases h2 u hu8 with h3 | h3
                  · exact hm (by rw [← Hz.out, h3])
                  · rw [Hz.out] at h3
                    have := numB_iff.2 h3
                    rw [Hnb.out] at this
                    cases this
                rw [this]; rfl
              go_wp2_with fail
              exact wp_goto (And.intro rfl ⟨rfl, .inl rfl, hNw, hR⟩)
        · obtain rfl : u = 8 := by omega
          have hok : heldOk h = true := heldOk_iff.2 hbef.out
          have Hk2 : Hid (r = decide ((allT x h).map (·.1)).Nodup) := Lib.hid (by rw [Hk.out, hok]; rfl)
          have Hok := Lib.hid hok
          have hi51 : (Try.prog.info? 51).map (·.size) = some (rc x h).toArray.size := info51
          clear hbef hok hu hu8
          go_wp2_with (refine op_value rfl (run_load_row 51 (.tmp 1) rfl w.heap.size rfl 51 (rc x h).toArray (0, 0) _ hB1 Try.underlying51 rfl hi51) ?_)
          refine (all_any x h _).mono ?_
          rintro e w2 ⟨rfl, hw2⟩
          have hN2 : New w1 w2 := by rw [← hw2]; exact (Mods.refl _ _).alloc _
          have hB2 : RAt w2 w1.heap.size x h := by rw [← hw2]; exact World.alloc_heap_new w1 _
          have hS2 : SeenAt w2 (w.heap.size + 1) [] := hN2.heap hS1 id
          have hsz2 : w2.heap.size = w1.heap.size + 1 := by rw [← hw2]; simp
          have hNv := hNw.trans hN2
          obtain ⟨B, hB, hB3⟩ : ∃ B, w1.heap.size = B ∧ w.heap.size + 2 ≤ B := ⟨_, rfl, hsz1⟩
          rw [hB] at hB2 hsz2 ⊢
          clear hw2 hB1 hS1 hN2 hNw hsz1 hB hi51
          go_wp2_with fail
          refine wp_rangeList (gf := 163) (lb := #[.pointer (some ⟨B, 0, none⟩)]) rfl (enters_of Try.func163 (by kernel_rfl) rfl) (allT x h) encA (fun b => b = w.heap.size + 1)
            (fun W hW => all1_iter B x h hx _ W (fun b hb => by have := hW.size; omega) (by omega) (hW.heap hB2 id)) (fun _ => rfl)
            (fun k W => (slotsTo x h k).Nodup ∧ SeenAt W (w.heap.size + 1) (slotsTo x h k) ∧ Mods (fun b => b = w.heap.size + 1) w2 W)
            (fun c k W => c = .goto 0 ∧ r = false ∧ Mods (fun b => b = w.heap.size + 1) w2 W)
            (fun k => .and (.pure _) (.and (.seen _ _) (.mods (Nat.le_refl _))))
            (fun c k => .and (.pure _) (.and (.pure _) (.mods (Nat.le_refl _))))
            ⟨by simp [slotsTo], hS2, Mods.refl _ _⟩
            (fun p t => (((t.setIfInBounds 26 (.int .i64 p.1)).setIfInBounds 27 (.int .i64 p.2)).setIfInBounds 6 (.int .i64 p.1))) ?assign ?body ?done ?stop
          case assign =>
            rintro l ⟨p1, p2⟩ W K hK
            simp only [encA] at hK ⊢
            gi_wp2
            exact hK
          case body =>
            rintro l k ⟨s, u⟩ W hp hl _ ⟨hd, hS, hM⟩
            have hin := all_in8 Hok.out (List.mem_of_getElem? hp)
            dsimp only at hin
            obtain ⟨s, rfl⟩ := Int.eq_ofNat_of_zero_le hin.1
            have hs8 : s < 8 := by omega
            have hc1 := hS.cell hs8
            have hf1 := hS.frozen s
            have Hp := Lib.hid hp
            have Hd := Lib.hid hd
            have HS := Lib.hid hS
            clear hp hd hS hin hS2 hB2
            by_cases hm : (s : Int) ∈ slotsTo x h k
            · have hdm : decide ((s : Int) ∈ slotsTo x h k) = true := decide_eq_true hm
              rw [hdm] at hc1
              have hR : r = false := by rw [Hk2.out]; exact decide_eq_false (slots_twice Hp.out hm)
              clear hm hdm
              gi_wp2
              exact wpIn_goto ⟨Mods.refl _ _, rfl, hR, hM⟩
            · have hdm : decide ((s : Int) ∈ slotsTo x h k) = false := decide_eq_false hm
              rw [hdm] at hc1
              have Hm := Lib.hid hm
              clear hm hdm
              gi_wp2
              refine ⟨(Mods.refl (fun b => b = w.heap.size + 1) W).setCell (p := ⟨w.heap.size + 1, s, none⟩) (.inr rfl) _, slots_next Hp.out Hd.out Hm.out, ?_, hM.setCell (p := ⟨w.heap.size + 1, s, none⟩) (.inr rfl) _⟩
              rw [slotsTo_succ Hp.out]
              exact HS.out.set hs8
          case done =>
            rintro W ⟨hd, _, hM⟩ hD
            have hR : r = true := by
              rw [Hk2.out]
              refine decide_eq_true ?_
              unfold slotsTo at hd
              rwa [List.take_length] at hd
            clear hd
            go_wp2
            refine marks_one rfl hD (v := .bool true) (by simp [results, Try.f84]) ⟨by rw [hR], ((Mods.ofNew hNv).trans hM |>.new (by omega)).putObj (by omega) _⟩
          case stop =>
            rintro c k W hk ⟨rfl, hR, hM⟩ hD
            exact wp_goto (And.intro rfl ⟨rfl, .inr ⟨_, rfl, by omega, hD⟩, ((Mods.ofNew hNv).trans hM).new (by omega), hR⟩)
end Go.Proofs.Ytkjloeefcaadlaa
