/- The document's word on who may be ready. -/
import Derived.Test.YtkjloeefcaadlaaTU8
import Derived.Test.YtkjloeefcaadlaaV3
import Derived.Test.YtkjloeefcaadlaaTEQ
namespace Go.Proofs.Ytkjloeefcaadlaa
open Go.RowKit Go.Shelf Go.Cs
attribute [local go_sem] Oper.semAt_some
theorem number_ref (n : Int) (w : World) : Calls Try.prog 88 #[.int .i64 n] w fun e w' => e = .returned (.bool (numB n)) ∧ w = w' := by
  by_cases h0 : 0 ≤ n
  · by_cases h8 : n < 8
    · have e : numB n = true := numB_iff.2 ⟨h0, h8⟩
      have d1 : decide (0 ≤ n) = true := decide_eq_true h0
      have d2 : decide (n < 8) = true := decide_eq_true h8
      rw [e]
      clear e h0 h8
      go_enter Try.func88, Try.ntmps88
      go_wp2
      go_ret
      exact ⟨rfl, rfl⟩
    · have e : numB n = false := by rw [← Bool.not_eq_true, numB_iff]; omega
      have d1 : decide (0 ≤ n) = true := decide_eq_true h0
      have d2 : decide (n < 8) = false := decide_eq_false h8
      rw [e]
      clear e h0 h8
      go_enter Try.func88, Try.ntmps88
      go_wp2
      go_ret
      exact ⟨rfl, rfl⟩
  · have e : numB n = false := by rw [← Bool.not_eq_true, numB_iff]; omega
    have d1 : decide (0 ≤ n) = false := decide_eq_false h0
    rw [e]
    clear e h0
    go_enter Try.func88, Try.ntmps88
    go_wp2
    go_ret
    exact ⟨rfl, rfl⟩
/-- The first urgency of which a slot is held is found. -/
theorem holds_ref (x : Nat) (h : Nat → Int) (u : Nat) (hu : u < 8) (h1 : 0 ≤ h u ∧ h u < 8) (hap : ∀ v, v < u → h v ≠ h u) (w : World) :
    Calls Try.prog 89 #[.agg (rc x h).toArray, .int .i64 (h u)] w fun e w' => e = .returned (.int .i64 (u : Nat)) ∧ New w w' := by
  have HN := Lib.hid (number_ref (h u))
  rw [numB_iff.2 h1] at HN
  obtain ⟨s, hs⟩ : ∃ s, h u = s := ⟨_, rfl⟩
  rw [hs] at HN ⊢
  have Hs := Lib.hid hs
  have Hap := Lib.hid hap
  have hR0 : RAt (w.alloc (.cells (rc x h).toArray 51)) w.heap.size x h := World.alloc_heap_new w _
  clear h1 hap hs
  go_enter Try.func89, Try.ntmps89
  go_wp2_with fail
  obtain ⟨W0, hW0⟩ : ∃ W0, w.alloc (.cells (rc x h).toArray 51) = W0 := ⟨_, rfl⟩
  have hN0 : New w W0 := by rw [← hW0]; exact (Mods.refl _ _).alloc _
  rw [hW0] at hR0 ⊢
  clear hW0
  go_loopw [5] (fun c wr => ∃ v : Nat, v ≤ u ∧ c = .int .i64 v ∧ W0 = wr) (fun c _ => u - (intOf c).toNat)
  case atStart => exact ⟨0, by omega, rfl, rfl⟩
  case round =>
    obtain ⟨v, hv, rfl, rfl⟩ := hrel
    have hv8 : v < 8 := by omega
    have hvd : decide ((v : Int) < 8) = true := by simp; omega
    have c1 := hR0.at hv8
    obtain ⟨y, hy⟩ : ∃ y, h v = y := ⟨_, rfl⟩
    have Hy := Lib.hid hy
    rw [hy] at c1
    clear hy
    by_cases he : y = s
    · have hb : (y == s) = true := by simpa using he
      have hvu : v = u := by
        by_cases e : v < u
        · exact absurd (Hy.out.trans (he.trans Hs.out.symm)) (Hap.out v e)
        · omega
      subst hvu
      clear he
      go_wp2_with fail
      refine (HN.out _).mono ?_
      rintro e w2 ⟨rfl, rfl⟩
      go_wp2_with fail
      go_ret
      exact ⟨rfl, hN0⟩
    · have hb : (y == s) = false := by simpa using he
      have hvu : v < u := by
        by_cases e : v < u
        · exact e
        · obtain rfl : v = u := by omega
          exact absurd (Hy.out.symm.trans Hs.out) he
      clear he
      go_wp2_with fail
      refine (HN.out _).mono ?_
      rintro e w2 ⟨rfl, rfl⟩
      go_wp2_with fail
      go_roundw
      case rel => exact ⟨v + 1, by omega, by go_num, trivial⟩
      case measure => simp [intOf]; omega
theorem fi_none {l : List (Nat × Nat)} {s : Int} (h : ∀ p, p ∈ l → (p.1 : Int) ≠ s) : fi l s = none := by
  unfold fi
  rw [List.findIdx?_eq_none_iff]
  intro p hp
  simpa using h p hp
set_option maxRecDepth 100000 in
set_option maxHeartbeats 1000000 in
/-- Who may be ready, may be by the document's word. -/
theorem right_ref25 {l : List (Nat × Nat)} {h : Nat → Int} (hv : VT l h) (w : World) :
    Calls Try.prog 39 #[.agg (rc (enc l) h).toArray] w fun e w' => e = .returned (.bool true) ∧ New w w' := by
  have HR := Lib.hid (right_gen (enc l) (enc_lt hv.ok))
  rw [right_enc hv.ok] at HR
  have HF := Lib.hid (fun s w => find_ref hv.ok s w)
  have HG := Lib.hid hv.gone
  have HH := Lib.hid (fun u hu h1 hap w => holds_ref (enc l) h u hu h1 hap w)
  have Hhe := Lib.hid hv.held
  have Hap := Lib.hid hv.apart
  obtain ⟨x, hx⟩ : ∃ x, enc l = x := ⟨_, rfl⟩
  rw [hx] at HR HF HH ⊢
  clear hv hx
  have hR0 : RAt (w.alloc (.cells (rc x h).toArray 51)) w.heap.size x h := World.alloc_heap_new w _
  have c0 := hR0.cell
  go_enter Try.func39, Try.ntmps39
  go_wp2_with fail
  obtain ⟨W0, hW0⟩ : ∃ W0, w.alloc (.cells (rc x h).toArray 51) = W0 := ⟨_, rfl⟩
  have hN0 : New w W0 := by rw [← hW0]; exact (Mods.refl _ _).alloc _
  rw [hW0] at hR0 ⊢
  clear hW0 c0
  refine (HR.out _).mono ?_
  rintro e w1 ⟨rfl, hN1⟩
  have hR1 := hR0.new hN1
  have hN1 := hN0.trans hN1
  clear hR0 hN0 HR
  go_wp2_with fail
  go_loopw [3, 4, 5, 6] (fun c _ _ _ wr => ∃ u : Nat, u ≤ 8 ∧ c = .int .i64 u ∧ New w1 wr) (fun c _ _ _ _ => 8 - (intOf c).toNat)
  case atStart => exact ⟨0, by omega, rfl, Mods.refl _ _⟩
  case round =>
    obtain ⟨u, hu, rfl, hNr⟩ := hrel
    have hRr := hR1.new hNr
    by_cases hu8 : u < 8
    · have hud : decide ((u : Int) < 8) = true := by simp; omega
      have c1 := hRr.at hu8
      have hsy := Hhe.out u hu8
      have hg := HG.out u hu8
      have hap := fun v hv h0 e => Hap.out u v hu8 hv h0 e
      have hh := fun h1 hap w => HH.out u hu8 h1 hap w
      obtain ⟨y, hy⟩ : ∃ y, h u = y := ⟨_, rfl⟩
      have Hy := Lib.hid hy
      rw [hy] at c1 hsy hg
      by_cases hm : y = -1
      · subst hm
        clear hsy hg hap hh hy
        go_wp2_with fail
        go_roundw
        case rel => exact ⟨u + 1, by omega, by go_num, hNr⟩
        case measure => simp [intOf]; omega
      · have hb : (y == -1) = false := by simpa using hm
        have hy8 : 0 ≤ y ∧ y < 8 := hsy.resolve_left hm
        have HFu := Lib.hid (HF.out y)
        rw [fi_none hg] at HFu
        unfold optT at HFu
        have HN := Lib.hid (number_ref y)
        rw [numB_iff.2 hy8] at HN
        have HHu := Lib.hid (hh (by rw [hy]; exact hy8) (fun v hv e => by
          have := hap v (by omega) (by rw [hy]; exact hy8.1) e.symm
          omega))
        rw [hy] at HHu
        have cw := hRr.cell
        clear hsy hg hap hh hy hm
        go_wp2_with fail
        refine (HFu.out _).mono ?_
        rintro e w2 ⟨rfl, hN2⟩
        have hR2 := hRr.new hN2
        have hNr2 := hNr.trans hN2
        clear hRr c1 cw hN2
        go_wp2_with fail
        refine (HN.out _).mono ?_
        rintro e w3 ⟨rfl, rfl⟩
        go_wp2_with (refine op_value_g rfl (run_load_row 51 (.tmp 1) rfl w.heap.size rfl 51 (rc x h).toArray (0, 0) _ hR2 Try.underlying51 rfl (infoR _ _)) ?_)
        refine (HHu.out _).mono ?_
        rintro e w4 ⟨rfl, hN4⟩
        have hNr4 := hNr2.trans hN4
        clear hR2 hN4 hNr2
        go_wp2_with fail
        go_roundw
        case rel => exact ⟨u + 1, by omega, by go_num, hNr4⟩
        case measure => simp [intOf]; omega
    · go_wp2_with fail
      go_ret
      exact ⟨rfl, hN1.trans hNr⟩
end Go.Proofs.Ytkjloeefcaadlaa
