/- The same rows; the row that a number is in; a row with a number more, or without one. -/
import Derived.Test.YtlkepbmjagjfeaaC2
namespace Go.Proofs.Ytlkepbmjagjfeaa
open Go.RowKit Go.Shelf Go.Cs
attribute [local go_sem] Oper.semAt_some
/-- An array variable's eight cells. -/
def Arr8 (B : Nat) (vs : List Value) (W : World) : Prop := ∀ u, u < 8 → W.cell? ⟨B, u, none⟩ = some (vs.getD u undef)
theorem Arr8.new (vs : List Value) (hl : vs.length = 8) (t : TypeId) (w : World) : Arr8 w.heap.size vs (w.alloc (.cells vs.toArray t)) := fun u hu => by
  rw [World.cell?_alloc_at _ _ _ _ rfl]
  simp [List.getD, show u < vs.length by omega]
theorem Arr8.kept {B : Nat} {vs : List Value} {W W' : World} (h : Arr8 B vs W) {S : Nat → Prop} (hm : Mods S W W') (hS : ¬ S B) : Arr8 B vs W' := fun u hu => hm.cell (h u hu) hS
theorem Arr8.mk {B : Nat} {vs : List Value} {T : TypeId} {W : World} (hl : vs.length = 8) (hb : W.heap[B]? = some (.cells vs.toArray T (0, 0))) : Arr8 B vs W := fun u hu => by
  simp [World.cell?, hb, List.getD, show u < vs.length by omega]
def Rd (W : World) (vs : List Value) (X : Nat → List Int) : Prop := ∀ u, u < 8 → ReadsI .i64 W (vs.getD u undef) (X u)
set_option maxHeartbeats 1000000 in
theorem same_ref (vs ws : List Value) (hl : vs.length = 8) (hl' : ws.length = 8) (X : Nat → List Int) (w : World) (hr : Rd w vs X) (hr' : Rd w ws X) :
    Calls Try.prog 14 #[.agg vs.toArray, .agg ws.toArray] w fun e w' => e = .returned (.bool true) ∧ New w w' := by
  have Hr := Lib.hid hr
  have Hr' := Lib.hid hr'
  clear hr hr'
  have HA := Arr8.new vs hl 26 w
  have HB := Arr8.new ws hl' 26 (w.alloc (.cells vs.toArray 26))
  have HA := HA.kept ((Mods.refl (fun _ => False) _).alloc (.cells ws.toArray 26)) id
  rw [show (w.alloc (.cells vs.toArray 26)).heap.size = w.heap.size + 1 by simp] at HB
  have hN := ((Mods.refl (fun _ => False) w).alloc (.cells vs.toArray 26)).alloc (.cells ws.toArray 26)
  go_enter Try.func14, Try.ntmps14
  go_wp2_with fail
  obtain ⟨W0, hW0⟩ : ∃ W0, (w.alloc (.cells vs.toArray 26)).alloc (.cells ws.toArray 26) = W0 := ⟨_, rfl⟩
  rw [hW0] at HA HB hN ⊢
  have HA := Lib.hid HA
  have HB := Lib.hid HB
  clear hW0
  go_loopw [5, 6] (fun i _ wr => ∃ u : Nat, u ≤ 8 ∧ i = .int .i64 u ∧ New W0 wr) (fun i _ _ => 8 - (intOf i).toNat)
  case atStart => exact ⟨0, by omega, rfl, Mods.refl _ _⟩
  case round =>
    obtain ⟨u, hu, rfl, hNu⟩ := hrel
    by_cases hu8 : u < 8
    · obtain ⟨hlen, a1, c1, hv, hc⟩ := (Hr.out u hu8).new hN
      obtain ⟨_, a2, c2, hv', hc'⟩ := (Hr'.out u hu8).new hN
      have h1 := HA.out u hu8
      have h2 := HB.out u hu8
      rw [hv] at h1
      rw [hv'] at h2
      obtain ⟨n, hn⟩ : ∃ n, (X u).length = n := ⟨_, rfl⟩
      rw [hn] at hlen h1 h2 hc hc'
      have H1 := Lib.hid h1
      have H2 := Lib.hid h2
      have h1 := hNu.cell h1 id
      have h2 := hNu.cell h2 id
      have Hc := Lib.hid hc
      have Hc' := Lib.hid hc'
      clear hv hv' hc hc' hn
      go_wp2
      go_quiet (fail)
      go_wp2
      obtain ⟨wo, hwo⟩ : ∃ wo, wr.drewN nq = wo := ⟨_, rfl⟩
      have hNu : New W0 wo := by rw [← hwo]; exact hNu.drewN _
      rw [hwo]
      clear hwo h1 h2
      have hud : decide ((u : Int) < 8) = true := by simp; omega
      go_loopw [6] (fun c wi => ∃ k : Nat, k ≤ n ∧ c = .int .i64 k ∧ New wo wi) (fun c _ => n - (intOf c).toNat)
      case atStart => exact ⟨0, by omega, rfl, Mods.refl _ _⟩
      case round =>
        obtain ⟨k, hk, rfl, hNk⟩ := hrel
        have hNN := hNu.trans hNk
        have h1 := hNN.cell H1.out id
        have h2 := hNN.cell H2.out id
        by_cases hkn : k < n
        · obtain ⟨b1, o1, rfl, h3⟩ := Hc.out k hkn
          obtain ⟨b2, o2, rfl, h4⟩ := Hc'.out k hkn
          have h3 := hNN.cell h3 id
          have h4 := hNN.cell h4 id
          obtain ⟨z, hz⟩ : ∃ z, (X u).getD k 0 = z := ⟨_, rfl⟩
          rw [hz] at h3 h4
          clear hz
          go_wp2
          go_quiet (fail)
          go_wp2
          go_roundw
          case rel => exact ⟨k + 1, by omega, by go_num, hNk.drewN _⟩
          case measure => simp [intOf]; omega
        · go_wp2
          go_roundw
          case rel => exact ⟨u + 1, by omega, by go_num, hNN⟩
          case measure => simp [intOf]; omega
    · go_wp2
      go_ret
      exact ⟨rfl, hN.trans hNu⟩
/-- The row that a number is in. -/
def rowN (X : Nat → List Int) (n : Int) : Option Nat := (List.range 8).find? fun u => decide (n ∈ X u)
def rowI (X : Nat → List Int) (n : Int) : Int := match rowN X n with | some u => u | none => -1
theorem rowN_some {X : Nat → List Int} {n : Int} {u : Nat} (hu : u < 8) (h : n ∈ X u) (hn : ∀ i, i < u → n ∉ X i) : rowI X n = u := by
  have : rowN X n = some u := find_range hu (by simpa using h) (fun i hi => by simpa using hn i hi)
  unfold rowI; rw [this]
theorem rowN_none {X : Nat → List Int} {n : Int} (hn : ∀ i, i < 8 → n ∉ X i) : rowI X n = -1 := by
  have : rowN X n = none := by unfold rowN; rw [List.find?_eq_none]; intro u hu; simpa using hn u (by simpa using hu)
  unfold rowI; rw [this]
set_option maxHeartbeats 1000000 in
theorem row_any (vs : List Value) (hl : vs.length = 8) (X : Nat → List Int) (m : Int) (w : World) (hr : Rd w vs X) :
    Calls Try.prog 7 #[.agg vs.toArray, .int .i64 m] w fun e w' => e = .returned (.int .i64 (rowI X m)) ∧ New w w' := by
  have Hr := Lib.hid hr
  clear hr
  have HA := Arr8.new vs hl 26 w
  have hN := (Mods.refl (fun _ => False) w).alloc (.cells vs.toArray 26)
  go_enter Try.func7, Try.ntmps7
  go_wp2_with fail
  obtain ⟨W0, hW0⟩ : ∃ W0, (w.alloc (.cells vs.toArray 26)) = W0 := ⟨_, rfl⟩
  rw [hW0] at HA hN ⊢
  have HA := Lib.hid HA
  clear hW0
  go_loopw [5, 6] (fun i _ wr => ∃ u : Nat, u ≤ 8 ∧ i = .int .i64 u ∧ Hid (∀ i, i < u → m ∉ X i) ∧ New W0 wr) (fun i _ _ => 8 - (intOf i).toNat)
  case atStart => exact ⟨0, by omega, rfl, fun i hi => by omega, Mods.refl _ _⟩
  case round =>
    obtain ⟨u, hu, rfl, hno, hNu⟩ := hrel
    by_cases hu8 : u < 8
    · obtain ⟨hlen, a1, c1, hv, hc⟩ := (Hr.out u hu8).new hN
      have h1 := HA.out u hu8
      rw [hv] at h1
      obtain ⟨n, hn⟩ : ∃ n, (X u).length = n := ⟨_, rfl⟩
      rw [hn] at hlen h1 hc
      have H1 := Lib.hid h1
      have Hc := Lib.hid hc
      have hud : decide ((u : Int) < 8) = true := by simp; omega
      clear hv hc h1
      go_wp2_with fail
      obtain ⟨wo, hwo⟩ : ∃ wo, wr = wo := ⟨_, rfl⟩
      rw [hwo] at hNu ⊢
      clear hwo
      go_loopw [6] (fun c wi => ∃ k : Nat, k ≤ n ∧ c = .int .i64 k ∧ Hid (∀ j, j < k → (X u).getD j 0 ≠ m) ∧ New wo wi) (fun c _ => n - (intOf c).toNat)
      case atStart => exact ⟨0, by omega, rfl, fun i hi => by omega, Mods.refl _ _⟩
      case round =>
        obtain ⟨k, hk, rfl, hne, hNk⟩ := hrel
        have hNN := hNu.trans hNk
        have h1 := hNN.cell H1.out id
        by_cases hkn : k < n
        · obtain ⟨b1, o1, rfl, h3⟩ := Hc.out k hkn
          have h3 := hNN.cell h3 id
          have hmem : (X u).getD k 0 ∈ X u := by rw [List.getD, List.getElem?_eq_getElem (by omega)]; simp
          obtain ⟨z, hz⟩ : ∃ z, (X u).getD k 0 = z := ⟨_, rfl⟩
          rw [hz] at h3 hmem
          by_cases hzm : z = m
          · have hq : (z == m) = true := by simp [hzm]
            have hR : rowI X m = u := rowN_some hu8 (hzm ▸ hmem) hno.out
            have hzd : decide (z = m) = true := by simp [hzm]
            clear hz hmem hn
            subst hzm
            go_wp2
            go_ret
            exact ⟨rfl, hN.trans hNN⟩
          · have hq : (z == m) = false := by simp [hzm]
            have hnext : Hid (∀ j, j < k + 1 → (X u).getD j 0 ≠ m) := Lib.hid (fun j hj => by
              by_cases hjk : j < k
              · exact hne.out j hjk
              · obtain rfl : j = k := by omega
                rw [hz]; exact hzm)
            clear hz hmem hn hne
            go_wp2
            go_roundw
            case rel => exact ⟨k + 1, by omega, by go_num, hnext, hNk⟩
            case measure => simp [intOf]; omega
        · have hnext : Hid (∀ i, i < u + 1 → m ∉ X i) := Lib.hid (fun i hi => by
            by_cases hiu : i < u
            · exact hno.out i hiu
            · obtain rfl : i = u := by omega
              intro hm
              obtain ⟨j, hj, hje⟩ := List.getElem_of_mem hm
              exact hne.out j (by omega) (by rw [List.getD, List.getElem?_eq_getElem hj]; exact hje))
          go_wp2
          go_roundw
          case rel => exact ⟨u + 1, by omega, by go_num, hnext, hNN⟩
          case measure => simp [intOf]; omega
    · have hR : rowI X m = -1 := rowN_none (fun i hi => hno.out i (by omega))
      go_wp2_with fail
      go_ret
      exact ⟨by rw [hR]; rfl, hN.trans hNu⟩
end Go.Proofs.Ytlkepbmjagjfeaa
