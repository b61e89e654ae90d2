/- The document's own words: a slot, rows too great, the same numbers, the same rows. -/
import Derived.Test.YtcelhdlppimfbaaR11
namespace Go.Proofs.Ytcelhdlppimfbaa
open Go.RowKit Go.Shelf Go.Cs
attribute [local go_sem] Oper.semAt_some
theorem slot_any (n : Int) (w : World) : Calls Try.prog 18 #[.int .i64 n] w fun e w' => e = .returned (.bool (eightB n)) ∧ w = w' := by
  have e : eightB n = (decide (0 ≤ n) && decide (n < 8)) := by simp [eightB, Bool.decide_and]
  by_cases c1 : 0 ≤ n
  · have b1 : decide (0 ≤ n) = true := decide_eq_true c1
    rw [e, b1]
    clear e
    go_enter Try.func18, Try.ntmps18
    go_wp2
    go_ret
    exact ⟨rfl, rfl⟩
  · have b1 : decide (0 ≤ n) = false := decide_eq_false c1
    rw [e, b1]
    clear e
    go_enter Try.func18, Try.ntmps18
    go_wp2
    go_ret
    exact ⟨rfl, rfl⟩
/-- The cells of an array of rows. -/
def Arr8 (B : Nat) (vs : List Value) (W : World) : Prop := ∀ u, u < 8 → W.cell? ⟨B, u, none⟩ = some (vs.getD u undef)
theorem Arr8.mk {B : Nat} {vs : List Value} {T : TypeId} {W : World} (hl : vs.length = 8) (hb : W.heap[B]? = some (.cells vs.toArray T (0, 0))) : Arr8 B vs W := fun u hu => by
  simp [World.cell?, hb, List.getD, show u < vs.length by omega]
theorem Arr8.kept {B : Nat} {vs : List Value} {W W' : World} (h : Arr8 B vs W) {S : Nat → Prop} (hm : Mods S W W') (hS : ¬ S B) : Arr8 B vs W' := fun u hu => hm.cell (h u hu) hS
def greatR (X : Nat → List Int) : Bool := (List.range 8).any fun u => decide (40 < (X u).length)
theorem great_any (vs : List Value) (hl : vs.length = 8) (X : Nat → List Int) (w : World) (hr : Rd w vs X) :
    Calls Try.prog 16 #[.agg vs.toArray] w fun e w' => e = .returned (.bool (greatR X)) ∧ New w w' := by
  have hN := (Mods.refl (fun _ => False) w).alloc (.cells vs.toArray 23)
  have HA := Lib.hid (Arr8.mk (B := w.heap.size) hl (World.alloc_heap_new w (.cells vs.toArray 23)))
  have Hr := Lib.hid hr
  clear hr hl
  go_enter Try.func16, Try.ntmps16
  go_wp2_with fail
  obtain ⟨W0, hW0⟩ : ∃ W0, w.alloc (.cells vs.toArray 23) = W0 := ⟨_, rfl⟩
  rw [hW0] at HA hN ⊢
  clear hW0
  go_loop [3] (fun i => ∃ u : Nat, u ≤ 8 ∧ i = .int .i64 u ∧ Hid (∀ j, j < u → (X j).length ≤ 40)) (fun i => 8 - (intOf i).toNat)
  case atStart => exact ⟨0, by omega, rfl, (fun j hj => by omega)⟩
  case round =>
    obtain ⟨u, hu, rfl, hno⟩ := hrel
    by_cases hu8 : u < 8
    · obtain ⟨hlen, ao, cap, hv, _⟩ := (Hr.out u hu8).new hN
      have h1 := HA.out u hu8
      rw [hv] at h1
      obtain ⟨n, hn⟩ : ∃ n, (X u).length = n := ⟨_, rfl⟩
      rw [hn] at hlen h1
      have Hn := Lib.hid hn
      clear hv hn
      by_cases hn40 : 40 < n
      · have hR : greatR X = true := by
          unfold greatR
          rw [List.any_eq_true]
          exact ⟨u, List.mem_range.2 hu8, by rw [Hn.out]; simpa using hn40⟩
        have HR := Lib.hid hR
        clear hR
        go_wp2
        go_ret
        exact ⟨by rw [HR.out]; rfl, hN⟩
      · have hnext : Hid (∀ j, j < u + 1 → (X j).length ≤ 40) := Lib.hid (fun j hj => by
          by_cases h : j < u
          · exact hno.out j h
          · obtain rfl : j = u := by omega
            rw [Hn.out]; omega)
        clear hno
        go_wp2
        go_round
        case rel => exact ⟨u + 1, by omega, by go_num, hnext⟩
        case measure => simp [intOf]; omega
    · obtain rfl : u = 8 := by omega
      have hR : greatR X = false := by
        unfold greatR
        rw [List.any_eq_false]
        intro j hj
        have := hno.out j (List.mem_range.1 hj)
        simp; omega
      have HR := Lib.hid hR
      clear hR hno
      go_wp2
      go_ret
      exact ⟨by rw [HR.out]; rfl, hN⟩
/-- The same numbers. -/
theorem ints_any (v v' : Value) (L L' : List Int) (w : World) (h : ReadsI .i64 w v L) (h' : ReadsI .i64 w v' L') :
    Calls Try.prog 19 #[v, v'] w fun e w' => e = .returned (.bool (decide (L = L'))) ∧ New w w' := by
  obtain ⟨hlen, ao, cap, rfl, hc⟩ := h
  obtain ⟨hlen', ao', cap', rfl, hc'⟩ := h'
  by_cases hll : L.length = L'.length
  · obtain ⟨n, hn⟩ : ∃ n, L.length = n := ⟨_, rfl⟩
    rw [hn] at hll
    rw [← hll] at hlen' hc' ⊢
    rw [hn] at hlen hc ⊢
    have Hc := Lib.hid hc
    have Hc' := Lib.hid hc'
    have Hn := Lib.hid hn
    have Hn' := Lib.hid hll
    obtain ⟨b, hb⟩ : ∃ b, decide (L = L') = b := ⟨_, rfl⟩
    rw [hb]
    have Hb := Lib.hid hb
    clear hc hc' hn hll hb
    go_enter Try.func19, Try.ntmps19
    go_wp2_with fail
    go_loopw [5] (fun c wr => ∃ k : Nat, k ≤ n ∧ c = .int .i64 k ∧ Hid (∀ j, j < k → L.getD j 0 = L'.getD j 0) ∧ New w wr) (fun c _ => n - (intOf c).toNat)
    case atStart => exact ⟨0, by omega, rfl, (fun j hj => by omega), Mods.refl _ _⟩
    case round =>
      obtain ⟨k, hk, rfl, hsame, hN⟩ := hrel
      by_cases hkn : k < n
      · obtain ⟨b1, o1, rfl, h1⟩ := Hc.out k hkn
        obtain ⟨b2, o2, rfl, h2⟩ := Hc'.out k hkn
        have h1 := hN.cell h1 id
        have h2 := hN.cell h2 id
        obtain ⟨z, hz⟩ : ∃ z, L.getD k 0 = z := ⟨_, rfl⟩
        obtain ⟨z', hz'⟩ : ∃ z, L'.getD k 0 = z := ⟨_, rfl⟩
        rw [hz] at h1
        rw [hz'] at h2
        by_cases he : z = z'
        · have hq : (z != z') = false := by simp [he]
          have hnext : Hid (∀ j, j < k + 1 → L.getD j 0 = L'.getD j 0) := Lib.hid (fun j hj => by
            by_cases h : j < k
            · exact hsame.out j h
            · obtain rfl : j = k := by omega
              rw [hz, hz', he])
          clear hz hz' he hsame
          go_wp2
          go_quiet (fail)
          go_wp2
          go_roundw
          case rel => exact ⟨k + 1, by omega, by go_num, hnext, hN.drewN _⟩
          case measure => simp [intOf]; omega
        · have hq : (z != z') = true := by simp [he]
          obtain rfl : b = false := by rw [← Hb.out]; exact decide_eq_false (fun e => he (by rw [← hz, ← hz', e]))
          clear hz hz' he hsame
          go_wp2
          go_quiet (fail)
          go_wp2
          go_ret
          exact ⟨rfl, hN.drewN _⟩
      · obtain rfl : b = true := by
          rw [← Hb.out]
          refine decide_eq_true (List.ext_getElem (by rw [Hn.out, Hn'.out]) (fun i hi hi' => ?_))
          have := hsame.out i (by have := Hn.out; omega)
          simpa [List.getD, hi, hi'] using this
        clear hsame
        go_wp2
        go_ret
        exact ⟨rfl, hN⟩
  · have e : decide (L = L') = false := decide_eq_false (fun e => hll (by rw [e]))
    rw [e]
    obtain ⟨n, hn⟩ : ∃ n, L.length = n := ⟨_, rfl⟩
    obtain ⟨n', hn'⟩ : ∃ n, L'.length = n := ⟨_, rfl⟩
    rw [hn] at hlen hll ⊢
    rw [hn'] at hlen' hll ⊢
    have hne : ((n : Int) != (n' : Int)) = true := by simp; omega
    clear hc hc' e hn hn' hll
    go_enter Try.func19, Try.ntmps19
    go_wp2
    go_ret
    exact ⟨rfl, Mods.refl _ _⟩
end Go.Proofs.Ytcelhdlppimfbaa
