/- The document's answer of requests. -/
import Derived.Test.YtkjghojdfjhhkaaDoorM09
set_option linter.unusedSimpArgs false
set_option linter.unusedVariables false
namespace Go.Proofs.YtkjghojdfjhhkaaDoor
open Go.RowKit Go.Shelf Go.Cs
attribute [local go_sem] Oper.semAt_some
theorem lit108 (t : Array Value) (h : t.size = 108) : ∃ u : Nat → Value, t = (u 0 :: u 1 :: u 2 :: u 3 :: u 4 :: u 5 :: u 6 :: u 7 :: u 8 :: u 9 :: u 10 :: u 11 :: u 12 :: u 13 :: u 14 :: u 15 :: u 16 :: u 17 :: u 18 :: u 19 :: u 20 :: u 21 :: u 22 :: u 23 :: u 24 :: u 25 :: u 26 :: u 27 :: u 28 :: u 29 :: u 30 :: u 31 :: u 32 :: u 33 :: u 34 :: u 35 :: u 36 :: u 37 :: u 38 :: u 39 :: u 40 :: u 41 :: u 42 :: u 43 :: u 44 :: u 45 :: u 46 :: u 47 :: u 48 :: u 49 :: u 50 :: u 51 :: u 52 :: u 53 :: u 54 :: u 55 :: u 56 :: u 57 :: u 58 :: u 59 :: u 60 :: u 61 :: u 62 :: u 63 :: u 64 :: u 65 :: u 66 :: u 67 :: u 68 :: u 69 :: u 70 :: u 71 :: u 72 :: u 73 :: u 74 :: u 75 :: u 76 :: u 77 :: u 78 :: u 79 :: u 80 :: u 81 :: u 82 :: u 83 :: u 84 :: u 85 :: u 86 :: u 87 :: u 88 :: u 89 :: u 90 :: u 91 :: u 92 :: u 93 :: u 94 :: u 95 :: u 96 :: u 97 :: u 98 :: u 99 :: u 100 :: u 101 :: u 102 :: u 103 :: u 104 :: u 105 :: u 106 :: u 107 :: ([] : List Value)).toArray := ⟨fun i => t.getD i undef, range_lit t 108 h⟩
theorem headN_is : ∀ (L : List Fd) (k : Nat), k ≤ L.length → (∀ i, i < k → pseudoB (L.getD i .no).name = true) → (k = L.length ∨ pseudoB (L.getD k .no).name = false) → headN L = k
  | [], k, hk, _, _ => by simp at hk; rw [hk]; rfl
  | f :: l, 0, _, _, h => by
    rcases h with h | h
    · simp at h
    · have h : pseudoB f.name = false := h
      rw [headN, h]; rfl
  | f :: l, k + 1, hk, ha, h => by
    have h0 : pseudoB f.name = true := ha 0 (by omega)
    rw [headN, h0, if_pos rfl, headN_is l k (by simpa using hk) (fun i hi => ha (i + 1) (by omega)) (by simpa using h)]
set_option maxHeartbeats 4000000 in
set_option maxRecDepth 100000 in
theorem of_ref (v : Value) (L : List Fd) (w : World) (hR : ReadsL w v L) (hS : SmallL L) (hcap0 : CapOk v) :
    Calls Tryd.prog 37 #[v] w (OfRet w (ofR L)) := by
  unfold OfRet
  rw [← refOf_eq]
  obtain ⟨ao, cap, rfl⟩ := hR.slice
  obtain ⟨hcap, hnil⟩ := hcap0 _ _ _ rfl
  have HR := Lib.hid hR
  have HS := Lib.hid hS
  have hlen := hR.size
  obtain ⟨n, hn⟩ : ∃ n, L.length = n := ⟨_, rfl⟩
  have Hn := Lib.hid hn
  rw [hn] at HR hlen hcap ⊢
  obtain ⟨R, hR0⟩ : ∃ R, w.heap.size = R := ⟨_, rfl⟩
  have HR0 := Lib.hid hR0
  clear hn hR hS hcap0
  go_enter Tryd.func37, Tryd.ntmps37
  go_upto_block 0 with fail
  have hz : (w.alloc (.cells #[.string ⟨#[]⟩, .string ⟨#[]⟩, .string ⟨#[]⟩, .string ⟨#[]⟩, .slice none 0 0] 56)).heap[R]? = some (.cells #[.string ⟨#[]⟩, .string ⟨#[]⟩, .string ⟨#[]⟩, .string ⟨#[]⟩, .slice none 0 0] 56 (0, 0)) := by rw [← hR0]; exact World.alloc_heap_new w _
  have hN0 : New w (w.alloc (.cells #[.string ⟨#[]⟩, .string ⟨#[]⟩, .string ⟨#[]⟩, .string ⟨#[]⟩, .slice none 0 0] 56)) := (Mods.refl _ _).alloc _
  obtain ⟨W0, hW0⟩ : ∃ W, w.alloc (.cells #[.string ⟨#[]⟩, .string ⟨#[]⟩, .string ⟨#[]⟩, .string ⟨#[]⟩, .slice none 0 0] 56) = W := ⟨_, rfl⟩
  rw [hW0] at hz hN0 ⊢
  have hRw : w.heap.size ≤ R := by omega
  clear hW0 hR0
  refine piece (fun _ a' W' => ∃ k, k ≤ n ∧ headN L = k ∧ (a'.tmps.size = 108 ∧ a'.defers = [] ∧ a'.tmps.getD 0 undef = .slice ao n cap ∧ a'.tmps.getD 2 undef = .pointer (some ⟨R, 0, none⟩) ∧ a'.tmps.getD 3 undef = .bool false ∧ a'.tmps.getD 4 undef = .int .i64 (k : Nat)) ∧ W'.heap[R]? = some (.cells #[.string ⟨#[]⟩, .string ⟨#[]⟩, .string ⟨#[]⟩, .string ⟨#[]⟩, .slice none 0 0] 56 (0, 0)) ∧ New w W') ?loop ?after
  case loop =>
    go_wp2_with fail
    go_loopw [4] (fun c wr => ∃ k : Nat, k ≤ n ∧ c = .int .i64 k ∧ Hid (∀ i, i < k → pseudoB (L.getD i .no).name = true) ∧ Hid (wr.heap[R]? = some (.cells #[.string ⟨#[]⟩, .string ⟨#[]⟩, .string ⟨#[]⟩, .string ⟨#[]⟩, .slice none 0 0] 56 (0, 0))) ∧ New w wr) (fun c _ => n - (intOf c).toNat)
    case atStart => exact ⟨0, Nat.zero_le _, rfl, Lib.hid fun i hi => by omega, Lib.hid hz, hN0⟩
    case round =>
      clear hz hN0
      obtain ⟨k, hk, rfl, hbef, hzk, hN⟩ := hrel
      by_cases hkn : k < n
      · have hkd : decide ((k : Int) < (n : Int)) = true := decide_eq_true (by omega)
        obtain ⟨b, o, rfl, hc1, hc2⟩ := (HR.out.new hN).at hkn
        have hsm := HS.out.at k
        obtain ⟨p, hp⟩ : ∃ p, L.getD k .no = p := ⟨_, rfl⟩
        have Hp := Lib.hid hp
        rw [hp] at hc1 hc2 hsm
        clear hp
        obtain ⟨pn, pv⟩ := p
        simp only at hc1 hc2
        have HP := Lib.hid (fun w => pseudo_ref ⟨pn, pv⟩ w (Nat.le_trans (Nat.le_of_lt hsm.1) (by decide)))
        clear hsm
        have hpd : ∀ x, pseudoB pn = x → Hid (pseudoB (L.getD k .no).name = x) := fun x hx => Lib.hid (by rw [Hp.out]; exact hx)
        simp only at HP
        obtain ⟨ps, hps⟩ : ∃ x, pseudoB pn = x := ⟨_, rfl⟩
        have Hps := hpd ps hps
        rw [hps] at HP
        clear hps hpd
        cases ps with
        | true =>
          have hh : Hid (∀ i, i < k + 1 → pseudoB (L.getD i .no).name = true) := Lib.hid fun i hi => by
            by_cases h : i < k
            · exact hbef.out i h
            · obtain rfl : i = k := by omega
              exact Hps.out
          clear hbef
          go_wp2_with fail
          refine (HP.out _).mono ?_
          rintro e w1 ⟨rfl, hN1⟩
          go_wp2_with fail
          go_roundw
          case rel => exact ⟨k + 1, by omega, by go_num, hh, Lib.hid (hN1.heap hzk.out id), hN.trans hN1⟩
          case measure => simp [intOf]; omega
        | false =>
          have hh : Hid (headN L = k) := Lib.hid (headN_is L k (by have := Hn.out; omega) hbef.out (.inr Hps.out))
          clear hbef
          go_wp2_with fail
          refine (HP.out _).mono ?_
          rintro e w1 ⟨rfl, hN1⟩
          go_wp2_with fail
          exact ⟨k, hk, hh.out, ⟨rfl, rfl, rfl, rfl, rfl, rfl⟩, hN1.heap hzk.out id, hN.trans hN1⟩
      · obtain rfl : k = n := by omega
        have hkd : decide ((k : Int) < (k : Int)) = false := decide_eq_false (by omega)
        have hh : Hid (headN L = k) := Lib.hid (headN_is L k (by have := Hn.out; omega) hbef.out (.inl Hn.out.symm))
        clear hbef
        go_wp2_with fail
        exact ⟨k, Nat.le_refl _, hh.out, ⟨rfl, rfl, rfl, rfl, rfl, rfl⟩, hzk.out, hN⟩
  case after =>
    clear hz hN0
    rintro a' W1 ⟨k, hk, hh, hF, hz, hN1⟩
    obtain ⟨t, d⟩ := a'
    obtain ⟨hs, hd, hq0, hq2, hq3, hq4⟩ := hF
    simp only at hs hd
    subst hd
    obtain ⟨u, rfl⟩ := lit108 t hs
    have hq0 : u 0 = .slice ao n cap := hq0
    have hq2 : u 2 = .pointer (some ⟨R, 0, none⟩) := hq2
    have hq3 : u 3 = .bool false := hq3
    have hq4 : u 4 = .int .i64 (k : Nat) := hq4
    rw [hq0, hq2, hq3, hq4]
    clear hq0 hq2 hq3 hq4 hs
    have Hh := Lib.hid hh
    have Hz := Lib.hid hz
    have HN1 := Lib.hid hN1
    clear hh hz hN1
    go_upto_region 4 with fail
    refine piece (fun _ a' W' => (a'.tmps.size = 108 ∧ a'.defers = [] ∧ a'.tmps.getD 2 undef = .pointer (some ⟨R, 0, none⟩) ∧ a'.tmps.getD 3 undef = .bool false ∧ a'.tmps.getD 4 undef = .int .i64 (k : Nat) ∧ a'.tmps.getD 5 undef = .slice (tailA ao cap 0) k cap ∧ a'.tmps.getD 6 undef = .slice (tailA ao cap k) (n - k) (cap - k)) ∧ W' = W1.drew) ?region ?after4
    case region =>
      refine (wpIn_wide (n := 0)).1 ?_
      refine wpIn_region_any (by kernel_rfl) ?_
      show wpAnyIn _ _ _ _ _ _ 8 _ _ W1.drew
      refine any_take 0 (some 23) (.slice ao n cap) rfl rfl (by kernel_rfl) (by kernel_rfl) (by kernel_rfl) (fun _ _ _ h => h.elim) (.value rfl fun w => by go_simp) ?_
      refine any_take 1 (some 24) (.int .i64 (k : Nat)) rfl rfl (by kernel_rfl) (by kernel_rfl) (by kernel_rfl) (fun _ _ _ h => h.elim) (.value rfl fun w => by go_simp) ?_
      refine any_take 2 (some 25) (.slice (tailA ao cap 0) k cap) rfl rfl (by kernel_rfl) (by kernel_rfl) (by kernel_rfl) (fun _ _ _ h => h.elim) (.value rfl fun w => exec_head (.tmp 23) (.tmp 24) rfl ao n cap k rfl rfl (by omega)) ?_
      refine any_take 3 (some 26) (.slice ao n cap) rfl rfl (by kernel_rfl) (by kernel_rfl) (by kernel_rfl) (fun _ _ _ h => h.elim) (.value rfl fun w => by go_simp) ?_
      refine any_take 4 (some 27) (.int .i64 (k : Nat)) rfl rfl (by kernel_rfl) (by kernel_rfl) (by kernel_rfl) (fun _ _ _ h => h.elim) (.value rfl fun w => by go_simp) ?_
      refine any_take 5 (some 28) (.slice (tailA ao cap k) (n - k) (cap - k)) rfl rfl (by kernel_rfl) (by kernel_rfl) (by kernel_rfl) (fun _ _ _ h => h.elim) (.value rfl fun w => exec_tail (.tmp 26) (.tmp 27) rfl ao n cap k rfl rfl (by omega) (by omega)) ?_
      refine any_take 6 (some 5) (.slice (tailA ao cap 0) k cap) rfl rfl (by kernel_rfl) (by kernel_rfl) (by kernel_rfl) (fun _ _ _ h => h.elim) (.value rfl fun w => by go_simp) ?_
      refine any_take 7 (some 6) (.slice (tailA ao cap k) (n - k) (cap - k)) rfl rfl (by kernel_rfl) (by kernel_rfl) (by kernel_rfl) (fun _ _ _ h => h.elim) (.value rfl fun w => by go_simp) ?_
      simp only [Act.put, List.setIfInBounds_toArray, List.set_cons_succ, List.set_cons_zero]
      refine wpAnyIn_done (by kernel_rfl) ?_ _
      exact ⟨⟨rfl, rfl, rfl, rfl, rfl, rfl, rfl⟩, rfl⟩
    case after4 =>
      rintro a' W2 ⟨hF, hW2⟩
      obtain ⟨t, d⟩ := a'
      obtain ⟨hs, hd, hq2, hq3, hq4, hq5, hq6⟩ := hF
      simp only at hs hd
      subst hd
      obtain ⟨u, rfl⟩ := lit108 t hs
      have hq2 : u 2 = .pointer (some ⟨R, 0, none⟩) := hq2
      have hq3 : u 3 = .bool false := hq3
      have hq4 : u 4 = .int .i64 (k : Nat) := hq4
      have hq5 : u 5 = .slice (tailA ao cap 0) k cap := hq5
      have hq6 : u 6 = .slice (tailA ao cap k) (n - k) (cap - k) := hq6
      rw [hq2, hq3, hq4, hq5, hq6]
      clear hq2 hq3 hq4 hq5 hq6 hs
      have hN2 : New w W2 := by rw [hW2]; exact HN1.out.drew
      have hz2 : W2.heap[R]? = some (.cells #[.string ⟨#[]⟩, .string ⟨#[]⟩, .string ⟨#[]⟩, .string ⟨#[]⟩, .slice none 0 0] 56 (0, 0)) := by rw [hW2]; exact (Mods.refl (fun _ => False) W1).drew.heap Hz.out id
      clear hW2
      have Hhv : Hid (ReadsL w (.slice (tailA ao cap 0) k cap) (L.take k)) := Lib.hid (HR.out.take hk hcap)
      have Hrv : Hid (ReadsL w (.slice (tailA ao cap k) (n - k) (cap - k)) (L.drop k)) := Lib.hid (HR.out.tail hk hcap)
      have hkl : (L.take k).length = k := by rw [List.length_take]; have := Hn.out; omega
      have HSt : Hid (SmallL (L.take k)) := Lib.hid fun p hp => HS.out p (List.mem_of_mem_take hp)
      have HSd : Hid (SmallL (L.drop k)) := Lib.hid fun p hp => HS.out p (List.mem_of_mem_drop hp)
      obtain ⟨hva, hhva⟩ : ∃ x, tailA ao cap 0 = x := ⟨_, rfl⟩
      have Hnil : Hid (tailA ao cap k = none → cap - k = 0) := Lib.hid fun h => by
        have : ao = none := by
          unfold tailA at h
          split at h
          · exact h
          · simpa using h
        have := hnil this
        omega
      obtain ⟨rva, hrva⟩ : ∃ x, tailA ao cap k = x := ⟨_, rfl⟩
      rw [hhva] at Hhv ⊢
      rw [hrva] at Hrv Hnil ⊢
      obtain ⟨H, hH⟩ : ∃ x, L.take k = x := ⟨_, rfl⟩
      obtain ⟨rest, hrest⟩ : ∃ x, L.drop k = x := ⟨_, rfl⟩
      rw [hH] at Hhv HSt hkl
      rw [hrest] at Hrv HSd
      have HHr : Hid (L.take (headN L) = H ∧ L.drop (headN L) = rest) := Lib.hid (by rw [Hh.out]; exact ⟨hH, hrest⟩)
      have Hkl := Lib.hid hkl
      have HVal : Hid (∀ (s : ByteArray) W, New w W → Calls Tryd.prog 72 #[.slice hva k cap, .string s] W fun e w' => e = .returned (.string (valN H s)) ∧ W = w') := Lib.hid fun s W hN => (value_of_ref _ H s W (Hhv.out.new hN)).mono fun _ _ h => ⟨h.1, h.2.symm⟩
      have HCnt : Hid (∀ (s : ByteArray) W, New w W → Calls Tryd.prog 73 #[.slice hva k cap, .string s] W fun e w' => e = .returned (.int .i64 (cntN H s : Nat)) ∧ W = w') := Lib.hid fun s W hN => (count_ref _ H s W (Hhv.out.new hN)).mono fun _ _ h => ⟨h.1, h.2.symm⟩
      have HT : Hid (∀ W, New w W → Calls Tryd.prog 49 #[.slice rva (n - k) (cap - k)] W fun e w' => e = .returned (.bool (trailersB rest)) ∧ New W w') := Lib.hid fun W hN => trailers_ref _ rest W (Hrv.out.new hN) HSd.out
      clear hhva hrva hH hrest hkl Hh Hz HN1
      go_wp2_with fail
      refine (HVal.out nMethod _ hN2).mono ?_
      rintro e w' ⟨rfl, rfl⟩
      go_wp2_with fail
      refine (HVal.out nScheme _ hN2).mono ?_
      rintro e w' ⟨rfl, rfl⟩
      go_wp2_with fail
      refine (HVal.out nPath _ hN2).mono ?_
      rintro e w' ⟨rfl, rfl⟩
      go_wp2_with fail
      refine (HVal.out nAuth _ hN2).mono ?_
      rintro e w' ⟨rfl, rfl⟩
      obtain ⟨v0, hv0⟩ : ∃ x, valN H nMethod = x := ⟨_, rfl⟩
      obtain ⟨v1, hv1⟩ : ∃ x, valN H nScheme = x := ⟨_, rfl⟩
      obtain ⟨v2, hv2⟩ : ∃ x, valN H nPath = x := ⟨_, rfl⟩
      obtain ⟨v3, hv3⟩ : ∃ x, valN H nAuth = x := ⟨_, rfl⟩
      rw [hv0, hv1, hv2, hv3]
      have Hv0 := Lib.hid hv0
      clear hv0
      have Hv1 := Lib.hid hv1
      clear hv1
      have Hv2 := Lib.hid hv2
      clear hv2
      have Hv3 := Lib.hid hv3
      clear hv3
      go_upto_region 6 with fail
      have hz3 := ((Mods.refl (fun _ => False) W2).alloc (.cells #[.string v0, .string v1, .string v2, .string v3, .slice none 0 0] 56)).heap hz2 id
      have hN3 := hN2.alloc (.cells #[.string v0, .string v1, .string v2, .string v3, .slice none 0 0] 56)
      have hT := World.alloc_heap_new W2 (.cells #[.string v0, .string v1, .string v2, .string v3, .slice none 0 0] 56)
      obtain ⟨T, hT'⟩ : ∃ x, W2.heap.size = x := ⟨_, rfl⟩
      have hRT : R < T := by rw [← hT']; exact (Array.getElem?_eq_some_iff.1 hz2).1
      obtain ⟨W3, hW3⟩ : ∃ W, W2.alloc (.cells #[.string v0, .string v1, .string v2, .string v3, .slice none 0 0] 56) = W := ⟨_, rfl⟩
      rw [hW3] at hz3 hN3 hT ⊢
      rw [hT'] at hT ⊢
      clear hW3 hT' hz2 hN2
      have hl0 : cntN H nMethod ≤ k := by have := cnt_le H nMethod; rw [Hkl.out] at this; exact this
      have hl1 : cntN H nScheme ≤ k := by have := cnt_le H nScheme; rw [Hkl.out] at this; exact this
      have hl2 : cntN H nPath ≤ k := by have := cnt_le H nPath; rw [Hkl.out] at this; exact this
      have hl3 : cntN H nAuth ≤ k := by have := cnt_le H nAuth; rw [Hkl.out] at this; exact this
      have hbad : Hid (badRef H rest = (decide (cntN H nMethod + cntN H nScheme + cntN H nPath + cntN H nAuth ≠ H.length) || (decide (cntN H nMethod ≠ 1) || (decide (cntN H nScheme ≠ 1) || (decide (cntN H nPath ≠ 1) || (decide (1 < cntN H nAuth) || (!(methodB (valN H nMethod).data.toList) || (decide ((valN H nPath).size = 0) || !(trailersB rest))))))))) := Lib.hid rfl
      obtain ⟨c0, hc0⟩ : ∃ x, cntN H nMethod = x := ⟨_, rfl⟩
      have HC0 : Hid (∀ W, New w W → Calls Tryd.prog 73 #[.slice hva k cap, .string nMethod] W fun e w' => e = .returned (.int .i64 (c0 : Nat)) ∧ W = w') := Lib.hid (by rw [← hc0]; exact HCnt.out nMethod)
      obtain ⟨c1, hc1⟩ : ∃ x, cntN H nScheme = x := ⟨_, rfl⟩
      have HC1 : Hid (∀ W, New w W → Calls Tryd.prog 73 #[.slice hva k cap, .string nScheme] W fun e w' => e = .returned (.int .i64 (c1 : Nat)) ∧ W = w') := Lib.hid (by rw [← hc1]; exact HCnt.out nScheme)
      obtain ⟨c2, hc2⟩ : ∃ x, cntN H nPath = x := ⟨_, rfl⟩
      have HC2 : Hid (∀ W, New w W → Calls Tryd.prog 73 #[.slice hva k cap, .string nPath] W fun e w' => e = .returned (.int .i64 (c2 : Nat)) ∧ W = w') := Lib.hid (by rw [← hc2]; exact HCnt.out nPath)
      obtain ⟨c3, hc3⟩ : ∃ x, cntN H nAuth = x := ⟨_, rfl⟩
      have HC3 : Hid (∀ W, New w W → Calls Tryd.prog 73 #[.slice hva k cap, .string nAuth] W fun e w' => e = .returned (.int .i64 (c3 : Nat)) ∧ W = w') := Lib.hid (by rw [← hc3]; exact HCnt.out nAuth)
      rw [hc0] at hl0
      rw [hc1] at hl1
      rw [hc2] at hl2
      rw [hc3] at hl3
      rw [hc0, hc1, hc2, hc3, Hkl.out, Hv0.out, Hv2.out] at hbad
      clear hc0 hc1 hc2 hc3
      refine piece (fun _ a' W' => (a'.tmps.size = 108 ∧ a'.defers = [] ∧ a'.tmps.getD 2 undef = .pointer (some ⟨R, 0, none⟩) ∧ a'.tmps.getD 3 undef = .bool false ∧ a'.tmps.getD 4 undef = .int .i64 (k : Nat) ∧ a'.tmps.getD 5 undef = .slice hva k cap ∧ a'.tmps.getD 6 undef = .slice rva (n - k) (cap - k) ∧ a'.tmps.getD 7 undef = .pointer (some ⟨T, 0, none⟩) ∧ a'.tmps.getD 8 undef = .int .i64 ((c0 : Int) + (c1 : Int) + (c2 : Int) + (c3 : Int))) ∧ W' = W3) ?sum ?after6
      case sum =>
        go_wp2_with fail
        refine (HC0.out _ hN3).mono ?_
        rintro e w' ⟨rfl, rfl⟩
        go_wp2_with fail
        refine (HC1.out _ hN3).mono ?_
        rintro e w' ⟨rfl, rfl⟩
        go_wp2_with fail
        refine (HC2.out _ hN3).mono ?_
        rintro e w' ⟨rfl, rfl⟩
        go_wp2_with fail
        refine (HC3.out _ hN3).mono ?_
        rintro e w' ⟨rfl, rfl⟩
        go_wp2_with fail
        exact ⟨⟨rfl, rfl, rfl, rfl, rfl, rfl, rfl, rfl, rfl⟩, rfl⟩
      case after6 =>
        rintro a' W4 ⟨hF, rfl⟩
        obtain ⟨t, d⟩ := a'
        obtain ⟨hs, hd, hq2, hq3, hq4, hq5, hq6, hq7, hq8⟩ := hF
        simp only at hs hd
        subst hd
        obtain ⟨u, rfl⟩ := lit108 t hs
        have hq2 : u 2 = .pointer (some ⟨R, 0, none⟩) := hq2
        have hq3 : u 3 = .bool false := hq3
        have hq4 : u 4 = .int .i64 (k : Nat) := hq4
        have hq5 : u 5 = .slice hva k cap := hq5
        have hq6 : u 6 = .slice rva (n - k) (cap - k) := hq6
        have hq7 : u 7 = .pointer (some ⟨T, 0, none⟩) := hq7
        have hq8 : u 8 = .int .i64 ((c0 : Int) + (c1 : Int) + (c2 : Int) + (c3 : Int)) := hq8
        rw [hq2, hq3, hq4, hq5, hq6, hq7, hq8]
        clear hq2 hq3 hq4 hq5 hq6 hq7 hq8 hs
        obtain ⟨bd, hbd⟩ : ∃ x, badRef H rest = x := ⟨_, rfl⟩
        have Hbd := Lib.hid hbd
        have HB7 := bad7 (v1 := v1) (bd := bd) (R := R) u hN3 hT hl0 hl1 hl2 hl3 hk hlen HC0 HC1 HC2 HC3 HT (by rw [← Hv0.out]; exact valN_small HSt.out _) (Lib.hid (by rw [← hbd, hbad.out]))
        clear hbd hbad HC0 HC1 HC2 HC3 HT hl0 hl1 hl2 hl3
        go_upto_region 7 with fail
        refine piece (fun _ a' W' => (a'.tmps.size = 108 ∧ a'.defers = [] ∧ a'.tmps.getD 2 undef = .pointer (some ⟨R, 0, none⟩) ∧ a'.tmps.getD 3 undef = .bool false ∧ a'.tmps.getD 4 undef = .int .i64 (k : Nat) ∧ a'.tmps.getD 5 undef = .slice hva k cap ∧ a'.tmps.getD 6 undef = .slice rva (n - k) (cap - k) ∧ a'.tmps.getD 7 undef = .pointer (some ⟨T, 0, none⟩) ∧ a'.tmps.getD 88 undef = .bool bd) ∧ Mods (fun _ => False) W4 W') ?bad ?after7
        case bad => exact HB7
        case after7 =>
          clear HB7
          rintro a' W5 ⟨hF, hN5⟩
          obtain ⟨t, d⟩ := a'
          obtain ⟨hs, hd, hq2, hq3, hq4, hq5, hq6, hq7, hq88⟩ := hF
          simp only at hs hd
          subst hd
          obtain ⟨u, rfl⟩ := lit108 t hs
          have hq2 : u 2 = .pointer (some ⟨R, 0, none⟩) := hq2
          have hq3 : u 3 = .bool false := hq3
          have hq4 : u 4 = .int .i64 (k : Nat) := hq4
          have hq5 : u 5 = .slice hva k cap := hq5
          have hq6 : u 6 = .slice rva (n - k) (cap - k) := hq6
          have hq7 : u 7 = .pointer (some ⟨T, 0, none⟩) := hq7
          have hq88 : u 88 = .bool bd := hq88
          rw [hq2, hq3, hq4, hq5, hq6, hq7, hq88]
          clear hq2 hq3 hq4 hq5 hq6 hq7 hq88 hs
          have hz5 := hN5.heap hz3 id
          have hT5 := hN5.heap hT id
          have hN6 := hN3.trans hN5
          clear hN5 hz3 hT hN3
          cases bd with
          | true =>
            have HNO : Hid (refOf L = none) := Lib.hid (refOf_no HHr.out Hbd.out)
            go_wp2_with (refine op_skip rfl (run_store_row 56 (.tmp 2) (.tmp 89) rfl R rfl 56 [.string ⟨#[]⟩, .string ⟨#[]⟩, .string ⟨#[]⟩, .string ⟨#[]⟩, .slice none 0 0] [.string ⟨#[]⟩, .string ⟨#[]⟩, .string ⟨#[]⟩, .string ⟨#[]⟩, .slice none 0 0] rfl hz5 info56 rfl zone) ?_)
            have hz' := setRow_heap _ R _ #[.string ⟨#[]⟩, .string ⟨#[]⟩, .string ⟨#[]⟩, .string ⟨#[]⟩, .slice none 0 0] 56 (0, 0) hz5
            refine bodyPost_ret (v := .tuple #[.agg #[.string ⟨#[]⟩, .string ⟨#[]⟩, .string ⟨#[]⟩, .string ⟨#[]⟩, .slice none 0 0], .bool false]) (results_row2 rfl _ _ R 56 _ (0, 0) _ rfl hz' Tryd.underlying56 rfl info56 rfl) rfl ?_
            exact ⟨.slice none 0 0, by rw [HNO.out]; rfl, by rw [HNO.out]; exact ⟨ReadsL.nil _ _ _, fun g hg => by cases hg⟩, hN6.setRow hRw _⟩
          | false =>
            go_wp2_with fail
            go_loopw [9] (fun c wr => ∃ i : Nat, i ≤ k ∧ c = .int .i64 i ∧ Hid (∀ j, j < i → valueB (H.getD j .no).val.data.toList = true) ∧ Hid (wr.heap[R]? = some (.cells #[.string ⟨#[]⟩, .string ⟨#[]⟩, .string ⟨#[]⟩, .string ⟨#[]⟩, .slice none 0 0] 56 (0, 0))) ∧ Hid (wr.heap[T]? = some (.cells #[.string v0, .string v1, .string v2, .string v3, .slice none 0 0] 56 (0, 0))) ∧ New w wr) (fun c _ => k - (intOf c).toNat)
            case atStart => exact ⟨0, Nat.zero_le _, rfl, Lib.hid fun i hi => by omega, Lib.hid hz5, Lib.hid hT5, hN6⟩
            case round =>
              clear hz5 hT5 hN6
              obtain ⟨i, hi, rfl, hbef, hzi, hTi, hNi⟩ := hrel
              by_cases hik : i < k
              case pos =>
                have hkd : decide ((i : Int) < (k : Int)) = true := decide_eq_true (by omega)
                obtain ⟨b, o, rfl, hc1, hc2⟩ := (Hhv.out.new hNi).at hik
                have hsm := HSt.out.at i
                obtain ⟨p, hp⟩ : ∃ p, H.getD i .no = p := ⟨_, rfl⟩
                have Hp := Lib.hid hp
                rw [hp] at hc1 hc2 hsm
                clear hp
                obtain ⟨pn, pv⟩ := p
                simp only at hc1 hc2
                have HV := Lib.hid (fun w => (value_ref pv w (Nat.le_trans (Nat.le_of_lt hsm.2) (by decide))).mono fun _ _ h => (⟨h.1, h.2.symm⟩ : _ ∧ w = _))
                clear hsm
                have hpd : ∀ x, valueB pv.data.toList = x → Hid (valueB (H.getD i .no).val.data.toList = x) := fun x hx => Lib.hid (by rw [Hp.out]; exact hx)
                obtain ⟨vb, hvb⟩ : ∃ x, valueB pv.data.toList = x := ⟨_, rfl⟩
                have Hvb := hpd vb hvb
                rw [hvb] at HV
                clear hvb hpd
                cases vb with
                | true =>
                  have hh : Hid (∀ j, j < i + 1 → valueB (H.getD j .no).val.data.toList = true) := Lib.hid fun j hj => by
                    by_cases h : j < i
                    · exact hbef.out j h
                    · obtain rfl : j = i := by omega
                      exact Hvb.out
                  clear hbef
                  go_wp2_with fail
                  refine (HV.out _).mono ?_
                  rintro e w1 ⟨rfl, rfl⟩
                  go_wp2_with fail
                  go_roundw
                  case rel => exact ⟨i + 1, by omega, by go_num, hh, hzi, hTi, hNi⟩
                  case measure => simp [intOf]; omega
                | false =>
                  have HNO : Hid (refOf L = none) := Lib.hid (refOf_val HHr.out (by rw [Hkl.out]; exact hik) Hvb.out)
                  clear hbef
                  have hz5 := hzi.out
                  clear hzi
                  go_wp2_with fail
                  refine (HV.out _).mono ?_
                  rintro e w1 ⟨rfl, rfl⟩
                  go_wp2_with (refine op_skip rfl (run_store_row 56 (.tmp 2) (.tmp 102) rfl R rfl 56 [.string ⟨#[]⟩, .string ⟨#[]⟩, .string ⟨#[]⟩, .string ⟨#[]⟩, .slice none 0 0] [.string ⟨#[]⟩, .string ⟨#[]⟩, .string ⟨#[]⟩, .string ⟨#[]⟩, .slice none 0 0] rfl hz5 info56 rfl zone) ?_)
                  have hz' := setRow_heap _ R _ #[.string ⟨#[]⟩, .string ⟨#[]⟩, .string ⟨#[]⟩, .string ⟨#[]⟩, .slice none 0 0] 56 (0, 0) hz5
                  refine bodyPost_ret (v := .tuple #[.agg #[.string ⟨#[]⟩, .string ⟨#[]⟩, .string ⟨#[]⟩, .string ⟨#[]⟩, .slice none 0 0], .bool false]) (results_row2 rfl _ _ R 56 _ (0, 0) _ rfl hz' Tryd.underlying56 rfl info56 rfl) rfl ?_
                  exact ⟨.slice none 0 0, by rw [HNO.out]; rfl, by rw [HNO.out]; exact ⟨ReadsL.nil _ _ _, fun g hg => by cases hg⟩, hNi.setRow hRw _⟩
              case neg =>
                obtain rfl : i = k := by omega
                have hkd : decide ((i : Int) < (i : Int)) = false := decide_eq_false (by omega)
                have Hok := Lib.hid (refOf_ok HHr.out Hbd.out (by rw [Hkl.out]; exact hbef.out))
                clear hbef
                go_upto_region 14 with fail
                have hRr := Hrv.out.new hNi
                obtain ⟨m, hm⟩ : ∃ m, n - i = m := ⟨_, rfl⟩
                obtain ⟨c', hc'⟩ : ∃ c', cap - i = c' := ⟨_, rfl⟩
                rw [hm] at hRr
                rw [hc'] at hRr Hnil
                rw [hm, hc']
                obtain ⟨hlr, hm2⟩ := hRr.len
                have hcells := (show ReadsF wr (.slice rva rest.length c') rest.length 2 (fun j => (rest.getD j .no).cs) from by rw [hlr]; exact (show ReadsF wr (.slice rva m c') rest.length 2 (fun j => (rest.getD j .no).cs) from hRr) |> fun h => by rw [hlr] at h; exact h).cells (sz := 2) (by decide) (fun i => rfl)
                obtain ⟨i0, hi0, hz0, hz1, hz2⟩ := info_parts info54'
                have hflen := flatF_len (sz := 2) (f := fun j => (rest.getD j .no).cs) (fun i => rfl) rest.length
                have hone := flat_one rest rest.length
                have HO : Hid (∀ (w' : World) v', w'.ownsRow wr.heap.size 54 2 v' m (flatF rest.length fun j => (rest.getD j .no).cs) → OwnL wr.heap.size w' v' rest) := Lib.hid fun w' v' hown => ⟨ReadsF.ofOwns (by decide) (fun i => rfl) (by rw [hlr]; exact hm2) (by rw [← hlr] at hown; exact hown), fun g hg => (World.ownsRow.lt hown g hg).1⟩
                obtain ⟨F, hF⟩ : ∃ F, flatF rest.length (fun j => (rest.getD j .no).cs) = F := ⟨_, rfl⟩
                rw [hF] at hcells hflen hone HO
                rw [hlr] at hflen hcells
                have hown : (wr.alloc (.cells #[] 54)).ownsRow wr.heap.size 54 2 (.slice (some ⟨wr.heap.size, 0, none⟩) 0 0) 0 [] :=
                  ⟨rfl, .inr ⟨wr.heap.size, 0, #[], rfl, Nat.le_refl _, World.alloc_heap_new wr _, Nat.le_refl _, by unfold maxLen; omega, rfl, rfl⟩⟩
                have hN8 := hNi.alloc (.cells #[] 54)
                have hNw := hNi.size
                have hT8 := ((Mods.refl (fun _ => False) wr).alloc (.cells #[] 54)).heap hTi.out id
                have hz8 := ((Mods.refl (fun _ => False) wr).alloc (.cells #[] 54)).heap hzi.out id
                have hTlt : T < wr.heap.size := (Array.getElem?_eq_some_iff.1 hTi.out).1
                have HZ8 := Lib.hid hz8
                clear hF hRr hz8
                refine piece (fun _ a' W' => ∃ fv, a'.tmps.size = 108 ∧ a'.defers = [] ∧ a'.tmps.getD 2 undef = .pointer (some ⟨R, 0, none⟩) ∧ a'.tmps.getD 7 undef = .pointer (some ⟨T, 0, none⟩) ∧ OwnL wr.heap.size W' fv rest ∧ W'.heap[T]? = some (.cells #[.string v0, .string v1, .string v2, .string v3, fv] 56 (0, 0)) ∧ W'.heap[R]? = some (.cells #[.string ⟨#[]⟩, .string ⟨#[]⟩, .string ⟨#[]⟩, .string ⟨#[]⟩, .slice none 0 0] 56 (0, 0)) ∧ New w W') ?app ?tail
                case app =>
                  cases rva with
                  | none =>
                    obtain rfl : c' = 0 := Hnil.out rfl
                    have hl0 : m = 0 := hcells.1 rfl
                    subst hl0
                    obtain rfl : F = [] := List.length_eq_zero_iff.1 (by omega)
                    obtain ⟨W8, hW8⟩ : ∃ W, wr.alloc (.cells #[] 54) = W := ⟨_, rfl⟩
                    rw [hW8] at hown hN8 hT8 HZ8
                    have kT4 : W8.cell? ⟨T, 4, none⟩ = some (.slice none 0 0) := cell_of_row _ _ _ _ _ _ hT8
                    have fT4 := frozen_row (i := 4) hT8
                    have hTf := setCell_heap (i := 4) hT8 (.slice (some ⟨wr.heap.size, 0, none⟩) 0 0)
                    have HZf := Lib.hid (cell_other (i := 4) (v := .slice (some ⟨wr.heap.size, 0, none⟩) 0 0) HZ8.out (show R ≠ T by omega))
                    have HOn := Lib.hid (HO.out _ _ (owns_other hown fun g o hg h => cell_other (T := T) (i := 4) (v := .slice (some ⟨wr.heap.size, 0, none⟩) 0 0) h (by omega)))
                    have hnT : New w (W8.setCell ⟨T, 4, none⟩ (.slice (some ⟨wr.heap.size, 0, none⟩) 0 0)) := hN8.setCell (p := ⟨T, 4, none⟩) (.inl (show w.heap.size ≤ T by omega)) _
                    go_wp2_with (at_builtin; refine wpList_append_own_none rfl _ _ 25 rfl wr.heap.size 54 i0 2 Tryd.underlying25 hi0 _ _ _ rfl (by rw [hW8]; exact hown) rfl ?_; rw [hW8])
                    exact ⟨rfl, rfl, rfl, rfl, _, HOn.out, hTf, HZf.out, hnT⟩
                  | some ad =>
                    have hnews := hcells.2 ad rfl
                    have hnews' : ∀ j u, F[j]? = some u → (wr.alloc (.cells #[] 54)).cell? (ad.add j) = some u := fun j u hj => ((Mods.refl (fun _ => False) wr).alloc _).cell (hnews j u hj) id
                    go_wp2_with (at_builtin; refine wpList_append_own _ rfl _ _ 25 rfl wr.heap.size 54 i0 _ 2 32 Tryd.underlying25 hi0 hz0 hz1 hz2 rfl (by decide) _ _ _ rfl hown ad m c' F rfl hflen hnews' hone ?c3 ?c4 ?c5 ?_)
                    case c3 => unfold maxLen; omega
                    case c4 => omega
                    case c5 => simp
                    intro v' w9 hown' hgrow _
                    have hN9 : New w w9 := hN8.grown hgrow (by intro g hg; have := hown.lt g hg; omega)
                    have HOw := Lib.hid (HO.out _ _ (by simpa using hown'))
                    have hM9 : New wr w9 := ((Mods.refl _ wr).alloc (.cells #[] 54)).grown hgrow (by intro g hg; have := hown.lt g hg; omega)
                    have hT9 := hM9.heap hTi.out id
                    have HZ9 := Lib.hid (hM9.heap hzi.out id)
                    have kT4 : w9.cell? ⟨T, 4, none⟩ = some (.slice none 0 0) := cell_of_row _ _ _ _ _ _ hT9
                    have fT4 := frozen_row (i := 4) hT9
                    obtain ⟨fa, fc, e⟩ := HOw.out.1.slice
                    rw [hlr] at e
                    subst e
                    have HZf := Lib.hid (cell_other (i := 4) (v := .slice fa m fc) HZ9.out (show R ≠ T by omega))
                    have HOn := Lib.hid (HO.out _ _ (owns_other (show w9.ownsRow wr.heap.size 54 2 (.slice fa m fc) m F from by simpa using hown') fun g o hg h => cell_other (T := T) (i := 4) (v := .slice fa m fc) h (by omega)))
                    have hnT : New w (w9.setCell ⟨T, 4, none⟩ (.slice fa m fc)) := hN9.setCell (p := ⟨T, 4, none⟩) (.inl (show w.heap.size ≤ T by omega)) _
                    clear hown' hgrow hM9
                    go_wp2_with fail
                    have hTf := setCell_heap (i := 4) hT9 (.slice fa m fc)
                    refine ⟨_, rfl, rfl, rfl, rfl, ?_, hTf, ?_, ?_⟩
                    · exact HOn.out
                    · exact HZf.out
                    · exact hnT
                case tail =>
                  clear HO hcells hown hN8 hT8 HZ8 hTi hzi
                  rintro a' W9 ⟨fv, hs, hd, hq2, hq7, hOw, hT9, hz9, hN9⟩
                  obtain ⟨t, d⟩ := a'
                  simp only at hs hd
                  subst hd
                  obtain ⟨u, rfl⟩ := lit108 t hs
                  have hq2 : u 2 = .pointer (some ⟨R, 0, none⟩) := hq2
                  have hq7 : u 7 = .pointer (some ⟨T, 0, none⟩) := hq7
                  rw [hq2, hq7]
                  clear hq2 hq7 hs
                  have kT0 : W9.cell? ⟨T, 0, none⟩ = some (.string v0) := cell_of_row _ _ _ _ _ _ hT9
                  have kT1 : W9.cell? ⟨T, 1, none⟩ = some (.string v1) := cell_of_row _ _ _ _ _ _ hT9
                  have kT2 : W9.cell? ⟨T, 2, none⟩ = some (.string v2) := cell_of_row _ _ _ _ _ _ hT9
                  have kT3 : W9.cell? ⟨T, 3, none⟩ = some (.string v3) := cell_of_row _ _ _ _ _ _ hT9
                  have kT4 : W9.cell? ⟨T, 4, none⟩ = some fv := cell_of_row _ _ _ _ _ _ hT9
                  have HOw := Lib.hid hOw
                  have hone9 : ∀ u ∈ ([.string v0, .string v1, .string v2, .string v3, fv] : List Value), u.oneCell' = true := by
                    obtain ⟨fa, fc, e⟩ := hOw.1.slice
                    subst e
                    intro u hu
                    simp at hu
                    rcases hu with rfl | rfl | rfl | rfl | rfl <;> rfl
                  have HOn := Lib.hid (fun (W : World) (hM : Mods (fun b => b = R) W9 W) => (⟨ReadsF.kept0 hOw.1 hM fun _ g hg e => by have h1 := hOw.2 g hg; have e : g = R := e; omega, fun g hg => Nat.le_trans hNw (hOw.2 g hg)⟩ : OwnL w.heap.size W fv rest))
                  clear hOw hT9
                  go_wp2_with (refine op_skip rfl (run_store_row 56 (.tmp 2) (.tmp 107) rfl R rfl 56 [.string ⟨#[]⟩, .string ⟨#[]⟩, .string ⟨#[]⟩, .string ⟨#[]⟩, .slice none 0 0] [.string v0, .string v1, .string v2, .string v3, fv] rfl hz9 info56 rfl hone9) ?_)
                  have hz' := setRow_heap _ R _ #[.string v0, .string v1, .string v2, .string v3, fv] 56 (0, 0) hz9
                  refine bodyPost_ret (v := .tuple #[.agg #[.string v0, .string v1, .string v2, .string v3, fv], .bool true]) (results_row2 rfl _ _ R 56 _ (0, 0) _ rfl hz' Tryd.underlying56 rfl info56 rfl) rfl ?_
                  refine ⟨fv, ?_, ?_, hN9.setRow hRw _⟩
                  · rw [Hok.out, ← Hv0.out, ← Hv1.out, ← Hv2.out, ← Hv3.out]; rfl
                  · rw [Hok.out]
                    exact HOn.out _ (mods_setRow hz9 _)
end Go.Proofs.YtkjghojdfjhhkaaDoor
