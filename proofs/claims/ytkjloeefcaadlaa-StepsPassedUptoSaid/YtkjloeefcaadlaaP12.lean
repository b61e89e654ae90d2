/- The document's own words of a word that may be: pushed. -/
import Derived.Test.YtkjloeefcaadlaaP11
import Derived.Deep.CutRange
set_option linter.unusedSimpArgs false
set_option linter.unusedVariables false
namespace Go.Proofs.Ytkjloeefcaadlaa
open Go.RowKit Go.Shelf Go.Cs
attribute [local go_sem] Oper.semAt_some
set_option maxRecDepth 100000 in
set_option maxHeartbeats 4000000 in
theorem push_ref_yes {l : List (Nat × Nat)} (h : OkL l) {s u : Nat} (hs : s < 8) (hu : u < 8) (hno : ∀ p, p ∈ l → p.1 ≠ s) (w : World) :
    Calls Try.prog 21 #[.int .u64 (enc l), .int .i64 s, .int .i64 u] w fun e w' => e = .returned (.tuple #[.int .u64 (enc (insL l s u) : Nat), .bool true]) ∧ New w w' := by
  have hf : fi l s = none := by
    unfold fi
    rw [List.findIdx?_eq_none_iff]
    intro p hp
    have := hno p hp
    simp; omega
  have HF := Lib.hid (fun w => find_ref h s w)
  rw [hf] at HF
  unfold optT at HF
  have HR := Lib.hid (right_gen (enc l) (enc_lt h))
  rw [right_enc h] at HR
  have Hs := Lib.hid (number_ref s)
  have Hu := Lib.hid (number_ref u)
  rw [decide_eq_true (show (0 : Int) ≤ (s : Int) ∧ (s : Int) < 8 by omega)] at Hs
  rw [decide_eq_true (show (0 : Int) ≤ (u : Int) ∧ (u : Int) < 8 by omega)] at Hu
  have HL := Lib.hid (fun w => list_enc h w)
  have hI := insL_ok h hs hu hno
  have hIl := insL_len h s u
  have h8 := h.len
  have hI8 := hI.len
  have Hcut := Lib.hid (fun k hk h1 h2 => sorted_cut h (k := k) (u := u) hk h1 h2)
  have HW := Lib.hid (word_gen (insL l s u) hI.inn hI8)
  have Hdef := Lib.hid (show insL l s u = l.filter (fun p => decide (p.2 ≤ u)) ++ (s, u) :: l.filter (fun p => decide (u < p.2)) from rfl)
  obtain ⟨x, hx⟩ : ∃ x, enc l = x := ⟨_, rfl⟩
  rw [hx] at HF HR HL ⊢
  obtain ⟨z, hz⟩ : ∃ z, enc (insL l s u) = z := ⟨_, rfl⟩
  rw [hz] at HW ⊢
  obtain ⟨n, hn⟩ : ∃ n, l.length = n := ⟨_, rfl⟩
  have Hn := Lib.hid hn
  rw [hn] at HL h8 Hcut
  clear h hf hno hI hIl hI8 hx hz hn
  go_enter Try.func21, Try.ntmps21
  go_wp2_with fail
  refine (HF.out _).mono ?_
  rintro e w1 ⟨rfl, hN1⟩
  go_wp2_with fail
  refine (HR.out _).mono ?_
  rintro e w2 ⟨rfl, hN2⟩
  go_wp2_with fail
  refine (Hs.out _).mono ?_
  rintro e w3 ⟨rfl, rfl⟩
  go_wp2_with fail
  refine (Hu.out _).mono ?_
  rintro e w3 ⟨rfl, rfl⟩
  go_wp2_with fail
  refine (HL.out _).mono ?_
  rintro e w4 ⟨v, rfl, hown, hN3⟩
  have hv := Lib.hid (ReadsP.ofOwns Hn.out.symm hown)
  have hNN := Lib.hid ((hN1.trans hN2).trans hN3)
  have hshape : v = .slice none 0 0 ∧ n = 0 ∨ ∃ g cap, v = .slice (some ⟨g, 0, none⟩) n cap ∧ n ≤ cap ∧ cap ≤ 9223372036854775807 := by
    rcases hown.2 with h | ⟨g, cap, cur, rfl, _, _, hnc, hcm, _⟩
    · exact .inl h
    · unfold maxLen at hcm; exact .inr ⟨g, cap, rfl, hnc, by omega⟩
  clear hown hN1 hN2 hN3 HF HR HL Hs Hu
  rcases hshape with ⟨rfl, rfl⟩ | ⟨g, cap, rfl, hnc, hcm⟩
  · have hl : l = [] := List.eq_nil_of_length_eq_zero Hn.out
    subst hl
    have hins : insL [] s u = [(s, u)] := by rw [Hdef.out]; rfl
    go_wp2_with fail
    go_loopw [11] (fun c wr => c = .int .i64 0 ∧ New w4 wr) (fun c _ => 0)
    case atStart => exact ⟨rfl, Mods.refl _ _⟩
    case round =>
      obtain ⟨rfl, hN⟩ := hrel
      have hs0 : ∀ W, SrcP [] W (.slice none 0 0) := fun W => ⟨none, 0, rfl, fun k hk => by simp at hk⟩
      obtain ⟨v1, W1, hrun1, hown1, hg1⟩ := append2 wr.heap.size [] (.slice none 0 0) wr (hs0 _) (by simp) (v0 := .slice none 0 0) (L0 := []) rfl (World.ownsRow_nil _ _ _ _) (by simp) (Nat.le_refl _)
      have hNa : New wr W1 := Mods.grown (Mods.refl _ _) hg1 (fun k hk => by simp [Value.ownBlock] at hk)
      obtain ⟨Wb, hWb⟩ : ∃ W, W1.alloc (.cells #[.int .i64 s, .int .i64 u] 126) = W := ⟨_, rfl⟩
      have hNb : New W1 Wb := by rw [← hWb]; exact (Mods.refl _ _).alloc _
      have hs1 : SrcP [(s, u)] Wb (.slice (some ⟨W1.heap.size, 0, none⟩) 1 1) := by
        refine ⟨_, 1, rfl, fun j hj => ?_⟩
        obtain rfl : j = 0 := by simpa using hj
        refine ⟨W1.heap.size, 0, rfl, ?_, ?_⟩
        · rw [← hWb, World.cell?_alloc_at _ _ _ _ rfl]; rfl
        · rw [← hWb, World.cell?_alloc_at _ _ _ _ rfl]; rfl
      have hown1b := hNb.ownsRow hown1 (fun _ _ f => f)
      obtain ⟨v2, W2, hrun2, hown2, hg2⟩ := append2 wr.heap.size [(s, u)] _ Wb hs1 (by simp) (v0 := v1) (L0 := [] ++ []) (by simp) hown1b (by simp) (hNa.trans hNb).size
      have hlt1 := hown1b.lt
      have hNc : New wr W2 := (hNa.trans hNb).grown hg2 (fun b hb => .inl (hlt1 b hb).1)
      obtain ⟨v3, W3, hrun3, hown3, hg3⟩ := append2 wr.heap.size [] (.slice none 0 0) W2 (hs0 _) (by simp) (v0 := v2) (L0 := [] ++ [] ++ [(s, u)]) (by simp) hown2 (by simp) hNc.size
      have hlt2 := hown2.lt
      have hNd : New wr W3 := hNc.grown hg3 (fun b hb => .inl (hlt2 b hb).1)
      have hv3 := ReadsP.ofOwns (l := insL [] s u) (by rw [hins]) (by rw [hins]; exact hown3)
      have HW3 := Lib.hid (HW.out v3 W3 hv3)
      have HN := Lib.hid ((hNN.out.trans hN).trans hNd)
      rw [← hWb] at hrun2
      have Hrun1 := Lib.hid hrun1
      have Hrun2 := Lib.hid hrun2
      have Hrun3 := Lib.hid hrun3
      clear hrun1 hrun2 hrun3 hg1 hg2 hg3 hown1 hown1b hown2 hown3 hv3 hs1 hNa hNb hNc hNd hlt1 hlt2 hWb hs0 hins
      go_upto_region 10 with (refine op_value rfl (run_op_append2 rfl rfl rfl rfl Hrun1.out) ?_)
      go_upto_region 11 with (refine op_value rfl (run_op_append2 rfl rfl rfl rfl Hrun2.out) ?_)
      go_wp2_with (refine op_value rfl (run_op_append2 rfl rfl rfl rfl Hrun3.out) ?_)
      refine HW3.out.mono ?_
      rintro e w5 ⟨rfl, hN3⟩
      go_wp2_with fail
      go_ret2
      exact ⟨rfl, HN.out.trans hN3⟩
  · go_wp2_with fail
    go_loopw [11] (fun c wr => ∃ k : Nat, k ≤ n ∧ c = .int .i64 k ∧ Hid (∀ j, j < k → (l.getD j (0, 0)).2 ≤ u) ∧ New w4 wr) (fun c _ => n - (intOf c).toNat)
    case atStart => exact ⟨0, Nat.zero_le _, rfl, (fun j hj => by omega), Mods.refl _ _⟩
    case round =>
      obtain ⟨k, hk, rfl, hbef, hN⟩ := hrel
      have hvk := hv.out
      rw [← Hn.out] at hvk
      by_cases hgo : k < n ∧ (l.getD k (0, 0)).2 ≤ u
      · obtain ⟨ao, cap', e, hc⟩ := hvk
        simp only [Value.slice.injEq] at e
        obtain ⟨rfl, _, rfl⟩ := e
        obtain ⟨b, e, c1, c2⟩ := hc k (by rw [Hn.out]; exact hgo.1)
        simp only [Option.some.injEq, Addr.mk.injEq, and_true] at e
        subst e
        have c2 := hN.cell c2 id
        have hnext : Hid (∀ j, j < k + 1 → (l.getD j (0, 0)).2 ≤ u) := Lib.hid (fun j hj => by
          by_cases e : j < k
          · exact hbef.out j e
          · obtain rfl : j = k := by omega
            exact hgo.2)
        obtain ⟨q, hq⟩ : ∃ q, (l.getD k (0, 0)).2 = q := ⟨_, rfl⟩
        rw [hq] at c2 hgo
        have hd1 : decide ((q : Int) ≤ (u : Int)) = true := decide_eq_true (by omega)
        have hkn := hgo.1
        have hqu := hgo.2
        clear hq hgo hc c1 hbef
        go_wp2_with fail
        go_roundw
        case rel => exact ⟨k + 1, by omega, by go_num, hnext, hN⟩
        case measure => simp [intOf]; omega
      · have hstop : k = n ∨ (k < n ∧ u < (l.getD k (0, 0)).2) := by
          by_cases e : k = n
          · exact .inl e
          · exact .inr ⟨by omega, by
              by_cases e2 : (l.getD k (0, 0)).2 ≤ u
              · exact absurd ⟨by omega, e2⟩ hgo
              · omega⟩
        obtain ⟨e1, e2⟩ := Hcut.out k hk hbef.out (fun hkn => by rcases hstop with e | e; omega; exact e.2)
        have hins : insL l s u = l.take k ++ [(s, u)] ++ l.drop k := by rw [Hdef.out, e1, e2]; simp
        have hlen := Hn.out
        have hrd : ReadsP l wr (.slice (some ⟨g, 0, none⟩) l.length cap) := by rw [hlen]; exact hv.out.new hN
        obtain ⟨v1, W1, hrun1, hown1, hg1⟩ := append2 wr.heap.size (l.take k) (.slice (some ⟨g, 0, none⟩) k cap) wr (src_take hrd (by omega) cap) (by simp; omega) (v0 := .slice none 0 0) (L0 := []) rfl (World.ownsRow_nil _ _ _ _) (by simp) (Nat.le_refl _)
        have hNa : New wr W1 := Mods.grown (Mods.refl _ _) hg1 (fun k hk => by simp [Value.ownBlock] at hk)
        obtain ⟨Wb, hWb⟩ : ∃ W, W1.alloc (.cells #[.int .i64 s, .int .i64 u] 126) = W := ⟨_, rfl⟩
        have hNb : New W1 Wb := by rw [← hWb]; exact (Mods.refl _ _).alloc _
        have hs1 : SrcP [(s, u)] Wb (.slice (some ⟨W1.heap.size, 0, none⟩) 1 1) := by
          refine ⟨_, 1, rfl, fun j hj => ?_⟩
          obtain rfl : j = 0 := by simpa using hj
          refine ⟨W1.heap.size, 0, rfl, ?_, ?_⟩
          · rw [← hWb, World.cell?_alloc_at _ _ _ _ rfl]; rfl
          · rw [← hWb, World.cell?_alloc_at _ _ _ _ rfl]; rfl
        have hown1b := hNb.ownsRow hown1 (fun _ _ f => f)
        obtain ⟨v2, W2, hrun2, hown2, hg2⟩ := append2 wr.heap.size [(s, u)] _ Wb hs1 (by simp) (v0 := v1) (L0 := [] ++ l.take k) (by simp) hown1b (by simp; omega) (hNa.trans hNb).size
        have hlt1 := hown1b.lt
        have hNc : New wr W2 := (hNa.trans hNb).grown hg2 (fun b hb => .inl (hlt1 b hb).1)
        have hsrc : SrcP (l.drop k) wr (.slice (if cap = k then some ⟨g, 0, none⟩ else some ⟨g, k * 2, none⟩) (n - k) (cap - k)) := by
          rw [← hlen] at hnc ⊢
          split
          · exact src_drop hrd (by omega) _ (fun h => by omega) _
          · exact src_drop hrd (by omega) _ (fun _ => rfl) _
        obtain ⟨v3, W3, hrun3, hown3, hg3⟩ := append2 wr.heap.size (l.drop k) _ W2 (hsrc.new hNc) (by simp; omega) (v0 := v2) (L0 := [] ++ l.take k ++ [(s, u)]) (by simp) hown2 (by simp; omega) hNc.size
        have hlt2 := hown2.lt
        have hNd : New wr W3 := hNc.grown hg3 (fun b hb => .inl (hlt2 b hb).1)
        have e3 : [] ++ l.take k ++ [(s, u)] ++ l.drop k = insL l s u := by rw [hins]; simp
        have e4 : ([] ++ l.take k ++ [(s, u)]).length + (l.drop k).length = (insL l s u).length := by rw [← e3]; simp; omega
        rw [e3, e4] at hown3
        have hv3 := ReadsP.ofOwns (l := insL l s u) rfl hown3
        have HW3 := Lib.hid (HW.out v3 W3 hv3)
        have HN := Lib.hid ((hNN.out.trans hN).trans hNd)
        rw [← hWb] at hrun2
        have Hrun1 := Lib.hid hrun1
        have Hrun2 := Lib.hid hrun2
        have Hrun3 := Lib.hid hrun3
        have hkc : k ≤ cap := by omega
        have c2 : k < n → wr.cell? ⟨g, k * 2 + 1, none⟩ = some (.int .i64 (l.getD k (0, 0)).2) := fun hkn => by
          obtain ⟨ao, c', e2, hc⟩ := hrd
          simp only [Value.slice.injEq] at e2
          obtain ⟨rfl, _, rfl⟩ := e2
          obtain ⟨b, e3, _, h2⟩ := hc k (by omega)
          simp only [Option.some.injEq, Addr.mk.injEq, and_true] at e3
          rw [e3]; exact h2
        clear hrun1 hrun2 hrun3 hg1 hg2 hg3 hown1 hown1b hown2 hown3 hv3 hsrc hs1 hrd hvk hgo hbef e1 e2 e3 e4 hins hlen hNa hNb hNc hNd hlt1 hlt2 hWb
        obtain ⟨q, hq⟩ : ∃ q, (l.getD k (0, 0)).2 = q := ⟨_, rfl⟩
        rw [hq] at c2 hstop
        clear hq
        rcases hstop with hkn | ⟨hkn, hqu⟩
        · have hge : n ≤ k := by omega
          have hdk : decide ((k : Int) < (n : Int)) = false := decide_eq_false (by omega)
          rw [show n - k = 0 by omega] at Hrun3
          clear c2 hkn
          go_upto_region 10 with (refine op_value rfl (run_op_append2 rfl rfl rfl rfl Hrun1.out) ?_)
          go_upto_region 11 with (refine op_value rfl (run_op_append2 rfl rfl rfl rfl Hrun2.out) ?_)
          go_wp2_with (refine op_value rfl (run_op_append2 rfl rfl rfl rfl Hrun3.out) ?_)
          all_goals
            refine HW3.out.mono ?_
            rintro e w5 ⟨rfl, hN3⟩
            go_wp2_with fail
            go_ret2
            exact ⟨rfl, HN.out.trans hN3⟩
        · have c2 := c2 hkn
          have hd1 : decide ((q : Int) ≤ (u : Int)) = false := decide_eq_false (by omega)
          rw [if_neg (show ¬ cap = k by omega)] at Hrun3
          go_upto_region 10 with (refine op_value rfl (run_op_append2 rfl rfl rfl rfl Hrun1.out) ?_)
          go_upto_region 11 with (refine op_value rfl (run_op_append2 rfl rfl rfl rfl Hrun2.out) ?_)
          go_wp2_with (refine op_value rfl (run_op_append2 rfl rfl rfl rfl Hrun3.out) ?_)
          all_goals
            refine HW3.out.mono ?_
            rintro e w5 ⟨rfl, hN3⟩
            go_wp2_with fail
            go_ret2
            exact ⟨rfl, HN.out.trans hN3⟩
end Go.Proofs.Ytkjloeefcaadlaa
