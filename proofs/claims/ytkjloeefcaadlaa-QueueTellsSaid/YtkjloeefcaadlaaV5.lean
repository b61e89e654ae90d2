/- The document's own words of a word that may be: out, best. -/
import Derived.Test.YtkjloeefcaadlaaV4
namespace Go.Proofs.Ytkjloeefcaadlaa
open Go.RowKit Go.Shelf Go.Cs
attribute [local go_sem] Oper.semAt_some
theorem fi_none {l : List (Nat × Nat)} {s : Int} (h : fi l s = none) : ∀ p, p ∈ l → (p.1 : Int) ≠ s := fun p hp => by
  unfold fi at h
  rw [List.findIdx?_eq_none_iff] at h
  simpa using h p hp
theorem fi_some {l : List (Nat × Nat)} {s : Int} {k : Nat} (h : fi l s = some k) : k < l.length ∧ ((l.getD k (0, 0)).1 : Int) = s ∧ l = l.take k ++ l.getD k (0, 0) :: l.drop (k + 1) := by
  unfold fi at h
  obtain ⟨hk, h1, _⟩ := List.findIdx?_eq_some_iff_getElem.1 h
  have e : l.getD k (0, 0) = l[k] := by simp [List.getD, hk]
  refine ⟨hk, by rw [e]; simpa using h1, ?_⟩
  rw [e]
  simp
theorem okL_cut {l : List (Nat × Nat)} (h : OkL l) {s : Int} {k : Nat} (hf : fi l s = some k) : outF (enc l) s = (enc (l.take k ++ l.drop (k + 1)), true) := by
  obtain ⟨hk, h1, h2⟩ := fi_some hf
  have hp : l.getD k (0, 0) ∈ l := by simp [List.getD, hk]
  have := out_enc h (s := (l.getD k (0, 0)).1) ⟨_, hp, rfl⟩
  rw [← h1, this]
  have hd := delL_split (a := l.take k) (p := l.getD k (0, 0)) (b := l.drop (k + 1)) (by rw [← h2]; exact h)
  rw [← h2] at hd
  rw [hd]
set_option maxRecDepth 100000 in
theorem out_ref {l : List (Nat × Nat)} (h : OkL l) (s : Int) (w : World) :
    Calls Try.prog 27 #[.int .u64 (enc l), .int .i64 s] w fun e w' => e = .returned (pair (outF (enc l) s)) ∧ New w w' := by
  have HF := Lib.hid (fun w => find_ref h s w)
  have HL := Lib.hid (fun w => list_enc h w)
  cases hf : fi l s with
  | none =>
    rw [out_enc_no h (fi_none hf)]
    rw [hf] at HF
    obtain ⟨x, hx⟩ : ∃ x, enc l = x := ⟨_, rfl⟩
    rw [hx] at HF ⊢
    clear h HL hf hx
    unfold pair optT at *
    go_enter Try.func27, Try.ntmps27
    go_wp2_with fail
    refine (HF.out _).mono ?_
    rintro e w1 ⟨rfl, hN1⟩
    go_wp2_with fail
    go_ret2
    exact ⟨rfl, hN1⟩
  | some k =>
    rw [okL_cut h hf]
    rw [hf] at HF
    obtain ⟨hk, h1, h2⟩ := fi_some hf
    have hok' : InL (l.take k ++ l.drop (k + 1)) := fun p hp => by
      rcases List.mem_append.1 hp with hp | hp
      · exact h.inn p (List.mem_of_mem_take hp)
      · exact h.inn p (List.mem_of_mem_drop hp)
    have h8 := h.len
    have hl' : (l.take k ++ l.drop (k + 1)).length = l.length - 1 := by simp; omega
    have HW := Lib.hid (word_gen (l.take k ++ l.drop (k + 1)) hok' (by omega))
    obtain ⟨z, hz⟩ : ∃ z, enc (l.take k ++ l.drop (k + 1)) = z := ⟨_, rfl⟩
    rw [hz] at HW ⊢
    obtain ⟨x, hx⟩ : ∃ x, enc l = x := ⟨_, rfl⟩
    rw [hx] at HF HL ⊢
    obtain ⟨n, hn⟩ : ∃ n, l.length = n := ⟨_, rfl⟩
    rw [hn] at hk h8 HL hl'
    have Hn := Lib.hid hn
    have Hl' := Lib.hid hl'
    unfold optT at HF
    clear h hf h1 h2 hok' hz hx hn hl'
    unfold pair
    go_enter Try.func27, Try.ntmps27
    go_wp2_with fail
    refine (HF.out _).mono ?_
    rintro e w1 ⟨rfl, hN1⟩
    go_wp2_with fail
    refine (HL.out _).mono ?_
    rintro e w2 ⟨v, rfl, hown, hN2⟩
    have hv := ReadsP.ofOwns Hn.out.symm hown
    obtain ⟨_, ⟨_, h0⟩ | ⟨g, cap, cur, rfl, _, _, hnc, hcm, _⟩⟩ := hown
    · omega
    have hN := hN1.trans hN2
    unfold maxLen at hcm
    rw [← Hn.out] at hv
    obtain ⟨v1, W1, hrun, hown1, hg1⟩ := append2 w.heap.size (l.take k) (.slice (some ⟨g, 0, none⟩) k cap) w2 (src_take hv (by rw [Hn.out]; omega) cap) (by simp; omega) (v0 := .slice none 0 0) (L0 := []) rfl (World.ownsRow_nil _ _ _ _) (by simp) hN.size
    have hNa : New w2 W1 := Mods.grown (Mods.refl _ _) hg1 (fun k hk => by simp [Value.ownBlock] at hk)
    have hsrc : SrcP (l.drop (k + 1)) w2 (.slice (if cap = k + 1 then some ⟨g, 0, none⟩ else some ⟨g, (k + 1) * 2, none⟩) (n - (k + 1)) (cap - (k + 1))) := by
      have hcn := Hn.out
      rw [← hcn] at hnc hk ⊢
      split
      · exact src_drop hv (by omega) _ (fun h => by omega) _
      · exact src_drop hv (by omega) _ (fun _ => rfl) _
    obtain ⟨v2, W2, hrun2, hown2, hg2⟩ := append2 w.heap.size (l.drop (k + 1)) _ W1 (hsrc.new hNa) (by have := Hn.out; simp; omega) (v0 := v1) (L0 := [] ++ l.take k) (by simp) hown1 (by have := Hn.out; simp; omega) (by have := hN.size; have := hNa.size; omega)
    have hlt1 := hown1.lt
    have hNb : New w W2 := ((hN.trans hNa).grown hg2 (fun b hb => .inl (hlt1 b hb).1))
    have hv2 := ReadsP.ofOwns (l := l.take k ++ l.drop (k + 1)) (by simp) hown2
    have HW2 := Lib.hid (HW.out v2 W2 hv2)
    have Hrun := Lib.hid hrun
    have Hrun2 := Lib.hid hrun2
    have hkc : k ≤ cap := by omega
    clear hrun hrun2 hg1 hg2 HF HL hv hv2 hown1 hown2 hsrc hlt1 HW
    go_wp2_with (first | (refine op_value rfl (run_op_append2 rfl rfl rfl rfl Hrun.out) ?_) | (refine op_value rfl (run_op_append2 rfl rfl rfl rfl Hrun2.out) ?_))
    all_goals
      refine HW2.out.mono ?_
      rintro e w3 ⟨rfl, hN3⟩
      go_wp2_with fail
      go_ret2
      exact ⟨rfl, hNb.trans hN3⟩
end Go.Proofs.Ytkjloeefcaadlaa
