/- The document's own words of a word that may be: how many, who is where, where somebody is. -/
import Derived.Test.YtkjloeefcaadlaaP10
set_option linter.unusedSimpArgs false
set_option linter.unusedVariables false
namespace Go.Proofs.Ytkjloeefcaadlaa
open Go.RowKit Go.Shelf Go.Cs
attribute [local go_sem] Oper.semAt_some
theorem list_enc {l : List (Nat × Nat)} (h : OkL l) (w : World) :
    Calls Try.prog 67 #[.int .u64 (enc l)] w fun e w' => ∃ v, e = .returned v ∧ w'.ownsRow w.heap.size 126 2 v l.length (cellsP l) ∧ New w w' := by
  have e := enc_div h.inn h.len
  have := list_gen (enc l) l.length (enc_lt h) (by rw [e, Nat.min_eq_left h.len]) w
  rwa [dec_enc h.inn h.len] at this
theorem many_ref {l : List (Nat × Nat)} (h : OkL l) (w : World) :
    Calls Try.prog 30 #[.int .u64 (enc l)] w fun e w' => e = .returned (.int .i64 (l.length : Nat)) ∧ New w w' := by
  have HR := Lib.hid (right_gen (enc l) (enc_lt h))
  rw [right_enc h] at HR
  have HL := Lib.hid (fun w => list_enc h w)
  have h8 := h.len
  obtain ⟨x, hx⟩ : ∃ x, enc l = x := ⟨_, rfl⟩
  rw [hx] at HR HL ⊢
  clear h hx
  go_enter Try.func30, Try.ntmps30
  go_wp2_with fail
  refine (HR.out _).mono ?_
  rintro e w1 ⟨rfl, hN1⟩
  go_wp2_with fail
  refine (HL.out _).mono ?_
  rintro e w2 ⟨v, rfl, hown, hN2⟩
  obtain ⟨ao, cap, rfl⟩ := owns_slice hown
  clear hown
  go_wp2_with fail
  go_ret
  exact ⟨rfl, hN1.trans hN2⟩
def atR (l : List (Nat × Nat)) (k : Int) : Value := if 0 ≤ k ∧ k < l.length then .tuple #[.int .i64 (l.getD k.toNat (0, 0)).1, .int .i64 (l.getD k.toNat (0, 0)).2, .bool true] else .tuple #[.int .i64 0, .int .i64 0, .bool false]
theorem info126 : (Try.prog.info? 126).map (·.size) = some 2 := by kernel_rfl
theorem at_ref {l : List (Nat × Nat)} (h : OkL l) (k : Int) (w : World) :
    Calls Try.prog 62 #[.int .u64 (enc l), .int .i64 k] w fun e w' => e = .returned (atR l k) ∧ New w w' := by
  have HM := Lib.hid (fun w => many_ref h w)
  have HL := Lib.hid (fun w => list_enc h w)
  have h8 := h.len
  obtain ⟨x, hx⟩ : ∃ x, enc l = x := ⟨_, rfl⟩
  rw [hx] at HM HL ⊢
  by_cases hk0 : k < 0
  · have e : atR l k = .tuple #[.int .i64 0, .int .i64 0, .bool false] := by unfold atR; rw [if_neg (by omega)]
    rw [e]
    have hd : decide (k < 0) = true := decide_eq_true hk0
    clear h hx e
    go_enter Try.func62, Try.ntmps62
    go_wp2_with fail
    go_ret3
    exact ⟨rfl, Mods.refl _ _⟩
  have hd : decide (k < 0) = false := decide_eq_false hk0
  by_cases hkn : k < l.length
  · obtain ⟨j, rfl⟩ := Int.eq_ofNat_of_zero_le (show 0 ≤ k by omega)
    have e : atR l j = .tuple #[.int .i64 (l.getD j (0, 0)).1, .int .i64 (l.getD j (0, 0)).2, .bool true] := by unfold atR; rw [if_pos ⟨by omega, hkn⟩]; rfl
    rw [e]
    have hjl : j < l.length := by omega
    have hd2 : decide ((l.length : Int) ≤ (j : Int)) = false := decide_eq_false (by omega)
    have hd3 : decide (l.length ≤ j) = false := decide_eq_false (by omega)
    obtain ⟨n, hn⟩ : ∃ n, l.length = n := ⟨_, rfl⟩
    have Hn := Lib.hid hn
    obtain ⟨s, hs⟩ : ∃ s, (l.getD j (0, 0)).1 = s := ⟨_, rfl⟩
    obtain ⟨u, hu⟩ : ∃ s, (l.getD j (0, 0)).2 = s := ⟨_, rfl⟩
    rw [hs, hu]
    have Hs := Lib.hid hs
    have Hu := Lib.hid hu
    rw [hn] at HM HL hd2 hd3 hjl h8
    clear h hx e hkn hk0 hn hs hu
    go_enter Try.func62, Try.ntmps62
    go_wp2_with fail
    refine (HM.out _).mono ?_
    rintro e w1 ⟨rfl, hN1⟩
    go_wp2_with fail
    refine (HL.out _).mono ?_
    rintro e w2 ⟨v, rfl, hown, hN2⟩
    obtain ⟨ao, cap, rfl, hc⟩ := ReadsP.ofOwns Hn.out.symm hown
    obtain ⟨b, rfl, c1, c2⟩ := hc j (by rw [Hn.out]; exact hjl)
    have hn2 := Hn.out
    rw [hn2] at hown ⊢
    rw [Hs.out] at c1
    rw [Hu.out] at c2
    clear hc hown hn2
    go_wp2_with fail
    go_quiet (fail)
    go_wp2_with fail
    go_ret3
    exact ⟨rfl, ((hN1.trans hN2).alloc _).drewN _⟩
  · have e : atR l k = .tuple #[.int .i64 0, .int .i64 0, .bool false] := by unfold atR; rw [if_neg (by omega)]
    rw [e]
    have hd2 : decide ((l.length : Int) ≤ k) = true := decide_eq_true (by omega)
    clear h hx e
    go_enter Try.func62, Try.ntmps62
    go_wp2_with fail
    refine (HM.out _).mono ?_
    rintro e w1 ⟨rfl, hN1⟩
    go_wp2_with fail
    go_ret3
    exact ⟨rfl, hN1⟩
/-- Where somebody is. -/
def fi (l : List (Nat × Nat)) (s : Int) : Option Nat := l.findIdx? fun p => (p.1 : Int) == s
theorem find_ref {l : List (Nat × Nat)} (h : OkL l) (s : Int) (w : World) :
    Calls Try.prog 61 #[.int .u64 (enc l), .int .i64 s] w fun e w' => e = .returned (optT (fi l s)) ∧ New w w' := by
  have HM := Lib.hid (fun w => many_ref h w)
  have HA := Lib.hid (fun k w => at_ref h k w)
  have h8 := h.len
  obtain ⟨x, hx⟩ : ∃ x, enc l = x := ⟨_, rfl⟩
  rw [hx] at HM HA ⊢
  obtain ⟨r, hr⟩ : ∃ r, fi l s = r := ⟨_, rfl⟩
  rw [hr]
  have Hr := Lib.hid hr
  obtain ⟨n, hn⟩ : ∃ n, l.length = n := ⟨_, rfl⟩
  have Hn := Lib.hid hn
  rw [hn] at HM h8
  clear h hx hr hn
  go_enter Try.func61, Try.ntmps61
  go_wp2_with fail
  go_loopw [6, 7, 8, 9] (fun c _ _ _ wr => ∃ k : Nat, k ≤ n ∧ c = .int .i64 k ∧ Hid (∀ a, a < k → ((l.getD a (0, 0)).1 : Int) ≠ s) ∧ New w wr) (fun c _ _ _ _ => n - (intOf c).toNat)
  case atStart => exact ⟨0, Nat.zero_le _, rfl, (fun a h => by omega), Mods.refl _ _⟩
  case round =>
    obtain ⟨k, hk, rfl, hbef, hN⟩ := hrel
    by_cases hlt : k < n
    · have hat : atR l k = .tuple #[.int .i64 (l.getD k (0, 0)).1, .int .i64 (l.getD k (0, 0)).2, .bool true] := by unfold atR; rw [if_pos ⟨by omega, by rw [Hn.out]; omega⟩]; rfl
      have HAk := HA.out k
      rw [hat] at HAk
      obtain ⟨t, ht⟩ : ∃ s, (l.getD k (0, 0)).1 = s := ⟨_, rfl⟩
      obtain ⟨u, hu⟩ : ∃ s, (l.getD k (0, 0)).2 = s := ⟨_, rfl⟩
      rw [ht, hu] at HAk
      have HAk := Lib.hid HAk
      have Ht := Lib.hid ht
      clear hat ht hu
      go_wp2_with fail
      refine (HM.out _).mono ?_
      rintro e w1 ⟨rfl, hN1⟩
      go_wp2_with fail
      refine (HAk.out _).mono ?_
      rintro e w2 ⟨rfl, hN2⟩
      by_cases he : (t : Int) = s
      · have hq : ((t : Int) == s) = true := by simpa using he
        have hrk : r = some k := by
          rw [← Hr.out]
          unfold fi
          rw [List.findIdx?_eq_some_iff_getElem]
          have hkl : k < l.length := by rw [Hn.out]; exact hlt
          refine ⟨hkl, ?_, fun j hj => ?_⟩
          · have := Ht.out
            simp only [List.getD, List.getElem?_eq_getElem hkl, Option.getD_some] at this
            simp [this, he]
          · have := hbef.out j hj
            simp only [List.getD, List.getElem?_eq_getElem (show j < l.length by omega), Option.getD_some] at this
            simpa using this
        have Hrk := Lib.hid hrk
        clear hrk he hbef
        go_wp2_with fail
        go_ret2
        exact ⟨by rw [Hrk.out]; rfl, (hN.trans hN1).trans hN2⟩
      · have hq : ((t : Int) == s) = false := by simpa using he
        have hnext : Hid (∀ a, a < k + 1 → ((l.getD a (0, 0)).1 : Int) ≠ s) := Lib.hid (fun a ha => by
          by_cases h : a < k
          · exact hbef.out a h
          · obtain rfl : a = k := by omega
            rw [Ht.out]; exact he)
        clear he hbef
        go_wp2_with fail
        go_roundw
        case rel => exact ⟨k + 1, by omega, by go_num, hnext, (hN.trans hN1).trans hN2⟩
        case measure => simp [intOf]; omega
    · obtain rfl : k = n := by omega
      have hrk : r = none := by
        rw [← Hr.out]
        unfold fi
        rw [List.findIdx?_eq_none_iff]
        intro p hp
        obtain ⟨j, hj, rfl⟩ := List.getElem_of_mem hp
        have := hbef.out j (by have := Hn.out; omega)
        simp only [List.getD, List.getElem?_eq_getElem hj, Option.getD_some] at this
        simpa using this
      have Hrk := Lib.hid hrk
      clear hrk hbef
      go_wp2_with fail
      refine (HM.out _).mono ?_
      rintro e w1 ⟨rfl, hN1⟩
      go_wp2_with fail
      go_ret2
      exact ⟨by rw [Hrk.out]; rfl, hN.trans hN1⟩
end Go.Proofs.Ytkjloeefcaadlaa
/- The document's own words of a word that may be: taken out. -/
namespace Go.Proofs.Ytkjloeefcaadlaa
open Go.RowKit Go.Shelf Go.Cs
attribute [local go_sem] Oper.semAt_some
/-- A piece of a slice of places. -/
def SrcP (src : List (Nat × Nat)) (W : World) (v : Value) : Prop :=
  ∃ ao cap, v = .slice ao src.length cap ∧ ∀ k, k < src.length → ∃ b o, ao = some ⟨b, o, none⟩ ∧ W.cell? ⟨b, o + k * 2, none⟩ = some (.int .i64 (src.getD k (0, 0)).1) ∧ W.cell? ⟨b, o + k * 2 + 1, none⟩ = some (.int .i64 (src.getD k (0, 0)).2)
theorem SrcP.new {src : List (Nat × Nat)} {W W' : World} {v : Value} (h : SrcP src W v) (hN : New W W') : SrcP src W' v := by
  obtain ⟨ao, cap, e, hc⟩ := h
  refine ⟨ao, cap, e, fun k hk => ?_⟩
  obtain ⟨b, o, e2, h1, h2⟩ := hc k hk
  exact ⟨b, o, e2, hN.cell h1 id, hN.cell h2 id⟩
theorem cellsP_append (a b : List (Nat × Nat)) : cellsP (a ++ b) = cellsP a ++ cellsP b := by unfold cellsP; rw [List.flatMap_append]
theorem cellsP_get (l : List (Nat × Nat)) {j : Nat} {u : Value} (h : (cellsP l)[j]? = some u) : ∃ k, k < l.length ∧ ((j = k * 2 ∧ u = .int .i64 (l.getD k (0, 0)).1) ∨ (j = k * 2 + 1 ∧ u = .int .i64 (l.getD k (0, 0)).2)) := by
  have hj : j < l.length * 2 := by rw [← cellsP_len]; exact (List.getElem?_eq_some_iff.1 h).1
  obtain ⟨h1, h2⟩ := cellsP_at l (j / 2) (by omega)
  rcases Nat.mod_two_eq_zero_or_one j with e | e
  · have ej : j = j / 2 * 2 := by omega
    rw [← ej, h] at h1
    exact ⟨j / 2, by omega, .inl ⟨ej, Option.some.inj h1⟩⟩
  · have ej : j = j / 2 * 2 + 1 := by omega
    rw [← ej, h] at h2
    exact ⟨j / 2, by omega, .inr ⟨ej, Option.some.inj h2⟩⟩
/-- What is appended to a row of the call's own. -/
theorem append2 (base : Nat) (src : List (Nat × Nat)) (v : Value) (W : World) (h : SrcP src W v) (hL : src.length ≤ 100) {v0 : Value} {L0 : List (Nat × Nat)} {n0 : Nat} (hn0 : n0 = L0.length) (hown : W.ownsRow base 126 2 v0 n0 (cellsP L0)) (hL0 : L0.length ≤ 100) (hb : base ≤ W.heap.size) :
    ∃ v' W', (Builtin.append_ #[123, 123] 123 #[v0, v]).run Try.prog W = .ok v' W' ∧ W'.ownsRow base 126 2 v' (L0.length + src.length) (cellsP (L0 ++ src)) ∧ W.grownBy W' v0.ownBlock := by
  subst hn0
  obtain ⟨i0, hi, hz0, hz1, hz2⟩ := info_parts info55
  obtain ⟨ao, cap, rfl, hc⟩ := h
  cases ao with
  | none =>
    obtain rfl : src = [] := by
      cases src with
      | nil => rfl
      | cons a l => obtain ⟨b, o, e, _⟩ := hc 0 (by simp); cases e
    refine ⟨v0, W, ?_, by simpa using hown, World.grownBy.refl W _⟩
    rcases hown.2 with ⟨rfl, h0⟩ | ⟨g, cap', cur, rfl, _, _, hnc, _⟩
    · simp [Builtin.append_, run_underlying Try.underlying123, sizeOf, typeInfo, hi, Builtin.lenOf, Builtin.firstCells]
    · simp [Builtin.append_, run_underlying Try.underlying123, sizeOf, typeInfo, hi, Builtin.lenOf, Builtin.firstCells, hnc, storeCells]
  | some a =>
    have c1 : ∀ j u, (cellsP src)[j]? = some u → W.cell? (a.add j) = some u := fun j u hu => by
      obtain ⟨k, hk, ⟨rfl, rfl⟩ | ⟨rfl, rfl⟩⟩ := cellsP_get src hu
      all_goals
        obtain ⟨b, o, e, h1, h2⟩ := hc k hk
        simp only [Option.some.injEq] at e
        subst e
        rw [Addr.add_lit]
        first | exact h1 | exact h2
    have c2 : ∀ u ∈ cellsP src, u.oneCell' = true := fun u hu => by
      unfold cellsP at hu
      obtain ⟨p, _, hp⟩ := List.mem_flatMap.1 hu
      simp only [List.mem_cons, List.not_mem_nil, or_false] at hp
      rcases hp with rfl | rfl <;> rfl
    obtain ⟨v', w', hr, h2, h3, _⟩ := run_append_own (P := Try.prog) W base 123 123 126 i0 _ 2 16 Try.underlying123 hi hz0 hz1 hz2 rfl (by decide) v0 L0.length _ hown a src.length cap (cellsP src) (cellsP_len src) c1 c2 (by unfold maxLen; omega) (by omega) hb
    exact ⟨v', w', hr, by rw [cellsP_append]; exact h2, h3⟩
theorem run_op_append2 {o : Oper} {a : Act} {w w' : World} {s x : Operand} {v0 v v' : Value} (ho : o.op = .call { callee := .builtin .append, args := #[s, x], argTypes := #[123, 123] }) (ht : o.type = 123) (hs : a.eval s = v0) (hx : a.eval x = v)
    (hr : (Builtin.append_ #[123, 123] 123 #[v0, v]).run Try.prog w = .ok v' w') : (execOp a.eval o).run Try.prog w = .ok (.value v') w' := by
  unfold execOp
  simp only [ho, ht, resolve, invoke, builtin, Sem.run_bind, Sem.run_pure, Result.andThen_ok, List.map_toArray, List.map_cons, List.map_nil, hs, hx, hr]
/-- The pieces of a row. -/
theorem src_take {l : List (Nat × Nat)} {W : World} {g cap k : Nat} (h : ReadsP l W (.slice (some ⟨g, 0, none⟩) l.length cap)) (hk : k ≤ l.length) (c : Nat) : SrcP (l.take k) W (.slice (some ⟨g, 0, none⟩) k c) := by
  obtain ⟨ao, cap', e, hc⟩ := h
  simp only [Value.slice.injEq] at e
  obtain ⟨rfl, _, rfl⟩ := e
  have hl : (l.take k).length = k := by simp; omega
  refine ⟨_, c, by rw [hl], fun j hj => ?_⟩
  rw [hl] at hj
  obtain ⟨b, e, h1, h2⟩ := hc j (by omega)
  simp only [Option.some.injEq, Addr.mk.injEq, and_true] at e
  have hg : (l.take k).getD j (0, 0) = l.getD j (0, 0) := by simp [List.getD, List.getElem?_take, hj]
  rw [hg]
  refine ⟨g, 0, rfl, ?_, ?_⟩
  · rw [Nat.zero_add, e]; exact h1
  · rw [Nat.zero_add, e]; exact h2
theorem src_drop {l : List (Nat × Nat)} {W : World} {g cap k : Nat} (h : ReadsP l W (.slice (some ⟨g, 0, none⟩) l.length cap)) (hk : k ≤ l.length) (a : Addr) (ha : k < l.length → a = ⟨g, k * 2, none⟩) (c : Nat) : SrcP (l.drop k) W (.slice (some a) (l.length - k) c) := by
  obtain ⟨ao, cap', e, hc⟩ := h
  simp only [Value.slice.injEq] at e
  obtain ⟨rfl, _, rfl⟩ := e
  have hl : (l.drop k).length = l.length - k := by simp
  refine ⟨_, c, by rw [hl], fun j hj => ?_⟩
  rw [hl] at hj
  obtain ⟨b, e, h1, h2⟩ := hc (k + j) (by omega)
  simp only [Option.some.injEq, Addr.mk.injEq, and_true] at e
  have hg : (l.drop k).getD j (0, 0) = l.getD (k + j) (0, 0) := by simp [List.getD]
  rw [hg, ha (by omega)]
  refine ⟨g, k * 2, rfl, ?_, ?_⟩
  · rw [show k * 2 + j * 2 = (k + j) * 2 by omega, e]; exact h1
  · rw [show k * 2 + j * 2 = (k + j) * 2 by omega, e]; exact h2
end Go.Proofs.Ytkjloeefcaadlaa
/- The document's own words of a word that may be: out, best. -/
namespace Go.Proofs.Ytkjloeefcaadlaa
open Go.RowKit Go.Shelf Go.Cs
attribute [local go_sem] Oper.semAt_some
theorem fi_none {l : List (Nat × Nat)} {s : Int} (h : fi l s = none) : ∀ p, p ∈ l → (p.1 : Int) ≠ s := fun p hp => by
  unfold fi at h
  rw [List.findIdx?_eq_none_iff] at h
  simpa using h p hp
theorem fi_some {l : List (Nat × Nat)} {s : Int} {k : Nat} (h : fi l s = some k) : k < l.length ∧ ((l.getD k (0, 0)).1 : Int) = s ∧ l = l.take k ++ l.getD k (0, 0) :: l.drop (k + 1) := by
  unfold fi at h
  obtain ⟨hk, h1, _⟩ := List.findIdx?_eq_some_iff_getElem.1 h
  have e : l.getD k (0, 0) = l[k] := by simp [List.getD, hk]
  refine ⟨hk, by rw [e]; simpa using h1, ?_⟩
  rw [e]
  simp
theorem okL_cut {l : List (Nat × Nat)} (h : OkL l) {s : Int} {k : Nat} (hf : fi l s = some k) : outF (enc l) s = (enc (l.take k ++ l.drop (k + 1)), true) := by
  obtain ⟨hk, h1, h2⟩ := fi_some hf
  have hp : l.getD k (0, 0) ∈ l := by simp [List.getD, hk]
  have := out_enc h (s := (l.getD k (0, 0)).1) ⟨_, hp, rfl⟩
  rw [← h1, this]
  have hd := delL_split (a := l.take k) (p := l.getD k (0, 0)) (b := l.drop (k + 1)) (by rw [← h2]; exact h)
  rw [← h2] at hd
  rw [hd]
set_option maxRecDepth 100000 in
theorem out_ref {l : List (Nat × Nat)} (h : OkL l) (s : Int) (w : World) :
    Calls Try.prog 27 #[.int .u64 (enc l), .int .i64 s] w fun e w' => e = .returned (pair (outF (enc l) s)) ∧ New w w' := by
  have HF := Lib.hid (fun w => find_ref h s w)
  have HL := Lib.hid (fun w => list_enc h w)
  cases hf : fi l s with
  | none =>
    rw [out_enc_no h (fi_none hf)]
    rw [hf] at HF
    obtain ⟨x, hx⟩ : ∃ x, enc l = x := ⟨_, rfl⟩
    rw [hx] at HF ⊢
    clear h HL hf hx
    unfold pair optT at *
    go_enter Try.func27, Try.ntmps27
    go_wp2_with fail
    refine (HF.out _).mono ?_
    rintro e w1 ⟨rfl, hN1⟩
    go_wp2_with fail
    go_ret2
    exact ⟨rfl, hN1⟩
  | some k =>
    rw [okL_cut h hf]
    rw [hf] at HF
    obtain ⟨hk, h1, h2⟩ := fi_some hf
    have hok' : InL (l.take k ++ l.drop (k + 1)) := fun p hp => by
      rcases List.mem_append.1 hp with hp | hp
      · exact h.inn p (List.mem_of_mem_take hp)
      · exact h.inn p (List.mem_of_mem_drop hp)
    have h8 := h.len
    have hl' : (l.take k ++ l.drop (k + 1)).length = l.length - 1 := by simp; omega
    have HW := Lib.hid (word_gen (l.take k ++ l.drop (k + 1)) hok' (by omega))
    obtain ⟨z, hz⟩ : ∃ z, enc (l.take k ++ l.drop (k + 1)) = z := ⟨_, rfl⟩
    rw [hz] at HW ⊢
    obtain ⟨x, hx⟩ : ∃ x, enc l = x := ⟨_, rfl⟩
    rw [hx] at HF HL ⊢
    obtain ⟨n, hn⟩ : ∃ n, l.length = n := ⟨_, rfl⟩
    rw [hn] at hk h8 HL hl'
    have Hn := Lib.hid hn
    have Hl' := Lib.hid hl'
    unfold optT at HF
    clear h hf h1 h2 hok' hz hx hn hl'
    unfold pair
    go_enter Try.func27, Try.ntmps27
    go_wp2_with fail
    refine (HF.out _).mono ?_
    rintro e w1 ⟨rfl, hN1⟩
    go_wp2_with fail
    refine (HL.out _).mono ?_
    rintro e w2 ⟨v, rfl, hown, hN2⟩
    have hv := ReadsP.ofOwns Hn.out.symm hown
    obtain ⟨_, ⟨_, h0⟩ | ⟨g, cap, cur, rfl, _, _, hnc, hcm, _⟩⟩ := hown
    · omega
    have hN := hN1.trans hN2
    unfold maxLen at hcm
    rw [← Hn.out] at hv
    obtain ⟨v1, W1, hrun, hown1, hg1⟩ := append2 w.heap.size (l.take k) (.slice (some ⟨g, 0, none⟩) k cap) w2 (src_take hv (by rw [Hn.out]; omega) cap) (by simp; omega) (v0 := .slice none 0 0) (L0 := []) rfl (World.ownsRow_nil _ _ _ _) (by simp) hN.size
    have hNa : New w2 W1 := Mods.grown (Mods.refl _ _) hg1 (fun k hk => by simp [Value.ownBlock] at hk)
    have hsrc : SrcP (l.drop (k + 1)) w2 (.slice (if cap = k + 1 then some ⟨g, 0, none⟩ else some ⟨g, (k + 1) * 2, none⟩) (n - (k + 1)) (cap - (k + 1))) := by
      have hcn := Hn.out
      rw [← hcn] at hnc hk ⊢
      split
      · exact src_drop hv (by omega) _ (fun h => by omega) _
      · exact src_drop hv (by omega) _ (fun _ => rfl) _
    obtain ⟨v2, W2, hrun2, hown2, hg2⟩ := append2 w.heap.size (l.drop (k + 1)) _ W1 (hsrc.new hNa) (by have := Hn.out; simp; omega) (v0 := v1) (L0 := [] ++ l.take k) (by simp) hown1 (by have := Hn.out; simp; omega) (by have := hN.size; have := hNa.size; omega)
    have hlt1 := hown1.lt
    have hNb : New w W2 := ((hN.trans hNa).grown hg2 (fun b hb => .inl (hlt1 b hb).1))
    have hv2 := ReadsP.ofOwns (l := l.take k ++ l.drop (k + 1)) (by simp) hown2
    have HW2 := Lib.hid (HW.out v2 W2 hv2)
    have Hrun := Lib.hid hrun
    have Hrun2 := Lib.hid hrun2
    have hkc : k ≤ cap := by omega
    clear hrun hrun2 hg1 hg2 HF HL hv hv2 hown1 hown2 hsrc hlt1 HW
    go_wp2_with (first | (refine op_value rfl (run_op_append2 rfl rfl rfl rfl Hrun.out) ?_) | (refine op_value rfl (run_op_append2 rfl rfl rfl rfl Hrun2.out) ?_))
    all_goals
      refine HW2.out.mono ?_
      rintro e w3 ⟨rfl, hN3⟩
      go_wp2_with fail
      go_ret2
      exact ⟨rfl, hNb.trans hN3⟩
end Go.Proofs.Ytkjloeefcaadlaa
/- The document's own words of a word that may be: the best one, pushed. -/
namespace Go.Proofs.Ytkjloeefcaadlaa
open Go.RowKit Go.Shelf Go.Cs
attribute [local go_sem] Oper.semAt_some
theorem best_ref {l : List (Nat × Nat)} (h : OkL l) (w : World) :
    Calls Try.prog 23 #[.int .u64 (enc l)] w fun e w' => e = .returned (trip' (bestF (enc l))) ∧ New w w' := by
  have HA := Lib.hid (fun w => at_ref h 0 w)
  cases l with
  | nil =>
    rw [best_enc_nil]
    have e : atR [] 0 = .tuple #[.int .i64 0, .int .i64 0, .bool false] := rfl
    rw [e] at HA
    unfold trip'
    obtain ⟨x, hx⟩ : ∃ x, enc [] = x := ⟨_, rfl⟩
    rw [hx] at HA ⊢
    clear h e hx
    go_enter Try.func23, Try.ntmps23
    go_wp2_with fail
    refine (HA.out _).mono ?_
    rintro e w1 ⟨rfl, hN1⟩
    go_wp2_with fail
    go_ret3
    exact ⟨rfl, hN1⟩
  | cons p t =>
    rw [best_enc_cons h]
    have ho : outF (enc (p :: t)) p.1 = (enc t, true) := by
      have := out_enc h (s := p.1) ⟨p, by simp, rfl⟩
      rw [this]
      have hd := delL_split (a := []) (p := p) (b := t) h
      rw [List.nil_append, List.nil_append] at hd
      rw [hd]
    have HO := Lib.hid (fun w => out_ref h p.1 w)
    rw [ho] at HO
    have e : atR (p :: t) 0 = .tuple #[.int .i64 (p.1 : Nat), .int .i64 (p.2 : Nat), .bool true] := by
      unfold atR
      rw [if_pos ⟨by omega, by simp⟩]
      rfl
    rw [e] at HA
    unfold trip' pair at *
    obtain ⟨x, hx⟩ : ∃ x, enc (p :: t) = x := ⟨_, rfl⟩
    obtain ⟨y, hy⟩ : ∃ x, enc t = x := ⟨_, rfl⟩
    obtain ⟨s, hs⟩ : ∃ s : Nat, p.1 = s := ⟨_, rfl⟩
    obtain ⟨u, hu⟩ : ∃ s : Nat, p.2 = s := ⟨_, rfl⟩
    rw [hx, hs, hu] at HA
    rw [hx, hs, hy] at HO
    rw [hx, hy]
    dsimp only
    rw [hs]
    clear h e hx hy hs hu ho
    go_enter Try.func23, Try.ntmps23
    go_wp2_with fail
    refine (HA.out _).mono ?_
    rintro e w1 ⟨rfl, hN1⟩
    go_wp2_with fail
    refine (HO.out _).mono ?_
    rintro e w2 ⟨rfl, hN2⟩
    go_wp2_with fail
    go_ret3
    exact ⟨rfl, hN1.trans hN2⟩
theorem number_ref (n : Int) (w : World) : Calls Try.prog 72 #[.int .i64 n] w fun e w' => e = .returned (.bool (decide (0 ≤ n ∧ n < 8))) ∧ w = w' := by
  have e : decide (0 ≤ n ∧ n < 8) = (decide (0 ≤ n) && decide (n < 8)) := by simp [Bool.decide_and]
  by_cases c1 : 0 ≤ n
  · have b1 : decide (0 ≤ n) = true := decide_eq_true c1
    rw [e, b1]
    clear e
    go_enter Try.func72, Try.ntmps72
    go_wp2
    go_ret
    exact ⟨rfl, rfl⟩
  · have b1 : decide (0 ≤ n) = false := decide_eq_false c1
    rw [e, b1]
    clear e
    go_enter Try.func72, Try.ntmps72
    go_wp2
    go_ret
    exact ⟨rfl, rfl⟩
/-- Where the urgencies pass that one. -/
theorem sorted_cut {l : List (Nat × Nat)} (h : OkL l) {k u : Nat} (hk : k ≤ l.length) (h1 : ∀ j, j < k → (l.getD j (0, 0)).2 ≤ u) (h2 : k < l.length → u < (l.getD k (0, 0)).2) :
    l.take k = l.filter (fun p => decide (p.2 ≤ u)) ∧ l.drop k = l.filter (fun p => decide (u < p.2)) := by
  have e := List.take_append_drop k l
  have ha : ∀ p, p ∈ l.take k → p.2 ≤ u := fun p hp => by
    obtain ⟨j, hj, rfl⟩ := List.getElem_of_mem hp
    have hj' : j < k ∧ j < l.length := by simp at hj; omega
    have := h1 j hj'.1
    simpa [List.getD, hj'.2] using this
  have hb : ∀ p, p ∈ l.drop k → u < p.2 := fun p hp => by
    obtain ⟨j, hj, rfl⟩ := List.getElem_of_mem hp
    have hj' : k + j < l.length := by simp at hj; omega
    have hu := h2 (by omega)
    have hkk : k < l.length := by omega
    simp only [List.getD, List.getElem?_eq_getElem hkk, Option.getD_some] at hu
    rw [List.getElem_drop]
    by_cases e : j = 0
    · subst e; simpa using hu
    · have := List.pairwise_iff_getElem.1 h.pair k (k + j) hkk hj' (by omega)
      omega
  constructor
  · conv => rhs; rw [← e]
    rw [List.filter_append, List.filter_eq_self.2 (fun p hp => by simpa using ha p hp), List.filter_eq_nil_iff.2 (fun p hp => by have := hb p hp; simp; omega), List.append_nil]
  · conv => rhs; rw [← e]
    rw [List.filter_append, List.filter_eq_nil_iff.2 (fun p hp => by have := ha p hp; simp; omega), List.filter_eq_self.2 (fun p hp => by simpa using hb p hp), List.nil_append]
theorem push_ref_no {l : List (Nat × Nat)} (h : OkL l) (s u : Int) (hn : ¬ canPush l s u) (w : World) :
    Calls Try.prog 21 #[.int .u64 (enc l), .int .i64 s, .int .i64 u] w fun e w' => e = .returned (.tuple #[.int .u64 (enc l : Nat), .bool false]) ∧ New w w' := by
  have HF := Lib.hid (fun w => find_ref h s w)
  have HR := Lib.hid (right_gen (enc l) (enc_lt h))
  rw [right_enc h] at HR
  have Hs := Lib.hid (number_ref s)
  have Hu := Lib.hid (number_ref u)
  obtain ⟨x, hx⟩ : ∃ x, enc l = x := ⟨_, rfl⟩
  rw [hx] at HF HR ⊢
  by_cases c1 : 0 ≤ s ∧ s < 8
  · rw [decide_eq_true c1] at Hs
    by_cases c2 : 0 ≤ u ∧ u < 8
    · rw [decide_eq_true c2] at Hu
      cases hf : fi l s with
      | none => exact absurd ⟨c1.1, c1.2, c2.1, c2.2, fi_none hf⟩ hn
      | some k =>
        rw [hf] at HF
        unfold optT at HF
        clear h hx hn c1 c2 hf
        go_enter Try.func21, Try.ntmps21
        go_wp2_with fail
        refine (HF.out _).mono ?_
        rintro e w1 ⟨rfl, hN1⟩
        go_wp2_with fail
        refine (HR.out _).mono ?_
        rintro e w2 ⟨rfl, hN2⟩
        go_wp2_with fail
        refine (Hs.out _).mono ?_
        rintro e w3 ⟨rfl, rfl⟩
        go_wp2_with fail
        refine (Hu.out _).mono ?_
        rintro e w3 ⟨rfl, rfl⟩
        go_wp2_with fail
        go_ret2
        exact ⟨rfl, hN1.trans hN2⟩
    · rw [decide_eq_false c2] at Hu
      obtain ⟨r, hr⟩ : ∃ r, fi l s = r := ⟨_, rfl⟩
      rw [hr] at HF
      unfold optT at HF
      clear h hx hn c1 c2 hr
      go_enter Try.func21, Try.ntmps21
      go_wp2_with fail
      refine (HF.out _).mono ?_
      rintro e w1 ⟨rfl, hN1⟩
      go_wp2_with fail
      refine (HR.out _).mono ?_
      rintro e w2 ⟨rfl, hN2⟩
      go_wp2_with fail
      refine (Hs.out _).mono ?_
      rintro e w3 ⟨rfl, rfl⟩
      go_wp2_with fail
      refine (Hu.out _).mono ?_
      rintro e w3 ⟨rfl, rfl⟩
      go_wp2_with fail
      go_ret2
      exact ⟨rfl, hN1.trans hN2⟩
  · rw [decide_eq_false c1] at Hs
    obtain ⟨r, hr⟩ : ∃ r, fi l s = r := ⟨_, rfl⟩
    rw [hr] at HF
    unfold optT at HF
    clear h hx hn c1 hr Hu
    go_enter Try.func21, Try.ntmps21
    go_wp2_with fail
    refine (HF.out _).mono ?_
    rintro e w1 ⟨rfl, hN1⟩
    go_wp2_with fail
    refine (HR.out _).mono ?_
    rintro e w2 ⟨rfl, hN2⟩
    go_wp2_with fail
    refine (Hs.out _).mono ?_
    rintro e w3 ⟨rfl, rfl⟩
    go_wp2_with fail
    go_ret2
    exact ⟨rfl, hN1.trans hN2⟩
end Go.Proofs.Ytkjloeefcaadlaa
