/- Taken out, the best one, turned, rows: on lists. -/
import Derived.Test.YtkjloeefcaadlaaE3
namespace Go.Proofs.Ytkjloeefcaadlaa
/-- Who may be pushed. -/
def canPush (l : List (Nat × Nat)) (s u : Int) : Prop := 0 ≤ s ∧ s < 8 ∧ 0 ≤ u ∧ u < 8 ∧ ∀ p, p ∈ l → (p.1 : Int) ≠ s
theorem push_enc_no {l : List (Nat × Nat)} (h : OkL l) {s u : Int} (hn : ¬ canPush l s u) : pushF (enc l) s u = (enc l, false) := by
  unfold pushF
  rw [if_neg]
  intro hok
  apply hn
  simp only [pushOk, Bool.and_eq_true, Option.isNone_iff_eq_none] at hok
  obtain ⟨⟨⟨hf, _⟩, hs⟩, hu⟩ := hok
  obtain ⟨s0, s8⟩ := numB_iff.1 hs
  obtain ⟨u0, u8⟩ := numB_iff.1 hu
  refine ⟨s0, s8, u0, u8, fun p hp e => ?_⟩
  obtain ⟨a, b, rfl⟩ := List.append_of_mem hp
  rw [← e, find_enc_some h] at hf
  cases hf
theorem push_enc_any {l : List (Nat × Nat)} (h : OkL l) {s u : Int} (hc : canPush l s u) : pushF (enc l) s u = (enc (insL l s.toNat u.toNat), true) := by
  obtain ⟨s0, s8, u0, u8, hn⟩ := hc
  obtain ⟨s, rfl⟩ := Int.eq_ofNat_of_zero_le s0
  obtain ⟨u, rfl⟩ := Int.eq_ofNat_of_zero_le u0
  exact push_enc h (by omega) (by omega) (fun p hp => by have := hn p hp; omega)
theorem outX_enc {a b : List (Nat × Nat)} {p : Nat × Nat} (h : InL (a ++ p :: b)) (h8 : (a ++ p :: b).length ≤ 8) : outX (enc (a ++ p :: b)) a.length = enc (a ++ b) := by
  have hl : a.length + b.length < 8 := by simp at h8; omega
  have hb : InL b := fun q hq => h q (by simp [hq])
  have hA := encT_lt h.left
  have hB := encT_lt hb
  have hd := digit_lt (h p (by simp))
  unfold outX
  rw [enc_div h h8, enc_mod h h8, encT_low h.left]
  unfold enc
  obtain ⟨k, hk⟩ : ∃ k, a.length = k := ⟨_, rfl⟩
  obtain ⟨m, hm⟩ : ∃ k, b.length = k := ⟨_, rfl⟩
  rw [encT_append, encT_append, encT, List.length_append, List.length_append, List.length_cons, hk, hm, Nat.add_sub_cancel_left]
  rw [hk] at hA
  rw [hm] at hB
  rw [hk, hm] at hl
  obtain ⟨A, hA'⟩ : ∃ A, encT a = A := ⟨_, rfl⟩
  obtain ⟨B, hB'⟩ : ∃ A, encT b = A := ⟨_, rfl⟩
  obtain ⟨d, hd'⟩ : ∃ A, digit p = A := ⟨_, rfl⟩
  rw [hA'] at hA ⊢
  rw [hB'] at hB ⊢
  rw [hd'] at hd ⊢
  have e1 : 2 ^ (7 * k) * (d + 128 * B) / 2 ^ (7 * (k + 1)) = B := by
    rw [show 7 * (k + 1) = 7 * k + 7 by omega, Nat.pow_add, ← Nat.div_div_eq_div_mul, Nat.mul_div_cancel_left _ (Nat.two_pow_pos _)]
    omega
  rw [e1, show k + (m + 1) - 1 = k + m by omega]
  have hP : 2 ^ (7 * m) * 2 ^ (7 * k) ≤ 2 ^ 49 := by
    rw [← Nat.pow_add]
    exact Nat.pow_le_pow_right (by decide) (by omega)
  have hBK : B * 2 ^ (7 * k) + 2 ^ (7 * k) ≤ 2 ^ 49 := by
    have : (B + 1) * 2 ^ (7 * k) ≤ 2 ^ (7 * m) * 2 ^ (7 * k) := Nat.mul_le_mul_right _ hB
    rw [Nat.add_mul, Nat.one_mul] at this
    omega
  have j1 : (k + m) * 2 ^ 60 ||| B * 2 ^ (7 * k) % 18446744073709551616 = (k + m) * 2 ^ 60 + B * 2 ^ (7 * k) := by
    rw [Nat.mod_eq_of_lt (by omega)]
    exact nat_join 60 _ _ (Nat.mul_mod_left _ _) (by omega)
  have hz : ((k + m) * 2 ^ 60 + B * 2 ^ (7 * k)) % 2 ^ (7 * k) = 0 := by
    have e1 : (k + m) * 2 ^ 60 = (k + m) * 2 ^ (60 - 7 * k) * 2 ^ (7 * k) := by rw [Nat.mul_assoc, ← Nat.pow_add, show 60 - 7 * k + 7 * k = 60 by omega]
    rw [e1, ← Nat.add_mul, Nat.mul_mod_left]
  have j2 := nat_join (7 * k) _ A hz hA
  rw [j1, j2, Nat.mul_comm (2 ^ (7 * k)) B]
  omega
/-- Without a slot. -/
def delL (l : List (Nat × Nat)) (s : Nat) : List (Nat × Nat) := l.filter (fun p => p.1 != s)
theorem delL_split {a b : List (Nat × Nat)} {p : Nat × Nat} (h : OkL (a ++ p :: b)) : delL (a ++ p :: b) p.1 = a ++ b := by
  have hp := List.pairwise_append.1 h.pair
  have hp2 := List.pairwise_cons.1 hp.2.1
  unfold delL
  rw [List.filter_append, List.filter_cons_of_neg (by simp), List.filter_eq_self.2 (fun q hq => ?_), List.filter_eq_self.2 (fun q hq => ?_)]
  · have := (hp2.1 q hq).1; simp; omega
  · have := (hp.2.2 q hq p (by simp)).1; simpa using this
theorem delL_ok {l : List (Nat × Nat)} (h : OkL l) (s : Nat) : OkL (delL l s) :=
  ⟨fun p hp => h.inn p (List.mem_filter.1 hp).1, h.pair.filter _⟩
theorem delL_mem {l : List (Nat × Nat)} {s : Nat} {p : Nat × Nat} : p ∈ delL l s ↔ p ∈ l ∧ p.1 ≠ s := by simp [delL, List.mem_filter]
theorem outF_some {x k : Nat} {s : Int} (h : findK x s = some k) : outF x s = (outX x k, true) := by unfold outF; rw [h]
theorem outF_none {x : Nat} {s : Int} (h : findK x s = none) : outF x s = (x, false) := by unfold outF; rw [h]
theorem turnF_yes {x k o v : Nat} {s u : Int} {a : Nat} {b : Bool} (h1 : outF x s = (o, true)) (h2 : findK x s = some k) (h3 : atF x (k : Nat) = (a, v, b)) (hu : numB u = true) (hv : (v : Int) ≠ u) : turnF x s u = pushF o s u := by
  unfold turnF
  rw [h1, h2, Option.getD_some, h3, hu]
  have : ((v : Int) == u) = false := by simpa using hv
  rw [this]
  rfl
theorem turnF_no {x k v : Nat} {s u : Int} {a : Nat} {b : Bool} (h2 : findK x s = some k) (h3 : atF x (k : Nat) = (a, v, b)) (hu : (v : Int) = u ∨ numB u = false) : turnF x s u = (x, false) := by
  unfold turnF
  rw [h2, Option.getD_some, h3, if_neg]
  intro hc
  simp only [Bool.and_eq_true, Bool.not_eq_true', beq_eq_false_iff_ne, ne_eq] at hc
  rcases hu with hu | hu
  · exact hc.2 hu
  · rw [hu] at hc; exact absurd hc.1.2 (by simp)
theorem turnF_none {x : Nat} {s : Int} (u : Int) (h : findK x s = none) : turnF x s u = (x, false) := by
  unfold turnF
  rw [outF_none h]
  rfl
theorem bestF_some {x o s v : Nat} {b : Bool} (h : atF x 0 = (s, v, true)) (ho : outF x s = (o, b)) : bestF x = (o, s, true) := by
  unfold bestF
  rw [h, ho]
  rfl
theorem out_enc {l : List (Nat × Nat)} (h : OkL l) {s : Nat} (hs : ∃ p, p ∈ l ∧ p.1 = s) : outF (enc l) s = (enc (delL l s), true) := by
  obtain ⟨a, p, b, rfl, rfl⟩ := slot_split hs
  rw [outF_some (find_enc_some h), delL_split h, outX_enc h.inn h.len]
theorem out_enc_no {l : List (Nat × Nat)} (h : OkL l) {s : Int} (hs : ∀ p, p ∈ l → (p.1 : Int) ≠ s) : outF (enc l) s = (enc l, false) :=
  outF_none (find_enc_none h hs)
theorem best_enc_cons {p : Nat × Nat} {l : List (Nat × Nat)} (h : OkL (p :: l)) : bestF (enc (p :: l)) = (enc l, p.1, true) := by
  have ha := at_enc (a := []) h
  simp only [List.nil_append, List.length_nil] at ha
  have hd := delL_split (a := []) h
  simp only [List.nil_append] at hd
  have ho := out_enc h ⟨p, by simp, rfl⟩
  rw [hd] at ho
  exact bestF_some ha ho
theorem best_enc_nil : bestF (enc []) = (enc [], 0, false) := by decide +kernel
/-- Of which urgency a slot is: it is turned if it is there, of another one. -/
theorem turn_enc {a b : List (Nat × Nat)} {p : Nat × Nat} (h : OkL (a ++ p :: b)) {u : Nat} (hu : u < 8) (hne : p.2 ≠ u) : turnF (enc (a ++ p :: b)) p.1 u = (enc (insL (a ++ b) p.1 u), true) := by
  have hp := h.inn p (by simp)
  have hd := delL_split h
  have ho := out_enc h ⟨p, by simp, rfl⟩
  rw [hd] at ho
  have hno : ∀ q, q ∈ a ++ b → q.1 ≠ p.1 := fun q hq => by
    rw [← hd, delL_mem] at hq
    exact hq.2
  have hok : OkL (a ++ b) := by rw [← hd]; exact delL_ok h _
  rw [turnF_yes ho (find_enc_some h) (at_enc h) (numB_iff.2 ⟨by omega, by omega⟩) (by omega)]
  exact push_enc hok hp.1 hu hno
theorem turn_enc_same {a b : List (Nat × Nat)} {p : Nat × Nat} (h : OkL (a ++ p :: b)) {u : Int} (he : (p.2 : Int) = u ∨ u < 0 ∨ 8 ≤ u) : turnF (enc (a ++ p :: b)) p.1 u = (enc (a ++ p :: b), false) := by
  refine turnF_no (find_enc_some h) (at_enc h) (he.imp id fun h => ?_)
  cases hb : numB u with
  | false => rfl
  | true => have := numB_iff.1 hb; omega
theorem turn_enc_no {l : List (Nat × Nat)} (h : OkL l) {s : Int} (u : Int) (hs : ∀ p, p ∈ l → (p.1 : Int) ≠ s) : turnF (enc l) s u = (enc l, false) :=
  turnF_none u (find_enc_none h hs)
/-- One row. -/
def rowL (l : List (Nat × Nat)) (u : Nat) : List Int := (l.filter (fun p => p.2 == u)).map fun p => (p.1 : Int)
theorem rows_take {l : List (Nat × Nat)} (h : OkL l) (u : Nat) : ∀ k, k ≤ l.length → rowsX (enc l) k u = rowL (l.take k) u
  | 0, _ => rfl
  | k + 1, hk => by
    have hkl : k < l.length := by omega
    have hmem : l.getD k (0, 0) ∈ l := by rw [List.getD, List.getElem?_eq_getElem (by omega)]; simp
    have hp := h.inn _ hmem
    have hpl := place_at h.inn h.len (k := k) (by omega)
    have htake : l.take (k + 1) = l.take k ++ [l.getD k (0, 0)] := by rw [List.take_succ_eq_append_getElem hkl]; simp [List.getD, hkl]
    have ih := rows_take h u k (by omega)
    unfold rowL at ih ⊢
    rw [rowsX_succ, hpl, digit_slot hp, digit_urgency hp, htake, List.filter_append, List.map_append]
    obtain ⟨p, hpe⟩ : ∃ p, l.getD k (0, 0) = p := ⟨_, rfl⟩
    rw [hpe]
    by_cases hu : u = p.2
    · rw [if_pos hu, ← hu, ih]
      simp [hu]
    · rw [if_neg hu, ih]
      simp [Ne.symm hu]
theorem rows_enc {l : List (Nat × Nat)} (h : OkL l) : rowsF (enc l) = rowL l := by
  funext u
  unfold rowsF
  rw [right_enc h, if_pos rfl, enc_div h.inn h.len, rows_take h u _ (Nat.le_refl _), List.take_length]
end Go.Proofs.Ytkjloeefcaadlaa
