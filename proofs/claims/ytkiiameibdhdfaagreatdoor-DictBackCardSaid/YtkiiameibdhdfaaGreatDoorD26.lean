/- How long texts of dictionaries are, by what they hold; how much a text tells. -/
import Derived.Test.YtkiiameibdhdfaaGreatDoorD23
import Derived.Test.YtkiiameibdhdfaaGreatDoorD18
import Derived.Test.YtkiiameibdhdfaaGreatDoorD11
import Derived.Test.YtkiiameibdhdfaaGreatDoorD25
import Derived.Test.YtkiiameibdhdfaaGreatDoorD07
import Derived.Test.YtkiiameibdhdfaaGreatDoorD17
import Derived.Test.YtkiiameibdhdfaaGreatDoorD05
set_option linter.unusedSimpArgs false
set_option linter.unusedVariables false
namespace Go.Proofs.YtkiiameibdhdfaaGreatDoor
set_option linter.unusedVariables false
set_option linter.unusedSimpArgs false
def lsum {α : Type} (f : α → Nat) (L : List α) : Nat := (L.map f).sum
theorem lsum_cons {α : Type} (f : α → Nat) (a : α) (L : List α) : lsum f (a :: L) = f a + lsum f L := by simp [lsum]
theorem lsum_append {α : Type} (f : α → Nat) (L M : List α) : lsum f (L ++ M) = lsum f L + lsum f M := by simp [lsum]
theorem sumTo_cons {α : Type} (f : α → Nat) (a : α) (L : List α) (z : α) : ∀ n, sumTo (fun j => f ((a :: L).getD j z)) (n + 1) = f a + sumTo (fun j => f (L.getD j z)) n
  | 0 => by simp [sumTo]
  | n + 1 => by
    have h := sumTo_cons f a L z n
    show sumTo _ (n + 1) + f ((a :: L).getD (n + 1) z) = _ + (sumTo _ n + f (L.getD n z))
    rw [h]
    simp [List.getD]
    omega
theorem sumTo_list {α : Type} (f : α → Nat) (z : α) : ∀ L : List α, sumTo (fun j => f (L.getD j z)) L.length = lsum f L
  | [] => by simp [sumTo, lsum]
  | a :: L => by
    rw [lsum_cons, ← sumTo_list f z L]
    exact sumTo_cons f a L z L.length
/-- How much a dictionary holds. -/
def wP (p : Bare.Par) : Nat := 1 + (p.key.length + p.bare.text.length)
def wX (x : Bare.Itm) : Nat := 1 + (x.bare.text.length + lsum wP x.params)
def wM (m : Bare.Mem) : Nat := 1 + (m.key.length + (lsum wX m.items + lsum wP m.params))
def wD (d : List Bare.Mem) : Nat := lsum wM d
theorem lsum_le {α : Type} {f g : α → Nat} {L : List α} (h : ∀ a ∈ L, f a ≤ g a) : lsum f L ≤ lsum g L := by
  induction L with
  | nil => exact Nat.le_refl _
  | cons a L ih =>
    rw [lsum_cons, lsum_cons]
    have := h a (by simp)
    have := ih fun b hb => h b (by simp [hb])
    omega
theorem lsum_mul {α : Type} (c : Nat) (f : α → Nat) (L : List α) : lsum (fun a => c * f a) L = c * lsum f L := by
  induction L with
  | nil => simp [lsum]
  | cons a L ih => rw [lsum_cons, lsum_cons, ih, Nat.mul_add]
theorem lsum_one {α : Type} (L : List α) : lsum (fun _ => 1) L = L.length := by
  induction L with
  | nil => rfl
  | cons a L ih => rw [lsum_cons, ih, List.length_cons]; omega
theorem lsum_plus {α : Type} (f g : α → Nat) (L : List α) : lsum (fun a => f a + g a) L = lsum f L + lsum g L := by
  induction L with
  | nil => rfl
  | cons a L ih => rw [lsum_cons, lsum_cons, lsum_cons, ih]; omega
theorem told_w (L : List Bare.Par) : (Bare.told L).length ≤ 102 * lsum wP L := by
  induction L with
  | nil => simp [Bare.told]
  | cons p L ih =>
    rw [Bare.told_cons, lsum_cons]
    have := valued_len p.bare
    simp only [List.length_cons, List.length_append]
    have e : wP p = 1 + (p.key.length + p.bare.text.length) := rfl
    omega
theorem toldI_w (x : Bare.Itm) : (Bare.toldI x).length ≤ 102 * wX x := by
  have := told_w x.params
  have := text_len x.bare
  unfold Bare.toldI wX
  rw [List.length_append]
  omega
theorem joinW_w (sep : Bare.Bs) : ∀ L : List Bare.Bs, (Bare.joinW sep L).length ≤ lsum (fun l => l.length + sep.length) L
  | [] => by simp [Bare.joinW]
  | [a] => by simp [Bare.joinW, lsum]
  | a :: b :: r => by
    have h := joinW_w sep (b :: r)
    rw [lsum_cons]
    show (a ++ (sep ++ Bare.joinW sep (b :: r))).length ≤ _
    rw [List.length_append, List.length_append]
    omega
theorem lsum_map {α β : Type} (f : β → Nat) (g : α → β) (L : List α) : lsum f (L.map g) = lsum (fun a => f (g a)) L := by simp [lsum, Function.comp_def]
theorem toldM_w (m : Bare.Mem) : (Bare.toldM m).length ≤ 103 * wM m := by
  have h1 := told_w m.params
  unfold Bare.toldM
  split
  · have h2 := joinW_w [32] (m.items.map Bare.toldI)
    rw [lsum_map] at h2
    have h3 : lsum (fun a => (Bare.toldI a).length + ([32] : Bare.Bs).length) m.items ≤ lsum (fun a => 103 * wX a) m.items := lsum_le fun a _ => by
      have := toldI_w a
      have : 1 ≤ wX a := by unfold wX; omega
      simp
      omega
    rw [lsum_mul] at h3
    simp only [List.length_append, List.length_cons]
    unfold wM
    omega
  · have h2 := valued_len (m.items.headD Bare.noI).bare
    have h3 := told_w (m.items.headD Bare.noI).params
    rw [List.length_append, List.length_append]
    unfold wM
    cases hl : m.items with
    | nil =>
      rw [hl] at h2 h3
      simp only [List.headD_nil] at h2 h3 ⊢
      have e1 : Bare.noI.bare.text.length = 0 := rfl
      have e2 : lsum wP Bare.noI.params = 0 := rfl
      rw [e1] at h2
      rw [e2] at h3
      omega
    | cons x r =>
      rw [hl] at h2 h3
      simp only [List.headD_cons] at h2 h3 ⊢
      rw [lsum_cons]
      have : wX x = 1 + (x.bare.text.length + lsum wP x.params) := rfl
      omega
theorem joinD_w (d : List Bare.Mem) : (Bare.joinW [44, 32] (d.map Bare.toldM)).length ≤ 105 * wD d := by
  have h2 := joinW_w [44, 32] (d.map Bare.toldM)
  rw [lsum_map] at h2
  have h3 : lsum (fun a => (Bare.toldM a).length + ([44, 32] : Bare.Bs).length) d ≤ lsum (fun a => 105 * wM a) d := lsum_le fun a _ => by
    have := toldM_w a
    have : 1 ≤ wM a := by unfold wM; omega
    simp
    omega
  rw [lsum_mul] at h3
  unfold wD
  omega
theorem wD_sums (d : List Bare.Mem) : wD d = dN d d.length + dB d d.length := by
  have hp : ∀ L : List Bare.Par, lsum wP L = L.length + psB L L.length := fun L => by
    unfold psB
    rw [sumTo_list pB noP L, ← lsum_one L, ← lsum_plus]
    rfl
  have hx : ∀ x : Bare.Itm, wX x = 1 + (x.params.length + xB x) := fun x => by
    unfold wX xB
    rw [hp]
    omega
  have hX : ∀ L : List Bare.Itm, lsum wX L = L.length + (xsN L L.length + xsB L L.length) := fun L => by
    unfold xsN xsB
    rw [sumTo_list (fun x : Bare.Itm => x.params.length) Bare.noI L, sumTo_list xB Bare.noI L, ← lsum_one L, ← lsum_plus, ← lsum_plus]
    congr 1
    funext x
    exact hx x
  have hm : ∀ m : Bare.Mem, wM m = 1 + (mN m + mB m) := fun m => by
    unfold wM mN mB
    rw [hX, hp]
    omega
  unfold wD dN dB
  rw [sumTo_list mN noM d, sumTo_list mB noM d, ← lsum_one d, Nat.add_assoc, ← lsum_plus, ← lsum_plus]
  congr 1
  funext m
  exact hm m
end Go.Proofs.YtkiiameibdhdfaaGreatDoor
/- How much what is parsed holds, plainly. -/
namespace Go.Proofs.YtkiiameibdhdfaaGreatDoor
set_option linter.unusedVariables false
set_option linter.unusedSimpArgs false
theorem quoted_w : ∀ (n : Nat) (s acc rest : Bare.Bs) (b : Bare.It), s.length ≤ n → Bare.quoted acc s = some (b, rest) → b.text.length + rest.length ≤ acc.length + s.length
  | _, [], _, _, _, _, h => by cases h
  | 0, c :: r, _, _, _, hn, _ => by simp at hn
  | n + 1, c :: r, acc, rest, b, hn, h => by
    rw [Bare.quoted_cons] at h
    split at h
    · cases h
    · split at h
      · cases h
        simp
      · split at h
        · cases r with
          | nil => cases h
          | cons d r' =>
            simp only at h
            split at h
            · have := quoted_w n r' (acc ++ [d]) rest b (by simp at hn; omega) h
              simp at this ⊢
              omega
            · cases h
        · have := quoted_w n r (acc ++ [c]) rest b (by simp at hn; omega) h
          simp at this ⊢
          omega
theorem parse_w {s rest : Bare.Bs} {b : Bare.It} (h : Bare.parseI s = some (b, rest)) : b.text.length + rest.length ≤ s.length := by
  have hlen := Bare.parseI_len h
  cases s with
  | nil => cases h
  | cons c r =>
    rw [Bare.parseI_cons] at h
    split at h
    · rw [number_txt h]; simp; simp at hlen; omega
    split at h
    · simp only [Option.some.injEq, Prod.mk.injEq] at h
      obtain ⟨rfl, rfl⟩ := h
      have := Bare.takeWhile_len Bare.inTok (c :: r)
      simp only [List.length_drop]
      omega
    split at h
    · have := quoted_w r.length r [] rest b (Nat.le_refl _) h
      simp at this ⊢
      omega
    split at h
    · unfold Bare.packed at h
      have hl := Bare.takeWhile_len (· != 58) r
      obtain ⟨i, hi⟩ : ∃ x, r.takeWhile (· != 58) = x := ⟨_, rfl⟩
      rw [hi] at hl
      simp only [hi] at h
      split at h
      · cases h
      · cases hu : Bare.unsix i with
        | none => rw [hu] at h; cases h
        | some t =>
          rw [hu] at h
          simp only [Option.map_some, Option.some.injEq, Prod.mk.injEq] at h
          obtain ⟨rfl, rfl⟩ := h
          have := unsix_ln hu
          simp
          omega
    split at h
    · cases r with
      | nil => cases h
      | cons d r' =>
        simp only at h
        split at h
        · simp only [Option.some.injEq, Prod.mk.injEq] at h
          obtain ⟨rfl, rfl⟩ := h
          simp
          omega
        · cases h
    · cases h
theorem readKey_w {s k r : Bare.Bs} (h : Bare.readKey s = some (k, r)) : k.length + r.length ≤ s.length := by
  have h1 := readKey_txt h
  unfold Bare.readKey at h
  simp only at h
  split at h
  · cases h
  · cases h
    simp only [List.length_drop]
    omega
theorem readVal_w {s r : Bare.Bs} {b : Bare.It} (h : Bare.readVal s = some (b, r)) : b.text.length + r.length ≤ s.length := by
  unfold Bare.readVal at h
  split at h
  · have := parse_w h
    simp
    omega
  · cases h; simp [Bare.yesI]
theorem one_le_sum' {α : Type} {c : α → Prop} [DecidablePred c] {l : List α} {q : α} (hq : q ∈ l) (hc : c q) : 1 ≤ (l.map fun q => if c q then 1 else 0).sum := by
  induction l with
  | nil => cases hq
  | cons a l ih =>
    simp only [List.map_cons, List.sum_cons]
    rcases List.mem_cons.1 hq with rfl | h
    · rw [if_pos hc]; omega
    · have := ih h; omega
theorem lsum_replace {α : Type} (f : α → Nat) (c : α → Prop) [DecidablePred c] (p : α) (l : List α) (hone : (l.map fun q => if c q then 1 else 0).sum ≤ 1) : lsum f (l.map fun q => if c q then p else q) ≤ lsum f l + f p := by
  induction l with
  | nil => simp [lsum]
  | cons a l ih =>
    rw [List.map_cons, lsum_cons, lsum_cons]
    simp only [List.map_cons, List.sum_cons] at hone
    by_cases h : c a
    · rw [if_pos h] at hone
      rw [if_pos h]
      have hz : ∀ q ∈ l, ¬ c q := fun q hq hc => by
        have : 1 ≤ (l.map fun q => if c q then 1 else 0).sum := one_le_sum' hq hc
        omega
      have e : (l.map fun q => if c q then p else q) = l := by
        conv => rhs; rw [← List.map_id l]
        apply List.map_congr_left
        intro q hq
        rw [if_neg (hz q hq)]; rfl
      rw [e]
      omega
    · rw [if_neg h] at hone ⊢
      have := ih (by omega)
      omega
theorem alone_one : ∀ {l : List Bare.Bs} (k : Bare.Bs), Bare.aloneB l = true → (l.map fun q => if q = k then 1 else 0).sum ≤ 1
  | [], _, _ => by simp
  | a :: l, k, h => by
    obtain ⟨h1, h2, h3⟩ := Bare.aloneB_append (a := [a]) (b := l) h
    have ih := alone_one k h2
    simp only [List.map_cons, List.sum_cons]
    by_cases e : a = k
    · rw [if_pos e]
      have hz : (l.map fun q => if q = k then 1 else 0).sum = 0 := by
        rw [List.sum_eq_zero_iff_forall_eq_nat]
        intro x hx
        obtain ⟨q, hq, rfl⟩ := List.mem_map.1 hx
        rw [if_neg]
        intro e'
        exact h3 q hq (by rw [e', ← e]; simp)
      omega
    · rw [if_neg e]; omega
theorem setP_w {l : List Bare.Par} {p : Bare.Par} (h : Bare.aloneB (l.map (·.key)) = true) : lsum wP (Bare.setP l p) ≤ lsum wP l + wP p := by
  unfold Bare.setP
  split
  · refine lsum_replace wP (fun q : Bare.Par => q.key = p.key) p l ?_
    have := alone_one p.key h
    rw [List.map_map] at this
    exact this
  · rw [lsum_append, lsum_cons]
    simp [lsum]
theorem setM_w {l : List Bare.Mem} {p : Bare.Mem} (h : Bare.aloneB (l.map (·.key)) = true) : lsum wM (Bare.setM l p) ≤ lsum wM l + wM p := by
  unfold Bare.setM
  split
  · refine lsum_replace wM (fun q : Bare.Mem => q.key = p.key) p l ?_
    have := alone_one p.key h
    rw [List.map_map] at this
    exact this
  · rw [lsum_append, lsum_cons]
    simp [lsum]
theorem readParams_w : ∀ (n : Nat) (s : Bare.Bs) (l ps : List Bare.Par) (r : Bare.Bs), s.length ≤ n → Bare.paramsB l = true → Bare.readParams l s = some (ps, r) → lsum wP ps + r.length ≤ lsum wP l + s.length := by
  intro n
  induction n with
  | zero =>
    intro s l ps r hn hl h
    have : s = [] := List.length_eq_zero_iff.1 (by omega)
    subst this
    rw [Bare.readParams_end l [] (by simp)] at h
    cases h; exact Nat.le_refl _
  | succ n ih =>
    intro s l ps r hn hl h
    rw [Bare.readParams.eq_def] at h
    split at h
    · rename_i r0
      split at h
      · cases h
      · rename_i k r1 h1
        split at h
        · cases h
        · rename_i b r2 h2
          have a1 := readKey_w h1
          have a2 := readVal_w h2
          have a3 := Bare.skip_len [32] r0
          have a4 := Bare.readKey_len h1
          simp only [List.length_cons] at hn ⊢
          have i1 := ih r2 _ ps r (by omega) (Bare.setP_right hl (Bare.readKey_right h1) (Bare.readVal_right h2)) h
          have hal : Bare.aloneB (l.map (·.key)) = true := by
            unfold Bare.paramsB at hl
            exact (Bool.and_eq_true_iff.1 hl).1
          have i2 := setP_w (p := ⟨k, b⟩) hal
          have e : wP ⟨k, b⟩ = 1 + (k.length + b.text.length) := rfl
          omega
    · cases h; exact Nat.le_refl _
theorem readItem_w {s r : Bare.Bs} {x : Bare.Itm} (h : Bare.readItem s = some (x, r)) : wX x + r.length ≤ s.length + 1 := by
  unfold Bare.readItem at h
  split at h
  · cases h
  · rename_i b r1 h1
    split at h
    · cases h
    · rename_i ps r2 h2
      cases h
      have t1 := parse_w h1
      have t2 := readParams_w _ r1 [] ps r (Nat.le_refl _) rfl h2
      have e : wX ⟨b, ps⟩ = 1 + (b.text.length + lsum wP ps) := rfl
      have e0 : lsum wP ([] : List Bare.Par) = 0 := rfl
      omega
theorem skip_none' {c : UInt8} {t : Bare.Bs} (h : c = 41) : Bare.skipB [32] (c :: t) = c :: t := by subst h; rfl
theorem readInner_w : ∀ (n : Nat) (s : Bare.Bs) (l ps : List Bare.Itm) (r : Bare.Bs), s.length ≤ n → Bare.readInner l s = some (ps, r) → lsum wX ps + r.length ≤ lsum wX l + (Bare.skipB [32] s).length := by
  intro n
  induction n with
  | zero =>
    intro s l ps r hn h
    have : s = [] := List.length_eq_zero_iff.1 (by omega)
    subst this
    rw [Bare.readInner.eq_def] at h
    simp [Bare.skipB, Bare.readItem, Bare.parseI] at h
  | succ n ih =>
    intro s l ps r hn h
    have a2 := Bare.skip_len [32] s
    rw [Bare.readInner.eq_def] at h
    split at h
    · rename_i r0 h0
      cases h
      rw [h0]
      simp
    · split at h
      · cases h
      · rename_i x r1 h1
        have a1 := Bare.readItem_len h1
        have b1 := readItem_w h1
        split at h
        · rename_i hc
          have i1 := ih r1 _ ps r (by omega) h
          rw [lsum_append, lsum_cons] at i1
          have e0 : lsum wX ([] : List Bare.Itm) = 0 := rfl
          rcases hc with hc | hc
          · cases r1 with
            | nil => cases hc
            | cons c t =>
              obtain rfl : c = 41 := by simpa using hc
              rw [Bare.readInner_close] at h
              cases h
              rw [lsum_append, lsum_cons]
              simp only [List.length_cons] at b1
              omega
          · cases r1 with
            | nil => cases hc
            | cons c t =>
              obtain rfl : c = 32 := by simpa using hc
              have e : Bare.skipB [32] (32 :: t) = Bare.skipB [32] t := rfl
              have a3 := Bare.skip_len [32] t
              rw [e] at i1
              simp only [List.length_cons] at b1
              omega
        · cases h
theorem readMem_w {s r : Bare.Bs} {m : Bare.Mem} (h : Bare.readMem s = some (m, r)) : wM m + r.length ≤ s.length + 2 := by
  unfold Bare.readMem at h
  split at h
  · cases h
  · rename_i k r0 h0
    have a0 := readKey_w h0
    have e0 : lsum wP ([] : List Bare.Par) = 0 := rfl
    have e1 : lsum wX ([] : List Bare.Itm) = 0 := rfl
    unfold Bare.readRest at h
    split at h
    · rename_i r1
      split at h
      · cases h
      · rename_i items r2 h2
        split at h
        · cases h
        · rename_i ps r3 h3
          cases h
          simp only [List.length_cons] at a0
          have i1 := readInner_w _ r1 [] items r2 (Nat.le_refl _) h2
          have i2 := Bare.skip_len [32] r1
          have i3 := readParams_w _ r2 [] ps r (Nat.le_refl _) rfl h3
          show 1 + (k.length + (lsum wX items + lsum wP ps)) + _ ≤ _
          omega
    · rename_i r1 _
      split at h
      · cases h
      · rename_i x r2 h2
        cases h
        simp only [List.length_cons] at a0
        have i1 := readItem_w h2
        show 1 + (k.length + (lsum wX [x] + lsum wP [])) + _ ≤ _
        rw [lsum_cons]
        omega
    · split at h
      · cases h
      · rename_i ps r2 h2
        cases h
        have i3 := readParams_w _ r0 [] ps r (Nat.le_refl _) rfl h2
        show 1 + (k.length + (lsum wX [⟨Bare.yesI, ps⟩] + lsum wP [])) + _ ≤ _
        rw [lsum_cons]
        have e2 : wX ⟨Bare.yesI, ps⟩ = 1 + (0 + lsum wP ps) := rfl
        omega
theorem readD_w : ∀ (n : Nat) (s : Bare.Bs) (d e : List Bare.Mem), s.length ≤ n → Bare.rightD d = true → Bare.readD d s = some e → wD e ≤ wD d + 3 * s.length := by
  intro n
  induction n with
  | zero =>
    intro s d e hn hd h
    have : s = [] := List.length_eq_zero_iff.1 (by omega)
    subst this
    rw [Bare.readD.eq_def] at h
    cases h; exact Nat.le_refl _
  | succ n ih =>
    intro s d e hn hd h
    rw [Bare.readD.eq_def] at h
    split at h
    · cases h; omega
    · rename_i c l
      split at h
      · cases h
      · rename_i m r h1
        obtain ⟨k1, k2⟩ := Bare.readMem_right h1
        have hm := Bare.setM_right hd k1 k2
        have hal : Bare.aloneB (d.map (·.key)) = true := by
          unfold Bare.rightD at hd
          exact (Bool.and_eq_true_iff.1 hd).1
        have i2 := setM_w (p := m) hal
        have i3 := readMem_w h1
        have a1 := Bare.readMem_len h1
        unfold wD
        split at h
        · cases h
          omega
        · split at h
          · rename_i r2 h2
            simp only at h
            split at h
            · cases h
            · have a2 := Bare.skip_len [32, 9] r
              rw [h2] at a2
              have a3 := Bare.skip_len [32, 9] r2
              simp only [List.length_cons] at a1 a2 hn i3 ⊢
              have i1 := ih _ _ e (by omega) hm h
              unfold wD at i1
              omega
          · cases h
theorem parse_wD {s : Bare.Bs} {d : List Bare.Mem} (h : Bare.parseD s = some d) : wD d ≤ 3 * s.length := by
  unfold Bare.parseD at h
  have a1 := Bare.skip_len [32] s
  have a2 : (Bare.trimR 32 (Bare.skipB [32] s)).length ≤ (Bare.skipB [32] s).length := by
    have : ∀ l : Bare.Bs, (Bare.trimR 32 l).length ≤ l.length := fun l => by
      unfold Bare.trimR
      simp only [List.length_reverse]
      have := Bare.drop_len (fun x => x == 32) l.reverse
      simp at this
      exact this
    exact this _
  have i1 := readD_w _ _ [] d (Nat.le_refl _) rfl h
  have e0 : wD [] = 0 := rfl
  omega
end Go.Proofs.YtkiiameibdhdfaaGreatDoor
/- DictBack, walked. -/
namespace Go.Proofs.YtkiiameibdhdfaaGreatDoor
open Go.RowKit Go.Shelf Go.Cs
attribute [local go_sem] Oper.semAt_some
set_option linter.unusedVariables false
set_option linter.unusedSimpArgs false
def KindD (d : List Bare.Mem) : Prop := ∀ m ∈ d, (∀ x ∈ m.items, 0 ≤ x.bare.kind ∧ ∀ p ∈ x.params, 0 ≤ p.bare.kind) ∧ ∀ p ∈ m.params, 0 ≤ p.bare.kind
theorem prD_mk {d : List Bare.Mem} (hl : d.length ≤ 500) (hk : KindD d) (h : ∀ m ∈ d, m.key.length ≤ 2000 ∧ m.items.length ≤ 500 ∧ m.params.length ≤ 500 ∧ (∀ p ∈ m.params, p.key.length ≤ 2000 ∧ p.bare.text.length ≤ 2000) ∧ ∀ x ∈ m.items, x.bare.text.length ≤ 2000 ∧ x.params.length ≤ 500 ∧ ∀ p ∈ x.params, p.key.length ≤ 2000 ∧ p.bare.text.length ≤ 2000) : PrD d := by
  refine ⟨hl, fun m hm => ?_⟩
  obtain ⟨h1, h2, h3, h4, h5⟩ := h m hm
  obtain ⟨k1, k2⟩ := hk m hm
  have hx : ∀ x ∈ m.items, PrX x := fun x hx => by
    obtain ⟨a1, a2, a3⟩ := h5 x hx
    obtain ⟨b1, b2⟩ := k1 x hx
    exact ⟨⟨b1, by omega, by omega, fun p hp => ⟨by have := (a3 p hp).1; omega, b2 p hp, by have := (a3 p hp).2; omega⟩⟩, a2⟩
  exact ⟨⟨by omega, by omega, by omega, fun x hm => (hx x hm).1, fun p hp => ⟨by have := (h4 p hp).1; omega, k2 p hp, by have := (h4 p hp).2; omega⟩⟩, h2, h3, hx⟩
theorem InD.kinds {d : List Bare.Mem} (h : InD d) : KindD d := fun m hm => by
  obtain ⟨-, -, h3, h4⟩ := h.2 m hm
  exact ⟨fun x hx => ⟨(h3 x hx).1.1.1, fun p hp => ((h3 x hx).2.2.2 p hp).1.1.1⟩, fun p hp => (h4.2 p hp).1.1.1⟩
theorem InD.strs {d : List Bare.Mem} (h : InD d) : Str47 d := fun j hj => by
  have hs : S47 = 140737488355328 := rfl
  obtain ⟨h1, -, h3, h4⟩ := h.2 _ (getD_mem (d := noM) hj)
  have hp : ∀ {L : List Bare.Par}, InP L → Str47P L := fun hL k hk => by
    obtain ⟨-, a, b⟩ := hL.2 _ (getD_mem (d := noP) hk)
    rw [reach_num] at a b
    exact ⟨by omega, by omega⟩
  rw [reach_num] at h1
  refine ⟨by omega, hp h4, fun k hk => ?_⟩
  obtain ⟨-, a, b⟩ := h3 _ (getD_mem (d := Bare.noI) hk)
  rw [reach_num] at a
  exact ⟨by omega, hp b⟩
theorem right_kinds {d : List Bare.Mem} (h : Bare.rightD d = true) : KindD d := fun m hm => by
  have hd := (Bool.and_eq_true_iff.1 h).2
  have hM := List.all_eq_true.1 hd m hm
  obtain ⟨-, -, h3, h4⟩ := Bare.mem_parts hM
  have hk : ∀ {b : Bare.It}, Bare.rightI b = true → 0 ≤ b.kind := fun hb => by have := right_kind hb; omega
  refine ⟨fun x hx => ?_, fun p hp => hk (List.all_eq_true.1 h3 p hp)⟩
  obtain ⟨a, -, b⟩ := Bare.item_parts (List.all_eq_true.1 h4 x hx)
  exact ⟨hk a, fun p hp => hk (List.all_eq_true.1 b p hp)⟩
theorem small_pr {d : List Bare.Mem} (hk : KindD d) (hn : dN d d.length ≤ 40) (hb : dB d d.length ≤ 2000) : PrD d ∧ (Bare.joinW [44, 32] (d.map Bare.toldM)).length ≤ 300000 := by
  obtain ⟨h1, h2⟩ := small_parts hn hb
  refine ⟨prD_mk (by omega) hk fun m hm => ?_, ?_⟩
  · obtain ⟨a1, a2, a3, a4, a5⟩ := h2 m hm
    exact ⟨a1, by omega, by omega, a4, fun x hx => by obtain ⟨b1, b2, b3⟩ := a5 x hx; exact ⟨b1, by omega, b3⟩⟩
  · have := joinD_w d
    have := wD_sums d
    omega
theorem parsed_pr {s : Bare.Bs} {d : List Bare.Mem} (hs : s.length ≤ 300) (h : Bare.parseD s = some d) : PrD d ∧ (Bare.joinW [44, 32] (d.map Bare.toldM)).length ≤ 300000 := by
  obtain ⟨h1, h2⟩ := parse_sz (by decide) hs h
  refine ⟨prD_mk (by omega) (right_kinds (Bare.dict_may h).1) fun m hm => ?_, ?_⟩
  · obtain ⟨a1, a2, a3, a4⟩ := h2 m hm
    exact ⟨by omega, by omega, by have := a3.1; omega, fun p hp => by have := a3.2 p hp; omega, fun x hx => by
      obtain ⟨b1, b2, b3⟩ := a4 x hx
      exact ⟨by omega, by omega, fun p hp => by have := b3 p hp; omega⟩⟩
  · have := joinD_w d
    have := parse_wD h
    omega
theorem bl_cat (a b : ByteArray) : bl (a ++ b) = bl a ++ bl b := by rw [cat_bl, bl_tx]
set_option maxHeartbeats 8000000 in
set_option maxRecDepth 100000 in
theorem back_d (v : Value) (d : List Bare.Mem) (s : ByteArray) (w : World) (hd : RdD false w v d) (hI : InD d) (hs : s.size ≤ 9223372036854775807) (hT : Tab w) :
    Calls Tryz.prog 6 #[v, .string s] w fun e w' => e = .returned (.bool true) ∧ New w w' := by
  have HWk := Lib.hid (fun W (hN : New w W) => wakes_d W (hT.new hN))
  have HGr := great13 v d w hd hI.strs
  have hkd := hI.kinds
  have HD := Lib.hid hd
  have HT := Lib.hid hT
  obtain ⟨ao, cap, rfl⟩ := hd.slice
  obtain ⟨n, hn⟩ : ∃ n, d.length = n := ⟨_, rfl⟩
  have Hn := Lib.hid hn
  rw [hn] at HD HGr ⊢
  clear hd hI hT hn
  go_enter Tryz.func6, Tryz.ntmps6
  go_wp2_with fail
  refine HGr.mono ?_
  rintro e w1 ⟨g, rfl, hN, hg⟩
  cases g with
  | true =>
    clear hg
    go_wp2_with fail
    refine (HWk.out _ hN).mono ?_
    rintro e w2 ⟨rfl, hk⟩
    go_wp2_with fail
    go_ret
    exact ⟨rfl, hN.trans hk⟩
  | false =>
    obtain ⟨hdn, hdb⟩ := hg rfl
    by_cases h300 : 300 < s.size
    · have hgt : decide ((300 : Int) < (s.size : Int)) = true := decide_eq_true (by omega)
      clear hg
      go_wp2_with fail
      refine (HWk.out _ hN).mono ?_
      rintro e w2 ⟨rfl, hk⟩
      go_wp2_with fail
      go_ret
      exact ⟨rfl, hN.trans hk⟩
    · have hgt : decide ((300 : Int) < (s.size : Int)) = false := decide_eq_false (by omega)
      rw [← Hn.out] at hdn hdb
      obtain ⟨hpr, hjl⟩ := small_pr hkd hdn hdb
      have hs300 : (bl s).length ≤ 300 := by rw [bl_len]; omega
      have HPr := Lib.hid (fun W (hN : New w W) => print_d _ d W (HD.out.new hN) hpr (HT.out.new hN))
      have HRi := Lib.hid (fun W (hN : New w W) => right_d _ d W (HD.out.new hN) (fun m hm => (hpr.2 m hm).1))
      have HSm := Lib.hid (fun (a : Option Addr) (c : Nat) W (hN : New w W) (ho : RdD true W (.slice a n c) d) => (rsame_d _ _ d d W ho (HD.out.new hN)).mono (R' := fun e w' => e = .returned (.bool true) ∧ New W w') (by rintro e w' ⟨rfl, h⟩; exact ⟨by rw [decide_eq_true rfl], h⟩))
      clear hg hdn hdb hkd HGr hpr
      cases hr : Bare.rightD d with
      | false =>
        have hpn : Bare.printD d = none := by unfold Bare.printD; rw [if_neg (by rw [hr]; decide)]
        rw [hr] at HRi
        rw [hpn] at HPr
        unfold printV at HPr
        clear hr hpn hjl
        go_wp2_with fail
        refine (HPr.out _ hN).mono ?_
        rintro e w2 ⟨rfl, hk⟩
        replace hN := hN.trans hk
        clear hk
        go_wp2_with fail
        refine (HRi.out _ hN).mono ?_
        rintro e w3 ⟨rfl, hk⟩
        replace hN := hN.trans hk
        clear hk
        cases hq : Bare.parseD (bl s) with
        | none =>
          have HPn := Lib.hid (fun W (hN : New w W) => parse_no s hq W (by omega) (HT.out.new hN))
          clear hq
          go_wp2_with fail
          refine (HPn.out _ hN).mono ?_
          rintro e w7 ⟨rfl, hk⟩
          replace hN := hN.trans hk
          clear hk
          go_wp2_with fail
          refine (HWk.out _ hN).mono ?_
          rintro e w8 ⟨rfl, hk⟩
          go_wp2_with fail
          go_ret
          exact ⟨rfl, hN.trans hk⟩
        | some q =>
          have HPs := Lib.hid (fun W (hN : New w W) => parse_ok s q q.length hq rfl W (by omega) (HT.out.new hN))
          obtain ⟨hpr, hjl⟩ := parsed_pr hs300 hq
          obtain ⟨hrq, hy, hpy⟩ := Bare.dict_may hq
          obtain ⟨y, hyy⟩ : ∃ y, Bare.joinW [44, 32] (q.map Bare.toldM) = y := ⟨_, rfl⟩
          rw [hyy] at hy hpy hjl
          have hyl : y.length ≤ 300000 := hjl
          clear hyy
          have HPq := Lib.hid (fun v W (hN : New w W) (h : RdD true W v q) => print_d v q W h hpr (HT.out.new hN))
          have HRq := Lib.hid (fun v W (hN : New w W) (h : RdD true W v q) => right_d v q W h (fun m hm => (hpr.2 m hm).1))
          rw [hy] at HPq
          rw [hrq] at HRq
          unfold printV at HPq
          simp only at HPq
          have HPy := Lib.hid (fun W (hN : New w W) => parse_ok (tx y) q q.length (by rw [bl_tx]; exact hpy) rfl W (by rw [tx_size]; omega) (HT.out.new hN))
          clear hq hpr hjl hrq hy hpy hyl hs300
          obtain ⟨Y, hY⟩ : ∃ Y, tx y = Y := ⟨_, rfl⟩
          rw [hY] at HPq HPy
          clear hY
          go_wp2_with fail
          refine (HPs.out _ hN).mono ?_
          rintro e w7 ⟨qa, qc, rfl, hQ, hk⟩
          replace hN := hN.trans hk
          clear hk
          go_wp2_with fail
          refine (HPq.out _ _ hN hQ).mono ?_
          rintro e w8 ⟨rfl, hk⟩
          replace hN := hN.trans hk
          replace hQ := hQ.new hk
          clear hk
          go_wp2_with fail
          refine (HPy.out _ hN).mono ?_
          rintro e w9 ⟨va, vc, rfl, hV, hk⟩
          replace hN := hN.trans hk
          replace hQ := hQ.new hk
          clear hk
          go_wp2_with fail
          refine (HRq.out _ _ hN hQ).mono ?_
          rintro e wa ⟨rfl, hk⟩
          replace hN := hN.trans hk
          replace hQ := hQ.new hk
          replace hV := hV.new hk
          clear hk
          go_wp2_with fail
          refine (rsame_d _ _ q q _ hV hQ).mono ?_
          rintro e wb ⟨rfl, hk⟩
          replace hN := hN.trans hk
          clear hk hV hQ
          rw [decide_eq_true rfl]
          go_wp2_with fail
          refine (HWk.out _ hN).mono ?_
          rintro e wc ⟨rfl, hk⟩
          go_wp2_with fail
          go_ret
          exact ⟨rfl, hN.trans hk⟩
      | true =>
        have hps : Bare.printD d = some (Bare.joinW [44, 32] (d.map Bare.toldM)) := by unfold Bare.printD; rw [if_pos hr]
        have hb0 := Bare.dict_back hr 0 0
        have hb1 := Bare.dict_back hr 2 1
        rw [hps] at HPr
        unfold printV at HPr
        obtain ⟨t, ht⟩ : ∃ t, Bare.joinW [44, 32] (d.map Bare.toldM) = t := ⟨_, rfl⟩
        rw [ht] at HPr hb0 hb1 hjl
        simp only at HPr
        have e0 : List.replicate 0 (32 : UInt8) ++ t ++ List.replicate 0 32 = bl (tx t) := by rw [bl_tx]; simp
        have e1 : List.replicate 2 (32 : UInt8) ++ t ++ List.replicate 1 32 = bl (⟨#[32, 32]⟩ ++ tx t ++ ⟨#[32]⟩) := by
          rw [bl_cat, bl_cat, bl_tx]; rfl
        rw [e0] at hb0
        rw [e1] at hb1
        have hts : (tx t).size ≤ 300000 := by rw [tx_size]; exact hjl
        have hts2 : (⟨#[32, 32]⟩ ++ tx t ++ ⟨#[32]⟩ : ByteArray).size ≤ 1000000 := by
          rw [ByteArray.size_append, ByteArray.size_append]
          show 2 + (tx t).size + 1 ≤ _
          omega
        have HP0 := Lib.hid (fun W (hN : New w W) => parse_ok (tx t) d n hb0 Hn.out W (by omega) (HT.out.new hN))
        have HP1 := Lib.hid (fun W (hN : New w W) => parse_ok (⟨#[32, 32]⟩ ++ tx t ++ ⟨#[32]⟩) d n hb1 Hn.out W hts2 (HT.out.new hN))
        obtain ⟨T, hT⟩ : ∃ T, tx t = T := ⟨_, rfl⟩
        rw [hT] at HPr HP0 HP1 hts
        clear hr hps hjl hb0 hb1 e0 e1 hts2 ht hT
        have hsz0 : (⟨#[32, 32]⟩ : ByteArray).size = 2 := rfl
        have hsz1 : (⟨#[32]⟩ : ByteArray).size = 1 := rfl
        go_wp2_with fail
        refine (HPr.out _ hN).mono ?_
        rintro e w2 ⟨rfl, hk⟩
        replace hN := hN.trans hk
        clear hk
        go_wp2_with fail
        refine (HP0.out _ hN).mono ?_
        rintro e w3 ⟨oa, oc, rfl, hO, hk⟩
        replace hN := hN.trans hk
        clear hk
        go_wp2_with fail
        refine (HP1.out _ hN).mono ?_
        rintro e w4 ⟨pa, pc, rfl, hP, hk⟩
        replace hO := hO.new hk
        replace hN := hN.trans hk
        clear hk
        go_wp2_with fail
        refine (HSm.out oa oc _ hN hO).mono ?_
        rintro e w5 ⟨rfl, hk⟩
        replace hP := hP.new hk
        replace hN := hN.trans hk
        clear hk hO
        go_wp2_with fail
        refine (HSm.out pa pc _ hN hP).mono ?_
        rintro e w6 ⟨rfl, hk⟩
        replace hN := hN.trans hk
        clear hk hP HP0 HP1 HPr HSm
        cases hq : Bare.parseD (bl s) with
        | none =>
          have HPn := Lib.hid (fun W (hN : New w W) => parse_no s hq W (by omega) (HT.out.new hN))
          clear hq
          go_wp2_with fail
          refine (HPn.out _ hN).mono ?_
          rintro e w7 ⟨rfl, hk⟩
          replace hN := hN.trans hk
          clear hk
          go_wp2_with fail
          refine (HWk.out _ hN).mono ?_
          rintro e w8 ⟨rfl, hk⟩
          go_wp2_with fail
          go_ret
          exact ⟨rfl, hN.trans hk⟩
        | some q =>
          have HPs := Lib.hid (fun W (hN : New w W) => parse_ok s q q.length hq rfl W (by omega) (HT.out.new hN))
          obtain ⟨hpr, hjl⟩ := parsed_pr hs300 hq
          obtain ⟨hrq, hy, hpy⟩ := Bare.dict_may hq
          obtain ⟨y, hyy⟩ : ∃ y, Bare.joinW [44, 32] (q.map Bare.toldM) = y := ⟨_, rfl⟩
          rw [hyy] at hy hpy hjl
          have hyl : y.length ≤ 300000 := hjl
          clear hyy
          have HPq := Lib.hid (fun v W (hN : New w W) (h : RdD true W v q) => print_d v q W h hpr (HT.out.new hN))
          have HRq := Lib.hid (fun v W (hN : New w W) (h : RdD true W v q) => right_d v q W h (fun m hm => (hpr.2 m hm).1))
          rw [hy] at HPq
          rw [hrq] at HRq
          unfold printV at HPq
          simp only at HPq
          have HPy := Lib.hid (fun W (hN : New w W) => parse_ok (tx y) q q.length (by rw [bl_tx]; exact hpy) rfl W (by rw [tx_size]; omega) (HT.out.new hN))
          clear hq hpr hjl hrq hy hpy hyl hs300
          obtain ⟨Y, hY⟩ : ∃ Y, tx y = Y := ⟨_, rfl⟩
          rw [hY] at HPq HPy
          clear hY
          go_wp2_with fail
          refine (HPs.out _ hN).mono ?_
          rintro e w7 ⟨qa, qc, rfl, hQ, hk⟩
          replace hN := hN.trans hk
          clear hk
          go_wp2_with fail
          refine (HPq.out _ _ hN hQ).mono ?_
          rintro e w8 ⟨rfl, hk⟩
          replace hN := hN.trans hk
          replace hQ := hQ.new hk
          clear hk
          go_wp2_with fail
          refine (HPy.out _ hN).mono ?_
          rintro e w9 ⟨va, vc, rfl, hV, hk⟩
          replace hN := hN.trans hk
          replace hQ := hQ.new hk
          clear hk
          go_wp2_with fail
          refine (HRq.out _ _ hN hQ).mono ?_
          rintro e wa ⟨rfl, hk⟩
          replace hN := hN.trans hk
          replace hQ := hQ.new hk
          replace hV := hV.new hk
          clear hk
          go_wp2_with fail
          refine (rsame_d _ _ q q _ hV hQ).mono ?_
          rintro e wb ⟨rfl, hk⟩
          replace hN := hN.trans hk
          clear hk hV hQ
          rw [decide_eq_true rfl]
          go_wp2_with fail
          refine (HWk.out _ hN).mono ?_
          rintro e wc ⟨rfl, hk⟩
          go_wp2_with fail
          go_ret
          exact ⟨rfl, hN.trans hk⟩
end Go.Proofs.YtkiiameibdhdfaaGreatDoor
