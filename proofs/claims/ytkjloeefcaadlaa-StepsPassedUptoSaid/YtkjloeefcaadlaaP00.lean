/- Threads that share a word, step by step: plain. -/
set_option linter.unusedSimpArgs false
set_option linter.unusedVariables false
namespace Go.Proofs.Ytkjloeefcaadlaa
/-- A deed: what, which slot, which urgency. -/
structure Dn where
  d : Nat
  s : Int
  u : Int
def Dn.no : Dn := ⟨0, 0, 0⟩
def dEq (p q : Dn) : Bool := p.d == q.d && (p.s == q.s && p.u == q.u)
theorem dEq_iff {p q : Dn} : dEq p q = true ↔ p = q := by
  obtain ⟨a, b, c⟩ := p
  obtain ⟨a', b', c'⟩ := q
  simp [dEq]
structure Th where
  left : List Dn
  loaded : Bool
  seen : Nat
  moment : Int
def Th.no : Th := ⟨[], false, 0, 0⟩
structure Mo where
  thread : Int
  deed : Dn
  beg : Int
  en : Int
  slot : Int
  ok : Bool
def Mo.no : Mo := ⟨0, .no, 0, 0, 0, false⟩
structure Ma where
  word : Nat
  clock : Int
  ths : List Th
  hist : List Mo
def isD (d : Nat) : Bool := decide (d = 1) || (decide (d = 3) || (decide (d = 4) || decide (d = 2)))
def allD (l : List Dn) : Bool := l.all fun p => isD p.d
def momR (i : Nat) (t : Th) (h : Mo) : Bool := decide (h.thread = i) && (dEq h.deed (t.left.getD 0 .no) && decide (h.en = -1))
def thR (hist : List Mo) (i : Nat) (t : Th) : Bool :=
  allD t.left && (if t.moment = -1 then !t.loaded else (decide (0 ≤ t.moment) && (decide (t.moment < hist.length) && decide (0 < t.left.length))) && momR i t (hist.getD t.moment.toNat .no))
def thsR (m : Ma) (n : Nat) : Bool := (List.range n).all fun i => thR m.hist i (m.ths.getD i .no)
section
variable (D : Nat → Dn → Nat × Nat × Bool) (R : Nat → Bool)
def rightM (m : Ma) : Bool := decide (0 ≤ m.clock) && (decide (m.clock ≤ 4611686018427387904) && (decide (m.ths.length ≤ 3) && (R m.word && thsR m m.ths.length)))
def readT (m : Ma) (t : Th) : Th := { t with loaded := true, seen := m.word, moment := if t.moment < 0 then m.hist.length else t.moment }
def readM (m : Ma) (i : Nat) (t : Th) : Ma :=
  { word := m.word, clock := m.clock, ths := m.ths.set i (readT m t), hist := if t.moment < 0 then m.hist ++ [⟨i, t.left.getD 0 .no, m.clock, -1, 0, false⟩] else m.hist }
def swapM (m : Ma) (i : Nat) (t : Th) : Ma :=
  if (D t.seen (t.left.getD 0 .no)).2.2 = true ∧ m.word ≠ t.seen then { m with ths := m.ths.set i { t with loaded := false, seen := 0 } }
  else { word := if (D t.seen (t.left.getD 0 .no)).2.2 then (D t.seen (t.left.getD 0 .no)).1 else m.word, clock := m.clock,
         ths := m.ths.set i { left := t.left.drop 1, loaded := false, seen := 0, moment := -1 },
         hist := m.hist.set t.moment.toNat { m.hist.getD t.moment.toNat .no with en := m.clock, slot := (D t.seen (t.left.getD 0 .no)).2.1, ok := (D t.seen (t.left.getD 0 .no)).2.2 } }
def goM (m : Ma) (i : Nat) : Ma :=
  if (m.ths.getD i .no).loaded then swapM D { m with clock := m.clock + 1 } i (m.ths.getD i .no) else readM { m with clock := m.clock + 1 } i (m.ths.getD i .no)
def mayM (m : Ma) (i : Int) : Bool := rightM R m && (decide (0 ≤ i) && (decide (i < m.ths.length) && decide (0 < (m.ths.getD i.toNat .no).left.length)))
def stepM (m : Ma) (i : Int) : Ma × Bool := if mayM R m i then (goM D m i.toNat, true) else (m, false)
/-- A run: the machine, and how many steps were done. -/
def runM (m : Ma) : List Int → Ma × Nat
  | [] => (m, 0)
  | i :: is => ((runM (stepM D R m i).1 is).1, (if (stepM D R m i).2 then 1 else 0) + (runM (stepM D R m i).1 is).2)
/-- A machine at its beginning. -/
def newT (l : List Dn) : Th := ⟨l, false, 0, -1⟩
def manyL (ls : List (List Dn)) : Nat := (ls.map List.length).sum
def newOk (w : Nat) (ls : List (List Dn)) : Bool := R w && (decide (ls.length ≤ 3) && (ls.all allD && decide (manyL ls ≤ 8)))
def newM (w : Nat) (ls : List (List Dn)) : Ma := ⟨w, 0, ls.map newT, []⟩
def noneM : Ma := ⟨0, 0, [], []⟩
/-- The order that is looked for. -/
def bit (left k : Nat) : Bool := left / 2 ^ k % 2 == 1
def waitsM (l : List Mo) (i left : Nat) : Bool := (List.range l.length).any fun k => decide (k ≠ i) && (bit left k && (decide ((l.getD k .no).en ≠ -1) && decide ((l.getD k .no).en < (l.getD i .no).beg)))
def overM (l : List Mo) (left : Nat) : Bool := (List.range l.length).all fun k => !(bit left k && decide ((l.getD k .no).en ≠ -1))
def ansM (r : Nat × Nat × Bool) (h : Mo) : Bool := decide (h.en = -1) || (decide ((r.2.1 : Int) = h.slot) && (r.2.2 == h.ok))
def fromM (l : List Mo) (to : Nat) : Nat → Nat → Nat → Bool
  | 0, _, _ => false
  | f + 1, w, left => (decide (w = to) && overM l left) || (List.range l.length).any fun i => (bit left i && !(waitsM l i left)) && (ansM (D w (l.getD i .no).deed) (l.getD i .no) && fromM l to f (D w (l.getD i .no).deed).1 (left - 2 ^ i))
def linM (frm : Nat) (l : List Mo) (to : Nat) : Bool := decide (l.length ≤ 8) && (R frm && (l.all fun h => isD h.deed.d)) && fromM D l to 9 frm (2 ^ l.length - 1)
end
end Go.Proofs.Ytkjloeefcaadlaa
/- An order of moments is found, if there is one: plain. -/
namespace Go.Proofs.Ytkjloeefcaadlaa
theorem bit_fin : ∀ x : Fin 256, ∀ i : Fin 8, ∀ k : Fin 8, bit x.val i.val = true → bit (x.val - 2 ^ i.val) k.val = (bit x.val k.val && decide (k.val ≠ i.val)) := by decide +kernel
theorem bit_clear {x i : Nat} (hx : x < 256) (hi : i < 8) (h : bit x i = true) {k : Nat} (hk : k < 8) : bit (x - 2 ^ i) k = (bit x k && decide (k ≠ i)) := bit_fin ⟨x, hx⟩ ⟨i, hi⟩ ⟨k, hk⟩ h
theorem bit_full : ∀ n : Fin 9, ∀ k : Fin 8, bit (2 ^ n.val - 1) k.val = decide (k.val < n.val) := by decide +kernel
theorem full_lt : ∀ n : Fin 9, 2 ^ n.val - 1 < 256 := by decide
/-- Moments done one behind the other, each with its answer. -/
def plays (D : Nat → Dn → Nat × Nat × Bool) (H : Nat → Mo) : Nat → List Nat → Nat → Prop
  | w, [], w' => w = w'
  | w, i :: σ, w' => (((D w (H i).deed).2.1 : Nat) : Int) = (H i).slot ∧ (D w (H i).deed).2.2 = (H i).ok ∧ plays D H (D w (H i).deed).1 σ w'
theorem plays_congr {D : Nat → Dn → Nat × Nat × Bool} {H H' : Nat → Mo} : ∀ {σ : List Nat} {w w' : Nat}, (∀ i ∈ σ, H' i = H i) → plays D H w σ w' → plays D H' w σ w'
  | [], _, _, _, h => h
  | i :: σ, w, w', he, h => by
    have hi := he i (by simp)
    unfold plays at h ⊢
    rw [hi]
    exact ⟨h.1, h.2.1, plays_congr (fun j hj => he j (by simp [hj])) h.2.2⟩
theorem plays_app {D : Nat → Dn → Nat × Nat × Bool} {H : Nat → Mo} : ∀ {σ τ : List Nat} {w w' w'' : Nat}, plays D H w σ w' → plays D H w' τ w'' → plays D H w (σ ++ τ) w''
  | [], _, _, _, _, h, k => by unfold plays at h; subst h; exact k
  | i :: σ, τ, w, w', w'', h, k => by
    unfold plays at h
    rw [List.cons_append]
    unfold plays
    exact ⟨h.1, h.2.1, plays_app h.2.2 k⟩
theorem plays_cut {D : Nat → Dn → Nat × Nat × Bool} {H : Nat → Mo} : ∀ {σ τ : List Nat} {w w' w'' : Nat}, plays D H w σ w' → plays D H w (σ ++ τ) w'' → plays D H w' τ w''
  | [], _, _, _, _, h, k => by unfold plays at h; subst h; exact k
  | i :: σ, τ, w, w', w'', h, k => by
    unfold plays at h
    rw [List.cons_append] at k
    unfold plays at k
    exact plays_cut h.2.2 k.2.2
/-- An order that is good is found. -/
theorem from_found {D : Nat → Dn → Nat × Nat × Bool} {l : List Mo} (hl : l.length ≤ 8) {to : Nat} : ∀ (f : Nat) (σ : List Nat) (w left : Nat), σ.length < f → left < 256 →
    (∀ i ∈ σ, i < l.length ∧ bit left i = true) → (∀ k, k < l.length → bit left k = true → k ∈ σ ∨ (l.getD k .no).en = -1) → σ.Nodup →
    σ.Pairwise (fun i j => ¬ ((l.getD j .no).en ≠ -1 ∧ (l.getD j .no).en < (l.getD i .no).beg)) → plays D (fun i => l.getD i .no) w σ to → fromM D l to f w left = true
  | 0, _, _, _, h, _, _, _, _, _, _ => by omega
  | f + 1, [], w, left, _, _, _, hin, _, _, hp => by
    unfold plays at hp
    have ho : overM l left = true := by
      unfold overM
      rw [List.all_eq_true]
      intro k hk
      rw [List.mem_range] at hk
      cases hb : bit left k with
      | false => rfl
      | true =>
        rcases hin k hk hb with h | h
        · simp at h
        · rw [h]; rfl
    unfold fromM
    simp [hp, ho]
  | f + 1, i :: σ, w, left, hlen, hlt, hbit, hin, hnd, hord, hp => by
    unfold plays at hp
    obtain ⟨h1, h2, h3⟩ := hp
    rw [List.pairwise_cons] at hord
    rw [List.nodup_cons] at hnd
    obtain ⟨hil, hib⟩ := hbit i (by simp)
    have hw : waitsM l i left = false := by
      unfold waitsM
      rw [List.any_eq_false]
      intro k hk
      rw [List.mem_range] at hk
      simp only [Bool.and_eq_true, decide_eq_true_eq, not_and]
      intro hki hkb hke hlt'
      rcases hin k hk hkb with h | h
      · rcases List.mem_cons.1 h with h | h
        · exact hki h
        · exact hord.1 k h ⟨hke, hlt'⟩
      · exact hke h
    have ha : ansM (D w (l.getD i .no).deed) (l.getD i .no) = true := by
      unfold ansM
      rw [h1, h2]
      simp
    have hrec := from_found hl f σ _ (left - 2 ^ i) (by simp at hlen; omega) (Nat.lt_of_le_of_lt (Nat.sub_le _ _) hlt)
      (fun j hj => by
        obtain ⟨a, b⟩ := hbit j (by simp [hj])
        refine ⟨a, ?_⟩
        rw [bit_clear hlt (by omega) hib (by omega), b]
        have : j ≠ i := fun e => hnd.1 (e ▸ hj)
        simp [this])
      (fun k hk hb => by
        rw [bit_clear hlt (by omega) hib (by omega), Bool.and_eq_true] at hb
        rcases hin k hk hb.1 with h | h
        · rcases List.mem_cons.1 h with h | h
          · subst h; simp at hb
          · exact .inl h
        · exact .inr h) hnd.2 hord.2 h3
    unfold fromM
    rw [Bool.or_eq_true]
    right
    rw [List.any_eq_true]
    refine ⟨i, List.mem_range.2 hil, ?_⟩
    rw [hib, hw, ha, hrec]
    rfl
end Go.Proofs.Ytkjloeefcaadlaa
/- A step of a machine: what may be behind it. -/
namespace Go.Proofs.Ytkjloeefcaadlaa
/-- A thread that may be. -/
def ThOk (hist : List Mo) (i : Nat) (t : Th) : Prop :=
  allD t.left = true ∧ ((t.moment = -1 ∧ t.loaded = false) ∨ ∃ j : Nat, t.moment = j ∧ j < hist.length ∧ 0 < t.left.length ∧ hist.getD j .no = { hist.getD j .no with thread := i, deed := t.left.getD 0 .no, en := -1 })
theorem mo_eq {h : Mo} {i : Int} {d : Dn} : h = { h with thread := i, deed := d, en := -1 } ↔ h.thread = i ∧ h.deed = d ∧ h.en = -1 := by
  obtain ⟨a, b, c, e, s, o⟩ := h
  simp
theorem thR_iff {hist : List Mo} {i : Nat} {t : Th} : thR hist i t = true ↔ ThOk hist i t := by
  unfold thR ThOk momR
  rw [Bool.and_eq_true]
  apply and_congr_right
  intro _
  by_cases hm : t.moment = -1
  · rw [if_pos hm]
    constructor
    · intro h; left; exact ⟨hm, by simpa using h⟩
    · rintro (⟨_, h⟩ | ⟨j, h, _⟩)
      · simp [h]
      · omega
  · rw [if_neg hm]
    simp only [Bool.and_eq_true, decide_eq_true_eq, dEq_iff]
    constructor
    · rintro ⟨⟨h1, h2, h3⟩, h4, h5, h6⟩
      right
      refine ⟨t.moment.toNat, by omega, by omega, h3, mo_eq.2 ⟨h4, h5, h6⟩⟩
    · rintro (⟨h, _⟩ | ⟨j, h1, h2, h3, h4⟩)
      · exact absurd h hm
      · rw [h1, Int.toNat_natCast]
        obtain ⟨a, b, c⟩ := mo_eq.1 h4
        exact ⟨⟨by omega, by omega, h3⟩, a, b, c⟩
section
variable {D : Nat → Dn → Nat × Nat × Bool} {R : Nat → Bool}
theorem rightM_iff {m : Ma} : rightM R m = true ↔ 0 ≤ m.clock ∧ m.clock ≤ 4611686018427387904 ∧ m.ths.length ≤ 3 ∧ R m.word = true ∧ ∀ i, i < m.ths.length → ThOk m.hist i (m.ths.getD i .no) := by
  unfold rightM thsR
  simp only [Bool.and_eq_true, decide_eq_true_eq, List.all_eq_true, List.mem_range, thR_iff]
theorem mayM_iff {m : Ma} {i : Int} : mayM R m i = true ↔ rightM R m = true ∧ ∃ k : Nat, i = k ∧ k < m.ths.length ∧ 0 < (m.ths.getD k .no).left.length := by
  unfold mayM
  simp only [Bool.and_eq_true, decide_eq_true_eq]
  apply and_congr_right
  intro _
  constructor
  · rintro ⟨a, b, c⟩
    exact ⟨i.toNat, by omega, by omega, c⟩
  · rintro ⟨k, rfl, b, c⟩
    exact ⟨by omega, by omega, by rw [Int.toNat_natCast]; exact c⟩
theorem stepM_go {m : Ma} {k : Nat} (h : mayM R m k = true) : stepM D R m k = (goM D m k, true) := by
  unfold stepM; rw [if_pos h, Int.toNat_natCast]
theorem stepM_no {m : Ma} {i : Int} (h : mayM R m i = false) : stepM D R m i = (m, false) := by
  unfold stepM; rw [h]; simp
theorem getD_set {α : Type} {l : List α} {i k : Nat} {x d : α} : (l.set i x).getD k d = if i = k ∧ k < l.length then x else l.getD k d := by
  simp only [List.getD, List.getElem?_set]
  by_cases h : i = k
  · subst h
    by_cases h2 : i < l.length
    · simp [h2]
    · simp [h2]
  · simp [h]
theorem getD_snoc {α : Type} {l : List α} {k : Nat} {x d : α} : (l ++ [x]).getD k d = if k < l.length then l.getD k d else if k = l.length then x else d := by
  simp only [List.getD]
  by_cases h : k < l.length
  · rw [if_pos h, List.getElem?_append_left h]
  · rw [if_neg h, List.getElem?_append_right (by omega)]
    by_cases h2 : k = l.length
    · subst h2; simp
    · rw [if_neg h2, List.getElem?_eq_none (by simp; omega)]; rfl
/-- What a thread is behind its step. -/
theorem goM_ths (m : Ma) (i : Nat) : ∃ t', (goM D m i).ths = m.ths.set i t' ∧ (goM D m i).clock = m.clock + 1 := by
  unfold goM
  by_cases hl : (m.ths.getD i .no).loaded = true
  · rw [if_pos hl]
    unfold swapM
    split
    · exact ⟨_, rfl, rfl⟩
    · exact ⟨_, rfl, rfl⟩
  · rw [if_neg hl]
    exact ⟨_, rfl, rfl⟩
theorem allD_drop {l : List Dn} (h : allD l = true) : allD (l.drop 1) = true := by
  unfold allD at h ⊢
  rw [List.all_eq_true] at h ⊢
  exact fun x hx => h x (List.mem_of_mem_drop hx)
/-- Behind a step the machine may be. -/
theorem go_right (hR : ∀ w p, R w = true → R (D w p).1 = true) {m : Ma} {k : Nat} (hm : mayM R m k = true) (hc : m.clock + 1 ≤ 4611686018427387904) : rightM R (goM D m k) = true := by
  obtain ⟨hr, k', hk, hkn, hleft⟩ := mayM_iff.1 hm
  obtain rfl : k = k' := by omega
  obtain ⟨r1, r2, r3, r4, r5⟩ := rightM_iff.1 hr
  have hk5 := r5 k hkn
  rw [rightM_iff]
  obtain ⟨t', ht', hcl⟩ := goM_ths (D := D) m k
  refine ⟨by omega, by omega, by rw [ht', List.length_set]; exact r3, ?_, ?_⟩
  · unfold goM swapM
    split
    · split
      · exact r4
      · next h =>
        show R (if _ then _ else _) = true
        split
        · next h2 =>
          simp only [h2, true_and, Decidable.not_not] at h
          have h : m.word = (m.ths.getD k .no).seen := h
          rw [← h]
          exact hR _ _ r4
        · exact r4
    · exact r4
  · intro i hi
    have hi' : i < m.ths.length := by rw [ht', List.length_set] at hi; exact hi
    have hi5 := r5 i hi'
    unfold goM
    by_cases hl : (m.ths.getD k .no).loaded = true
    · rw [if_pos hl]
      have hmo : ∃ j : Nat, (m.ths.getD k .no).moment = j ∧ j < m.hist.length ∧ 0 < (m.ths.getD k .no).left.length ∧ m.hist.getD j .no = { m.hist.getD j .no with thread := (k : Nat), deed := (m.ths.getD k .no).left.getD 0 .no, en := -1 } := by
        rcases hk5.2 with ⟨_, h⟩ | h
        · rw [hl] at h; cases h
        · exact h
      obtain ⟨j, j1, j2, j3, j4⟩ := hmo
      unfold swapM
      split
      · simp only [getD_set]
        split
        · next h =>
          obtain ⟨rfl, _⟩ := h
          exact ⟨hk5.1, .inr ⟨j, j1, j2, j3, j4⟩⟩
        · exact hi5
      · simp only [getD_set]
        split
        · next h =>
          obtain ⟨rfl, _⟩ := h
          exact ⟨allD_drop hk5.1, .inl ⟨rfl, rfl⟩⟩
        · next h =>
          refine ⟨hi5.1, ?_⟩
          rcases hi5.2 with h0 | ⟨q, q1, q2, q3, q4⟩
          · exact .inl h0
          · right
            have hqj : j ≠ q := by
              rintro rfl
              have a := (mo_eq.1 j4).1
              have b := (mo_eq.1 q4).1
              rw [a] at b
              exact h ⟨by omega, hi'⟩
            refine ⟨q, q1, by rw [List.length_set]; exact q2, q3, ?_⟩
            simp only [getD_set, j1, Int.toNat_natCast]
            rw [if_neg (by rintro ⟨e, _⟩; exact hqj e)]
            exact q4
    · rw [if_neg hl]
      unfold readM
      simp only [getD_set]
      by_cases hki : k = i
      · subst hki
        rw [if_pos (⟨rfl, hkn⟩ : k = k ∧ k < m.ths.length)]
        refine ⟨hk5.1, ?_⟩
        right
        unfold readT
        simp only
        rcases hk5.2 with ⟨h0, _⟩ | ⟨q, q1, q2, q3, q4⟩
        · have hneg : (m.ths.getD k .no).moment < 0 := by omega
          rw [if_pos hneg, if_pos hneg]
          refine ⟨m.hist.length, rfl, by simp, hleft, ?_⟩
          rw [getD_snoc, if_neg (by omega), if_pos rfl]
        · have hneg : ¬ (m.ths.getD k .no).moment < 0 := by omega
          rw [if_neg hneg, if_neg hneg]
          exact ⟨q, q1, q2, q3, q4⟩
      · rw [if_neg (fun e => hki e.1 : ¬ (k = i ∧ i < m.ths.length))]
        refine ⟨hi5.1, ?_⟩
        rcases hi5.2 with h0 | ⟨q, q1, q2, q3, q4⟩
        · exact .inl h0
        · right
          refine ⟨q, q1, ?_, q3, ?_⟩
          · split
            · simp; omega
            · exact q2
          · split
            · rw [getD_snoc, if_pos q2]; exact q4
            · exact q4
end
end Go.Proofs.Ytkjloeefcaadlaa
/- Whatever is picked, there is an order: plain. -/
namespace Go.Proofs.Ytkjloeefcaadlaa
def openT (t : Th) : Nat := if 0 ≤ t.moment then 1 else 0
def restT (ts : List Th) : Nat := (ts.map fun t => t.left.length - openT t).sum
section
variable {D : Nat → Dn → Nat × Nat × Bool} {R : Nat → Bool}
/-- The order of the moments that are over, and where in it each word that was read stood. -/
structure Lin (D : Nat → Dn → Nat × Nat × Bool) (R : Nat → Bool) (w0 : Nat) (m : Ma) (σ : List Nat) : Prop where
  right : rightM R m = true
  isd : ∀ h ∈ m.hist, isD h.deed.d = true
  le : m.hist.length + restT m.ths ≤ 8
  time : ∀ h ∈ m.hist, h.beg ≤ m.clock
  nodup : σ.Nodup
  mem : ∀ i, i ∈ σ ↔ i < m.hist.length ∧ (m.hist.getD i .no).en ≠ -1
  play : plays D (fun i => m.hist.getD i .no) w0 σ m.word
  order : σ.Pairwise (fun i j => ¬ ((m.hist.getD j .no).en ≠ -1 ∧ (m.hist.getD j .no).en < (m.hist.getD i .no).beg))
  seen : ∀ k j : Nat, k < m.ths.length → (m.ths.getD k .no).loaded = true → (m.ths.getD k .no).moment = j → ∃ σ₁ σ₂, σ = σ₁ ++ σ₂ ∧ plays D (fun i => m.hist.getD i .no) w0 σ₁ (m.ths.getD k .no).seen ∧
    ∀ i ∈ σ₂, (m.hist.getD j .no).beg ≤ (m.hist.getD i .no).en
theorem nodup_le_rng : ∀ (n : Nat) (σ : List Nat), σ.Nodup → (∀ i ∈ σ, i < n) → σ.length ≤ n
  | 0, σ, _, h => by
    cases σ with
    | nil => simp
    | cons a t => have := h a (by simp); omega
  | n + 1, σ, hn, h => by
    by_cases hm : n ∈ σ
    · have h1 := nodup_le_rng n (σ.erase n) (hn.erase n) (fun i hi => by
        have := (hn.mem_erase_iff).1 hi
        have := h i this.2
        omega)
      rw [List.length_erase_of_mem hm] at h1
      omega
    · have := nodup_le_rng n σ hn (fun i hi => by
        have h2 := h i hi
        have : i ≠ n := fun e => hm (e ▸ hi)
        omega)
      omega
theorem Lin.found {w0 : Nat} {m : Ma} {σ : List Nat} (h : Lin D R w0 m σ) (h0 : R w0 = true) : linM D R w0 m.hist m.word = true := by
  have hl : m.hist.length ≤ 8 := by have := h.le; omega
  have hs : σ.length ≤ m.hist.length := by
    exact nodup_le_rng _ _ h.nodup fun i hi => ((h.mem i).1 hi).1
  unfold linM
  have hd : (m.hist.all fun h => isD h.deed.d) = true := by
    rw [List.all_eq_true]
    exact h.isd
  rw [decide_eq_true hl, h0, hd, Bool.true_and, Bool.true_and]
  have hb : ∀ k, k < m.hist.length → bit (2 ^ m.hist.length - 1) k = true := fun k hk => by
    rw [bit_full ⟨m.hist.length, by omega⟩ ⟨k, by omega⟩]
    simpa using hk
  refine from_found hl 9 σ w0 _ (by omega) (full_lt ⟨m.hist.length, by omega⟩) ?_ ?_ h.nodup h.order h.play
  · intro i hi
    have := ((h.mem i).1 hi).1
    exact ⟨this, hb i this⟩
  · intro k hk _
    by_cases he : (m.hist.getD k .no).en = -1
    · exact .inr he
    · exact .inl ((h.mem k).2 ⟨hk, he⟩)
theorem restT_set (ts : List Th) (k : Nat) (hk : k < ts.length) (t' : Th) : restT (ts.set k t') + ((ts.getD k .no).left.length - openT (ts.getD k .no)) = restT ts + (t'.left.length - openT t') := by
  unfold restT
  induction ts generalizing k with
  | nil => simp at hk
  | cons t ts ih =>
    cases k with
    | zero => simp; omega
    | succ k =>
      have := ih k (by simpa using hk)
      simp only [List.set_cons_succ, List.map_cons, List.sum_cons, List.getD_cons_succ]
      omega
theorem getD_mem {α : Type} {l : List α} {i : Nat} {d : α} (h : i < l.length) : l.getD i d ∈ l := by
  simp only [List.getD, List.getElem?_eq_getElem h, Option.getD_some]
  exact List.getElem_mem h
theorem allD_get {l : List Dn} (h : allD l = true) (h0 : 0 < l.length) : isD (l.getD 0 .no).d = true := by
  unfold allD at h
  rw [List.all_eq_true] at h
  exact h _ (getD_mem h0)
/-- A step of one that reads. -/
theorem Lin.reads {w0 : Nat} {m : Ma} {σ : List Nat} (h : Lin D R w0 m σ) {k : Nat} (hm : mayM R m k = true) (hr : rightM R (goM D m k) = true) (hl : (m.ths.getD k .no).loaded = false) : Lin D R w0 (goM D m k) σ := by
  obtain ⟨hr0, k', hk, hkn, hleft⟩ := mayM_iff.1 hm
  obtain rfl : k = k' := by omega
  obtain ⟨r1, r2, r3, r4, r5⟩ := rightM_iff.1 hr0
  obtain ⟨k5, k6⟩ := r5 k hkn
  have hrs := restT_set m.ths k hkn
  have hgo : goM D m k = readM { m with clock := m.clock + 1 } k (m.ths.getD k .no) := by unfold goM; rw [hl]; rfl
  rw [hgo] at hr ⊢
  clear hgo
  obtain ⟨t, ht⟩ : ∃ t, m.ths.getD k .no = t := ⟨_, rfl⟩
  rw [ht] at hr hl hleft k5 k6 hrs ⊢
  have hH : ∀ i, i < m.hist.length → (readM { m with clock := m.clock + 1 } k t).hist.getD i .no = m.hist.getD i .no := by
    intro i hi
    unfold readM
    simp only
    split
    · rw [getD_snoc, if_pos hi]
    · rfl
  have hlen : (readM { m with clock := m.clock + 1 } k t).hist.length = m.hist.length + if t.moment < 0 then 1 else 0 := by
    unfold readM
    simp only
    split <;> simp
  have hnew : ∀ i, i < (readM { m with clock := m.clock + 1 } k t).hist.length → ¬ i < m.hist.length → (readM { m with clock := m.clock + 1 } k t).hist.getD i .no = ⟨k, t.left.getD 0 .no, m.clock + 1, -1, 0, false⟩ := by
    intro i hi hi2
    rw [hlen] at hi
    split at hi
    · next hneg =>
      unfold readM
      simp only
      rw [if_pos hneg, getD_snoc, if_neg hi2, if_pos (by omega)]
    · omega
  have hmemH : ∀ x ∈ (readM { m with clock := m.clock + 1 } k t).hist, x ∈ m.hist ∨ x = ⟨k, t.left.getD 0 .no, m.clock + 1, -1, 0, false⟩ := by
    intro x hx
    unfold readM at hx
    simp only at hx
    split at hx
    · simpa using hx
    · exact .inl hx
  have hths : (readM { m with clock := m.clock + 1 } k t).ths = m.ths.set k (readT { m with clock := m.clock + 1 } t) := rfl
  have hin : ∀ i ∈ σ, i < m.hist.length := fun i hi => ((h.mem i).1 hi).1
  refine ⟨hr, ?_, ?_, ?_, h.nodup, ?_, ?_, ?_, ?_⟩
  · intro x hx
    rcases hmemH x hx with hx | rfl
    · exact h.isd x hx
    · exact allD_get k5 hleft
  · have h8 := h.le
    have h9 := hrs (readT { m with clock := m.clock + 1 } t)
    rw [hths, hlen]
    have e1 : (readT { m with clock := m.clock + 1 } t).left = t.left := rfl
    rw [e1] at h9
    have e2 : openT (readT { m with clock := m.clock + 1 } t) = 1 := by
      unfold openT readT
      simp only
      rw [if_pos]
      split <;> omega
    have e3 : openT t = 1 - if t.moment < 0 then 1 else 0 := by
      unfold openT
      by_cases hq : t.moment < 0
      · rw [if_pos hq, if_neg (by omega)]
      · rw [if_neg hq, if_pos (by omega)]
    rw [e2, e3] at h9
    split at h9
    · next hq => rw [if_pos hq]; omega
    · next hq => rw [if_neg hq]; omega
  · intro x hx
    show x.beg ≤ m.clock + 1
    rcases hmemH x hx with hx | rfl
    · have := h.time x hx; omega
    · exact Int.le_refl _
  · intro i
    rw [h.mem i]
    constructor
    · rintro ⟨a, b⟩
      exact ⟨by rw [hlen]; omega, by rw [hH i a]; exact b⟩
    · rintro ⟨a, b⟩
      by_cases hi : i < m.hist.length
      · rw [hH i hi] at b; exact ⟨hi, b⟩
      · rw [hnew i a hi] at b; exact absurd rfl b
  · exact plays_congr (fun i hi => hH i (hin i hi)) h.play
  · refine (List.Pairwise.imp_of_mem ?_ h.order)
    intro a b ha hb hab
    rw [hH a (hin a ha), hH b (hin b hb)]
    exact hab
  · intro q j hq hql hqm
    rw [hths, List.length_set] at hq
    rw [hths, getD_set] at hql hqm
    rw [hths, getD_set]
    by_cases hkq : k = q
    · subst hkq
      rw [if_pos (⟨rfl, hkn⟩ : k = k ∧ k < m.ths.length)]
      refine ⟨σ, [], by simp, ?_, by simp⟩
      exact plays_congr (fun i hi => hH i (hin i hi)) h.play
    · rw [if_neg (fun e => hkq e.1 : ¬ (k = q ∧ q < m.ths.length))] at hql hqm ⊢
      obtain ⟨σ₁, σ₂, rfl, h1, h2⟩ := h.seen q j hq hql hqm
      have hj : j < m.hist.length := by
        rcases (r5 q hq).2 with ⟨_, e⟩ | ⟨j', e, hj', _⟩
        · rw [hql] at e; cases e
        · rw [hqm] at e; omega
      refine ⟨σ₁, σ₂, rfl, plays_congr (fun i hi => hH i (hin i (by simp [hi]))) h1, fun i hi => ?_⟩
      rw [hH i (hin i (by simp [hi])), hH j hj]
      exact h2 i hi
end
end Go.Proofs.Ytkjloeefcaadlaa
/- A step of one that swaps, and the whole run: plain. -/
namespace Go.Proofs.Ytkjloeefcaadlaa
section
variable {D : Nat → Dn → Nat × Nat × Bool} {R : Nat → Bool}
theorem plays_cons {H : Nat → Mo} {w w' i : Nat} {σ : List Nat} {h : Mo} {y sl : Nat} {ok : Bool} (hi : H i = h) (hd : D w h.deed = (y, sl, ok)) (h1 : h.slot = (sl : Nat)) (h2 : h.ok = ok) (hp : plays D H y σ w') : plays D H w (i :: σ) w' := by
  unfold plays
  rw [hi, hd]
  exact ⟨h1.symm, h2.symm, hp⟩
theorem nodup_ins {a b : List Nat} {j : Nat} (h : (a ++ b).Nodup) (hj : j ∉ a ++ b) : (a ++ j :: b).Nodup := by
  have : (a ++ j :: b).Perm (j :: (a ++ b)) := List.perm_middle
  rw [this.nodup_iff]
  exact List.nodup_cons.2 ⟨hj, h⟩
theorem pairwise_ins {r : Nat → Nat → Prop} {a b : List Nat} {j : Nat} (h : (a ++ b).Pairwise r) (h1 : ∀ i ∈ a, r i j) (h2 : ∀ i ∈ b, r j i) : (a ++ j :: b).Pairwise r := by
  rw [List.pairwise_append] at h ⊢
  refine ⟨h.1, List.pairwise_cons.2 ⟨h2, h.2.1⟩, ?_⟩
  intro x hx y hy
  rcases List.mem_cons.1 hy with rfl | hy
  · exact h1 x hx
  · exact h.2.2 x hx y hy
/-- A step of one that swaps. -/
theorem Lin.swaps (hD : ∀ w p, (D w p).2.2 = false → (D w p).1 = w) {w0 : Nat} {m : Ma} {σ : List Nat} (h : Lin D R w0 m σ) {k : Nat} (hm : mayM R m k = true) (hr : rightM R (goM D m k) = true) (hl : (m.ths.getD k .no).loaded = true) :
    ∃ σ', Lin D R w0 (goM D m k) σ' := by
  obtain ⟨hr0, k', hk, hkn, hleft⟩ := mayM_iff.1 hm
  obtain rfl : k = k' := by omega
  obtain ⟨r1, r2, r3, r4, r5⟩ := rightM_iff.1 hr0
  obtain ⟨k5, k6⟩ := r5 k hkn
  have hrs := restT_set m.ths k hkn
  have hmo : ∃ j : Nat, (m.ths.getD k .no).moment = j ∧ j < m.hist.length ∧ 0 < (m.ths.getD k .no).left.length ∧ m.hist.getD j .no = { m.hist.getD j .no with thread := (k : Nat), deed := (m.ths.getD k .no).left.getD 0 .no, en := -1 } := by
    rcases k6 with ⟨_, h⟩ | h
    · rw [hl] at h; cases h
    · exact h
  obtain ⟨j, j1, j2, j3, j4⟩ := hmo
  obtain ⟨σ₁, σ₂, hσ, hseen, hlate⟩ := h.seen k j hkn hl j1
  have hgo : goM D m k = swapM D { m with clock := m.clock + 1 } k (m.ths.getD k .no) := by unfold goM; rw [hl]; rfl
  rw [hgo] at hr ⊢
  clear hgo
  obtain ⟨t, ht⟩ : ∃ t, m.ths.getD k .no = t := ⟨_, rfl⟩
  rw [ht] at hr hl hleft k5 k6 hrs j1 j3 j4 hseen ⊢
  have hin : ∀ i ∈ σ, i < m.hist.length := fun i hi => ((h.mem i).1 hi).1
  have hjσ : j ∉ σ := fun hj => ((h.mem j).1 hj).2 (mo_eq.1 j4).2.2
  have hother : ∀ q u : Nat, q < m.ths.length → k ≠ q → (m.ths.getD q .no).loaded = true → (m.ths.getD q .no).moment = u → u < m.hist.length ∧ u ≠ j := by
    intro q u hq hkq hql hqm
    rcases (r5 q hq).2 with ⟨_, e⟩ | ⟨j', e, hj', _, hh⟩
    · rw [hql] at e; cases e
    · rw [hqm] at e
      obtain rfl : u = j' := by omega
      refine ⟨hj', ?_⟩
      rintro rfl
      have a := (mo_eq.1 j4).1
      have b := (mo_eq.1 hh).1
      rw [a] at b
      omega
  obtain ⟨⟨y, sl, ok⟩, hy⟩ : ∃ y, D t.seen (t.left.getD 0 .no) = y := ⟨_, rfl⟩
  unfold swapM at hr ⊢
  rw [hy] at hr ⊢
  simp only at hr ⊢
  by_cases hc : ok = true ∧ m.word ≠ t.seen
  · rw [if_pos hc] at hr ⊢
    refine ⟨σ, hr, h.isd, ?_, fun x hx => by have := h.time x hx; show x.beg ≤ m.clock + 1; omega, h.nodup, h.mem, h.play, h.order, ?_⟩
    · have h8 := h.le
      have h9 := hrs { t with loaded := false, seen := 0 }
      have e1 : openT { t with loaded := false, seen := 0 } = openT t := rfl
      rw [e1] at h9
      show m.hist.length + restT (m.ths.set k _) ≤ 8
      have e2 : ({ t with loaded := false, seen := 0 } : Th).left.length = t.left.length := rfl
      rw [e2] at h9
      omega
    · intro q u hq hql hqm
      simp only [List.length_set] at hq
      simp only [getD_set] at hql hqm ⊢
      by_cases hkq : k = q
      · subst hkq
        rw [if_pos (⟨rfl, hkn⟩ : k = k ∧ k < m.ths.length)] at hql
        cases hql
      · rw [if_neg (fun e => hkq e.1 : ¬ (k = q ∧ q < m.ths.length))] at hql hqm ⊢
        exact h.seen q u hq hql hqm
  · rw [if_neg hc] at hr ⊢
    rw [j1, Int.toNat_natCast] at hr ⊢
    obtain ⟨hj0, hj0'⟩ : ∃ x, m.hist.getD j .no = x := ⟨_, rfl⟩
    rw [hj0'] at hr j4 hlate ⊢
    have hH : ∀ i, i ≠ j → (m.hist.set j { hj0 with en := m.clock + 1, slot := (sl : Nat), ok := ok }).getD i .no = m.hist.getD i .no := fun i hi => by
      rw [getD_set, if_neg (fun e => hi e.1.symm)]
    have hHj : (m.hist.set j { hj0 with en := m.clock + 1, slot := (sl : Nat), ok := ok }).getD j .no = { hj0 with en := m.clock + 1, slot := (sl : Nat), ok := ok } := by
      rw [getD_set, if_pos ⟨rfl, j2⟩]
    have hne : ∀ i ∈ σ, i ≠ j := fun i hi e => hjσ (e ▸ hi)
    have htime : ∀ i, i < m.hist.length → (m.hist.getD i .no).beg ≤ m.clock := fun i hi => h.time _ (getD_mem hi)
    -- where the moment stands in the order, and the word behind it
    have hwhere : ∃ a b, σ = a ++ b ∧ (∀ i ∈ b, hj0.beg ≤ (m.hist.getD i .no).en) ∧ plays D (fun i => m.hist.getD i .no) w0 a t.seen ∧ plays D (fun i => m.hist.getD i .no) y b (if ok then y else m.word) ∧ ((∀ i, i ∈ b → False) ∨ y = t.seen) := by
      cases ok with
      | true =>
        have hw : m.word = t.seen := Decidable.not_not.1 fun e => hc ⟨rfl, e⟩
        exact ⟨σ, [], by simp, by simp, by rw [← hw]; exact h.play, by simp [plays], .inl (by simp)⟩
      | false =>
        have hyw : y = t.seen := by have := hD t.seen (t.left.getD 0 .no); rw [hy] at this; exact this rfl
        refine ⟨σ₁, σ₂, hσ, hlate, hseen, ?_, .inr hyw⟩
        rw [hyw]
        rw [hσ] at h
        exact plays_cut hseen h.play
    obtain ⟨a, b, hab, hlb, hpa, hpb, hkeep⟩ := hwhere
    rw [hab] at hjσ hne
    have hia : ∀ i ∈ a, i ≠ j := fun i hi => hne i (by simp [hi])
    have hib : ∀ i ∈ b, i ≠ j := fun i hi => hne i (by simp [hi])
    have hord := h.order
    have hnd := h.nodup
    rw [hab] at hord hnd
    obtain ⟨m1, m2, m3⟩ := mo_eq.1 j4
    have hdd : D t.seen hj0.deed = (y, sl, ok) := by rw [m2, hy]
    have hpl : plays D (fun i => (m.hist.set j { hj0 with en := m.clock + 1, slot := (sl : Nat), ok := ok }).getD i .no) t.seen (j :: b) (if ok then y else m.word) := by
      exact plays_cons hHj hdd rfl rfl (plays_congr (fun i hi => hH i (hib i hi)) hpb)
    refine ⟨a ++ j :: b, hr, ?_, ?_, ?_, nodup_ins hnd hjσ, ?_, ?_, ?_, ?_⟩
    · intro x hx
      rcases List.mem_or_eq_of_mem_set hx with hx | rfl
      · exact h.isd x hx
      · have := h.isd _ (getD_mem (d := .no) j2)
        rw [hj0'] at this
        exact this
    · have h8 := h.le
      have h9 := hrs ⟨t.left.drop 1, false, 0, -1⟩
      have e1 : openT ⟨t.left.drop 1, false, 0, -1⟩ = 0 := rfl
      have e2 : openT t = 1 := by unfold openT; rw [if_pos (by omega)]
      rw [e1, e2] at h9
      simp only [List.length_drop] at h9
      show (m.hist.set _ _).length + restT (m.ths.set k _) ≤ 8
      rw [List.length_set]
      omega
    · intro x hx
      show x.beg ≤ m.clock + 1
      rcases List.mem_or_eq_of_mem_set hx with hx | rfl
      · have := h.time x hx; omega
      · have := htime j j2
        rw [hj0'] at this
        show hj0.beg ≤ _
        omega
    · intro i
      rw [List.length_set]
      have h1 := h.mem i
      rw [hab] at h1
      by_cases hij : i = j
      · subst hij
        rw [hHj]
        simp only [List.mem_append, List.mem_cons, true_or, or_true, true_iff]
        exact ⟨j2, by omega⟩
      · rw [hH i hij, ← h1]
        simp [hij]
    · exact plays_app (plays_congr (fun i hi => hH i (hia i hi)) hpa) hpl
    · refine pairwise_ins (List.Pairwise.imp_of_mem ?_ hord) ?_ ?_
      · intro x z hx hz hxz
        rw [hH x (hne x hx), hH z (hne z hz)]
        exact hxz
      · intro i hi
        rw [hHj, hH i (hia i hi)]
        have hil : i < m.hist.length := hin i (by rw [hab]; simp [hi])
        have := htime i hil
        rintro ⟨_, e⟩
        simp only at e
        omega
      · intro i hi
        rw [hHj, hH i (hib i hi)]
        have := hlb i hi
        rintro ⟨_, e⟩
        simp only at e
        omega
    · intro q u hq hql hqm
      simp only [List.length_set] at hq
      simp only [getD_set (l := m.ths)] at hql hqm ⊢
      by_cases hkq : k = q
      · subst hkq
        rw [if_pos (⟨rfl, hkn⟩ : k = k ∧ k < m.ths.length)] at hql
        cases hql
      · rw [if_neg (fun e => hkq e.1 : ¬ (k = q ∧ q < m.ths.length))] at hql hqm ⊢
        obtain ⟨hul, huj⟩ := hother q u hq hkq hql hqm
        obtain ⟨c, d, hcd, hpc, hld⟩ := h.seen q u hq hql hqm
        rw [hH u huj]
        have hic : ∀ i ∈ c, i ≠ j := fun i hi => hne i (by rw [← hab, hcd]; simp [hi])
        have hid : ∀ i ∈ d, i ≠ j := fun i hi => hne i (by rw [← hab, hcd]; simp [hi])
        have hbeg := htime u hul
        rw [hab] at hcd
        -- the new one stands behind the word that was read, or ahead of it
        rcases List.append_eq_append_iff.1 hcd with ⟨e, he1, he2⟩ | ⟨e, he1, he2⟩
        · -- c = a ++ e, b = e ++ d
          rcases hkeep with hb0 | hyw
          · -- nothing is behind it
            have hb0' : b = [] := by
              cases b with
              | nil => rfl
              | cons z b => exact (hb0 z (by simp)).elim
            rw [hb0'] at he2
            obtain ⟨rfl, rfl⟩ := List.append_eq_nil_iff.1 he2.symm
            refine ⟨a, [j], by rw [hb0'], ?_, ?_⟩
            · rw [List.append_nil] at he1
              subst he1
              exact plays_congr (fun i hi => hH i (hia i hi)) hpc
            · intro i hi
              simp at hi
              subst hi
              rw [hHj]
              simp only
              omega
          · refine ⟨a ++ j :: e, d, by rw [he2]; simp, ?_, ?_⟩
            · rw [he1] at hpc
              have hpe := plays_cut hpa hpc
              refine plays_app (plays_congr (fun i hi => hH i (hia i hi)) hpa) ?_
              refine plays_cons hHj hdd rfl rfl ?_
              rw [hyw]
              exact plays_congr (fun i hi => hH i (hib i (by rw [he2]; simp [hi]))) hpe
            · intro i hi
              rw [hH i (hid i hi)]
              exact hld i hi
        · -- a = c ++ e, d = e ++ b
          refine ⟨c, e ++ j :: b, by rw [he1]; simp, plays_congr (fun i hi => hH i (hic i hi)) hpc, ?_⟩
          intro i hi
          by_cases hij : i = j
          · subst hij
            rw [hHj]
            simp only
            omega
          · rw [hH i hij]
            apply hld i
            rw [he2]
            simpa [hij] using hi
theorem Lin.step (hR : ∀ w p, R w = true → R (D w p).1 = true) (hD : ∀ w p, (D w p).2.2 = false → (D w p).1 = w) {w0 : Nat} {m : Ma} {σ : List Nat} (h : Lin D R w0 m σ) (hc : m.clock + 1 ≤ 4611686018427387904) (i : Int) :
    ∃ σ', Lin D R w0 (stepM D R m i).1 σ' := by
  by_cases hm : mayM R m i = true
  · obtain ⟨_, k, rfl, hkn, _⟩ := mayM_iff.1 hm
    have hr := go_right hR hm hc
    rw [stepM_go hm]
    by_cases hl : (m.ths.getD k .no).loaded = true
    · exact h.swaps hD hm hr hl
    · exact ⟨σ, h.reads hm hr (by simpa using hl)⟩
  · rw [stepM_no (by simpa using hm)]
    exact ⟨σ, h⟩
/-- A machine at its beginning. -/
theorem Lin.begin {w0 : Nat} {ls : List (List Dn)} (h : newOk R w0 ls = true) : Lin D R w0 (newM w0 ls) [] := by
  unfold newOk at h
  simp only [Bool.and_eq_true, decide_eq_true_eq] at h
  obtain ⟨h1, h2, h3, h4⟩ := h
  rw [List.all_eq_true] at h3
  have hth : ∀ i, i < ls.length → (newM w0 ls).ths.getD i .no = newT (ls.getD i []) := by
    intro i hi
    show (ls.map newT).getD i .no = _
    simp only [List.getD, List.getElem?_map, List.getElem?_eq_getElem hi]
    rfl
  refine ⟨?_, by simp [newM], ?_, by simp [newM], List.nodup_nil, ?_, rfl, List.Pairwise.nil, ?_⟩
  · rw [rightM_iff]
    refine ⟨Int.le_refl _, by simp [newM], by simpa [newM] using h2, h1, ?_⟩
    intro i hi
    have hi' : i < ls.length := by simpa [newM] using hi
    rw [hth i hi']
    exact ⟨h3 _ (getD_mem hi'), .inl ⟨rfl, rfl⟩⟩
  · show 0 + restT (ls.map newT) ≤ 8
    unfold restT manyL at *
    rw [List.map_map]
    have : ((fun t : Th => t.left.length - openT t) ∘ newT) = List.length := by
      funext l
      simp [newT, openT]
    rw [this]
    omega
  · intro i
    simp [newM]
  · intro k j hk hl
    have hk' : k < ls.length := by simpa [newM] using hk
    rw [hth k hk'] at hl
    cases hl
end
end Go.Proofs.Ytkjloeefcaadlaa
/- One thread alone; runs in two goes: plain. -/
namespace Go.Proofs.Ytkjloeefcaadlaa
section
variable (D : Nat → Dn → Nat × Nat × Bool) {R : Nat → Bool}
/-- The word behind the first deeds. -/
def wordA (w : Nat) (l : List Dn) : Nat → Nat
  | 0 => w
  | k + 1 => (D (wordA w l k) (l.getD k .no)).1
def momA (w : Nat) (l : List Dn) (i : Nat) : Mo := ⟨0, l.getD i .no, 2 * i + 1, 2 * i + 2, (D (wordA D w l i) (l.getD i .no)).2.1, (D (wordA D w l i) (l.getD i .no)).2.2⟩
def seqH (w : Nat) (l : List Dn) (k : Nat) : List Mo := (List.range k).map (momA D w l)
def aloneM (w : Nat) (l : List Dn) (k : Nat) : Ma := ⟨wordA D w l k, 2 * k, [⟨l.drop k, false, 0, -1⟩], seqH D w l k⟩
def halfM (w : Nat) (l : List Dn) (k : Nat) : Ma := ⟨wordA D w l k, 2 * k + 1, [⟨l.drop k, true, wordA D w l k, k⟩], seqH D w l k ++ [⟨0, l.getD k .no, 2 * k + 1, -1, 0, false⟩]⟩
theorem seqH_len (w : Nat) (l : List Dn) (k : Nat) : (seqH D w l k).length = k := by simp [seqH]
theorem seqH_at (w : Nat) (l : List Dn) {n k : Nat} (h : k < n) : (seqH D w l n).getD k .no = momA D w l k := by
  unfold seqH
  simp only [List.getD, List.getElem?_map, List.getElem?_range h]
  rfl
variable {D}
theorem alone_half {w : Nat} {l : List Dn} {k : Nat} : goM D (aloneM D w l k) 0 = halfM D w l k := by
  unfold goM aloneM halfM readM readT
  have e : (l.drop k).getD 0 .no = l.getD k .no := by simp [List.getD]
  simp [e, seqH_len]
theorem half_alone (hD : ∀ w p, (D w p).2.2 = false → (D w p).1 = w) {w : Nat} {l : List Dn} {k : Nat} : goM D (halfM D w l k) 0 = aloneM D w l (k + 1) := by
  unfold goM halfM aloneM
  have e : (l.drop k).getD 0 .no = l.getD k .no := by simp [List.getD]
  have e2 : (if (D (wordA D w l k) (l.getD k .no)).2.2 = true then (D (wordA D w l k) (l.getD k .no)).1 else wordA D w l k) = wordA D w l (k + 1) := by
    cases h : (D (wordA D w l k) (l.getD k .no)).2.2 with
    | true => rfl
    | false =>
      have := hD _ _ h
      rw [if_neg (by simp)]
      exact this.symm
  have e3 : seqH D w l (k + 1) = seqH D w l k ++ [momA D w l k] := by simp [seqH, List.range_succ]
  have e4 : ∀ x y : Mo, (seqH D w l k ++ [x]).set k y = seqH D w l k ++ [y] := by
    intro x y
    rw [List.set_append_right k y (by rw [seqH_len]; omega), seqH_len]
    simp
  have e5 : ∀ x : Mo, (seqH D w l k ++ [x]).getD k .no = x := by
    intro x
    rw [getD_snoc, seqH_len, if_neg (by omega), if_pos rfl]
  unfold swapM
  simp only [List.getD_cons_zero, if_true, e, e4, e5, Int.toNat_natCast, ne_eq, not_true_eq_false, and_false, if_false, e2, e3]
  rw [show (2 * (k : Int) + 1 + 1) = 2 * ((k + 1 : Nat) : Int) by omega]
  unfold momA
  rw [show (2 * (k : Int) + 2) = 2 * ((k + 1 : Nat) : Int) by omega]
  simp only [List.set_cons_zero, List.drop_drop]
theorem alone_right (hR : ∀ w p, R w = true → R (D w p).1 = true) (hD : ∀ w p, (D w p).2.2 = false → (D w p).1 = w) {w : Nat} {l : List Dn} (h0 : R w = true) (hl : allD l = true) (h8 : l.length ≤ 8) : ∀ k, k ≤ l.length → rightM R (aloneM D w l k) = true
  | 0, _ => by
    rw [rightM_iff]
    refine ⟨by simp [aloneM], by simp [aloneM], by simp [aloneM], h0, ?_⟩
    intro i hi
    obtain rfl : i = 0 := by simpa [aloneM] using hi
    exact ⟨by simpa [aloneM] using hl, .inl ⟨rfl, rfl⟩⟩
  | k + 1, hk => by
    have ih := alone_right hR hD h0 hl h8 k (by omega)
    have m1 : mayM R (aloneM D w l k) ((0 : Nat) : Int) = true := mayM_iff.2 ⟨ih, 0, rfl, by simp [aloneM], by simp [aloneM]; omega⟩
    have r1 := go_right hR m1 (by simp [aloneM]; omega)
    rw [alone_half] at r1
    have m2 : mayM R (halfM D w l k) ((0 : Nat) : Int) = true := mayM_iff.2 ⟨r1, 0, rfl, by simp [halfM], by simp [halfM]; omega⟩
    have r2 := go_right hR m2 (by simp [halfM]; omega)
    rw [half_alone hD] at r2
    exact r2
theorem alone_run (hR : ∀ w p, R w = true → R (D w p).1 = true) (hD : ∀ w p, (D w p).2.2 = false → (D w p).1 = w) {w : Nat} {l : List Dn} (h0 : R w = true) (hl : allD l = true) (h8 : l.length ≤ 8) :
    ∀ n k, k + n = l.length → runM D R (aloneM D w l k) (List.replicate (2 * n) 0) = (aloneM D w l l.length, 2 * n)
  | 0, k, h => by
    obtain rfl : k = l.length := by omega
    rfl
  | n + 1, k, h => by
    have ih := alone_right hR hD h0 hl h8 k (by omega)
    have m1 : mayM R (aloneM D w l k) ((0 : Nat) : Int) = true := mayM_iff.2 ⟨ih, 0, rfl, by simp [aloneM], by simp [aloneM]; omega⟩
    have r1 := go_right hR m1 (by simp [aloneM]; omega)
    have s1 := stepM_go (D := D) m1
    rw [alone_half] at r1 s1
    have m2 : mayM R (halfM D w l k) ((0 : Nat) : Int) = true := mayM_iff.2 ⟨r1, 0, rfl, by simp [halfM], by simp [halfM]; omega⟩
    have s2 := stepM_go (D := D) m2
    rw [half_alone hD] at s2
    have e : List.replicate (2 * (n + 1)) (0 : Int) = ((0 : Nat) : Int) :: ((0 : Nat) : Int) :: List.replicate (2 * n) 0 := by
      rw [show 2 * (n + 1) = 2 * n + 1 + 1 by omega]
      rfl
    rw [e]
    unfold runM
    rw [s1]
    unfold runM
    rw [s2]
    simp only
    rw [alone_run hR hD h0 hl h8 n (k + 1) (by omega)]
    simp
    omega
theorem alone_end {w : Nat} {l : List Dn} : mayM R (aloneM D w l l.length) 0 = false := by
  unfold mayM aloneM
  simp
theorem runM_cons {m : Ma} {i : Int} {a : List Int} : runM D R m (i :: a) = ((runM D R (stepM D R m i).1 a).1, (if (stepM D R m i).2 then 1 else 0) + (runM D R (stepM D R m i).1 a).2) := rfl
theorem runM_app {m : Ma} {a b : List Int} : runM D R m (a ++ b) = ((runM D R (runM D R m a).1 b).1, (runM D R m a).2 + (runM D R (runM D R m a).1 b).2) := by
  induction a generalizing m with
  | nil => simp [runM]
  | cons i a ih =>
    rw [List.cons_append, runM_cons, runM_cons, ih]
    simp only [Nat.add_assoc]
theorem stepM_clock {m : Ma} {i : Int} : (stepM D R m i).1.clock = m.clock + if (stepM D R m i).2 then 1 else 0 := by
  unfold stepM
  split
  · obtain ⟨t, _, h⟩ := goM_ths (D := D) m i.toNat
    simp [h]
  · simp
theorem runM_clock {m : Ma} {a : List Int} : (runM D R m a).1.clock = m.clock + (runM D R m a).2 := by
  induction a generalizing m with
  | nil => simp [runM]
  | cons i a ih =>
    rw [runM_cons]
    simp only
    rw [ih, stepM_clock]
    split <;> simp <;> omega
end
end Go.Proofs.Ytkjloeefcaadlaa
/- Who must read anew was passed: plain. -/
namespace Go.Proofs.Ytkjloeefcaadlaa
section
variable {D : Nat → Dn → Nat × Nat × Bool} {R : Nat → Bool}
def passedB (hist : List Mo) (t : Nat) (r : Int) : Bool := hist.any fun h => decide (h.thread ≠ t) && (decide (r < h.en) && h.ok)
/-- What is kept of when the threads read. -/
def Pas (m : Ma) (read : Nat → Int) : Prop := rightM R m = true ∧ ∀ t, t < m.ths.length → (m.ths.getD t .no).loaded = true → 0 ≤ read t ∧ read t ≤ m.clock ∧ (m.word = (m.ths.getD t .no).seen ∨ passedB m.hist t (read t) = true)
theorem passedB_iff {hist : List Mo} {t : Nat} {r : Int} : passedB hist t r = true ↔ ∃ k, k < hist.length ∧ (hist.getD k .no).thread ≠ t ∧ r < (hist.getD k .no).en ∧ (hist.getD k .no).ok = true := by
  unfold passedB
  rw [List.any_eq_true]
  constructor
  · rintro ⟨h, hh, hb⟩
    obtain ⟨k, hk, rfl⟩ := List.getElem_of_mem hh
    refine ⟨k, hk, ?_⟩
    simp only [List.getD, List.getElem?_eq_getElem hk, Option.getD_some]
    simpa using hb
  · rintro ⟨k, hk, h1, h2, h3⟩
    exact ⟨_, getD_mem hk, by simp only [Bool.and_eq_true, decide_eq_true_eq]; exact ⟨h1, h2, h3⟩⟩
/-- A step of one that has not read. -/
theorem Pas.reads {m : Ma} {read : Nat → Int} (h : Pas (R := R) m read) {k : Nat} (hm : mayM R m k = true) (hr : rightM R (goM D m k) = true) (hl : (m.ths.getD k .no).loaded = false) :
    Pas (R := R) (goM D m k) (fun t => if t = k then (goM D m k).clock else read t) ∧ ((goM D m k).ths.getD k .no).loaded = true ∧ ((goM D m k).ths.getD k .no).seen = m.word ∧ (goM D m k).word = m.word := by
  obtain ⟨hr0, k', hk, hkn, hleft⟩ := mayM_iff.1 hm
  obtain rfl : k = k' := by omega
  obtain ⟨r1, _⟩ := rightM_iff.1 hr0
  have hgo : goM D m k = readM { m with clock := m.clock + 1 } k (m.ths.getD k .no) := by unfold goM; rw [hl]; rfl
  rw [hgo] at hr ⊢
  clear hgo
  obtain ⟨t, ht⟩ : ∃ t, m.ths.getD k .no = t := ⟨_, rfl⟩
  rw [ht] at hr hl hleft ⊢
  have hths : (readM { m with clock := m.clock + 1 } k t).ths = m.ths.set k (readT { m with clock := m.clock + 1 } t) := rfl
  have hkk : (readM { m with clock := m.clock + 1 } k t).ths.getD k .no = readT { m with clock := m.clock + 1 } t := by rw [hths, getD_set, if_pos (⟨rfl, hkn⟩ : k = k ∧ k < m.ths.length)]
  refine ⟨⟨hr, ?_⟩, by rw [hkk]; rfl, by rw [hkk]; rfl, rfl⟩
  intro q hq hql
  rw [hths, List.length_set] at hq
  by_cases hkq : q = k
  · subst hkq
    dsimp only
    rw [if_pos rfl, hkk]
    refine ⟨?_, Int.le_refl _, .inl rfl⟩
    show 0 ≤ m.clock + 1
    omega
  · dsimp only
    rw [if_neg hkq]
    rw [hths, getD_set, if_neg (fun e => hkq e.1.symm)] at hql ⊢
    obtain ⟨a, b, c⟩ := h.2 q hq hql
    refine ⟨a, ?_, ?_⟩
    · show read q ≤ m.clock + 1
      omega
    · rcases c with c | c
      · exact .inl c
      · right
        rw [passedB_iff] at c ⊢
        obtain ⟨i, i1, i2⟩ := c
        refine ⟨i, ?_, ?_⟩
        · unfold readM
          simp only
          split
          · simp; omega
          · exact i1
        · have e : (readM { m with clock := m.clock + 1 } k t).hist.getD i .no = m.hist.getD i .no := by
            unfold readM
            simp only
            split
            · rw [getD_snoc, if_pos i1]
            · rfl
          rw [e]
          exact i2
/-- A step of one that has read: it must read anew, or its deed is over. -/
theorem Pas.swaps {m : Ma} {read : Nat → Int} (h : Pas (R := R) m read) {k : Nat} (hm : mayM R m k = true) (hr : rightM R (goM D m k) = true) (hl : (m.ths.getD k .no).loaded = true) :
    Pas (R := R) (goM D m k) read ∧ (((goM D m k).ths.getD k .no).left.length = (m.ths.getD k .no).left.length → passedB (goM D m k).hist k (read k) = true ∧ ((goM D m k).ths.getD k .no).loaded = false ∧ (goM D m k).word = m.word) := by
  obtain ⟨hr0, k', hk, hkn, hleft⟩ := mayM_iff.1 hm
  obtain rfl : k = k' := by omega
  obtain ⟨r1, r2, r3, r4, r5⟩ := rightM_iff.1 hr0
  obtain ⟨k5, k6⟩ := r5 k hkn
  have hmo : ∃ j : Nat, (m.ths.getD k .no).moment = j ∧ j < m.hist.length ∧ 0 < (m.ths.getD k .no).left.length ∧ m.hist.getD j .no = { m.hist.getD j .no with thread := (k : Nat), deed := (m.ths.getD k .no).left.getD 0 .no, en := -1 } := by
    rcases k6 with ⟨_, h⟩ | h
    · rw [hl] at h; cases h
    · exact h
  obtain ⟨j, j1, j2, j3, j4⟩ := hmo
  have hk0 := h.2 k hkn hl
  have hgo : goM D m k = swapM D { m with clock := m.clock + 1 } k (m.ths.getD k .no) := by unfold goM; rw [hl]; rfl
  rw [hgo] at hr ⊢
  clear hgo
  obtain ⟨t, ht⟩ : ∃ t, m.ths.getD k .no = t := ⟨_, rfl⟩
  rw [ht] at hr hl hleft k5 k6 j1 j3 j4 hk0 ⊢
  unfold swapM at hr ⊢
  obtain ⟨⟨y, sl, ok⟩, hy⟩ : ∃ y, D t.seen (t.left.getD 0 .no) = y := ⟨_, rfl⟩
  rw [hy] at hr ⊢
  simp only at hr ⊢
  by_cases hc : ok = true ∧ m.word ≠ t.seen
  · rw [if_pos hc] at hr ⊢
    refine ⟨⟨hr, ?_⟩, ?_⟩
    · intro q hq hql
      simp only [List.length_set] at hq
      simp only [getD_set] at hql ⊢
      by_cases hkq : k = q
      · subst hkq
        rw [if_pos (⟨rfl, hkn⟩ : k = k ∧ k < m.ths.length)] at hql
        cases hql
      · rw [if_neg (fun e => hkq e.1 : ¬ (k = q ∧ q < m.ths.length))] at hql ⊢
        obtain ⟨a, b, c⟩ := h.2 q hq hql
        exact ⟨a, by show read q ≤ m.clock + 1; omega, c⟩
    · intro _
      dsimp only
      rw [getD_set, if_pos (⟨rfl, hkn⟩ : k = k ∧ k < m.ths.length)]
      refine ⟨?_, rfl, rfl⟩
      rcases hk0.2.2 with e | e
      · exact absurd e hc.2
      · exact e
  · rw [if_neg hc] at hr ⊢
    rw [j1, Int.toNat_natCast] at hr ⊢
    obtain ⟨hj0, hj0'⟩ : ∃ x, m.hist.getD j .no = x := ⟨_, rfl⟩
    rw [hj0'] at hr j4 ⊢
    obtain ⟨m1, m2, m3⟩ := mo_eq.1 j4
    refine ⟨⟨hr, ?_⟩, ?_⟩
    · intro q hq hql
      simp only [List.length_set] at hq
      simp only [getD_set (l := m.ths)] at hql ⊢
      by_cases hkq : k = q
      · subst hkq
        rw [if_pos (⟨rfl, hkn⟩ : k = k ∧ k < m.ths.length)] at hql
        cases hql
      · rw [if_neg (fun e => hkq e.1 : ¬ (k = q ∧ q < m.ths.length))] at hql ⊢
        obtain ⟨a, b, c⟩ := h.2 q hq hql
        refine ⟨a, by show read q ≤ m.clock + 1; omega, ?_⟩
        cases ok with
        | true =>
          right
          rw [passedB_iff]
          refine ⟨j, by simpa using j2, ?_⟩
          rw [getD_set, if_pos ⟨rfl, j2⟩]
          refine ⟨?_, ?_, rfl⟩
          · show hj0.thread ≠ q
            omega
          · show read q < m.clock + 1
            omega
        | false =>
          rcases c with c | c
          · exact .inl (by simpa using c)
          · right
            rw [passedB_iff] at c ⊢
            obtain ⟨i, i1, i2, i3, i4⟩ := c
            have hij : j ≠ i := by
              rintro rfl
              rw [hj0', m3] at i3
              omega
            refine ⟨i, by simpa using i1, ?_⟩
            rw [getD_set, if_neg (fun e => hij e.1)]
            exact ⟨i2, i3, i4⟩
    · intro hlen
      dsimp only at hlen
      rw [getD_set, if_pos (⟨rfl, hkn⟩ : k = k ∧ k < m.ths.length)] at hlen
      simp only [List.length_drop] at hlen
      omega
end
end Go.Proofs.Ytkjloeefcaadlaa
/- Moments none of which overlap: plain. -/
namespace Go.Proofs.Ytkjloeefcaadlaa
theorem bit_fin2 : ∀ n : Fin 9, ∀ k : Fin 9, ∀ j : Fin 8, k.val ≤ n.val → bit (2 ^ n.val - 2 ^ k.val) j.val = (decide (k.val ≤ j.val) && decide (j.val < n.val)) := by decide +kernel
theorem bit_rest {n k j : Nat} (hn : n ≤ 8) (hk : k ≤ n) (hj : j < 8) : bit (2 ^ n - 2 ^ k) j = (decide (k ≤ j) && decide (j < n)) := bit_fin2 ⟨n, by omega⟩ ⟨k, by omega⟩ ⟨j, hj⟩ hk
section
variable {D : Nat → Dn → Nat × Nat × Bool} {R : Nat → Bool}
theorem plays_seq {w : Nat} {l : List Dn} {H : Nat → Mo} : ∀ (n k : Nat), (∀ i, k ≤ i → i < k + n → H i = momA D w l i) → plays D H (wordA D w l k) (List.range' k n) (wordA D w l (k + n))
  | 0, k, _ => rfl
  | n + 1, k, h => by
    rw [List.range'_succ]
    unfold plays
    rw [h k (by omega) (by omega)]
    refine ⟨rfl, rfl, ?_⟩
    have := plays_seq n (k + 1) (fun i h1 h2 => h i (by omega) (by omega))
    rw [show k + 1 + n = k + (n + 1) by omega] at this
    exact this
/-- They are linear; so with one behind them that is under way. -/
theorem order_yes {w : Nat} {l : List Dn} (h0 : R w = true) (hl : allD l = true) {H : List Mo} (h7 : H.length ≤ 8) (hn : l.length ≤ H.length) (hH : ∀ i, i < l.length → H.getD i .no = momA D w l i) (hmore : ∀ i, l.length ≤ i → i < H.length → (H.getD i .no).en = -1 ∧ isD (H.getD i .no).deed.d = true) :
    linM D R w H (wordA D w l l.length) = true := by
  have hd : (H.all fun h => isD h.deed.d) = true := by
    rw [List.all_eq_true]
    intro x hx
    obtain ⟨i, hi, rfl⟩ := List.getElem_of_mem hx
    have e : H.getD i .no = H[i] := by simp only [List.getD, List.getElem?_eq_getElem hi, Option.getD_some]
    rw [← e]
    by_cases hil : i < l.length
    · rw [hH i hil]
      unfold allD at hl
      rw [List.all_eq_true] at hl
      exact hl _ (getD_mem hil)
    · exact (hmore i (by omega) hi).2
  unfold linM
  rw [decide_eq_true h7, h0, hd, Bool.true_and, Bool.true_and]
  have hb : ∀ k, k < H.length → bit (2 ^ H.length - 1) k = true := fun k hk => by
    rw [bit_full ⟨H.length, by omega⟩ ⟨k, by omega⟩]
    simpa using hk
  have hp := plays_seq (D := D) (w := w) (l := l) (H := fun i => H.getD i .no) l.length 0 (fun i _ h => hH i (by omega))
  rw [Nat.zero_add] at hp
  refine from_found h7 9 (List.range' 0 l.length) w _ (by simp; omega) (full_lt ⟨H.length, by omega⟩) ?_ ?_ List.nodup_range' ?_ hp
  · intro i hi
    rw [List.mem_range'_1] at hi
    exact ⟨by omega, hb i (by omega)⟩
  · intro k hk _
    by_cases hkl : k < l.length
    · left
      rw [List.mem_range'_1]
      omega
    · exact .inr (hmore k (by omega) hk).1
  · refine List.Pairwise.imp_of_mem ?_ (List.pairwise_lt_range' (s := 0) (n := l.length) (step := 1))
    intro a b ha hb hab
    rw [List.mem_range'_1] at ha hb
    rw [hH a (by omega), hH b (by omega)]
    unfold momA
    simp only
    omega
/-- With another answer they are not. -/
theorem order_no {w : Nat} {l : List Dn} {H : List Mo} (h7 : H.length ≤ 8) (hn : H.length = l.length) {at' : Nat} (hat : at' < l.length) (hH : ∀ i, i < l.length → i ≠ at' → H.getD i .no = momA D w l i) (hA : H.getD at' .no = { momA D w l at' with ok := !(momA D w l at').ok }) (to : Nat) :
    ∀ (f k : Nat), k ≤ at' → fromM D H to f (wordA D w l k) (2 ^ l.length - 2 ^ k) = false
  | 0, _, _ => rfl
  | f + 1, k, hk => by
    have hb : ∀ j, j < l.length → bit (2 ^ l.length - 2 ^ k) j = decide (k ≤ j) := fun j hj => by
      rw [bit_rest (by omega) (by omega) (by omega), decide_eq_true hj, Bool.and_true]
    have hbe : ∀ i, i < l.length → (H.getD i .no).beg = 2 * i + 1 ∧ (H.getD i .no).en = 2 * i + 2 ∧ (H.getD i .no).deed = l.getD i .no := by
      intro i hi
      by_cases e : i = at'
      · subst e; rw [hA]; exact ⟨rfl, rfl, rfl⟩
      · rw [hH i hi e]; exact ⟨rfl, rfl, rfl⟩
    have ho : overM H (2 ^ l.length - 2 ^ k) = false := by
      unfold overM
      rw [List.all_eq_false]
      refine ⟨at', List.mem_range.2 (by omega), ?_⟩
      rw [hb at' hat, (hbe at' hat).2.1]
      have : ((2 * (at' : Int) + 2) ≠ -1) := by omega
      simp [hk, this]
    unfold fromM
    rw [ho, Bool.and_false, Bool.false_or, List.any_eq_false]
    intro i hi
    rw [List.mem_range, hn] at hi
    rw [hb i hi]
    by_cases h1 : k ≤ i
    · by_cases h2 : k = i
      · subst h2
        by_cases h3 : k = at'
        · subst h3
          have : ansM (D (wordA D w l k) (H.getD k .no).deed) (H.getD k .no) = false := by
            unfold ansM
            rw [(hbe k hi).2.2, (hbe k hi).2.1, hA]
            have e1 : decide ((2 * (k : Int) + 2) = -1) = false := by simp; omega
            rw [e1]
            simp [momA]
          rw [this]
          simp
        · have ih := order_no h7 hn hat hH hA to f (k + 1) (by omega)
          have e : 2 ^ l.length - 2 ^ k - 2 ^ k = 2 ^ l.length - 2 ^ (k + 1) := by rw [Nat.pow_succ]; omega
          have e2 : (D (wordA D w l k) (H.getD k .no).deed).1 = wordA D w l (k + 1) := by rw [(hbe k hi).2.2]; rfl
          rw [e, e2, ih]
          simp
      · have : waitsM H i (2 ^ l.length - 2 ^ k) = true := by
          unfold waitsM
          rw [List.any_eq_true]
          refine ⟨k, List.mem_range.2 (by omega), ?_⟩
          rw [hb k (by omega), (hbe k (by omega)).2.1, (hbe i hi).1]
          simp
          omega
        rw [this]
        simp
    · rw [decide_eq_false h1]
      simp
theorem order_not {w : Nat} {l : List Dn} {H : List Mo} (h7 : H.length ≤ 8) (hn : H.length = l.length) {at' : Nat} (hat : at' < l.length) (hH : ∀ i, i < l.length → i ≠ at' → H.getD i .no = momA D w l i) (hA : H.getD at' .no = { momA D w l at' with ok := !(momA D w l at').ok }) (to : Nat) :
    linM D R w H to = false := by
  unfold linM
  have := order_no h7 hn hat hH hA to 9 0 (by omega)
  rw [show wordA D w l 0 = w from rfl, ← hn, Nat.pow_zero] at this
  rw [this]
  simp
end
end Go.Proofs.Ytkjloeefcaadlaa
