/- Who is ready, in plain terms: turns shared, turns held, one that is out. -/
import Derived.Test.YtkjloeefcaadlaaTP2
import Derived.Test.YtkjloeefcaadlaaX1
namespace Go.Proofs.Ytkjloeefcaadlaa
attribute [local irreducible] enc pushF outF rightB rowsF rightT allT heldOk nextT ofT outT pushT
theorem beginT_some {x : Nat} {h : Nat → Int} {p : Int × Nat} {o : RS} {b : Bool} (e : nextT x h = some p) (ho : outT x h p.1 = (o, b)) : beginT x h = (o, p.1, p.2, true) := by
  simp only [beginT, e, ho]
theorem beginT_none {x : Nat} {h : Nat → Int} (e : nextT x h = none) : beginT x h = (⟨x, h⟩, 0, 0, false) := by
  simp only [beginT, e]
theorem overT_hold {x : Nat} {h g : Nat → Int} {s u : Int} (hn : ofT x h s = none) (n1 : numB s = true) (n2 : numB u = true) (hr : rightT x h = true) (hd : decide (0 ≤ h u.toNat) = false) (hg : upd h u.toNat s = g) :
    overT x h s u false true = (⟨x, g⟩, true) := by
  simp only [overT, hn, n1, n2, hr, hd, hg, Option.isNone_none, Bool.and_self, if_true, Bool.or_self, Bool.false_eq_true, if_false]
theorem overT_push {x y : Nat} {h : Nat → Int} {s u : Int} {inc b : Bool} (hn : ofT x h s = none) (n1 : numB s = true) (n2 : numB u = true) (hr : rightT x h = true) (hd : (inc || decide (0 ≤ h u.toNat)) = true) (hp : pushT x h s u = (y, b)) :
    overT x h s u inc true = (⟨y, h⟩, b) := by
  simp only [overT, hn, n1, n2, hr, hd, hp, Option.isNone_none, Bool.and_self, if_true]
theorem overT_idle {x : Nat} {h : Nat → Int} {s u : Int} {inc : Bool} (hn : ofT x h s = none) (n1 : numB s = true) (n2 : numB u = true) (hr : rightT x h = true) : overT x h s u inc false = (⟨x, h⟩, true) := by
  simp only [overT, hn, n1, n2, hr, Option.isNone_none, Bool.and_self, if_true, Bool.false_eq_true, if_false]
/-- Nobody is held. -/
def nobody : Nat → Int := fun _ => -1
theorem VT_nobody {l : List (Nat × Nat)} (hl : OkL l) : VT l nobody :=
  ⟨hl, fun _ _ => .inl rfl, fun _ _ _ _ h _ => by simp [nobody] at h, fun _ _ p _ e => by simp [nobody] at e⟩
theorem allTo_nobody {l : List (Nat × Nat)} (hl : OkL l) : ∀ n, allTo (rowL l) nobody n = (l.filter fun p => decide (p.2 < n)).map fun p => ((p.1 : Int), p.2)
  | 0 => by simp [allTo]
  | n + 1 => by
    have hp := parts_by_key (fun p : Nat × Nat => p.2) l hl.sorted n
    rw [allTo, allTo_nobody hl n, ← hp, List.map_append]
    congr 1
    have : heldAt nobody n = [] := by simp [heldAt, nobody]
    rw [this, List.nil_append, rowL, List.map_map]
    apply List.map_congr_left
    intro p hp
    rw [List.mem_filter] at hp
    have : p.2 = n := by simpa using hp.2
    simp [this]
theorem allT_nobody {l : List (Nat × Nat)} (hl : OkL l) : allT (enc l) nobody = l.map fun p => ((p.1 : Int), p.2) := by
  rw [allT, rows_enc hl, allTo_nobody hl 8]
  congr 1
  rw [List.filter_eq_self]
  intro p hp
  simpa using (hl.inn p hp).2
theorem next_nobody {s u : Nat} {l : List (Nat × Nat)} (hl : OkL ((s, u) :: l)) : nextT (enc ((s, u) :: l)) nobody = some ((s : Int), u) := by
  unfold nextT firstT
  rw [if_pos (right_VT (VT_nobody hl)), allT_nobody hl]
  simp
theorem mem_of {l : List (Nat × Nat)} {h : Nat → Int} (hv : VT l h) {s u : Nat} (hu : u < 8) (hm : (s, u) ∈ l) : ofT (enc l) h s = some ((s : Int), u) :=
  (of_iff hv).2 ⟨(mem_allT hv.ok).2 ⟨hu, .inr ⟨(s, u), hm, rfl, rfl⟩⟩, rfl⟩
theorem del_first {s b : Nat} {t : List (Nat × Nat)} (hl : OkL ((s, b) :: t)) : delL ((s, b) :: t) s = t := delL_split (a := []) (p := (s, b)) hl
theorem ok_tail {s b : Nat} {t : List (Nat × Nat)} (hl : OkL ((s, b) :: t)) : OkL t := by
  have := delL_ok hl s
  rwa [del_first hl] at this
theorem share_a {s b : Nat} {t : List (Nat × Nat)} (hl : OkL ((s, b) :: t)) : beginT (enc ((s, b) :: t)) nobody = (⟨enc t, nobody⟩, (s : Int), b, true) := by
  have hv := VT_nobody hl
  have hsb := hl.inn (s, b) (by simp)
  have hof : ofT (enc ((s, b) :: t)) nobody s = some ((s : Int), b) := mem_of hv hsb.2 (by simp)
  have hO := out_word hv hof (by simp [nobody])
  rw [del_first hl] at hO
  exact beginT_some (next_nobody hl) hO
theorem share_n {s b : Nat} {t : List (Nat × Nat)} (hl : OkL ((s, b) :: t)) : ofT (enc t) nobody s = none := by
  have hv1 := VT_nobody (ok_tail hl)
  rw [of_nil hv1]
  rintro ⟨t, v⟩ hp e
  obtain ⟨_, h1 | ⟨q, hq, _, h4⟩⟩ := (mem_allT hv1.ok).1 hp
  · simp [nobody] at h1
  · have := (List.pairwise_cons.1 hl.pair).1 q hq
    dsimp only at this e
    omega
theorem share_b {s b : Nat} {t : List (Nat × Nat)} (hl : OkL ((s, b) :: t)) : overT (enc t) nobody (s : Int) (b : Int) true true = (⟨enc (insL t s b), nobody⟩, true) := by
  have hv1 := VT_nobody (ok_tail hl)
  have hsb := hl.inn (s, b) (by simp)
  have hn := share_n hl
  have hpush := push_yesT hv1 hn hsb.1 hsb.2
  have n1 : numB (s : Int) = true := numB_iff.2 ⟨by omega, by omega⟩
  have n2 : numB (b : Int) = true := numB_iff.2 ⟨by omega, by omega⟩
  have hr1 := right_VT hv1
  exact overT_push hn n1 n2 hr1 rfl hpush
theorem share_c {s b : Nat} {R : List Nat} {T : List (Nat × Nat)} (hT : ∀ p, p ∈ T → b < p.2) : insL (R.map (fun s => (s, b)) ++ T) s b = (R ++ [s]).map (fun s => (s, b)) ++ T := by
  have e1 : (R.map fun s => (s, b)).filter (fun p => decide (p.2 ≤ b)) = R.map fun s => (s, b) := by
    rw [List.filter_eq_self]; intro p hp; obtain ⟨a, _, rfl⟩ := List.mem_map.1 hp; simp
  have e2 : (R.map fun s => (s, b)).filter (fun p => decide (b < p.2)) = [] := by
    rw [List.filter_eq_nil_iff]; intro p hp; obtain ⟨a, _, rfl⟩ := List.mem_map.1 hp; simp
  have e3 : T.filter (fun p => decide (p.2 ≤ b)) = [] := by
    rw [List.filter_eq_nil_iff]; intro p hp; have := hT p hp; simp; omega
  have e4 : T.filter (fun p => decide (b < p.2)) = T := by
    rw [List.filter_eq_self]; intro p hp; have := hT p hp; simpa using this
  rw [insL, List.filter_append, List.filter_append, e1, e2, e3, e4]
  simp
/-- One turn of the best ones, if nobody is held: the first one goes behind the others. -/
theorem share_step {s b : Nat} {R : List Nat} {T : List (Nat × Nat)} (hl : OkL ((s, b) :: (R.map (fun s => (s, b)) ++ T))) (hT : ∀ p, p ∈ T → b < p.2) :
    overT (enc (R.map (fun s => (s, b)) ++ T)) nobody (s : Int) (b : Int) true true = (⟨enc ((R ++ [s]).map (fun s => (s, b)) ++ T), nobody⟩, true) ∧
    OkL ((R ++ [s]).map (fun s => (s, b)) ++ T) := by
  have hsb := hl.inn (s, b) (by simp)
  have h2 := share_b hl
  have h3 := ((VT_nobody (ok_tail hl)).ins (share_n hl) hsb.1 hsb.2).ok
  rw [share_c hT] at h2 h3
  exact ⟨h2, h3⟩
/-- Who comes first, if it is held and nobody has a lesser urgency. -/
theorem held_first {X : Nat → List Int} {h : Nat → Int} {u : Nat} (h0 : 0 ≤ h u) : ∀ n, u < n → (∀ p, p ∈ allTo X h n → u ≤ p.2) → ∃ t, allTo X h n = (h u, u) :: t := by
  intro n
  induction n with
  | zero => omega
  | succ n ih =>
    intro hu hm
    by_cases e : u = n
    · subst e
      have hnil : allTo X h u = [] := by
        rw [List.eq_nil_iff_forall_not_mem]
        rintro ⟨s, v⟩ hp
        have h1 := (mem_allTo.1 hp).1
        have h2 := hm (s, v) (by rw [allTo]; exact List.mem_append_left _ hp)
        dsimp only at h2
        omega
      rw [allTo, hnil]
      unfold heldAt
      rw [if_pos h0]
      exact ⟨_, rfl⟩
    · obtain ⟨t, ht⟩ := ih (by omega) (fun p hp => hm p (by rw [allTo]; exact List.mem_append_left _ hp))
      rw [allTo, ht]
      exact ⟨_, rfl⟩
theorem upd_same {h : Nat → Int} {u : Nat} {v w : Int} (e : h u = v) : upd (upd h u w) u v = h := by
  funext i
  unfold upd
  split
  · rename_i hi; rw [hi, e]
  · rfl
theorem upd_at (h : Nat → Int) (u : Nat) (v : Int) : upd h u v u = v := by simp [upd]
/-- One turn of one that is held: it goes on. -/
theorem hold_step {l : List (Nat × Nat)} {h : Nat → Int} (hv : VT l h) {u : Nat} (hu : u < 8) (h0 : 0 ≤ h u) (hm : ∀ p, p ∈ allT (enc l) h → u ≤ p.2) :
    beginT (enc l) h = (⟨enc l, upd h u (-1)⟩, h u, u, true) ∧ overT (enc l) (upd h u (-1)) (h u) (u : Int) false true = (⟨enc l, h⟩, true) := by
  have h8 := hv.held u hu
  have hof : ofT (enc l) h (h u) = some (h u, u) := (of_iff hv).2 ⟨(mem_allT hv.ok).2 ⟨hu, .inl ⟨h0, rfl⟩⟩, rfl⟩
  have hnext : nextT (enc l) h = some (h u, u) := by
    obtain ⟨t, ht⟩ := held_first (X := rowsF (enc l)) h0 8 hu (by rw [allT] at hm; exact hm)
    unfold nextT firstT
    rw [if_pos (right_VT hv), allT, ht]
    rfl
  have hv1 := hv.drop u
  have hn : ofT (enc l) (upd h u (-1)) (h u) = none := by
    rw [of_nil hv1]
    rintro ⟨t, v⟩ hp e
    dsimp only at e
    subst e
    obtain ⟨hv8, ⟨h1, h2⟩ | ⟨q, hq, _, h4⟩⟩ := (mem_allT hv1.ok).1 hp
    · unfold upd at h1 h2
      split at h1
      · omega
      · rw [if_neg ‹_›] at h2
        have := hv.apart u v hu hv8 h0 h2
        omega
    · exact hv.gone u hu q hq h4
  constructor
  · have hO : outT (enc l) h (h u) = (⟨enc l, upd h u (-1)⟩, true) := outT_held hof rfl
    exact beginT_some hnext hO
  · have n1 : numB (h u) = true := numB_iff.2 ⟨by omega, by omega⟩
    have n2 : numB (u : Int) = true := numB_iff.2 ⟨by omega, by omega⟩
    have hr1 := right_VT hv1
    have hs : upd (upd h u (-1)) u (h u) = h := upd_same rfl
    have hd : decide (0 ≤ upd h u (-1) (Int.toNat u)) = false := by rw [Int.toNat_natCast, upd_at]; rfl
    exact overT_hold hn n1 n2 hr1 hd hs
end Go.Proofs.Ytkjloeefcaadlaa
