/- Bytes told apart; tokens (the program). -/
import Derived.Test.YtihmnkbkigkjjaaDoorZ0
namespace Go.Proofs.YtihmnkbkigkjjaaDoor
open Go.RowKit Go.Shelf Go.Cs
attribute [local go_sem] Oper.semAt_some
theorem digit_fact (n : Nat) (h : n < 256) : decide (((n : Int) - 48) % 256 < 10) = (decide (48 ≤ n) && decide (n ≤ 57)) := by
  rw [Bool.eq_iff_iff]
  simp only [decide_eq_true_eq, Bool.and_eq_true]
  omega
theorem digit_p : PredB 18 #[] Bare.digB := by
  intro c w
  unfold Bare.digB
  have hlt := UInt8.toNat_lt c
  obtain ⟨n, hn⟩ : ∃ n, c.toNat = n := ⟨_, rfl⟩
  rw [hn] at hlt ⊢
  clear hn
  go_enter Tryd.func18, Tryd.ntmps18
  go_wp2_with fail
  go_ret
  exact ⟨congrArg (fun b => Ending.returned (.bool b)) (digit_fact n hlt), rfl⟩
theorem letter_facts : ∀ k : Fin 256, (decide (97 ≤ (bits BinOp.or IntKind.u8 ((k.1 : Nat) : Int) 32)) && decide ((bits BinOp.or IntKind.u8 ((k.1 : Nat) : Int) 32) ≤ 122)) = Bare.letB (UInt8.ofNat k.1) ∧ 0 ≤ (bits BinOp.or IntKind.u8 ((k.1 : Nat) : Int) 32) := by decide +kernel
theorem letter_p : PredB 20 #[] Bare.letB := by
  intro c w
  have hlt := UInt8.toNat_lt c
  have hf := letter_facts ⟨c.toNat, hlt⟩
  rw [show UInt8.ofNat c.toNat = c from UInt8.ofNat_toNat] at hf
  obtain ⟨r, hr⟩ : ∃ r, Bare.letB c = r := ⟨_, rfl⟩
  rw [hr] at hf ⊢
  obtain ⟨n, hn⟩ : ∃ n, c.toNat = n := ⟨_, rfl⟩
  simp only [hn] at hf ⊢
  obtain ⟨m, hm⟩ : ∃ m, bits BinOp.or IntKind.u8 (n : Int) 32 = m := ⟨_, rfl⟩
  rw [hm] at hf
  clear hn hr hlt
  by_cases h1 : 97 ≤ m
  · have d1 : decide (97 ≤ m) = true := decide_eq_true h1
    have hf := hf.1
    rw [d1, Bool.true_and] at hf
    go_enter Tryd.func20, Tryd.ntmps20
    go_wp2_with fail
    go_ret
    exact ⟨rfl, rfl⟩
  · have d1 : decide (97 ≤ m) = false := decide_eq_false h1
    have hf := hf.1
    rw [d1, Bool.false_and] at hf
    subst hf
    go_enter Tryd.func20, Tryd.ntmps20
    go_wp2_with fail
    go_ret
    exact ⟨rfl, rfl⟩
theorem plain_p : PredB 36 #[] Bare.plnB := by
  intro c w
  unfold Bare.plnB
  obtain ⟨n, hn⟩ : ∃ n, c.toNat = n := ⟨_, rfl⟩
  rw [hn]
  clear hn
  by_cases h1 : 32 ≤ n
  · by_cases h2 : n ≤ 126
    · go_enter Tryd.func36, Tryd.ntmps36
      go_wp2_with fail
      go_ret
      exact ⟨by simp [h1, h2]; try omega, rfl⟩
    · go_enter Tryd.func36, Tryd.ntmps36
      go_wp2_with fail
      go_ret
      exact ⟨by simp [h1, h2]; try omega, rfl⟩
  · go_enter Tryd.func36, Tryd.ntmps36
    go_wp2_with fail
    go_ret
    exact ⟨by simp [show ¬ 32 ≤ n from h1], rfl⟩
/-- How a token's byte may be: the first one, another. -/
def tokAt (k : Nat) (c : UInt8) : Bool := if k = 0 then Bare.headTok c else Bare.inTok c
theorem tok_bad (k : Nat) (c : UInt8) : (!Bare.letB c && (!(c == 42) && (k == 0 || (!Bare.digB c && !Bare.marks.contains c)))) = !tokAt k c := by
  have h42 : c = 42 → Bare.marks.contains c = true := by rintro rfl; decide
  unfold tokAt Bare.headTok Bare.inTok
  by_cases hk : k = 0
  · subst hk; cases Bare.letB c <;> cases h : (c == 42) <;> simp
  · rw [if_neg hk]
    have : (k == 0) = false := by simpa using hk
    rw [this]
    cases h : (c == 42) with
    | true => rw [h42 (by simpa using h)]; cases Bare.letB c <;> cases Bare.digB c <;> rfl
    | false => cases Bare.letB c <;> cases Bare.digB c <;> cases Bare.marks.contains c <;> rfl
theorem tokB_at (l : Bare.Bs) : Bare.tokB l = true ↔ l ≠ [] ∧ ∀ k c, l[k]? = some c → tokAt k c = true := by
  cases l with
  | nil => simp [Bare.tokB]
  | cons a r =>
    simp only [Bare.tokB, Bool.and_eq_true]
    constructor
    · rintro ⟨h1, h2⟩
      refine ⟨by simp, fun k c hk => ?_⟩
      cases k with
      | zero => simp at hk; subst hk; exact h1
      | succ k =>
        rw [List.getElem?_cons_succ] at hk
        exact List.all_eq_true.1 h2 c (List.mem_of_getElem? hk)
    · rintro ⟨-, h⟩
      refine ⟨h 0 a rfl, List.all_eq_true.2 fun c hc => ?_⟩
      obtain ⟨i, hi⟩ := List.getElem?_of_mem hc
      exact h (i + 1) c (by simpa using hi)
end Go.Proofs.YtihmnkbkigkjjaaDoor
