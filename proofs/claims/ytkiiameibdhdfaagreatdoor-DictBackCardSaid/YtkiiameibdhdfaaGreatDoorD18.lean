/- Sizes of what is parsed, plainly. -/
import Derived.Test.YtkiiameibdhdfaaGreatDoorD06
import Derived.Test.YtkiiameibdhdfaaGreatDoorD15
import Derived.Test.YtkiiameibdhdfaaGreatDoorD17
set_option linter.unusedSimpArgs false
set_option linter.unusedVariables false
namespace Go.Proofs.YtkiiameibdhdfaaGreatDoor
set_option linter.unusedVariables false
set_option linter.unusedSimpArgs false
theorem quoted_txt : ∀ (n : Nat) (s acc rest : Bare.Bs) (b : Bare.It), s.length ≤ n → Bare.quoted acc s = some (b, rest) → b.text.length ≤ acc.length + s.length
  | _, [], _, _, _, _, h => by cases h
  | 0, c :: r, _, _, _, hn, _ => by simp at hn
  | n + 1, c :: r, acc, rest, b, hn, h => by
    rw [Bare.quoted_cons] at h
    split at h
    · cases h
    · split at h
      · cases h
        simp
      · split at h
        · cases r with
          | nil => cases h
          | cons d r' =>
            simp only at h
            split at h
            · have := quoted_txt n r' (acc ++ [d]) rest b (by simp at hn; omega) h
              simp at this ⊢
              omega
            · cases h
        · have := quoted_txt n r (acc ++ [c]) rest b (by simp at hn; omega) h
          simp at this ⊢
          omega
theorem number_txt {s rest : Bare.Bs} {b : Bare.It} (h : Bare.number s = some (b, rest)) : b.text = [] := by
  unfold Bare.number at h
  simp only at h
  split at h
  · split at h
    · cases h
    · split at h
      · cases h; rfl
      · split at h
        · cases h
        · cases h; rfl
  · split at h
    · cases h
    · split at h
      · cases h; rfl
      · split at h
        · cases h
        · cases h; rfl
theorem unsix_ln {l t : Bare.Bs} (h : Bare.unsix l = some t) : t.length ≤ l.length := by
  have := Bare.sixes_len t
  rw [Bare.sixes_unsix h] at this
  omega
theorem parse_txt {s rest : Bare.Bs} {b : Bare.It} (h : Bare.parseI s = some (b, rest)) : b.text.length ≤ s.length := by
  cases s with
  | nil => cases h
  | cons c r =>
    rw [Bare.parseI_cons] at h
    split at h
    · rw [number_txt h]; simp
    split at h
    · simp only [Option.some.injEq, Prod.mk.injEq] at h
      obtain ⟨rfl, rfl⟩ := h
      exact Bare.takeWhile_len _ _
    split at h
    · have := quoted_txt r.length r [] rest b (Nat.le_refl _) h
      simp at this ⊢
      omega
    split at h
    · unfold Bare.packed at h
      have hl := Bare.takeWhile_len (· != 58) r
      obtain ⟨i, hi⟩ : ∃ x, r.takeWhile (· != 58) = x := ⟨_, rfl⟩
      rw [hi] at hl
      simp only [hi] at h
      split at h
      · cases h
      · cases hu : Bare.unsix i with
        | none => rw [hu] at h; cases h
        | some t =>
          rw [hu] at h
          simp only [Option.map_some, Option.some.injEq, Prod.mk.injEq] at h
          obtain ⟨rfl, rfl⟩ := h
          have := unsix_ln hu
          simp
          omega
    split at h
    · cases r with
      | nil => cases h
      | cons d r' =>
        simp only at h
        split at h
        · simp only [Option.some.injEq, Prod.mk.injEq] at h
          obtain ⟨rfl, rfl⟩ := h
          simp
        · cases h
    · cases h

def SzP (n : Nat) (ps : List Bare.Par) : Prop := ps.length ≤ n ∧ ∀ p ∈ ps, p.key.length ≤ n ∧ p.bare.text.length ≤ n
def SzX (n : Nat) (x : Bare.Itm) : Prop := x.bare.text.length ≤ n ∧ SzP n x.params
def SzM (n : Nat) (m : Bare.Mem) : Prop := m.key.length ≤ n ∧ m.items.length ≤ n ∧ SzP n m.params ∧ ∀ x ∈ m.items, SzX n x
def SzD (n : Nat) (d : List Bare.Mem) : Prop := d.length ≤ n ∧ ∀ m ∈ d, SzM n m
theorem readKey_txt {s k r : Bare.Bs} (h : Bare.readKey s = some (k, r)) : k.length ≤ s.length := by
  unfold Bare.readKey at h
  simp only at h
  split at h
  · cases h
  · cases h
    cases s with
    | nil => simp [Bare.keyOf]
    | cons c l =>
      show (if Bare.smlB c then c :: l.takeWhile Bare.inKey else []).length ≤ _
      split
      · have := Bare.takeWhile_len Bare.inKey l
        simp
        omega
      · simp
theorem readVal_txt {s r : Bare.Bs} {b : Bare.It} (h : Bare.readVal s = some (b, r)) : b.text.length ≤ s.length := by
  unfold Bare.readVal at h
  split at h
  · have := parse_txt h
    simp
    omega
  · cases h; simp [Bare.yesI]
theorem setP_sz (l : List Bare.Par) (p : Bare.Par) : (Bare.setP l p).length ≤ l.length + 1 ∧ ∀ q ∈ Bare.setP l p, q ∈ l ∨ q = p := by
  unfold Bare.setP
  split
  · refine ⟨by simp, fun q hq => ?_⟩
    obtain ⟨x, hx, e⟩ := List.mem_map.1 hq
    split at e
    · exact .inr e.symm
    · exact .inl (e ▸ hx)
  · exact ⟨by simp, fun q hq => by simpa [or_comm] using hq⟩
theorem setM_sz (l : List Bare.Mem) (p : Bare.Mem) : (Bare.setM l p).length ≤ l.length + 1 ∧ ∀ q ∈ Bare.setM l p, q ∈ l ∨ q = p := by
  unfold Bare.setM
  split
  · refine ⟨by simp, fun q hq => ?_⟩
    obtain ⟨x, hx, e⟩ := List.mem_map.1 hq
    split at e
    · exact .inr e.symm
    · exact .inl (e ▸ hx)
  · exact ⟨by simp, fun q hq => by simpa [or_comm] using hq⟩
theorem readParams_sz (N : Nat) : ∀ (n : Nat) (s : Bare.Bs) (l ps : List Bare.Par) (r : Bare.Bs), s.length ≤ n → s.length ≤ N → (∀ p ∈ l, p.key.length ≤ N ∧ p.bare.text.length ≤ N) → Bare.readParams l s = some (ps, r) →
    ps.length + r.length ≤ l.length + s.length ∧ ∀ p ∈ ps, p.key.length ≤ N ∧ p.bare.text.length ≤ N := by
  intro n
  induction n with
  | zero =>
    intro s l ps r hn hN hl h
    have : s = [] := List.length_eq_zero_iff.1 (by omega)
    subst this
    rw [Bare.readParams_end l [] (by simp)] at h
    cases h; exact ⟨Nat.le_refl _, hl⟩
  | succ n ih =>
    intro s l ps r hn hN hl h
    rw [Bare.readParams.eq_def] at h
    split at h
    · rename_i r0
      split at h
      · cases h
      · rename_i k r1 h1
        split at h
        · cases h
        · rename_i b r2 h2
          have a1 := Bare.readKey_len h1
          have a2 := Bare.readVal_len h2
          have a3 := Bare.skip_len [32] r0
          have t1 := readKey_txt h1
          have t2 := readVal_txt h2
          simp only [List.length_cons] at hn hN
          obtain ⟨s1, s2⟩ := setP_sz l ⟨k, b⟩
          obtain ⟨i1, i2⟩ := ih r2 _ ps r (by omega) (by omega) (fun p hp => by
            rcases s2 p hp with hp | rfl
            · exact hl p hp
            · exact ⟨by show k.length ≤ N; omega, by show b.text.length ≤ N; omega⟩) h
          exact ⟨by simp only [List.length_cons]; omega, i2⟩
    · cases h; exact ⟨Nat.le_refl _, hl⟩
theorem readParams_nil (N : Nat) {s r : Bare.Bs} {ps : List Bare.Par} (hN : s.length ≤ N) (h : Bare.readParams [] s = some (ps, r)) : SzP N ps := by
  obtain ⟨h1, h2⟩ := readParams_sz N _ s [] ps r (Nat.le_refl _) hN (fun p hp => by cases hp) h
  simp at h1
  exact ⟨by omega, h2⟩
theorem readItem_sz (N : Nat) {s r : Bare.Bs} {x : Bare.Itm} (hN : s.length ≤ N) (h : Bare.readItem s = some (x, r)) : SzX N x := by
  unfold Bare.readItem at h
  split at h
  · cases h
  · rename_i b r1 h1
    split at h
    · cases h
    · rename_i ps r2 h2
      cases h
      have t1 := parse_txt h1
      have a1 := Bare.parseI_len h1
      exact ⟨by show b.text.length ≤ N; omega, readParams_nil N (by omega) h2⟩
theorem readInner_sz (N : Nat) : ∀ (n : Nat) (s : Bare.Bs) (l ps : List Bare.Itm) (r : Bare.Bs), s.length ≤ n → s.length ≤ N → (∀ x ∈ l, SzX N x) → Bare.readInner l s = some (ps, r) →
    ps.length + r.length ≤ l.length + s.length ∧ ∀ x ∈ ps, SzX N x := by
  intro n
  induction n with
  | zero =>
    intro s l ps r hn hN hl h
    have : s = [] := List.length_eq_zero_iff.1 (by omega)
    subst this
    rw [Bare.readInner.eq_def] at h
    simp [Bare.skipB, Bare.readItem, Bare.parseI] at h
  | succ n ih =>
    intro s l ps r hn hN hl h
    have a2 := Bare.skip_len [32] s
    rw [Bare.readInner.eq_def] at h
    split at h
    · rename_i r0 h0
      cases h
      rw [h0] at a2
      simp only [List.length_cons] at a2
      exact ⟨by omega, hl⟩
    · split at h
      · cases h
      · rename_i x r1 h1
        have a1 := Bare.readItem_len h1
        have b1 := readItem_sz N (by omega) h1
        split at h
        · obtain ⟨i1, i2⟩ := ih r1 _ ps r (by omega) (by omega) (fun y hy => by
            rcases List.mem_append.1 hy with hy | hy
            · exact hl y hy
            · rw [List.mem_singleton] at hy; exact hy ▸ b1) h
          rw [List.length_append] at i1
          simp only [List.length_singleton] at i1
          exact ⟨by omega, i2⟩
        · cases h
theorem readMem_sz (N : Nat) {s r : Bare.Bs} {m : Bare.Mem} (h1 : 1 ≤ N) (hN : s.length ≤ N) (h : Bare.readMem s = some (m, r)) : SzM N m := by
  unfold Bare.readMem at h
  split at h
  · cases h
  · rename_i k r0 h0
    have a0 := Bare.readKey_len h0
    have t0 := readKey_txt h0
    unfold Bare.readRest at h
    split at h
    · rename_i r1
      split at h
      · cases h
      · rename_i items r2 h2
        split at h
        · cases h
        · rename_i ps r3 h3
          cases h
          simp only [List.length_cons] at a0
          obtain ⟨i1, i2⟩ := readInner_sz N _ r1 [] items r2 (Nat.le_refl _) (by omega) (fun x hx => by cases hx) h2
          simp at i1
          exact ⟨by show k.length ≤ N; omega, by show items.length ≤ N; omega, readParams_nil N (by omega) h3, i2⟩
    · rename_i r1 _
      split at h
      · cases h
      · rename_i x r2 h2
        cases h
        simp only [List.length_cons] at a0
        refine ⟨by show k.length ≤ N; omega, by show 1 ≤ N; omega, ⟨Nat.zero_le _, fun p hp => by cases hp⟩, fun y hy => ?_⟩
        rw [List.mem_singleton] at hy
        exact hy ▸ readItem_sz N (by omega) h2
    · split at h
      · cases h
      · rename_i ps r2 h2
        cases h
        refine ⟨by show k.length ≤ N; omega, by show 1 ≤ N; omega, ⟨Nat.zero_le _, fun p hp => by cases hp⟩, fun y hy => ?_⟩
        rw [List.mem_singleton] at hy
        exact hy ▸ ⟨by simp [Bare.yesI], readParams_nil N (by omega) h2⟩
theorem readD_sz (N : Nat) (h1 : 1 ≤ N) : ∀ (n : Nat) (s : Bare.Bs) (d e : List Bare.Mem), s.length ≤ n → s.length ≤ N → (∀ m ∈ d, SzM N m) → Bare.readD d s = some e → e.length ≤ d.length + s.length ∧ ∀ m ∈ e, SzM N m := by
  intro n
  induction n with
  | zero =>
    intro s d e hn hN hd h
    have : s = [] := List.length_eq_zero_iff.1 (by omega)
    subst this
    rw [Bare.readD.eq_def] at h
    cases h; exact ⟨Nat.le_refl _, hd⟩
  | succ n ih =>
    intro s d e hn hN hd h
    rw [Bare.readD.eq_def] at h
    split at h
    · cases h; exact ⟨Nat.le_refl _, hd⟩
    · rename_i c l
      split at h
      · cases h
      · rename_i m r h2
        have hm := readMem_sz N h1 hN h2
        have a1 := Bare.readMem_len h2
        obtain ⟨s1, s2⟩ := setM_sz d m
        have hset : ∀ q ∈ Bare.setM d m, SzM N q := fun q hq => by
          rcases s2 q hq with hq | rfl
          · exact hd q hq
          · exact hm
        split at h
        · cases h
          simp only [List.length_cons] at a1 ⊢
          exact ⟨by omega, hset⟩
        · split at h
          · rename_i r2 h3
            simp only at h
            split at h
            · cases h
            · have a2 := Bare.skip_len [32, 9] r
              rw [h3] at a2
              have a3 := Bare.skip_len [32, 9] r2
              simp only [List.length_cons] at a1 a2 hn hN
              obtain ⟨i1, i2⟩ := ih _ _ e (by omega) (by omega) hset h
              exact ⟨by simp only [List.length_cons]; omega, i2⟩
          · cases h
theorem parse_sz {N : Nat} {s : Bare.Bs} {d : List Bare.Mem} (h1 : 1 ≤ N) (hN : s.length ≤ N) (h : Bare.parseD s = some d) : SzD N d := by
  unfold Bare.parseD at h
  have a1 := Bare.skip_len [32] s
  have a2 : (Bare.trimR 32 (Bare.skipB [32] s)).length ≤ (Bare.skipB [32] s).length := by
    have : ∀ l : Bare.Bs, (Bare.trimR 32 l).length ≤ l.length := fun l => by
      unfold Bare.trimR
      simp only [List.length_reverse]
      have := Bare.drop_len (fun x => x == 32) l.reverse
      simp at this
      exact this
    exact this _
  obtain ⟨i1, i2⟩ := readD_sz N h1 _ _ [] d (Nat.le_refl _) (by omega) (fun m hm => by cases hm) h
  simp at i1
  exact ⟨by omega, i2⟩
end Go.Proofs.YtkiiameibdhdfaaGreatDoor
/- Small facts of dictionaries. -/
namespace Go.Proofs.YtkiiameibdhdfaaGreatDoor
open Go.RowKit Go.Shelf Go.Cs
attribute [local go_sem] Oper.semAt_some
set_option linter.unusedVariables false
set_option linter.unusedSimpArgs false
/-- A dictionary of one item, made. -/
theorem one_d (W1 : World) (key : Bare.Bs) (inner : Bool) (b : Bare.It) : RdD false ((W1.alloc (.cells #[.int .u8 b.kind, .int .i64 b.int, .string (tx b.text), .bool b.yes, .slice none 0 0] 71)).alloc (.cells #[.string (tx key), .bool inner, .slice (some ⟨W1.heap.size, 0, none⟩) 1 1, .slice none 0 0] 64)) (.slice (some ⟨W1.heap.size + 1, 0, none⟩) 1 1) [⟨key, inner, [⟨b, []⟩], []⟩] := by
  have r1 := World.alloc_heap_new W1 (.cells #[.int .u8 b.kind, .int .i64 b.int, .string (tx b.text), .bool b.yes, .slice none 0 0] 71)
  obtain ⟨W2, hW2⟩ : ∃ V, W1.alloc (.cells #[.int .u8 b.kind, .int .i64 b.int, .string (tx b.text), .bool b.yes, .slice none 0 0] 71) = V := ⟨_, rfl⟩
  have hs : W2.heap.size = W1.heap.size + 1 := by rw [← hW2]; simp
  rw [hW2] at r1 ⊢
  have r2 := World.alloc_heap_new W2 (.cells #[.string (tx key), .bool inner, .slice (some ⟨W1.heap.size, 0, none⟩) 1 1, .slice none 0 0] 64)
  have hA : New W2 (W2.alloc (.cells #[.string (tx key), .bool inner, .slice (some ⟨W1.heap.size, 0, none⟩) 1 1, .slice none 0 0] 64)) := (Mods.refl _ _).alloc _
  obtain ⟨W3, hW3⟩ : ∃ V, W2.alloc (.cells #[.string (tx key), .bool inner, .slice (some ⟨W1.heap.size, 0, none⟩) 1 1, .slice none 0 0] 64) = V := ⟨_, rfl⟩
  rw [hW3] at r2 hA ⊢
  replace r1 := hA.heap r1 id
  rw [hs] at r2
  refine ⟨fun _ => .slice (some ⟨W1.heap.size, 0, none⟩) 1 1, fun _ => .slice none 0 0, ⟨by simp, _, _, rfl, fun i hi => ?_⟩, tag_none, fun i hi => ?_⟩
  · obtain rfl : i = 0 := by simp at hi; omega
    refine ⟨_, 0, rfl, fun j u hu => ?_⟩
    rw [cell_of_row W3 _ (0 + 0 * 4 + j) _ _ _ r2]
    simpa [mcs] using hu
  · obtain rfl : i = 0 := by simp at hi; omega
    refine ⟨⟨fun _ => .slice none 0 0, ⟨by simp, _, _, rfl, fun j hj => ?_⟩, tag_none, fun j hj => ?_⟩, RdP.nil _ _ _⟩
    · obtain rfl : j = 0 := by simp at hj; omega
      refine ⟨_, 0, rfl, fun j u hu => ?_⟩
      rw [cell_of_row W3 _ (0 + 0 * 5 + j) _ _ _ r1]
      simpa [ics] using hu
    · obtain rfl : j = 0 := by simp at hj; omega
      exact RdP.nil _ _ _
theorem fits_of_sz {n : Nat} {d : List Bare.Mem} (hn : n ≤ 1000000) (h : SzD n d) : ∀ m ∈ d, Fits m := fun m hm => by
  obtain ⟨-, h2, h3, h4⟩ := h.2 m hm
  refine ⟨by omega, by have := h3.1; omega, fun i hi => ?_⟩
  have := (h4 _ (getD_mem (d := Bare.noI) hi)).2.1
  omega
theorem prioD_print {u : Nat} {i : Bool} (hu : u ≤ 7) : PrD (Bare.prioD u i) := by
  have hx : ∀ (k : Bare.Bs) (b : Bare.It), k.length = 1 → 0 ≤ b.kind → b.text = [] → PrM ⟨k, false, [⟨b, []⟩], []⟩ := fun k b hk hb ht => by
    refine ⟨⟨by show k.length ≤ _; omega, by simp, by simp, fun x hx => ?_, fun p hp => by cases hp⟩, by simp, by simp, fun x hx => ?_⟩
    · rw [List.mem_singleton] at hx
      subst hx
      exact ⟨hb, by simp [ht], by simp, fun p hp => by cases hp⟩
    · rw [List.mem_singleton] at hx
      subst hx
      exact ⟨⟨hb, by simp [ht], by simp, fun p hp => by cases hp⟩, by simp⟩
  unfold Bare.prioD
  refine ⟨by split <;> split <;> simp, fun m hm => ?_⟩
  rw [List.mem_append] at hm
  rcases hm with hm | hm
  · split at hm
    · cases hm
    · rw [List.mem_singleton] at hm
      subst hm
      exact hx _ _ rfl (by show (0:Int) ≤ 1; decide) rfl
  · split at hm
    · rw [List.mem_singleton] at hm
      subst hm
      exact hx _ _ rfl (by show (0:Int) ≤ 6; decide) rfl
    · cases hm
end Go.Proofs.YtkiiameibdhdfaaGreatDoor
/- The wakes of dictionaries: plain facts; the two small functions. -/
namespace Go.Proofs.YtkiiameibdhdfaaGreatDoor
open Go.RowKit Go.Shelf Go.Cs
attribute [local go_sem] Oper.semAt_some
set_option linter.unusedVariables false
set_option linter.unusedSimpArgs false
def dwA : List Bare.Mem := Bare.prioD 1 true
def dwO : List Bare.Mem := [⟨[97], false, [⟨Bare.yesI, []⟩], []⟩]
def dwI : List Bare.Mem := [⟨[97], true, [⟨⟨1, 1, [], false⟩, []⟩, ⟨⟨1, 2, [], false⟩, [⟨[120], Bare.yesI⟩]⟩], [⟨[121], Bare.yesI⟩]⟩]
theorem dw1 : Bare.parseD [117, 61, 49, 44, 32, 105] = some dwA := by decide +kernel
theorem dw3 : Bare.parseD [32, 97, 61, 40, 49, 32, 50, 59, 120, 41, 59, 121, 9, 44, 32, 9, 97, 32] = some dwO := by decide +kernel
theorem dw6 : Bare.parseD [97, 44] = none := by decide +kernel
theorem dw7 : Bare.parseD [97, 9] = none := by decide +kernel
theorem dw8 : Bare.parseD [97, 61, 40, 49, 9, 50, 41] = none := by decide +kernel
theorem dw9 : Bare.parseD [32, 32] = some [] := by decide +kernel
theorem dw10 : Bare.parseD [97, 61, 40, 49, 32, 50, 59, 120, 41, 59, 121] = some dwI := by decide +kernel
theorem dw2 : Bare.printD dwA = some [117, 61, 49, 44, 32, 105] := by decide +kernel
theorem dw11 : Bare.printD [⟨[65], false, [], []⟩] = none := by decide +kernel
theorem dw12 : Bare.printD dwI = some [97, 61, 40, 49, 32, 50, 59, 120, 41, 59, 121] := by decide +kernel
theorem dw4 : findM dwA [117] = some ⟨[117], false, [⟨⟨1, 1, [], false⟩, []⟩], []⟩ := by decide +kernel
theorem dw5 : findM dwA [120] = none := by decide +kernel
theorem dwk1 : Bare.keyB [42, 97, 45, 49] = true := by decide +kernel
theorem dwk2 : Bare.keyB [49, 97] = false := by decide +kernel
theorem dwr1 : Bare.rightD dwI = true := by decide +kernel
theorem dwr2 : Bare.rightD [⟨[97], false, [], []⟩] = false := by decide +kernel
theorem yes_w (w : World) : Calls Tryz.prog 56 #[] w fun e w' => e = .returned (.agg #[.int .u8 6, .int .i64 0, .string ⟨#[]⟩, .bool true]) ∧ New w w' := by
  go_enter Tryz.func56, Tryz.ntmps56
  go_wp2_with fail
  have hr := World.alloc_heap_new w (.cells #[.int .u8 6, .int .i64 0, .string ⟨#[]⟩, .bool true] 66)
  refine bodyPost_ret (v := .agg #[.int .u8 6, .int .i64 0, .string ⟨#[]⟩, .bool true]) (results_cell_row rfl _ _ w.heap.size 66 _ (0, 0) _ rfl hr Tryz.underlying66 rfl info_bare) rfl ?_
  exact ⟨rfl, (Mods.refl _ _).alloc _⟩
theorem number_w (n : Int) (w : World) : Calls Tryz.prog 57 #[.int .i64 n] w fun e w' => e = .returned (.agg #[.int .u8 1, .int .i64 n, .string ⟨#[]⟩, .bool false]) ∧ New w w' := by
  go_enter Tryz.func57, Tryz.ntmps57
  go_wp2_with fail
  have hr := World.alloc_heap_new w (.cells #[.int .u8 1, .int .i64 n, .string ⟨#[]⟩, .bool false] 66)
  refine bodyPost_ret (v := .agg #[.int .u8 1, .int .i64 n, .string ⟨#[]⟩, .bool false]) (results_cell_row rfl _ _ w.heap.size 66 _ (0, 0) _ rfl hr Tryz.underlying66 rfl info_bare) rfl ?_
  exact ⟨rfl, (Mods.refl _ _).alloc _⟩
/-- A member without items, made. -/
theorem bare_d (W1 : World) (key : Bare.Bs) : RdD false (W1.alloc (.cells #[.string (tx key), .bool false, .slice none 0 0, .slice none 0 0] 64)) (.slice (some ⟨W1.heap.size, 0, none⟩) 1 1) [⟨key, false, [], []⟩] := by
  have r2 := World.alloc_heap_new W1 (.cells #[.string (tx key), .bool false, .slice none 0 0, .slice none 0 0] 64)
  refine ⟨fun _ => .slice none 0 0, fun _ => .slice none 0 0, ⟨by simp, _, _, rfl, fun i hi => ?_⟩, tag_none, fun i hi => ?_⟩
  · obtain rfl : i = 0 := by simp at hi; omega
    refine ⟨_, 0, rfl, fun j u hu => ?_⟩
    rw [cell_of_row _ _ (0 + 0 * 4 + j) _ _ _ r2]
    simpa [mcs] using hu
  · obtain rfl : i = 0 := by simp at hi; omega
    exact ⟨RdI.nil _ _ _, RdP.nil _ _ _⟩
def opsOf : Code → Array Oper
  | .region _ ops _ => ops
  | _ => #[]
end Go.Proofs.YtkiiameibdhdfaaGreatDoor
