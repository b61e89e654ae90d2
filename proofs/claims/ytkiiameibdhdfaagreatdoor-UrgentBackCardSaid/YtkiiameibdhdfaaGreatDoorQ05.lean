/- Texts joined. -/
import Derived.Test.YtkiiameibdhdfaaGreatDoorQ01
set_option linter.unusedSimpArgs false
set_option linter.unusedVariables false
namespace Go.Bare
open Go.Lib
structure Par where
 key : Bs
 bare : It
 deriving DecidableEq
structure Itm where
 bare : It
 params : List Par
 deriving DecidableEq
structure Mem where
 key : Bs
 inner : Bool
 items : List Itm
 params : List Par
 deriving DecidableEq
def smlB (c : UInt8) : Bool := (decide (97 ≤ c.toNat) && decide (c.toNat ≤ 122)) || c == 42
def inKey (c : UInt8) : Bool := smlB c || (digB c || [95, 45, 46].contains c)
def keyB : Bs → Bool
 | [] => false
 | c :: r => smlB c && r.all inKey
def aloneB : List Bs → Bool
 | [] => true
 | k :: r => keyB k && (!r.contains k && aloneB r)
def paramsB (l : List Par) : Bool := aloneB (l.map (·.key)) && l.all fun p => rightI p.bare
def itemB (x : Itm) : Bool := rightI x.bare && paramsB x.params
def memB (m : Mem) : Bool := (m.inner || (decide (m.items.length = 1) && m.params.isEmpty)) && (paramsB m.params && m.items.all itemB)
def rightD (d : List Mem) : Bool := aloneB (d.map (·.key)) && d.all memB
def yesI : It := ⟨6, 0, [], true⟩
def textI (b : It) : Bs := (printI b).getD []
def valued (b : It) : Bs := if b = yesI then [] else 61 :: textI b
def told (l : List Par) : Bs := l.flatMap fun p => 59 :: (p.key ++ valued p.bare)
def toldI (x : Itm) : Bs := textI x.bare ++ told x.params
def joinW (sep : Bs) : List Bs → Bs
 | [] => []
 | [a] => a
 | a :: b :: r => a ++ (sep ++ joinW sep (b :: r))
def noI : Itm := ⟨⟨0, 0, [], false⟩, []⟩
def toldM (m : Mem) : Bs :=
 if m.inner then m.key ++ (61 :: 40 :: (joinW [32] (m.items.map toldI) ++ (41 :: told m.params)))
 else m.key ++ (valued (m.items.headD noI).bare ++ told (m.items.headD noI).params)
def printD (d : List Mem) : Option Bs := if rightD d then some (joinW [44, 32] (d.map toldM)) else none
def setP (l : List Par) (p : Par) : List Par := if (l.map (·.key)).contains p.key then l.map fun q => if q.key = p.key then p else q else l ++ [p]
def setM (l : List Mem) (p : Mem) : List Mem := if (l.map (·.key)).contains p.key then l.map fun q => if q.key = p.key then p else q else l ++ [p]
def skipB (some : Bs) (s : Bs) : Bs := s.dropWhile some.contains
def keyOf (s : Bs) : Bs := match s with
 | [] => []
 | c :: r => if smlB c then c :: r.takeWhile inKey else []
def readKey (s : Bs) : Option (Bs × Bs) := let k := keyOf s; if k.isEmpty then none else some (k, s.drop k.length)
theorem readKey_len {s k r : Bs} (h : readKey s = some (k, r)) : r.length < s.length := by
 unfold readKey at h
 cases s with
 | nil => simp [keyOf] at h
 | cons c l =>
  simp only at h
  split at h
  ·cases h
  ·rename_i hk
   cases h
   have : 1 ≤ (keyOf (c :: l)).length := by
    cases hq : keyOf (c :: l) with
    | nil => rw [hq] at hk; exact absurd rfl hk
    | cons a b => simp
   simp only [List.length_drop, List.length_cons]
   omega
theorem parseI_len {s rest : Bs} {b : It} (h : parseI s = some (b, rest)) : rest.length < s.length := by
 obtain ⟨-, u, hu, h1, -⟩ := may h
 rw [hu]
 simp
 omega
def readVal (s : Bs) : Option (It × Bs) := match s with
 | 61 :: r => parseI r
 | s => some (yesI, s)
theorem readVal_len {s rest : Bs} {b : It} (h : readVal s = some (b, rest)) : rest.length ≤ s.length := by
 unfold readVal at h
 split at h
 ·have := parseI_len h; simp; omega
 ·cases h; exact Nat.le_refl _
theorem drop_len (p : UInt8 → Bool) : ∀ s : Bs, (s.dropWhile p).length ≤ s.length
 | [] => Nat.le_refl _
 | c :: r => by
  rw [List.dropWhile_cons]
  split
  ·have := drop_len p r; simp; omega
  ·exact Nat.le_refl _
theorem skip_len (l s : Bs) : (skipB l s).length ≤ s.length := drop_len _ s
def readParams (l : List Par) (s : Bs) : Option (List Par × Bs) :=
 match s with
 | 59 :: r =>
  match h1 : readKey (skipB [32] r) with
  | none => none
  | some (k, r1) =>
   match h2 : readVal r1 with
   | none => none
   | some (b, r2) => readParams (setP l ⟨k, b⟩) r2
 | s => some (l, s)
termination_by s.length
decreasing_by
 have a1 := readKey_len h1
 have a2 := readVal_len h2
 have a3 := skip_len [32] r
 simp
 omega
def readItem (s : Bs) : Option (Itm × Bs) := match parseI s with
 | none => none
 | some (b, r) => match readParams [] r with
  | none => none
  | some (ps, r') => some (⟨b, ps⟩, r')
theorem readParams_len : ∀ (n : Nat) (s : Bs) (l ps : List Par) (r : Bs), s.length ≤ n → readParams l s = some (ps, r) → r.length ≤ s.length := by
 intro n
 induction n with
 | zero =>
  intro s l ps r hn h
  have : s = [] := List.length_eq_zero_iff.1 (by omega)
  subst this
  rw [readParams] at h
  ·cases h; exact Nat.le_refl _
  ·intro _ h; cases h
 | succ n ih =>
  intro s l ps r hn h
  rw [readParams.eq_def] at h
  split at h
  ·rename_i r0
   split at h
   ·cases h
   ·rename_i k r1 h1
    split at h
    ·cases h
    ·rename_i b r2 h2
     have a1 := readKey_len h1
     have a2 := readVal_len h2
     have a3 := skip_len [32] r0
     simp only [List.length_cons] at hn ⊢
     have := ih r2 _ ps r (by omega) h
     omega
  ·cases h; exact Nat.le_refl _
theorem readItem_len {s r : Bs} {x : Itm} (h : readItem s = some (x, r)) : r.length < s.length := by
 unfold readItem at h
 split at h
 ·cases h
 ·rename_i b r1 h1
  split at h
  ·cases h
  ·rename_i ps r2 h2
   cases h
   have := parseI_len h1
   have := readParams_len r1.length r1 [] ps _ (Nat.le_refl _) h2
   omega
def readInner (items : List Itm) (s : Bs) : Option (List Itm × Bs) :=
 match hs : skipB [32] s with
 | 41 :: r => some (items, r)
 | s' =>
  match h1 : readItem s' with
  | none => none
  | some (x, r) => if r.head? = some 41 ∨ r.head? = some 32 then readInner (items ++ [x]) r else none
termination_by s.length
decreasing_by
 have a1 := readItem_len h1
 have a2 := skip_len [32] s
 rw [hs] at a2
 omega
def readRest (k : Bs) (r : Bs) : Option (Mem × Bs) :=
  match r with
  | 61 :: 40 :: r1 => (match readInner [] r1 with
   | none => none
   | some (items, r2) => (match readParams [] r2 with
    | none => none
    | some (ps, r3) => some (⟨k, true, items, ps⟩, r3)))
  | 61 :: r1 => (match readItem r1 with
   | none => none
   | some (x, r2) => some (⟨k, false, [x], []⟩, r2))
  | r => (match readParams [] r with
   | none => none
   | some (ps, r2) => some (⟨k, false, [⟨yesI, ps⟩], []⟩, r2))
def readMem (s : Bs) : Option (Mem × Bs) :=
 match readKey s with
 | none => none
 | some (k, r) => readRest k r
theorem readInner_len : ∀ (n : Nat) (s : Bs) (l ps : List Itm) (r : Bs), s.length ≤ n → readInner l s = some (ps, r) → r.length ≤ s.length := by
 intro n
 induction n with
 | zero =>
  intro s l ps r hn h
  have : s = [] := List.length_eq_zero_iff.1 (by omega)
  subst this
  rw [readInner.eq_def] at h
  simp [skipB, readItem, parseI] at h
 | succ n ih =>
  intro s l ps r hn h
  have a2 := skip_len [32] s
  rw [readInner.eq_def] at h
  split at h
  ·rename_i r0 hs
   cases h
   rw [hs] at a2
   simp at a2
   omega
  ·split at h
   ·cases h
   ·rename_i x r1 h1
    have a1 := readItem_len h1
    split at h
    ·have := ih r1 _ ps r (by omega) h
     omega
    ·cases h
theorem readMem_len {s r : Bs} {m : Mem} (h : readMem s = some (m, r)) : r.length < s.length := by
 unfold readMem at h
 split at h
 ·cases h
 ·rename_i k r0 h0
  have a0 := readKey_len h0
  unfold readRest at h
  split at h
  ·rename_i r1
   split at h
   ·cases h
   ·rename_i items r2 h2
    split at h
    ·cases h
    ·rename_i ps r3 h3
     cases h
     have a2 := readInner_len _ _ _ _ _ (Nat.le_refl _) h2
     have a3 := readParams_len _ _ _ _ _ (Nat.le_refl _) h3
     simp only [List.length_cons] at a0
     omega
  ·split at h
   ·cases h
   ·rename_i x r2 h2
    cases h
    have a2 := readItem_len h2
    simp only [List.length_cons] at a0
    omega
  ·split at h
   ·cases h
   ·rename_i ps r2 h2
    cases h
    have a3 := readParams_len _ _ _ _ _ (Nat.le_refl _) h2
    omega
def readD (d : List Mem) (s : Bs) : Option (List Mem) :=
 match s with
 | [] => some d
 | c :: l =>
  match h1 : readMem (c :: l) with
  | none => none
  | some (m, r) =>
   if r.isEmpty then some (setM d m)
   else match h2 : skipB [32, 9] r with
    | 44 :: r2 => let r3 := skipB [32, 9] r2; if r3.isEmpty then none else readD (setM d m) r3
    | _ => none
termination_by s.length
decreasing_by
 have a1 := readMem_len h1
 have a2 := skip_len [32, 9] r
 rw [h2] at a2
 have a3 := skip_len [32, 9] r2
 simp only [List.length_cons] at a1 a2 ⊢
 omega
def parseD (s : Bs) : Option (List Mem) := readD [] (trimR 32 (skipB [32] s))
end Go.Bare

namespace Go.Bare
open Go.Lib
def Behind (x : Bs) : Prop := ∀ c, x.head? = some c → c = 44 ∨ c = 59 ∨ c = 32 ∨ c = 41 ∨ c = 40 ∨ c = 9
theorem key_cons {k : Bs} (h : keyB k = true) : ∃ c r, k = c :: r ∧ smlB c = true ∧ r.all inKey = true := by
 cases k with
 | nil => cases h
 | cons c r =>
  simp only [keyB, Bool.and_eq_true] at h
  exact ⟨c, r, rfl, h.1, h.2⟩
theorem readKey_app {k x : Bs} (h : keyB k = true) (hx : Stops inKey x) : readKey (k ++ x) = some (k, x) := by
 obtain ⟨c, r, rfl, hc, hr⟩ := key_cons h
 have e : keyOf ((c :: r) ++ x) = c :: r := by
  rw [List.cons_append]
  show (if smlB c then c :: (r ++ x).takeWhile inKey else []) = _
  rw [if_pos hc, takeWhile_app hr hx]
 unfold readKey
 rw [e]
 simp
theorem sml_facts {c : UInt8} (h : smlB c = true) : inKey c = true ∧ c ≠ 32 ∧ c ≠ 9 ∧ c ≠ 41 ∧ c ≠ 59 ∧ c ≠ 61 ∧ c ≠ 44 := by
 have : ∀ c : Fin 256, smlB (UInt8.ofNat c.1) = true → inKey (UInt8.ofNat c.1) = true ∧ UInt8.ofNat c.1 ≠ 32 ∧ UInt8.ofNat c.1 ≠ 9 ∧ UInt8.ofNat c.1 ≠ 41 ∧ UInt8.ofNat c.1 ≠ 59 ∧ UInt8.ofNat c.1 ≠ 61 ∧ UInt8.ofNat c.1 ≠ 44 := by decide +kernel
 have hh := this ⟨c.toNat, UInt8.toNat_lt c⟩
 simp only [UInt8.ofNat_toNat] at hh
 exact hh h
theorem parse_head {c : UInt8} {r : Bs} {y : It × Bs} (h : parseI (c :: r) = some y) : c ≠ 32 ∧ c ≠ 41 ∧ c ≠ 40 ∧ c ≠ 59 ∧ c ≠ 44 ∧ c ≠ 9 := by
 rw [parseI_cons] at h
 refine ⟨?_, ?_, ?_, ?_, ?_, ?_⟩ <;> (rintro rfl; revert h; rw [if_neg (by decide), if_neg (by decide), if_neg (by decide), if_neg (by decide), if_neg (by decide)]; intro h; cases h)
theorem text_back {b : It} (h : rightI b = true) {x : Bs} (hx : Behind x) : parseI (textI b ++ x) = some (b, x) ∧ ∃ c r, textI b = c :: r := by
 obtain ⟨t, h1, h2⟩ := back h x hx
 unfold textI
 rw [h1]
 refine ⟨h2, ?_⟩
 obtain ⟨t0, h3, h4⟩ := back h [] (fun c hc => by cases hc)
 rw [h1] at h3
 cases h3
 obtain ⟨-, u, hu, hu1, -⟩ := may h4
 simp only [Option.getD_some]
 cases t with
 | nil => simp at hu; subst hu; simp at hu1
 | cons c r => exact ⟨c, r, rfl⟩
theorem readVal_app {b : It} (h : rightI b = true) {x : Bs} (hx : Behind x) : readVal (valued b ++ x) = some (b, x) := by
 unfold valued
 split
 ·rename_i hb
  subst hb
  rw [List.nil_append]
  unfold readVal
  split
  ·have := hx 61 rfl
   rcases this with h | h | h | h | h | h <;> exact absurd h (by decide)
  ·rfl
 ·rw [List.cons_append]
  show parseI (textI b ++ x) = _
  exact (text_back h hx).1
theorem valued_head (b : It) {x : Bs} (hx : Behind x) : Stops inKey (valued b ++ x) := by
 intro c hc
 unfold valued at hc
 split at hc
 ·rcases hx c hc with rfl | rfl | rfl | rfl | rfl | rfl <;> decide
 ·simp at hc; subst hc; decide
theorem skip_none {l s : Bs} (h : ∀ c, s.head? = some c → l.contains c = false) : skipB l s = s := by
 unfold skipB
 cases s with
 | nil => rfl
 | cons c r =>
  rw [List.dropWhile_cons, if_neg]
  rw [h c rfl]; decide
theorem readParams_semi (l : List Par) (r : Bs) : readParams l (59 :: r) = (match readKey (skipB [32] r) with
  | none => none
  | some (k, r1) => match readVal r1 with
   | none => none
   | some (b, r2) => readParams (setP l ⟨k, b⟩) r2) := by
 rw [readParams.eq_def]
 simp only
 split
 ·rename_i h; rw [h]
 ·rename_i k r1 h
  rw [h]
  simp only
  split
  ·rename_i h2; rw [h2]
  ·rename_i b r2 h2; rw [h2]
theorem readParams_end (l : List Par) (s : Bs) (h : s.head? ≠ some 59) : readParams l s = some (l, s) := by
 rw [readParams.eq_def]
 split
 ·exact absurd rfl h
 ·rfl
theorem aloneB_append {a b : List Bs} (h : aloneB (a ++ b) = true) : (∀ k ∈ a, keyB k = true) ∧ aloneB b = true ∧ ∀ k ∈ b, k ∉ a := by
 induction a with
 | nil => exact ⟨(fun k hk => by cases hk), h, (fun _ _ hk => by cases hk)⟩
 | cons k a ih =>
  simp only [List.cons_append, aloneB, Bool.and_eq_true, Bool.not_eq_true'] at h
  obtain ⟨h1, h2, h3⟩ := h
  obtain ⟨i1, i2, i3⟩ := ih h3
  refine ⟨fun q hq => ?_, i2, fun q hq hm => ?_⟩
  ·rcases List.mem_cons.1 hq with rfl | hq
   ·exact h1
   ·exact i1 q hq
  ·rcases List.mem_cons.1 hm with rfl | hm
   ·have : (a ++ b).contains q = true := by simpa using Or.inr hq
    rw [this] at h2; cases h2
   ·exact i3 q hq hm
theorem setP_new {l : List Par} {p : Par} (h : p.key ∉ l.map (·.key)) : setP l p = l ++ [p] := by
 unfold setP
 rw [if_neg]
 simpa using h
theorem setM_new {l : List Mem} {p : Mem} (h : p.key ∉ l.map (·.key)) : setM l p = l ++ [p] := by
 unfold setM
 rw [if_neg]
 simpa using h
theorem told_cons (p : Par) (l : List Par) : told (p :: l) = 59 :: (p.key ++ (valued p.bare ++ told l)) := by
 unfold told
 simp
def BehindP (x : Bs) : Prop := ∀ c, x.head? = some c → c = 44 ∨ c = 32 ∨ c = 41 ∨ c = 9
theorem BehindP.behind {x : Bs} (h : BehindP x) : Behind x := fun c hc => by rcases h c hc with rfl | rfl | rfl | rfl <;> decide
theorem told_behind (l : List Par) {x : Bs} (h : BehindP x) : Behind (told l ++ x) := by
 cases l with
 | nil => exact h.behind
 | cons p l =>
  rw [told_cons]
  intro c hc
  simp at hc
  subst hc
  decide
theorem readParams_app : ∀ (l acc : List Par) (x : Bs), aloneB ((acc ++ l).map (·.key)) = true → (l.all fun p => rightI p.bare) = true → BehindP x → readParams acc (told l ++ x) = some (acc ++ l, x)
 | [], acc, x, _, _, hx => by
  rw [List.append_nil]
  refine readParams_end acc x fun h => ?_
  rcases hx 59 h with h | h | h | h <;> exact absurd h (by decide)
 | p :: l, acc, x, ha, hr, hx => by
  simp only [List.all_cons, Bool.and_eq_true] at hr
  have ha' := ha
  rw [List.map_append] at ha'
  obtain ⟨-, a2, a3⟩ := aloneB_append ha'
  simp only [List.map_cons, aloneB, Bool.and_eq_true] at a2
  have hk := a2.1
  have hnew : p.key ∉ acc.map (·.key) := a3 p.key (by simp)
  rw [told_cons, List.cons_append, readParams_semi]
  obtain ⟨c, r, hc, hs, -⟩ := key_cons hk
  have hsk : skipB [32] (p.key ++ (valued p.bare ++ told l) ++ x) = p.key ++ (valued p.bare ++ told l) ++ x := skip_none fun q hq => by
   rw [hc] at hq
   simp at hq
   subst hq
   have := (sml_facts hs).2.1
   simpa using this
  have hb := told_behind l hx
  rw [hsk, List.append_assoc, List.append_assoc, readKey_app hk (valued_head p.bare hb)]
  simp only
  rw [readVal_app hr.1 hb]
  simp only
  rw [setP_new hnew]
  have := readParams_app l (acc ++ [p]) x (by simpa using ha) hr.2 hx
  rw [List.append_assoc] at this
  exact this
theorem item_parts {x : Itm} (h : itemB x = true) : rightI x.bare = true ∧ aloneB (x.params.map (·.key)) = true ∧ (x.params.all fun p => rightI p.bare) = true := by
 unfold itemB paramsB at h
 simp only [Bool.and_eq_true] at h
 exact ⟨h.1, h.2.1, h.2.2⟩
theorem readItem_app {x : Itm} (h : itemB x = true) {y : Bs} (hy : BehindP y) : readItem (toldI x ++ y) = some (x, y) ∧ ∃ c r, toldI x = c :: r ∧ c ≠ 32 ∧ c ≠ 41 ∧ c ≠ 40 := by
 obtain ⟨h1, h2, h3⟩ := item_parts h
 have hb := told_behind x.params hy
 obtain ⟨t1, c, r, hc⟩ := text_back h1 hb
 constructor
 ·unfold readItem toldI
  rw [List.append_assoc, t1]
  simp only
  rw [readParams_app x.params [] y (by simpa using h2) h3 hy]
  rfl
 ·unfold toldI
  rw [hc] at t1 ⊢
  have := parse_head t1
  exact ⟨c, r ++ told x.params, rfl, this.1, this.2.1, this.2.2.1⟩
theorem readInner_close (l : List Itm) (r : Bs) : readInner l (41 :: r) = some (l, r) := by
 rw [readInner.eq_def]
 have : skipB [32] (41 :: r) = 41 :: r := skip_none fun c hc => by cases hc; decide
 split
 ·rename_i r0 h
  rw [this] at h
  cases h
  rfl
 ·rename_i h
  exact absurd this (h r)
theorem readInner_item {l : List Itm} {s y : Bs} {x : Itm} (hs : ∀ r, skipB [32] s ≠ 41 :: r) (h : readItem (skipB [32] s) = some (x, y)) (hy : y.head? = some 41 ∨ y.head? = some 32) :
  readInner l s = readInner (l ++ [x]) y := by
 rw [readInner.eq_def]
 split
 ·rename_i r0 h0
  exact absurd h0 (hs r0)
 ·split
  ·rename_i h1; rw [h] at h1; cases h1
  ·rename_i x1 y1 h1
   rw [h] at h1
   cases h1
   rw [if_pos hy]
theorem readInner_blank (l : List Itm) (s : Bs) : readInner l (32 :: s) = readInner l s := by
 have : skipB [32] (32 :: s) = skipB [32] s := rfl
 rw [readInner.eq_def, readInner.eq_def l s, this]
theorem readInner_app : ∀ (items acc : List Itm) (y : Bs), items.all itemB = true → readInner acc (joinW [32] (items.map toldI) ++ 41 :: y) = some (acc ++ items, y)
 | [], acc, y, _ => by
  rw [List.append_nil]
  exact readInner_close acc y
 | [x], acc, y, h => by
  simp only [List.all_cons, List.all_nil, Bool.and_true] at h
  obtain ⟨h1, c, r, hc, n1, n2, -⟩ := readItem_app h (y := 41 :: y) (fun q hq => by cases hq; decide)
  show readInner acc (toldI x ++ 41 :: y) = _
  have hsk : skipB [32] (toldI x ++ 41 :: y) = toldI x ++ 41 :: y := skip_none fun q hq => by rw [hc] at hq; simp at hq; subst hq; simpa using n1
  rw [readInner_item (x := x) (y := 41 :: y) (fun r0 he => by rw [hsk, hc] at he; simp at he; exact n2 he.1) (by rw [hsk]; exact h1) (.inl rfl), readInner_close]
 | x :: x2 :: items, acc, y, h => by
  simp only [List.all_cons, Bool.and_eq_true] at h
  have ih := readInner_app (x2 :: items) (acc ++ [x]) y (by simp only [List.all_cons, Bool.and_eq_true]; exact h.2)
  obtain ⟨z, hz⟩ : ∃ z, joinW [32] ((x2 :: items).map toldI) ++ 41 :: y = z := ⟨_, rfl⟩
  obtain ⟨h1, c, r, hc, n1, n2, -⟩ := readItem_app h.1 (y := 32 :: z) (fun q hq => by cases hq; decide)
  have e : joinW [32] ((x :: x2 :: items).map toldI) ++ 41 :: y = toldI x ++ 32 :: z := by
   rw [← hz]
   simp [joinW]
  rw [hz] at ih
  rw [e]
  have hsk : skipB [32] (toldI x ++ 32 :: z) = toldI x ++ 32 :: z := skip_none fun q hq => by rw [hc] at hq; simp at hq; subst hq; simpa using n1
  rw [readInner_item (x := x) (y := 32 :: z) (fun r0 he => by rw [hsk, hc] at he; simp at he; exact n2 he.1) (by rw [hsk]; exact h1) (.inr rfl), readInner_blank, ih, List.append_assoc]
  rfl
end Go.Bare

namespace Go.Bare
open Go.Lib
theorem mem_parts {m : Mem} (h : memB m = true) : (m.inner = true ∨ (m.items.length = 1 ∧ m.params = [])) ∧ aloneB (m.params.map (·.key)) = true ∧ (m.params.all fun p => rightI p.bare) = true ∧ m.items.all itemB = true := by
 unfold memB paramsB at h
 simp only [Bool.and_eq_true, Bool.or_eq_true, decide_eq_true_eq, List.isEmpty_iff] at h
 obtain ⟨h1, ⟨h2, h3⟩, h4⟩ := h
 exact ⟨h1, h2, h3, h4⟩
def BehindM (x : Bs) : Prop := ∀ c, x.head? = some c → c = 44 ∨ c = 32 ∨ c = 9
theorem BehindM.p {x : Bs} (h : BehindM x) : BehindP x := fun c hc => by rcases h c hc with rfl | rfl | rfl <;> decide
theorem stops_eq {c : UInt8} {r : Bs} (h : inKey c = false) : Stops inKey (c :: r) := fun q hq => by cases hq; exact h
theorem readMem_app {m : Mem} (hk : keyB m.key = true) (h : memB m = true) {y : Bs} (hy : BehindM y) : readMem (toldM m ++ y) = some (m, y) := by
 obtain ⟨h1, h2, h3, h4⟩ := mem_parts h
 obtain ⟨k, inner, items, ps⟩ := m
 simp only at hk h1 h2 h3 h4
 unfold toldM
 cases inner with
 | true =>
  simp only [if_true]
  unfold readMem
  rw [List.append_assoc, List.cons_append, readKey_app hk (stops_eq (c := 61) (by decide))]
  simp only
  unfold readRest
  simp only [List.cons_append, List.append_assoc]
  rw [readInner_app items [] (told ps ++ y) h4]
  simp only [List.nil_append]
  rw [readParams_app ps [] y (by simpa using h2) h3 hy.p]
  rfl
 | false =>
  obtain ⟨hl, rfl⟩ := h1.resolve_left (by simp)
  obtain ⟨x, rfl⟩ := List.length_eq_one_iff.1 hl
  simp only [List.all_cons, List.all_nil, Bool.and_true] at h4
  obtain ⟨i1, i2, i3⟩ := item_parts h4
  obtain ⟨b, xs⟩ := x
  simp only at i1 i2 i3
  simp only [Bool.false_eq_true, if_false, List.headD_cons]
  have hb := told_behind xs hy.p
  unfold readMem
  rw [List.append_assoc, List.append_assoc, readKey_app hk (valued_head b hb)]
  simp only
  unfold readRest
  by_cases hyes : b = yesI
  ·subst hyes
   have hv : valued yesI = [] := by unfold valued; rw [if_pos rfl]
   rw [hv, List.nil_append]
   obtain ⟨z, hz⟩ : ∃ z, told xs ++ y = z := ⟨_, rfl⟩
   have hp := readParams_app xs [] y (by simpa using i2) i3 hy.p
   rw [hz] at hp hb ⊢
   split
   ·have := hb 61 rfl
    rcases this with h | h | h | h | h | h <;> exact absurd h (by decide)
   ·have := hb 61 rfl
    rcases this with h | h | h | h | h | h <;> exact absurd h (by decide)
   ·rw [hp]
    rfl
  ·have hv : valued b = 61 :: textI b := by unfold valued; rw [if_neg hyes]
   rw [hv, List.cons_append]
   obtain ⟨r1, c, r, hc, n1, n2, n3⟩ := readItem_app h4 hy.p
   have e : textI b ++ (told xs ++ y) = toldI ⟨b, xs⟩ ++ y := by unfold toldI; rw [List.append_assoc]
   rw [e]
   rw [hc] at r1 ⊢
   rw [List.cons_append] at r1 ⊢
   split
   ·rename_i h0
    simp at h0
    exact absurd h0.1 n3
   ·rename_i h0
    simp at h0
    obtain ⟨-, h0⟩ := h0
    subst_vars
    rw [r1]
   ·rename_i h0
    exact absurd rfl (h0 _)
theorem toldM_head {m : Mem} (hk : keyB m.key = true) : ∃ c r, toldM m = c :: r ∧ smlB c = true := by
 obtain ⟨c, r, hc, hs, -⟩ := key_cons hk
 unfold toldM
 rw [hc]
 split
 ·exact ⟨c, _, rfl, hs⟩
 ·exact ⟨c, _, rfl, hs⟩
def sepB (s : Bs) : Prop := ∃ a b : Bs, s = a ++ 44 :: b ∧ (∀ c ∈ a, c = 32 ∨ c = 9) ∧ ∀ c ∈ b, c = 32 ∨ c = 9
theorem skip_app {a : Bs} (h : ∀ c ∈ a, c = 32 ∨ c = 9) (s : Bs) : skipB [32, 9] (a ++ s) = skipB [32, 9] s := by
 induction a with
 | nil => rfl
 | cons c r ih =>
  have hc := h c (List.mem_cons_self ..)
  unfold skipB at ih ⊢
  rw [List.cons_append, List.dropWhile_cons, if_pos (by rcases hc with rfl | rfl <;> decide)]
  exact ih fun q hq => h q (List.mem_cons_of_mem _ hq)
theorem readD_one {d : List Mem} {s : Bs} {m : Mem} (hs : s ≠ []) (h : readMem s = some (m, [])) : readD d s = some (setM d m) := by
 cases s with
 | nil => exact absurd rfl hs
 | cons c l =>
  rw [readD.eq_def]
  simp only
  split
  ·rename_i h0; rw [h] at h0; cases h0
  ·rename_i m1 r1 h0
   rw [h] at h0
   cases h0
   rfl
theorem readD_step {d : List Mem} {s y : Bs} {m : Mem} {sep : Bs} (hsep : sepB sep) (hs : s ≠ []) (h : readMem s = some (m, sep ++ y)) (hy : ∃ c r, y = c :: r ∧ c ≠ 32 ∧ c ≠ 9) : readD d s = readD (setM d m) y := by
 obtain ⟨a, b, rfl, ha, hb⟩ := hsep
 obtain ⟨c, r, rfl, n1, n2⟩ := hy
 have e1 : skipB [32, 9] (a ++ 44 :: b ++ c :: r) = 44 :: (b ++ c :: r) := by
  rw [List.append_assoc, skip_app ha]
  rfl
 have e2 : skipB [32, 9] (b ++ c :: r) = c :: r := by
  rw [skip_app hb]
  exact skip_none fun q hq => by cases hq; simpa using ⟨n1, n2⟩
 have e3 : (a ++ 44 :: b ++ c :: r : Bs).isEmpty = false := by cases a <;> rfl
 cases s with
 | nil => exact absurd rfl hs
 | cons c0 l0 =>
  rw [readD.eq_def]
  simp only
  split
  ·rename_i h0; rw [h] at h0; cases h0
  ·rename_i m1 r1 h0
   rw [h] at h0
   cases h0
   rw [if_neg (by rw [e3]; decide)]
   split
   ·rename_i r2 h2
    rw [e1] at h2
    cases h2
    simp only [e2]
    rfl
   ·rename_i h2
    exact absurd e1 (h2 _)
theorem comma_sep : sepB [44, 32] := ⟨[], [32], rfl, (fun c hc => by cases hc), fun c hc => by simp at hc; exact .inl hc⟩
theorem rightD_cons {m : Mem} {d : List Mem} (h : rightD (m :: d) = true) : keyB m.key = true ∧ memB m = true ∧ m.key ∉ d.map (·.key) ∧ rightD d = true := by
 unfold rightD at h ⊢
 simp only [List.map_cons, aloneB, Bool.and_eq_true, List.all_cons, Bool.not_eq_true'] at h ⊢
 obtain ⟨⟨h1, h2, h3⟩, h4, h5⟩ := h
 refine ⟨h1, h4, fun hm => ?_, h3, h5⟩
 have : (d.map (·.key)).contains m.key = true := by simpa using hm
 rw [this] at h2
 cases h2
theorem sepM {sep y : Bs} (h : sepB sep) : BehindM (sep ++ y) := by
 obtain ⟨a, b, rfl, ha, -⟩ := h
 intro c hc
 cases a with
 | nil => simp at hc; exact .inl hc.symm
 | cons q r =>
  simp at hc
  subst hc
  rcases ha q (List.mem_cons_self ..) with h | h
  ·exact .inr (.inl h)
  ·exact .inr (.inr h)
theorem readD_app : ∀ (a : List Mem) (d : List Mem), rightD a = true → readD d (joinW [44, 32] (a.map toldM)) = some (a.foldl setM d)
 | [], d, _ => by show readD d [] = _; rw [readD.eq_def]; rfl
 | [m], d, h => by
  obtain ⟨h1, h2, -, -⟩ := rightD_cons h
  obtain ⟨c, r, hc, -⟩ := toldM_head (m := m) h1
  show readD d (toldM m) = _
  have := readMem_app h1 h2 (y := []) (fun c hc => by cases hc)
  rw [List.append_nil] at this
  rw [readD_one (by rw [hc]; simp) this]
  rfl
 | m :: m2 :: a, d, h => by
  obtain ⟨h1, h2, -, h4⟩ := rightD_cons h
  obtain ⟨c, r, hc, -⟩ := toldM_head (m := m) h1
  have ih := readD_app (m2 :: a) (setM d m) h4
  obtain ⟨z, hz⟩ : ∃ z, joinW [44, 32] ((m2 :: a).map toldM) = z := ⟨_, rfl⟩
  rw [hz] at ih
  have e : joinW [44, 32] ((m :: m2 :: a).map toldM) = toldM m ++ ([44, 32] ++ z) := by
   rw [← hz]; simp [joinW]
  rw [e]
  have hz2 : ∃ c r, z = c :: r ∧ c ≠ 32 ∧ c ≠ 9 := by
   obtain ⟨q, r2, hq, hs⟩ := toldM_head (m := m2) (rightD_cons h4).1
   have := sml_facts hs
   cases a with
   | nil => exact ⟨q, r2, by rw [← hz]; exact hq, this.2.1, this.2.2.1⟩
   | cons m3 a => exact ⟨q, r2 ++ ([44, 32] ++ joinW [44, 32] ((m3 :: a).map toldM)), by rw [← hz]; simp [joinW, hq], this.2.1, this.2.2.1⟩
  rw [readD_step comma_sep (by rw [hc]; simp) (readMem_app h1 h2 (sepM comma_sep)) hz2, ih]
  rfl
theorem fold_new : ∀ (a d : List Mem), (∀ k ∈ a.map (·.key), k ∉ d.map (·.key)) → rightD a = true → a.foldl setM d = d ++ a
 | [], d, _, _ => by simp
 | m :: a, d, h, hr => by
  obtain ⟨h1, h2, h3, h4⟩ := rightD_cons hr
  rw [List.foldl_cons, setM_new (h m.key (by simp)), fold_new a (d ++ [m]) (fun k hk => by
   rw [List.map_append, List.mem_append]
   rintro (h' | h')
   ·exact h k (by simp at hk ⊢; exact .inr hk) h'
   ·simp at h'
    subst h'
    exact h3 hk) h4]
  simp
end Go.Bare

namespace Go.Bare
open Go.Lib
def LastOk (l : Bs) : Prop := ∀ q, l.getLast? = some q → q ≠ 32
theorem LastOk.nil : LastOk [] := fun q h => by cases h
theorem LastOk.app {a b : Bs} (hb : LastOk b) (ha : b = [] → LastOk a) : LastOk (a ++ b) := by
 intro q hq
 rw [List.getLast?_append] at hq
 cases hbb : b.getLast? with
 | none =>
  rw [hbb] at hq
  exact ha (List.getLast?_eq_none_iff.1 hbb) q hq
 | some v =>
  rw [hbb] at hq
  cases hq
  exact hb _ hbb
theorem LastOk.cons {c : UInt8} {l : Bs} (hc : c ≠ 32) (h : LastOk l) : LastOk (c :: l) := by
 rw [← List.singleton_append]
 exact LastOk.app h fun _ q hq => by cases hq; exact hc
theorem LastOk.snoc {a : Bs} {c : UInt8} (h : c ≠ 32) : LastOk (a ++ [c]) := fun q hq => by
 rw [List.getLast?_concat] at hq
 cases hq
 exact h
theorem LastOk.all {p : UInt8 → Bool} (hp : p 32 = false) {l : Bs} (h : l.all p = true) : LastOk l := fun q hq => by
 have hm := List.mem_of_getLast? hq
 have := List.all_eq_true.1 h q hm
 rintro rfl
 rw [hp] at this
 cases this
theorem trimR_last {c : UInt8} {l : Bs} (k : Nat) (h : ∀ q, l.getLast? = some q → q ≠ c) : trimR c (l ++ List.replicate k c) = l := by
 unfold trimR
 rw [List.reverse_append, List.reverse_replicate]
 have h1 : (List.replicate k c ++ l.reverse).dropWhile (· == c) = l.reverse := by
  induction k with
  | zero =>
   simp only [List.replicate_zero, List.nil_append]
   cases hl : l.reverse with
   | nil => rfl
   | cons a r =>
    have ha : l.getLast? = some a := by rw [List.getLast?_eq_head?_reverse, hl]; rfl
    have : (a == c) = false := by simpa using h a ha
    rw [List.dropWhile_cons, if_neg (by rw [this]; decide)]
  | succ k ih =>
   rw [List.replicate_succ, List.cons_append, List.dropWhile_cons, if_pos (by simp)]
   exact ih
 rw [h1, List.reverse_reverse]
theorem dec_last (n : Nat) : LastOk (decDigits n) := LastOk.all (p := digB) (by decide) (dec_facts n).1
theorem text_last {b : It} (h : rightI b = true) : LastOk (textI b) := by
 obtain ⟨t, h1, -⟩ := back h [] (fun c hc => by cases hc)
 have ht : textI b = t := by unfold textI; rw [h1]; rfl
 rw [ht]
 unfold printI at h1
 rw [if_neg (by rw [h]; decide)] at h1
 split at h1
 ·cases h1
  rw [itoa_eq]
  exact LastOk.app (dec_last _) fun e => absurd e (dec_facts _).2.2
 split at h1
 ·cases h1
  rw [decimal_eq]
  obtain ⟨p1, p2, -⟩ := part_facts (m := b.int.natAbs % 1000) (by omega)
  refine LastOk.app ?_ fun e => by simp at e
  rw [← List.singleton_append]
  refine LastOk.app (LastOk.all (p := digB) (by decide) p1) fun e => ?_
  rw [e] at p2
  simp at p2
 split at h1
 ·cases h1
  rw [← List.cons_append]
  exact LastOk.snoc (by decide)
 split at h1
 ·cases h1
  rw [← List.cons_append]
  exact LastOk.snoc (by decide)
 split at h1
 ·cases h1
  cases b.yes <;> (intro q hq; cases hq; decide)
 ·rename_i n1 n2 n3 n5 n6
  simp only [Option.some.injEq] at h1
  subst h1
  unfold rightI at h
  rw [if_neg (by omega), if_neg n3] at h
  split at h
  ·simp only [Bool.and_eq_true] at h
   obtain ⟨c, r, -, -, ha⟩ := tok_all h.2.2
   exact LastOk.all (p := inTok) (by decide) ha
  ·first
   | (rw [if_neg n5, if_neg n6] at h; cases h)
   | cases h
theorem key_last {k : Bs} (h : keyB k = true) : LastOk k := by
 obtain ⟨c, r, rfl, hs, hr⟩ := key_cons h
 exact LastOk.all (p := inKey) (by decide) (by rw [List.all_cons, (sml_facts hs).1, hr]; rfl)
theorem valued_last {b : It} (h : rightI b = true) : LastOk (valued b) := by
 unfold valued
 split
 ·exact LastOk.nil
 ·rw [← List.singleton_append]
  obtain ⟨-, c, r, hc⟩ := text_back h (x := []) (fun c hc => by cases hc)
  exact LastOk.app (text_last h) fun e => by rw [hc] at e; cases e
theorem told_last : ∀ {l : List Par}, aloneB (l.map (·.key)) = true → (l.all fun p => rightI p.bare) = true → LastOk (told l)
 | [], _, _ => LastOk.nil
 | p :: l, h, hr => by
  simp only [List.map_cons, aloneB, Bool.and_eq_true] at h
  simp only [List.all_cons, Bool.and_eq_true] at hr
  rw [told_cons, ← List.singleton_append]
  obtain ⟨c, r, hc, -⟩ := key_cons h.1
  refine LastOk.app (LastOk.app (LastOk.app (told_last h.2.2 hr.2) fun _ => valued_last hr.1) fun _ => key_last h.1) fun e => ?_
  rw [hc] at e
  cases e
theorem toldM_last {m : Mem} (hk : keyB m.key = true) (h : memB m = true) : LastOk (toldM m) := by
 obtain ⟨h1, h2, h3, h4⟩ := mem_parts h
 unfold toldM
 split
 ·exact LastOk.app (LastOk.cons (by decide) (LastOk.cons (by decide) (LastOk.app (LastOk.cons (by decide) (told_last h2 h3)) fun e => by cases e))) fun e => by cases e
 ·rename_i hi
  obtain ⟨hl, -⟩ := h1.resolve_left hi
  obtain ⟨x, hx⟩ := List.length_eq_one_iff.1 hl
  rw [hx] at h4 ⊢
  simp only [List.all_cons, List.all_nil, Bool.and_true] at h4
  obtain ⟨i1, i2, i3⟩ := item_parts h4
  simp only [List.headD_cons]
  exact LastOk.app (LastOk.app (told_last i2 i3) fun _ => valued_last i1) fun _ => key_last hk
theorem join_last : ∀ {a : List Mem}, rightD a = true → LastOk (joinW [44, 32] (a.map toldM))
 | [], _ => LastOk.nil
 | [m], h => by
  obtain ⟨h1, h2, -, -⟩ := rightD_cons h
  exact toldM_last h1 h2
 | m :: m2 :: a, h => by
  obtain ⟨h1, h2, -, h4⟩ := rightD_cons h
  have ih := join_last h4
  obtain ⟨q, r2, hq, -⟩ := toldM_head (m := m2) (rightD_cons h4).1
  show LastOk (toldM m ++ ([44, 32] ++ joinW [44, 32] ((m2 :: a).map toldM)))
  have hne : joinW [44, 32] ((m2 :: a).map toldM) ≠ [] := by
   cases a with
   | nil => show toldM m2 ≠ []; rw [hq]; simp
   | cons m3 a => show toldM m2 ++ _ ≠ []; rw [hq]; simp
  exact LastOk.app (LastOk.app ih fun e => absurd e hne) fun e => by simp at e
theorem join_head {a : List Mem} (h : rightD a = true) (hne : a ≠ []) : ∃ c r, joinW [44, 32] (a.map toldM) = c :: r ∧ c ≠ 32 ∧ c ≠ 9 := by
 cases a with
 | nil => exact absurd rfl hne
 | cons m a =>
  obtain ⟨q, r2, hq, hs⟩ := toldM_head (m := m) (rightD_cons h).1
  have := sml_facts hs
  cases a with
  | nil => exact ⟨q, r2, hq, this.2.1, this.2.2.1⟩
  | cons m3 a => exact ⟨q, r2 ++ ([44, 32] ++ joinW [44, 32] ((m3 :: a).map toldM)), by show toldM m ++ _ = _; rw [hq]; rfl, this.2.1, this.2.2.1⟩
theorem parseD_eq (i k : Nat) {t : Bs} (h0 : ∀ c, t.head? = some c → c ≠ 32) (h1 : LastOk t) : parseD (List.replicate i 32 ++ t ++ List.replicate k 32) = readD [] t := by
 unfold parseD
 congr 1
 have e1 : skipB [32] (List.replicate i 32 ++ t ++ List.replicate k 32) = skipB [32] (t ++ List.replicate k 32) := by
  rw [List.append_assoc]
  unfold skipB
  induction i with
  | zero => rfl
  | succ i ih => rw [List.replicate_succ, List.cons_append, List.dropWhile_cons, if_pos (by decide)]; exact ih
 rw [e1]
 cases t with
 | nil =>
  rw [List.nil_append]
  have : skipB [32] (List.replicate k 32) = [] := by
   clear e1 h0 h1
   unfold skipB
   induction k with
   | zero => rfl
   | succ k ih => rw [List.replicate_succ, List.dropWhile_cons, if_pos (by decide)]; exact ih
  rw [this]
  rfl
 | cons c r =>
  have e2 : skipB [32] ((c :: r) ++ List.replicate k 32) = (c :: r) ++ List.replicate k 32 := skip_none fun q hq => by
   simp at hq
   subst hq
   simpa using h0 c rfl
  rw [e2]
  exact trimR_last k h1
theorem join_first {a : List Mem} (h : rightD a = true) : ∀ c, (joinW [44, 32] (a.map toldM)).head? = some c → c ≠ 32 := by
 intro c hc
 cases a with
 | nil => cases hc
 | cons m a =>
  obtain ⟨q, r, hq, n1, -⟩ := join_head h (by simp)
  rw [hq] at hc
  cases hc
  exact n1
theorem foldl_self {d : List Mem} (h : rightD d = true) : d.foldl setM [] = d := by
 have := fold_new d [] (fun k _ h => by cases h) h
 simpa using this
theorem dict_back {d : List Mem} (h : rightD d = true) (i k : Nat) : parseD (List.replicate i 32 ++ joinW [44, 32] (d.map toldM) ++ List.replicate k 32) = some d := by
 rw [parseD_eq i k (join_first h) (join_last h), readD_app d [] h, foldl_self h]
end Go.Bare

namespace Go.Bare
open Go.Lib
theorem alone_snoc {l : List Bs} {k : Bs} (h : aloneB l = true) (hk : keyB k = true) (hn : k ∉ l) : aloneB (l ++ [k]) = true := by
 induction l with
 | nil => simp [aloneB, hk]
 | cons a l ih =>
  simp only [aloneB, Bool.and_eq_true, Bool.not_eq_true', List.cons_append] at h ⊢
  obtain ⟨h1, h2, h3⟩ := h
  simp only [List.mem_cons, not_or] at hn
  refine ⟨h1, ?_, ih h3 hn.2⟩
  have h2' : a ∉ l := by simpa using h2
  have : a ∉ l ++ [k] := by
   simp only [List.mem_append, List.mem_singleton, not_or]
   exact ⟨h2', fun e => hn.1 e.symm⟩
  simpa using this
theorem setP_right {l : List Par} {p : Par} (h : paramsB l = true) (hk : keyB p.key = true) (hr : rightI p.bare = true) : paramsB (setP l p) = true := by
 unfold paramsB at h ⊢
 simp only [Bool.and_eq_true] at h ⊢
 obtain ⟨h1, h2⟩ := h
 unfold setP
 split
 ·have e : (l.map fun q => if q.key = p.key then p else q).map (·.key) = l.map (·.key) := by
   rw [List.map_map]
   refine List.map_congr_left fun q _ => ?_
   simp only [Function.comp]
   split
   ·rename_i e; exact e.symm
   ·rfl
  refine ⟨by rw [e]; exact h1, ?_⟩
  rw [List.all_eq_true] at h2 ⊢
  intro q hq
  obtain ⟨q0, hq0, rfl⟩ := List.mem_map.1 hq
  split
  ·exact hr
  ·exact h2 q0 hq0
 ·rename_i hc
  refine ⟨?_, by rw [List.all_append, h2]; simp [hr]⟩
  rw [List.map_append]
  exact alone_snoc h1 hk (by simpa using hc)
theorem setM_right {l : List Mem} {p : Mem} (h : rightD l = true) (hk : keyB p.key = true) (hr : memB p = true) : rightD (setM l p) = true := by
 unfold rightD at h ⊢
 simp only [Bool.and_eq_true] at h ⊢
 obtain ⟨h1, h2⟩ := h
 unfold setM
 split
 ·have e : (l.map fun q => if q.key = p.key then p else q).map (·.key) = l.map (·.key) := by
   rw [List.map_map]
   refine List.map_congr_left fun q _ => ?_
   simp only [Function.comp]
   split
   ·rename_i e; exact e.symm
   ·rfl
  refine ⟨by rw [e]; exact h1, ?_⟩
  rw [List.all_eq_true] at h2 ⊢
  intro q hq
  obtain ⟨q0, hq0, rfl⟩ := List.mem_map.1 hq
  split
  ·exact hr
  ·exact h2 q0 hq0
 ·rename_i hc
  refine ⟨?_, by rw [List.all_append, h2]; simp [hr]⟩
  rw [List.map_append]
  exact alone_snoc h1 hk (by simpa using hc)
theorem readKey_right {s k r : Bs} (h : readKey s = some (k, r)) : keyB k = true := by
 unfold readKey at h
 simp only at h
 split at h
 ·cases h
 ·rename_i hk
  cases h
  cases s with
  | nil => exact absurd rfl hk
  | cons c l =>
   have e : keyOf (c :: l) = if smlB c then c :: l.takeWhile inKey else [] := rfl
   rw [e] at hk ⊢
   split
   ·rename_i hc
    simp only [keyB, hc, Bool.true_and]
    exact all_takeWhile inKey l
   ·rename_i hc
    rw [if_neg hc] at hk
    exact absurd rfl hk
theorem yes_right : rightI yesI = true := by decide
theorem readVal_right {s r : Bs} {b : It} (h : readVal s = some (b, r)) : rightI b = true := by
 unfold readVal at h
 split at h
 ·exact (may h).1
 ·cases h; exact yes_right
theorem readParams_right : ∀ (n : Nat) (s : Bs) (l ps : List Par) (r : Bs), s.length ≤ n → paramsB l = true → readParams l s = some (ps, r) → paramsB ps = true := by
 intro n
 induction n with
 | zero =>
  intro s l ps r hn hl h
  have : s = [] := List.length_eq_zero_iff.1 (by omega)
  subst this
  rw [readParams_end l [] (by simp)] at h
  cases h; exact hl
 | succ n ih =>
  intro s l ps r hn hl h
  rw [readParams.eq_def] at h
  split at h
  ·rename_i r0
   split at h
   ·cases h
   ·rename_i k r1 h1
    split at h
    ·cases h
    ·rename_i b r2 h2
     have a1 := readKey_len h1
     have a2 := readVal_len h2
     have a3 := skip_len [32] r0
     simp only [List.length_cons] at hn
     exact ih r2 _ ps r (by omega) (setP_right hl (readKey_right h1) (readVal_right h2)) h
  ·cases h; exact hl
theorem readItem_right {s r : Bs} {x : Itm} (h : readItem s = some (x, r)) : itemB x = true := by
 unfold readItem at h
 split at h
 ·cases h
 ·rename_i b r1 h1
  split at h
  ·cases h
  ·rename_i ps r2 h2
   cases h
   unfold itemB
   rw [(may h1).1, readParams_right _ _ _ _ _ (Nat.le_refl _) rfl h2]
   rfl
theorem readInner_right : ∀ (n : Nat) (s : Bs) (l ps : List Itm) (r : Bs), s.length ≤ n → l.all itemB = true → readInner l s = some (ps, r) → ps.all itemB = true := by
 intro n
 induction n with
 | zero =>
  intro s l ps r hn hl h
  have : s = [] := List.length_eq_zero_iff.1 (by omega)
  subst this
  rw [readInner.eq_def] at h
  simp [skipB, readItem, parseI] at h
 | succ n ih =>
  intro s l ps r hn hl h
  have a2 := skip_len [32] s
  rw [readInner.eq_def] at h
  split at h
  ·cases h; exact hl
  ·split at h
   ·cases h
   ·rename_i x r1 h1
    have a1 := readItem_len h1
    split at h
    ·exact ih r1 _ ps r (by omega) (by rw [List.all_append, hl]; simp [readItem_right h1]) h
    ·cases h
theorem readMem_right {s r : Bs} {m : Mem} (h : readMem s = some (m, r)) : keyB m.key = true ∧ memB m = true := by
 unfold readMem at h
 split at h
 ·cases h
 ·rename_i k r0 h0
  have a0 := readKey_right h0
  unfold readRest at h
  split at h
  ·split at h
   ·cases h
   ·rename_i items r2 h2
    split at h
    ·cases h
    ·rename_i ps r3 h3
     cases h
     refine ⟨a0, ?_⟩
     unfold memB
     simp only [Bool.true_or, Bool.true_and]
     rw [readParams_right _ _ _ _ _ (Nat.le_refl _) rfl h3, readInner_right _ _ _ _ _ (Nat.le_refl _) rfl h2]
     rfl
  ·split at h
   ·cases h
   ·rename_i x r2 h2
    cases h
    refine ⟨a0, ?_⟩
    unfold memB
    simp only [List.all_cons, List.all_nil, readItem_right h2]
    rfl
  ·split at h
   ·cases h
   ·rename_i ps r2 h2
    cases h
    refine ⟨a0, ?_⟩
    unfold memB itemB
    simp only [List.all_cons, List.all_nil, yes_right, readParams_right _ _ _ _ _ (Nat.le_refl _) (show paramsB [] = true from rfl) h2]
    rfl
theorem readD_right : ∀ (n : Nat) (s : Bs) (d e : List Mem), s.length ≤ n → rightD d = true → readD d s = some e → rightD e = true := by
 intro n
 induction n with
 | zero =>
  intro s d e hn hd h
  have : s = [] := List.length_eq_zero_iff.1 (by omega)
  subst this
  rw [readD.eq_def] at h
  cases h; exact hd
 | succ n ih =>
  intro s d e hn hd h
  rw [readD.eq_def] at h
  split at h
  ·cases h; exact hd
  ·rename_i c l
   split at h
   ·cases h
   ·rename_i m r h1
    obtain ⟨k1, k2⟩ := readMem_right h1
    have hm := setM_right hd k1 k2
    split at h
    ·cases h; exact hm
    ·split at h
     ·rename_i r2 h2
      simp only at h
      split at h
      ·cases h
      ·have a1 := readMem_len h1
       have a2 := skip_len [32, 9] r
       rw [h2] at a2
       have a3 := skip_len [32, 9] r2
       simp only [List.length_cons] at a1 a2 hn
       exact ih _ _ e (by omega) hm h
     ·cases h
theorem dict_may {s : Bs} {d : List Mem} (h : parseD s = some d) : rightD d = true ∧ printD d = some (joinW [44, 32] (d.map toldM)) ∧ parseD (joinW [44, 32] (d.map toldM)) = some d := by
 have hr := readD_right _ _ _ _ (Nat.le_refl _) (show rightD [] = true from rfl) h
 refine ⟨hr, by unfold printD; rw [if_pos hr], ?_⟩
 have := dict_back hr 0 0
 simpa using this
end Go.Bare

namespace Go.Bare
open Go.Lib
def More (x : Bs) : Prop := ∃ c r, x = c :: r ∧ (c = 44 ∨ c = 32)
theorem More.stops {x : Bs} (h : More x) {p : UInt8 → Bool} (h1 : p 44 = false) (h2 : p 32 = false) : Stops p x := by
 obtain ⟨c, r, rfl, hc⟩ := h
 intro q hq
 cases hq
 rcases hc with rfl | rfl <;> assumption
theorem takeWhile_more {p : UInt8 → Bool} {x : Bs} (hx : Stops p x) : ∀ s : Bs, (s ++ x).takeWhile p = s.takeWhile p
 | [] => by
  cases x with
  | nil => rfl
  | cons c r => rw [List.nil_append, List.takeWhile_cons, if_neg (by rw [hx c rfl]; decide)]; rfl
 | c :: s => by
  rw [List.cons_append, List.takeWhile_cons, List.takeWhile_cons, takeWhile_more hx s]
theorem drop_more (p : UInt8 → Bool) (s x : Bs) : (s ++ x).drop (s.takeWhile p).length = s.drop (s.takeWhile p).length ++ x := by
 rw [List.drop_append_of_le_length]
 have := take_drop_while p s
 have h2 := congrArg List.length this
 rw [List.length_append] at h2
 omega
theorem quoted_more : ∀ (n : Nat) (s acc r x : Bs) (b : It), s.length ≤ n → quoted acc s = some (b, r) → quoted acc (s ++ x) = some (b, r ++ x)
 | _, [], _, _, _, _, _, h => by cases h
 | 0, c :: s, _, _, _, _, hn, _ => by simp at hn
 | n + 1, c :: s, acc, r, x, b, hn, h => by
  rw [List.cons_append, quoted_cons]
  rw [quoted_cons] at h
  split at h
  ·cases h
  ·rename_i hp
   rw [if_neg hp]
   split at h
   ·rename_i h34
    rw [if_pos h34]
    cases h
    rfl
   ·rename_i h34
    rw [if_neg h34]
    split at h
    ·rename_i h92
     rw [if_pos h92]
     cases s with
     | nil => cases h
     | cons d s' =>
      simp only [List.cons_append] at h ⊢
      split at h
      ·rename_i hd
       rw [if_pos hd]
       exact quoted_more n s' _ r x b (by simp at hn; omega) h
      ·cases h
    ·rename_i h92
     rw [if_neg h92]
     exact quoted_more n s _ r x b (by simp at hn; omega) h
theorem number_more {s r x : Bs} {b : It} (h : number s = some (b, r)) (hx : More x) : number (s ++ x) = some (b, r ++ x) := by
 have hs : Stops digB x := hx.stops (by decide) (by decide)
 have hdot : x.head? ≠ some 46 := by
  obtain ⟨c, l, rfl, hc⟩ := hx
  rcases hc with rfl | rfl <;> simp
 have hnil : number [] = none := by decide
 cases s with
 | nil => rw [hnil] at h; cases h
 | cons c0 s0 =>
  unfold number at h ⊢
  have e0 : ((c0 :: s0 ++ x).head? == some 45) = ((c0 :: s0).head? == some 45) := rfl
  obtain ⟨neg, hneg⟩ : ∃ z, ((c0 :: s0).head? == some 45) = z := ⟨_, rfl⟩
  rw [e0]
  simp only [hneg] at h ⊢
  obtain ⟨t, ht⟩ : ∃ z, (if neg = true then (c0 :: s0).drop 1 else c0 :: s0) = z := ⟨_, rfl⟩
  have ht2 : (if neg = true then (c0 :: s0 ++ x).drop 1 else c0 :: s0 ++ x) = t ++ x := by rw [← ht]; cases neg <;> rfl
  rw [ht2]
  rw [ht] at h
  rw [takeWhile_more hs, drop_more]
  obtain ⟨d, hd⟩ : ∃ z, t.takeWhile digB = z := ⟨_, rfl⟩
  obtain ⟨q, hq⟩ : ∃ z, t.drop d.length = z := ⟨_, rfl⟩
  rw [hd] at h ⊢
  rw [hq] at h ⊢
  by_cases h1 : d.length < 1 ∨ 15 < d.length
  ·rw [if_pos h1] at h; cases h
  rw [if_neg h1] at h ⊢
  by_cases h2 : q.head? ≠ some 46
  ·rw [if_pos h2] at h
   cases h
   have h3 : (r ++ x).head? ≠ some 46 := by
    cases r with
    | nil => exact hdot
    | cons c r => exact h2
   rw [if_pos h3]
  ·rw [if_neg h2] at h
   have h2' : ¬ ((q ++ x).head? ≠ some 46) := by
    cases q with
    | nil => exact absurd (by simp) h2
    | cons c q => exact h2
   rw [if_neg h2']
   have hq1 : (q ++ x).drop 1 = q.drop 1 ++ x := by
    cases q with
    | nil => exact absurd (by simp) h2
    | cons c q => rfl
   rw [hq1, takeWhile_more hs]
   obtain ⟨e, he⟩ : ∃ z, (q.drop 1).takeWhile digB = z := ⟨_, rfl⟩
   have hed := take_drop_while digB (q.drop 1)
   simp only [he] at h ⊢ hed
   by_cases h4 : 12 < d.length ∨ e.length < 1 ∨ 3 < e.length
   ·rw [if_pos h4] at h; cases h
   rw [if_neg h4] at h ⊢
   cases h
   have hle : 1 + e.length ≤ q.length := by
    have := congrArg List.length hed
    rw [List.length_append] at this
    simp only [List.length_drop] at this
    omega
   rw [List.drop_append_of_le_length hle]
theorem packed_more {s r x : Bs} {b : It} (h : packed s = some (b, r)) : packed (s ++ x) = some (b, r ++ x) := by
 unfold packed at h ⊢
 obtain ⟨i, hi⟩ : ∃ z, s.takeWhile (· != 58) = z := ⟨_, rfl⟩
 have hsp := take_drop_while (· != 58) s
 simp only [hi] at h hsp
 split at h
 ·cases h
 ·rename_i hne
  obtain ⟨c, l, hc⟩ : ∃ c l, s.drop i.length = c :: l := by
   cases hl : s.drop i.length with
   | nil =>
    rw [hl, List.append_nil] at hsp
    exact absurd (by rw [hsp]) hne
   | cons c l => exact ⟨c, l, rfl⟩
  rw [hc] at hsp
  have h58 : (c != 58) = false := by
   cases hcc : (c != 58) with
   | false => rfl
   | true =>
    exfalso
    have hall : i.all (· != 58) = true := by rw [← hi]; exact all_takeWhile _ s
    have h1 : s.takeWhile (· != 58) = i ++ (c :: l).takeWhile (· != 58) := by
     rw [← hsp]
     clear hi h hne hc hsp
     induction i with
     | nil => rfl
     | cons a i ih =>
      simp only [List.all_cons, Bool.and_eq_true] at hall
      rw [List.cons_append, List.takeWhile_cons, if_pos hall.1, ih hall.2]
      rfl
    rw [hi, List.takeWhile_cons, if_pos hcc] at h1
    have := congrArg List.length h1
    simp at this
  have htw : (s ++ x).takeWhile (· != 58) = i := by
   rw [← hsp, List.append_assoc]
   exact takeWhile_app (by rw [← hi]; exact all_takeWhile _ s) fun q hq => by cases hq; exact h58
  simp only [htw]
  have hlen : i.length + 1 ≤ s.length := by
   have := congrArg List.length hsp
   rw [List.length_append, List.length_cons] at this
   omega
  rw [if_neg (by rw [List.length_append]; omega)]
  cases hu : unsix i with
  | none => rw [hu] at h; cases h
  | some t =>
   rw [hu] at h
   simp only [Option.map_some, Option.some.injEq, Prod.mk.injEq] at h ⊢
   obtain ⟨rfl, rfl⟩ := h
   exact ⟨rfl, List.drop_append_of_le_length hlen⟩
theorem parseI_more {s r x : Bs} {b : It} (h : parseI s = some (b, r)) (hx : More x) : parseI (s ++ x) = some (b, r ++ x) := by
 cases s with
 | nil => cases h
 | cons c s =>
  rw [List.cons_append, parseI_cons]
  rw [parseI_cons] at h
  split at h
  ·rename_i h1
   rw [if_pos h1, ← List.cons_append]
   exact number_more h hx
  rename_i h1
  rw [if_neg h1]
  split at h
  ·rename_i h2
   rw [if_pos h2, ← List.cons_append, takeWhile_more (hx.stops (by decide) (by decide)), drop_more]
   simp only [Option.some.injEq, Prod.mk.injEq] at h ⊢
   exact ⟨h.1, by rw [h.2]⟩
  rename_i h2
  rw [if_neg h2]
  split at h
  ·rename_i h3
   rw [if_pos h3]
   exact quoted_more _ _ _ _ _ _ (Nat.le_refl _) h
  rename_i h3
  rw [if_neg h3]
  split at h
  ·rename_i h4
   rw [if_pos h4]
   exact packed_more h
  rename_i h4
  rw [if_neg h4]
  split at h
  ·rename_i h5
   rw [if_pos h5]
   cases s with
   | nil => cases h
   | cons d s =>
    simp only [List.cons_append] at h ⊢
    split at h
    ·rename_i h6
     rw [if_pos h6]
     cases h
     rfl
    ·cases h
  ·cases h
end Go.Bare

namespace Go.Bare
open Go.Lib
theorem readKey_more {s k r x : Bs} (h : readKey s = some (k, r)) (hx : More x) : readKey (s ++ x) = some (k, r ++ x) := by
 have hk := readKey_right h
 have hs : s = k ++ r := by
  unfold readKey at h
  simp only at h
  split at h
  ·cases h
  ·cases h
   cases s with
   | nil => rfl
   | cons c l =>
    have e : keyOf (c :: l) = if smlB c then c :: l.takeWhile inKey else [] := rfl
    rw [e]
    split
    ·have := take_drop_while inKey l
     simp [this]
    ·rfl
 have hst : Stops inKey (r ++ x) := by
  cases r with
  | nil => exact hx.stops (by decide) (by decide)
  | cons c r =>
   intro q hq
   cases hq
   unfold readKey at h
   simp only at h
   split at h
   ·cases h
   ·simp only [Option.some.injEq, Prod.mk.injEq] at h
    obtain ⟨h1, h2⟩ := h
    cases s with
    | nil => cases h2
    | cons c0 l =>
     have e : keyOf (c0 :: l) = if smlB c0 then c0 :: l.takeWhile inKey else [] := rfl
     rw [e] at h1 h2
     split at h1
     ·rename_i hc
      rw [if_pos hc] at h2
      simp only [List.length_cons, List.drop_succ_cons] at h2
      have : ∀ l : Bs, l.drop (l.takeWhile inKey).length = c :: r → inKey c = false := by
       intro l
       induction l with
       | nil => intro h; cases h
       | cons a l ih =>
        intro h
        rw [List.takeWhile_cons] at h
        split at h
        ·exact ih (by simpa using h)
        ·rename_i ha
         simp at h
         rw [← h.1]
         simpa using ha
      exact this l h2
     ·subst h1
      cases hk
 rw [hs, List.append_assoc, readKey_app hk hst]
theorem readVal_more {s r x : Bs} {b : It} (h : readVal s = some (b, r)) (hx : More x) : readVal (s ++ x) = some (b, r ++ x) := by
 cases s with
 | nil =>
  cases h
  obtain ⟨c, l, rfl, hc⟩ := hx
  rcases hc with rfl | rfl <;> rfl
 | cons c s =>
  by_cases hc : c = 61
  ·subst hc
   exact parseI_more h hx
  ·have e : ∀ t : Bs, readVal (c :: t) = some (yesI, c :: t) := fun t => by
    unfold readVal
    split
    ·rename_i he; cases he; exact absurd rfl hc
    ·rfl
   rw [e] at h
   cases h
   exact e _
theorem skip_more {l s x : Bs} (h : skipB l s ≠ []) : skipB l (s ++ x) = skipB l s ++ x := by
 unfold skipB at h ⊢
 induction s with
 | nil => exact absurd rfl h
 | cons c s ih =>
  rw [List.cons_append, List.dropWhile_cons]
  rw [List.dropWhile_cons] at h ⊢
  split
  ·rename_i hc
   rw [if_pos hc] at h
   exact ih h
  ·rfl
theorem readParams_more {x : Bs} (hx : More x) : ∀ (n : Nat) (s : Bs) (l ps : List Par) (r : Bs), s.length ≤ n → readParams l s = some (ps, r) → readParams l (s ++ x) = some (ps, r ++ x) := by
 have hx59 : x.head? ≠ some 59 := by
  obtain ⟨c, l, rfl, hc⟩ := hx
  rcases hc with rfl | rfl <;> simp
 intro n
 induction n with
 | zero =>
  intro s l ps r hn h
  have : s = [] := List.length_eq_zero_iff.1 (by omega)
  subst this
  rw [readParams_end l [] (by simp)] at h
  cases h
  exact readParams_end l x hx59
 | succ n ih =>
  intro s l ps r hn h
  cases s with
  | nil =>
   rw [readParams_end l [] (by simp)] at h
   cases h
   exact readParams_end l x hx59
  | cons c s =>
   by_cases hc : c = 59
   ·subst hc
    rw [List.cons_append, readParams_semi]
    rw [readParams_semi] at h
    have hne : skipB [32] s ≠ [] := fun e => by rw [e] at h; cases h
    rw [skip_more hne]
    cases hk : readKey (skipB [32] s) with
    | none => rw [hk] at h; cases h
    | some kr =>
     obtain ⟨k, r1⟩ := kr
     rw [hk] at h
     rw [readKey_more hk hx]
     simp only at h ⊢
     cases hv : readVal r1 with
     | none => rw [hv] at h; cases h
     | some br =>
      obtain ⟨b, r2⟩ := br
      rw [hv] at h
      rw [readVal_more hv hx]
      simp only at h ⊢
      have a1 := readKey_len hk
      have a2 := readVal_len hv
      have a3 := skip_len [32] s
      simp only [List.length_cons] at hn
      exact ih r2 _ ps r (by omega) h
   ·rw [readParams_end l (c :: s) (by simpa using hc)] at h
    cases h
    exact readParams_end l _ (by simpa using hc)
theorem readItem_more {s r x : Bs} {i : Itm} (h : readItem s = some (i, r)) (hx : More x) : readItem (s ++ x) = some (i, r ++ x) := by
 unfold readItem at h ⊢
 cases hp : parseI s with
 | none => rw [hp] at h; cases h
 | some br =>
  obtain ⟨b, r1⟩ := br
  rw [hp] at h
  rw [parseI_more hp hx]
  simp only at h ⊢
  cases hq : readParams [] r1 with
  | none => rw [hq] at h; cases h
  | some pr =>
   obtain ⟨ps, r2⟩ := pr
   rw [hq] at h
   rw [readParams_more hx _ _ _ _ _ (Nat.le_refl _) hq]
   cases h
   rfl
theorem readInner_more {x : Bs} (hx : More x) : ∀ (n : Nat) (s : Bs) (l ps : List Itm) (r : Bs), s.length ≤ n → readInner l s = some (ps, r) → readInner l (s ++ x) = some (ps, r ++ x) := by
 intro n
 induction n with
 | zero =>
  intro s l ps r hn h
  have : s = [] := List.length_eq_zero_iff.1 (by omega)
  subst this
  rw [readInner.eq_def] at h
  simp [skipB, readItem, parseI] at h
 | succ n ih =>
  intro s l ps r hn h
  have a2 := skip_len [32] s
  rw [readInner.eq_def] at h
  split at h
  ·rename_i r0 hs
   cases h
   have e : skipB [32] (s ++ x) = 41 :: (r ++ x) := by rw [skip_more (by rw [hs]; simp), hs]; rfl
   rw [readInner.eq_def]
   split
   ·rename_i r1 h1
    rw [e] at h1
    cases h1
    rfl
   ·rename_i h1
    exact absurd e (h1 _)
  ·rename_i hno
   split at h
   ·cases h
   ·rename_i i r1 h1
    have a1 := readItem_len h1
    split at h
    ·rename_i hh
     have hne : skipB [32] s ≠ [] := fun e => by rw [e] at a1; simp at a1
     have hh' : (r1 ++ x).head? = some 41 ∨ (r1 ++ x).head? = some 32 := by
      cases r1 with
      | nil => rcases hh with h | h <;> cases h
      | cons c r1 => exact hh
     rw [readInner_item (x := i) (y := r1 ++ x) (fun q he => by
      rw [skip_more hne] at he
      cases hq : skipB [32] s with
      | nil => exact hne hq
      | cons c t =>
       rw [hq] at he
       simp at he
       rw [he.1] at hq
       exact hno _ hq) (by rw [skip_more hne]; exact readItem_more h1 hx) hh']
     exact ih r1 _ ps r (by omega) h
    ·cases h
theorem readRest_item (k : Bs) {c : UInt8} (t : Bs) (h : c ≠ 40) : readRest k (61 :: c :: t) = (match readItem (c :: t) with
   | none => none
   | some (x, r2) => some (⟨k, false, [x], []⟩, r2)) := by
 unfold readRest
 split
 ·rename_i he; cases he; exact absurd rfl h
 ·rename_i he; cases he; rfl
 ·rename_i he1 he2; exact absurd rfl (he2 _)
theorem readRest_else (k : Bs) {c : UInt8} (t : Bs) (h : c ≠ 61) : readRest k (c :: t) = (match readParams [] (c :: t) with
   | none => none
   | some (ps, r2) => some (⟨k, false, [⟨yesI, ps⟩], []⟩, r2)) := by
 unfold readRest
 split
 ·rename_i he; cases he; exact absurd rfl h
 ·rename_i he; cases he; exact absurd rfl h
 ·rfl
theorem readRest_inner (k t : Bs) : readRest k (61 :: 40 :: t) = (match readInner [] t with
   | none => none
   | some (items, r2) => (match readParams [] r2 with
    | none => none
    | some (ps, r3) => some (⟨k, true, items, ps⟩, r3))) := rfl
theorem readMem_more {s r x : Bs} {m : Mem} (h : readMem s = some (m, r)) (hx : More x) : readMem (s ++ x) = some (m, r ++ x) := by
 unfold readMem at h ⊢
 cases hk : readKey s with
 | none => rw [hk] at h; cases h
 | some kr =>
  obtain ⟨k, r0⟩ := kr
  rw [hk] at h
  rw [readKey_more hk hx]
  simp only at h ⊢
  cases r0 with
  | nil =>
   have h0 : readRest k [] = some (⟨k, false, [⟨yesI, []⟩], []⟩, []) := by
    show (match readParams [] ([] : Bs) with | none => none | some (ps, r2) => some ((⟨k, false, [⟨yesI, ps⟩], []⟩ : Mem), r2)) = _
    rw [readParams_end [] [] (by simp)]
   rw [h0] at h
   cases h
   obtain ⟨c, l, rfl, hc⟩ := hx
   rw [List.nil_append, readRest_else k l (by rcases hc with rfl | rfl <;> decide), readParams_end [] _ (by rcases hc with rfl | rfl <;> simp)]
  | cons c1 r1 =>
   by_cases h61 : c1 = 61
   ·subst h61
    cases r1 with
    | nil =>
     have : readRest k [61] = none := rfl
     rw [this] at h
     cases h
    | cons c2 r2 =>
     by_cases h40 : c2 = 40
     ·subst h40
      rw [List.cons_append, List.cons_append, readRest_inner]
      rw [readRest_inner] at h
      cases hi : readInner [] r2 with
      | none => rw [hi] at h; cases h
      | some ir =>
       obtain ⟨items, r3⟩ := ir
       rw [hi] at h
       rw [readInner_more hx _ _ _ _ _ (Nat.le_refl _) hi]
       simp only at h ⊢
       cases hq : readParams [] r3 with
       | none => rw [hq] at h; cases h
       | some pr =>
        obtain ⟨ps, r4⟩ := pr
        rw [hq] at h
        rw [readParams_more hx _ _ _ _ _ (Nat.le_refl _) hq]
        cases h
        rfl
     ·rw [List.cons_append, List.cons_append, readRest_item k _ h40]
      rw [readRest_item k _ h40] at h
      cases hi : readItem (c2 :: r2) with
      | none => rw [hi] at h; cases h
      | some ir =>
       obtain ⟨i, r3⟩ := ir
       rw [hi] at h
       rw [← List.cons_append, readItem_more hi hx]
       cases h
       rfl
   ·rw [List.cons_append, readRest_else k _ h61]
    rw [readRest_else k _ h61] at h
    cases hq : readParams [] (c1 :: r1) with
    | none => rw [hq] at h; cases h
    | some pr =>
     obtain ⟨ps, r4⟩ := pr
     rw [hq] at h
     rw [← List.cons_append, readParams_more hx _ _ _ _ _ (Nat.le_refl _) hq]
     cases h
     rfl
theorem readD_then {sep y : Bs} (hsep : sepB sep) (hmore : More (sep ++ y)) (hy : ∃ c r, y = c :: r ∧ c ≠ 32 ∧ c ≠ 9) : ∀ (n : Nat) (s : Bs) (d e : List Mem), s.length ≤ n → s ≠ [] → readD d s = some e → readD d (s ++ (sep ++ y)) = readD e y := by
 intro n
 induction n with
 | zero =>
  intro s d e hn hs h
  exact absurd (List.length_eq_zero_iff.1 (by omega)) hs
 | succ n ih =>
  intro s d e hn hs h
  rw [readD.eq_def] at h
  split at h
  ·exact absurd rfl hs
  ·rename_i c l
   split at h
   ·cases h
   ·rename_i m r h1
    have h2 := readMem_more h1 hmore
    split at h
    ·rename_i hr
     have hr : r = [] := by simpa using hr
     subst hr
     cases h
     rw [readD_step hsep (by simp) h2 hy]
    ·split at h
     ·rename_i r2 h3
      simp only at h
      split at h
      ·cases h
      ·rename_i hne
       have hne : skipB [32, 9] r2 ≠ [] := by simpa using hne
       have a1 := readMem_len h1
       have a2 := skip_len [32, 9] r
       rw [h3] at a2
       have a3 := skip_len [32, 9] r2
       simp only [List.length_cons] at a1 a2 hn
       have := ih _ _ _ (by omega) hne h
       rw [← this]
       rw [List.cons_append, readD.eq_def]
       simp only
       split
       ·rename_i h4; rw [← List.cons_append, h2] at h4; cases h4
       ·rename_i m1 q h4
        rw [← List.cons_append, h2] at h4
        cases h4
        have e1 : skipB [32, 9] (r ++ (sep ++ y)) = 44 :: (r2 ++ (sep ++ y)) := by rw [skip_more (by rw [h3]; simp), h3]; rfl
        have e2 : skipB [32, 9] (r2 ++ (sep ++ y)) = skipB [32, 9] r2 ++ (sep ++ y) := skip_more hne
        rw [if_neg (by cases r <;> simp at h3 ⊢ <;> cases h3)]
        split
        ·rename_i q2 h5
         rw [e1] at h5
         cases h5
         simp only [e2]
         rw [if_neg (by cases hz : skipB [32, 9] r2 with | nil => exact absurd hz hne | cons _ _ => simp)]
        ·rename_i h5
         exact absurd e1 (h5 _)
     ·cases h
end Go.Bare

namespace Go.Bare
open Go.Lib
def heard (d : List Mem) (k : Bs) : Option It := match d.find? (·.key = k) with
 | some m => if m.inner = false ∧ m.items.length = 1 then some (m.items.headD noI).bare else none
 | none => none
def urgOf (d : List Mem) : Int := match heard d [117] with
 | some b => if b.kind = 1 ∧ 0 ≤ b.int ∧ b.int ≤ 7 then b.int else 3
 | none => 3
def incOf (d : List Mem) : Bool := match heard d [105] with
 | some b => decide (b.kind = 6) && b.yes
 | none => false
theorem find_setM (d : List Mem) (m : Mem) (k : Bs) : (setM d m).find? (·.key = k) = if m.key = k then some m else d.find? (·.key = k) := by
 unfold setM
 split
 ·rename_i hc
  induction d with
  | nil => simp at hc
  | cons a d ih =>
   rw [List.map_cons, List.find?_cons, List.find?_cons]
   by_cases ha : a.key = m.key
   ·simp only [if_pos ha]
    by_cases hm : m.key = k
    ·simp [hm]
    ·have hak : ¬ a.key = k := by rw [ha]; exact hm
     simp only [hm, hak, decide_false, if_false]
     by_cases hd : (d.map (·.key)).contains m.key = true
     ·have := ih hd
      rw [if_neg hm] at this
      exact this
     ·have e : (d.map fun q => if q.key = m.key then m else q) = d := by
       have : ∀ q ∈ d, q.key ≠ m.key := fun q hq e => hd (by simpa using ⟨q, hq, e⟩)
       calc (d.map fun q => if q.key = m.key then m else q) = d.map id := List.map_congr_left fun q hq => by simp [this q hq]
        _ = d := List.map_id d
      rw [e]
   ·simp only [if_neg ha]
    have hd : (d.map (·.key)).contains m.key = true := by
     simp only [List.map_cons, List.contains_cons, Bool.or_eq_true, beq_iff_eq] at hc
     exact hc.resolve_left fun e => ha e.symm
    by_cases hak : a.key = k
    ·have hmk : ¬ m.key = k := fun e => ha (hak.trans e.symm)
     simp [hak, hmk]
    ·simp only [hak, decide_false]
     exact ih hd
 ·rename_i hc
  rw [List.find?_append]
  by_cases hm : m.key = k
  ·have : d.find? (·.key = k) = none := by
    rw [List.find?_eq_none]
    intro q hq
    simp only [decide_eq_true_eq]
    rintro e
    refine hc ?_
    simpa using ⟨q, hq, e.trans hm.symm⟩
   rw [this]
   simp [hm]
  ·simp [hm]
def prioD (u : Int) (i : Bool) : List Mem := (if u = 3 then [] else [⟨[117], false, [⟨⟨1, u, [], false⟩, []⟩], []⟩]) ++ (if i then [⟨[105], false, [⟨yesI, []⟩], []⟩] else [])
theorem prioD_right {u : Int} {i : Bool} (h0 : 0 ≤ u) (h7 : u ≤ 7) : rightD (prioD u i) = true := by
 have hu : u = 0 ∨ u = 1 ∨ u = 2 ∨ u = 3 ∨ u = 4 ∨ u = 5 ∨ u = 6 ∨ u = 7 := by omega
 rcases hu with rfl | rfl | rfl | rfl | rfl | rfl | rfl | rfl <;> cases i <;> decide
theorem prio_fold {u : Int} {i : Bool} (h0 : 0 ≤ u) (h7 : u ≤ 7) (d : List Mem) :
  (u = 3 ∨ urgOf ((prioD u i).foldl setM d) = u) ∧ (i = true → incOf ((prioD u i).foldl setM d) = true) := by
 unfold prioD
 by_cases h3 : u = 3
 ·rw [if_pos h3]
  refine ⟨.inl h3, fun hi => ?_⟩
  subst hi
  simp only [if_true, List.nil_append, List.foldl_cons, List.foldl_nil]
  unfold incOf heard
  rw [find_setM, if_pos rfl]
  rfl
 ·rw [if_neg h3]
  cases i with
  | false =>
   refine ⟨.inr ?_, fun h => by cases h⟩
   simp only [Bool.false_eq_true, if_false, List.append_nil, List.foldl_cons, List.foldl_nil]
   unfold urgOf heard
   rw [find_setM, if_pos rfl]
   simp [h0, h7]
  | true =>
   simp only [if_true, List.cons_append, List.nil_append, List.foldl_cons, List.foldl_nil]
   refine ⟨.inr ?_, fun _ => ?_⟩
   ·unfold urgOf heard
    rw [find_setM, if_neg (by simp), find_setM, if_pos rfl]
    simp [h0, h7]
   ·unfold incOf heard
    rw [find_setM, if_pos rfl]
    rfl
theorem prio_self {u : Int} {i : Bool} (h0 : 0 ≤ u) (h7 : u ≤ 7) : urgOf (prioD u i) = u ∧ incOf (prioD u i) = i := by
 have hu : u = 0 ∨ u = 1 ∨ u = 2 ∨ u = 3 ∨ u = 4 ∨ u = 5 ∨ u = 6 ∨ u = 7 := by omega
 rcases hu with rfl | rfl | rfl | rfl | rfl | rfl | rfl | rfl <;> cases i <;> decide
end Go.Bare

namespace Go.Bare
open Go.Lib
theorem skip_head {l s : Bs} {c : UInt8} {r : Bs} (h : skipB l s = c :: r) : l.contains c = false := by
 unfold skipB at h
 induction s with
 | nil => cases h
 | cons a s ih =>
  rw [List.dropWhile_cons] at h
  split at h
  ·exact ih h
  ·rename_i hc
   cases h
   simpa using hc
theorem readD_comma0 (r : Bs) : readD [] (44 :: r) = none := by
 rw [readD.eq_def]
 simp only
 split
 ·rfl
 ·rename_i m q h
  have : readMem (44 :: r) = none := rfl
  rw [this] at h
  cases h
theorem parseD_then {s : Bs} {d0 a e : List Mem} (h : parseD s = some d0) (ha : rightD a = true) (na : a ≠ []) (he : parseD (s ++ ([44, 32] ++ joinW [44, 32] (a.map toldM))) = some e) : e = a.foldl setM d0 := by
 obtain ⟨c, r, hc, n1, n2⟩ := join_head ha na
 have hl := join_last ha
 obtain ⟨t, ht⟩ : ∃ t, joinW [44, 32] (a.map toldM) = t := ⟨_, rfl⟩
 have hfold := fun d => readD_app a d ha
 rw [ht] at hc hl he hfold
 unfold parseD at h he
 obtain ⟨s0, hs0⟩ : ∃ x, skipB [32] s = x := ⟨_, rfl⟩
 rw [hs0] at h
 cases s0 with
 | nil =>
  exfalso
  have e1 : skipB [32] (s ++ ([44, 32] ++ t)) = 44 :: 32 :: t := by
   have : ∀ s : Bs, skipB [32] s = [] → skipB [32] (s ++ ([44, 32] ++ t)) = 44 :: 32 :: t := by
    intro s
    induction s with
    | nil => intro _; rfl
    | cons a s ih =>
     intro h
     unfold skipB at h ih ⊢
     rw [List.dropWhile_cons] at h
     rw [List.cons_append, List.dropWhile_cons]
     split at h
     ·rename_i ha
      rw [if_pos ha]
      exact ih h
     ·cases h
   exact this s hs0
  rw [e1] at he
  have e2 : trimR 32 (44 :: 32 :: t) = 44 :: 32 :: t := by
   have := trimR_last (c := 32) (l := 44 :: 32 :: t) 0 (by
    rw [hc]
    rw [hc] at hl
    intro q hq
    refine hl q ?_
    simpa using hq)
   simpa using this
  rw [e2, readD_comma0] at he
  cases he
 | cons c0 r0 =>
  have hne : skipB [32] s ≠ [] := by rw [hs0]; simp
  have e1 : skipB [32] (s ++ ([44, 32] ++ t)) = (c0 :: r0) ++ ([44, 32] ++ t) := by rw [skip_more hne, hs0]
  have hlast : LastOk ((c0 :: r0) ++ ([44, 32] ++ t)) := LastOk.app (LastOk.app hl fun e => by rw [hc] at e; cases e) fun e => by simp at e
  have e2 : trimR 32 ((c0 :: r0) ++ ([44, 32] ++ t)) = (c0 :: r0) ++ ([44, 32] ++ t) := by
   have := trimR_last (c := 32) (l := (c0 :: r0) ++ ([44, 32] ++ t)) 0 hlast
   simpa using this
  rw [e1, e2] at he
  obtain ⟨k, hk⟩ := trimR_spec 32 (c0 :: r0)
  obtain ⟨s1, hs1⟩ : ∃ x, trimR 32 (c0 :: r0) = x := ⟨_, rfl⟩
  rw [hs1] at hk h
  have hs1n : s1 ≠ [] := by
   rintro rfl
   have hc0 := skip_head hs0
   rw [List.nil_append] at hk
   cases k with
   | zero => cases hk
   | succ k =>
    rw [List.replicate_succ] at hk
    cases hk
    cases hc0
  have hsep : sepB (List.replicate k 32 ++ [44, 32]) := ⟨List.replicate k 32, [32], by simp, fun q hq => .inl (List.mem_replicate.1 hq).2, fun q hq => by simp at hq; exact .inl hq⟩
  have hmore : More (List.replicate k 32 ++ [44, 32] ++ t) := by
   cases k with
   | zero => exact ⟨44, _, rfl, .inl rfl⟩
   | succ k => exact ⟨32, _, rfl, .inr rfl⟩
  have := readD_then hsep hmore ⟨c, r, hc, n1, n2⟩ _ s1 [] d0 (Nat.le_refl _) hs1n h
  have e3 : (c0 :: r0) ++ ([44, 32] ++ t) = s1 ++ (List.replicate k 32 ++ [44, 32] ++ t) := by rw [hk]; simp
  rw [e3, this, hfold d0] at he
  cases he
  rfl
end Go.Bare

namespace Go.Bare
abbrev Pr := Int × Bool
abbrev Wt := Int × Pr
def pre (K : List Wt) (s : Int) : List Wt := K.takeWhile fun w => decide (w.1 ≠ s)
def look (K : List Wt) (s : Int) : Option Pr := (K.find? fun w => decide (w.1 = s)).map (·.2)
def Many (K : List Wt) (s : Int) (M : Nat) : Prop := ∃ l : List Int, l.Nodup ∧ M ≤ l.length ∧ ∀ t ∈ l, t ∈ (pre K s).map (·.1)
structure Kept (M : Nat) (last : Int) (waits K : List Wt) : Prop where
 look : ∀ w ∈ waits, look K w.1 = some w.2
 order : waits.Pairwise fun a b => b.1 ∈ (pre K a.1).map (·.1)
 diff : (waits.map (·.1)).Nodup
 gone : ∀ s, last < s → s ∈ K.map (·.1) → s ∉ waits.map (·.1) → Many K s M
 most : waits.length ≤ M
theorem pre_cons {K : List Wt} {t s : Int} {q : Pr} (h : t ≠ s) : pre ((t, q) :: K) s = (t, q) :: pre K s := by
 unfold pre
 rw [List.takeWhile_cons, if_pos (by simpa using h)]
theorem look_cons {K : List Wt} {t s : Int} {q : Pr} (h : t ≠ s) : look ((t, q) :: K) s = look K s := by
 unfold look
 rw [List.find?_cons]
 simp [h]
theorem look_self (K : List Wt) (t : Int) (q : Pr) : look ((t, q) :: K) t = some q := by
 unfold look
 simp
theorem Many.cons {K : List Wt} {t s : Int} {q : Pr} {M : Nat} (h : Many K s M) (hne : t ≠ s) : Many ((t, q) :: K) s M := by
 obtain ⟨l, h1, h2, h3⟩ := h
 refine ⟨l, h1, h2, fun x hx => ?_⟩
 rw [pre_cons hne, List.map_cons]
 exact List.mem_cons_of_mem _ (h3 x hx)
theorem Kept.start (M : Nat) (last : Int) : Kept M last [] [] :=
 ⟨(fun w h => by cases h), .nil, .nil, (fun s _ h => by cases h), Nat.zero_le _⟩
def keep (M : Nat) (waits : List Wt) (t : Int) (q : Pr) : List Wt := let l := waits.filter (fun w => decide (w.1 ≠ t)) ++ [(t, q)]; l.drop (l.length - M)
theorem Kept.keep {M : Nat} {last : Int} {waits K : List Wt} (h : Kept M last waits K) (hM : 1 ≤ M) (t : Int) (q : Pr) : Kept M last (keep M waits t q) ((t, q) :: K) := by
 obtain ⟨f, hf⟩ : ∃ f, waits.filter (fun w => decide (w.1 ≠ t)) = f := ⟨_, rfl⟩
 have hfm : ∀ w ∈ f, w ∈ waits ∧ w.1 ≠ t := fun w hw => by
  rw [← hf] at hw
  have := List.mem_filter.1 hw
  exact ⟨this.1, by simpa using this.2⟩
 have hsub : f.Sublist waits := by rw [← hf]; exact List.filter_sublist
 have hlen : f.length ≤ M := Nat.le_trans hsub.length_le h.most
 have hlookL : ∀ w ∈ f ++ [(t, q)], Go.Bare.look ((t, q) :: K) w.1 = some w.2 := by
  intro w hw
  rcases List.mem_append.1 hw with hw | hw
  ·obtain ⟨h1, h2⟩ := hfm w hw
   rw [look_cons (Ne.symm h2)]
   exact h.look w h1
  ·simp at hw
   subst hw
   exact look_self K t q
 have hord : (f ++ [(t, q)]).Pairwise fun a b => b.1 ∈ (pre ((t, q) :: K) a.1).map (·.1) := by
  rw [List.pairwise_append]
  refine ⟨?_, by simp, fun a ha b hb => ?_⟩
  ·refine (h.order.sublist hsub).imp_of_mem fun {a b} ha hb hab => ?_
   rw [pre_cons (Ne.symm (hfm a ha).2), List.map_cons]
   exact List.mem_cons_of_mem _ hab
  ·simp at hb
   subst hb
   rw [pre_cons (Ne.symm (hfm a ha).2), List.map_cons]
   exact List.mem_cons_self ..
 have hdiff : ((f ++ [(t, q)]).map (·.1)).Nodup := by
  rw [List.map_append, List.nodup_append]
  refine ⟨h.diff.sublist (hsub.map _), by simp, fun a ha b hb => ?_⟩
  obtain ⟨w, hw, rfl⟩ := List.mem_map.1 ha
  simp at hb
  subst hb
  exact (hfm w hw).2
 unfold Go.Bare.keep
 rw [hf]
 simp only
 obtain ⟨L, hL⟩ : ∃ L, f ++ [(t, q)] = L := ⟨_, rfl⟩
 have hLl : L.length = f.length + 1 := by rw [← hL]; simp
 rw [hL] at hlookL hord hdiff ⊢
 have hds : (L.drop (L.length - M)).Sublist L := List.drop_sublist ..
 refine ⟨fun w hw => hlookL w (hds.subset hw), hord.sublist hds, hdiff.sublist (hds.map _), fun s hs hm hno => ?_, by simp; omega⟩
 by_cases hst : t = s
 ·subst hst
  exfalso
  refine hno (List.mem_map.2 ⟨(t, q), ?_, rfl⟩)
  rw [← hL, List.drop_append_of_le_length (by rw [hL]; omega)]
  exact List.mem_append_right _ (List.mem_singleton.2 rfl)
 ·have hmK : s ∈ K.map (·.1) := by
   simp only [List.map_cons, List.mem_cons] at hm
   exact hm.resolve_left (Ne.symm hst)
  by_cases hw : s ∈ waits.map (·.1)
  ·obtain ⟨w, hww, rfl⟩ := List.mem_map.1 hw
   have hwf : w ∈ f := by rw [← hf]; exact List.mem_filter.2 ⟨hww, by simpa using Ne.symm hst⟩
   have hwL : w ∈ L := by rw [← hL]; exact List.mem_append_left _ hwf
   -- it is the eldest one
   cases hLc : L with
   | nil => rw [hLc] at hwL; cases hwL
   | cons a L' =>
    have hgt : L.length = M + 1 := by
     rcases Nat.lt_or_ge M L.length with h1 | h1
     ·omega
     ·exfalso
      rw [show L.length - M = 0 by omega, List.drop_zero] at hno
      exact hno (List.mem_map.2 ⟨w, hwL, rfl⟩)
    have hdrop : L.drop (L.length - M) = L' := by rw [hgt, show M + 1 - M = 1 by omega, hLc]; rfl
    rw [hdrop] at hno
    have hwa : w = a := by
     rw [hLc] at hwL
     rcases List.mem_cons.1 hwL with e | e
     ·exact e
     ·exact absurd (List.mem_map.2 ⟨w, e, rfl⟩) hno
    subst hwa
    rw [hLc] at hord hdiff hgt
    refine ⟨L'.map (·.1), (List.nodup_cons.1 hdiff).2, by simp at hgt ⊢; omega, fun x hx => ?_⟩
    obtain ⟨b, hb, rfl⟩ := List.mem_map.1 hx
    exact (List.pairwise_cons.1 hord).1 b hb
  ·exact (h.gone s hs hmK hw).cons hst
theorem Kept.opened {M : Nat} {last : Int} {waits K : List Wt} (h : Kept M last waits K) {s : Int} (hs : last < s) : Kept M s (waits.filter fun w => decide (s < w.1)) K := by
 have hsub : (waits.filter fun w => decide (s < w.1)).Sublist waits := List.filter_sublist
 refine ⟨fun w hw => h.look w (hsub.subset hw), h.order.sublist hsub, h.diff.sublist (hsub.map _), fun x hx hm hno => ?_, Nat.le_trans hsub.length_le h.most⟩
 refine h.gone x (by omega) hm fun hw => hno ?_
 obtain ⟨w, hww, rfl⟩ := List.mem_map.1 hw
 exact List.mem_map.2 ⟨w, List.mem_filter.2 ⟨hww, by simpa using hx⟩, rfl⟩
end Go.Bare

namespace Go.Bare
open Go.Lib
def memsL (s : Bs) : List Mem × Bool :=
 match s with
 | [] => ([], false)
 | c :: l =>
  match h1 : readMem (c :: l) with
  | none => ([], true)
  | some (m, r) =>
   if r.isEmpty then ([m], false)
   else match h2 : skipB [32, 9] r with
    | 44 :: r2 => let r3 := skipB [32, 9] r2; if r3.isEmpty then ([m], true) else (m :: (memsL r3).1, (memsL r3).2)
    | _ => ([m], true)
termination_by s.length
decreasing_by
 all_goals
  have a1 := readMem_len h1
  have a2 := skip_len [32, 9] r
  rw [h2] at a2
  have a3 := skip_len [32, 9] r2
  simp only [List.length_cons] at a1 a2 ⊢
  omega
theorem memsL_nil : memsL [] = ([], false) := by rw [memsL]
theorem memsL_none {s : Bs} (hs : s ≠ []) (h : readMem s = none) : memsL s = ([], true) := by
 cases s with
 | nil => exact absurd rfl hs
 | cons c l =>
  rw [memsL]
  split
  ·rfl
  ·rename_i m r h1; rw [h] at h1; cases h1
theorem memsL_last {s : Bs} {m : Mem} (hs : s ≠ []) (h : readMem s = some (m, [])) : memsL s = ([m], false) := by
 cases s with
 | nil => exact absurd rfl hs
 | cons c l =>
  rw [memsL]
  split
  ·rename_i h1; rw [h] at h1; cases h1
  ·rename_i m' r h1; rw [h] at h1; cases h1; rfl
theorem memsL_some {s r : Bs} {m : Mem} (hs : s ≠ []) (h : readMem s = some (m, r)) (hr : r ≠ []) :
  memsL s = (match skipB [32, 9] r with
   | 44 :: r2 => if (skipB [32, 9] r2).isEmpty then ([m], true) else (m :: (memsL (skipB [32, 9] r2)).1, (memsL (skipB [32, 9] r2)).2)
   | _ => ([m], true)) := by
 cases s with
 | nil => exact absurd rfl hs
 | cons c l =>
  rw [memsL]
  split
  ·rename_i h1; rw [h] at h1; cases h1
  ·rename_i m' r' h1
   rw [h] at h1
   cases h1
   rw [if_neg (by simpa using hr)]
   split
   ·rename_i r2 h2; rw [h2]; rfl
   ·rename_i h2
    split
    ·rename_i r2 h3; exact absurd h3 (h2 r2)
    ·rfl
theorem memsL_stop {s r : Bs} {m : Mem} (hs : s ≠ []) (h : readMem s = some (m, r)) (hr : r ≠ []) (hn : (skipB [32, 9] r).head? ≠ some 44) : memsL s = ([m], true) := by
 rw [memsL_some hs h hr]
 split
 ·rename_i r2 h2; rw [h2] at hn; exact absurd rfl hn
 ·rfl
theorem memsL_comma {s r r2 : Bs} {m : Mem} (hs : s ≠ []) (h : readMem s = some (m, r)) (h2 : skipB [32, 9] r = 44 :: r2) :
  memsL s = if (skipB [32, 9] r2).isEmpty then ([m], true) else (m :: (memsL (skipB [32, 9] r2)).1, (memsL (skipB [32, 9] r2)).2) := by
 rw [memsL_some hs h (by rintro rfl; cases h2), h2]; rfl
theorem readD_mems : ∀ (n : Nat) (s : Bs) (d : List Mem), s.length ≤ n → readD d s = if (memsL s).2 then none else some ((memsL s).1.foldl setM d) := by
 intro n
 induction n with
 | zero =>
  intro s d hn
  have : s = [] := List.length_eq_zero_iff.1 (by omega)
  subst this
  rw [memsL_nil, readD]
  rfl
 | succ n ih =>
  intro s d hn
  cases s with
  | nil => rw [memsL_nil, readD]; rfl
  | cons c l =>
   cases h : readMem (c :: l) with
   | none =>
    rw [memsL_none (by simp) h, readD]
    split
    ·rfl
    ·rename_i h1; rw [h] at h1; cases h1
   | some y =>
    obtain ⟨m, r⟩ := y
    rw [readD]
    split
    ·rename_i h1; rw [h] at h1; cases h1
    ·rename_i m' r' h1
     rw [h] at h1
     cases h1
     by_cases hr : r = []
     ·subst hr
      rw [memsL_last (by simp) h]
      rfl
     ·rw [if_neg (by simpa using hr), memsL_some (by simp) h hr]
      split
      ·rename_i r2 h2
       simp only
       rw [h2]
       simp only
       have a1 := readMem_len h
       have a2 := skip_len [32, 9] r
       rw [h2] at a2
       have a3 := skip_len [32, 9] r2
       simp only [List.length_cons] at a1 a2 hn
       by_cases h3 : (skipB [32, 9] r2).isEmpty
       ·rw [if_pos h3, if_pos h3]; rfl
       ·rw [if_neg h3, if_neg h3, ih _ _ (by omega)]
        rfl
      ·rename_i h2
       split
       ·rename_i r2 h3; exact absurd h3 (h2 r2)
       ·rfl
end Go.Bare
