/- Values: which may be. -/
import Derived.Test.YtkjghojdfjhhkaaDoorM04
import Derived.Test.YtkjghojdfjhhkaaDoorM00
import Derived.MapKept
import Derived.Laws.StructEq
import Derived.Test.YtkjghojdfjhhkaaDoorM01
import Derived.Test.YtkjghojdfjhhkaaDoorM03
import Derived.Shelf.Abstract
import Derived.Shelf.RegionOpen
import Derived.OwnWalkIn
import Derived.TacticsInMore
import Derived.LoopNIn
import Derived.LoopIn
import Derived.WalkSpells
import Derived.Lib.Hide
import Derived.WalkLawsBesides
set_option linter.unusedSimpArgs false
set_option linter.unusedVariables false
namespace Go.Proofs.YtkjghojdfjhhkaaDoor
open Go.RowKit Go.Shelf Go.Cs
attribute [local go_sem] Oper.semAt_some
theorem indexAny_any (cs : List UInt8) : ∀ l : List UInt8, decide (0 ≤ Lib.indexAny l cs) = l.any fun c => cs.contains c
  | [] => rfl
  | c :: l => by
    have ih := indexAny_any cs l
    rw [Lib.indexAny, List.any_cons]
    cases h : cs.contains c with
    | true => simp
    | false =>
      rw [← ih]
      have := Lib.indexAny_ge cs l
      by_cases e : Lib.indexAny l cs = -1
      · simp [e]
      · rw [if_neg (by simp), if_neg (by simpa using e)]
        simp
        omega
theorem bads_ascii : ∀ b ∈ (⟨#[0, 10, 13]⟩ : ByteArray).data.toList, b.toNat < 128 := by decide
set_option maxHeartbeats 1000000 in
set_option maxRecDepth 100000 in
theorem indexAny_any' (s : ByteArray) (w : World) (hs : s.size < 4294967281) :
    Calls Tryd.prog 94 #[.string s, .string ⟨#[0, 10, 13]⟩] w fun e w' => e = .returned (.int .i64 (Lib.indexAny s.data.toList bads)) ∧ New w w' := by
  by_cases h8 : s.size ≤ 8
  · exact indexAny_short s ⟨#[0, 10, 13]⟩ w (by decide) h8 bads_ascii
  · refine (Tryd.strings_IndexAny_long (fun w => by kernel_rfl) s ⟨#[0, 10, 13]⟩ w (by decide) (by omega) hs (by decide) (fun j b h => bads_ascii b (List.mem_of_getElem? h))).mono ?_
    rintro e w' ⟨he, hw⟩
    exact ⟨he, by rw [hw]; exact ((Mods.refl _ _).alloc _).alloc _⟩
theorem containsAny_any (s : ByteArray) (w : World) (hs : s.size < 4294967281) :
    Calls Tryd.prog 80 #[.string s, .string ⟨#[0, 10, 13]⟩] w fun e w' => e = .returned (.bool (s.data.toList.any fun c => bads.contains c)) ∧ New w w' := by
  have H := Lib.hid (fun w => indexAny_any' s w hs)
  rw [← indexAny_any bads s.data.toList]
  obtain ⟨r, hr⟩ : ∃ r, Lib.indexAny s.data.toList bads = r := ⟨_, rfl⟩
  rw [hr] at H ⊢
  clear hs hr
  go_enter Tryd.func80, Tryd.ntmps80
  go_wp2_with (go_at_call 94; refine (H.out _).mono ?_; rintro e w' ⟨rfl, hN⟩)
  go_ret
  exact ⟨rfl, hN⟩
theorem trim_any (s : ByteArray) (w : World) (hs : s.size ≤ 9223372036854775807) :
    Calls Tryd.prog 81 #[.string s, .string ⟨#[32, 9]⟩] w fun e w' => e = .returned (.string ⟨(Lib.trimS s.data.toList blanks).toArray⟩) ∧ New w w' := by
  refine (Any.strings_Trim_laid Tryd.lays160 (by kernel_rfl) s ⟨#[32, 9]⟩ w hs (by decide) (fun j b h => ?_)).mono ?_
  · have : ∀ b ∈ (⟨#[32, 9]⟩ : ByteArray).data.toList, b.toNat < 128 := by decide
    exact this b (List.mem_of_getElem? h)
  · rintro e w' ⟨he, hB⟩
    exact ⟨he, Mods.below hB (Nat.le_refl _)⟩
theorem bytes_eq_list (l : List UInt8) (s : ByteArray) : ((⟨l.toArray⟩ : ByteArray).toList == s.toList) = decide (l = s.data.toList) := by
  rw [Lib.toList_data, Lib.toList_data, Bool.eq_iff_iff]
  simp
set_option maxHeartbeats 1000000 in
theorem value_any (s : ByteArray) (w : World) (hs : s.size < 4294967281) :
    Calls Tryd.prog 44 #[.string s] w fun e w' => e = .returned (.bool (valueB s.data.toList)) ∧ New w w' := by
  have H1 := Lib.hid (fun w => containsAny_any s w hs)
  have H2 := Lib.hid (fun w => trim_any s w (by omega))
  have hb := bytes_eq_list (Lib.trimS s.data.toList blanks) s
  unfold valueB
  obtain ⟨c, hc⟩ : ∃ r, (s.data.toList.any fun c => bads.contains c) = r := ⟨_, rfl⟩
  obtain ⟨t, ht⟩ : ∃ t : ByteArray, (⟨(Lib.trimS s.data.toList blanks).toArray⟩ : ByteArray) = t := ⟨_, rfl⟩
  obtain ⟨d, hd⟩ : ∃ d, decide (Lib.trimS s.data.toList blanks = s.data.toList) = d := ⟨_, rfl⟩
  rw [ht, hd] at hb
  rw [hc] at H1 ⊢
  rw [ht] at H2
  rw [hd]
  clear hs hc ht hd
  cases c with
  | true =>
    go_enter Tryd.func44, Tryd.ntmps44
    go_wp2_with (first | (go_at_call 80; refine (H1.out _).mono ?_; rintro e w' ⟨rfl, hN⟩) | (go_at_call 81; refine (H2.out _).mono ?_; rintro e w' ⟨rfl, hN⟩))
    go_ret
    exact ⟨rfl, by assumption⟩
  | false =>
    go_enter Tryd.func44, Tryd.ntmps44
    go_wp2_with (first | (go_at_call 80; refine (H1.out _).mono ?_; rintro e w1 ⟨rfl, hN1⟩) | (go_at_call 81; refine (H2.out _).mono ?_; rintro e w2 ⟨rfl, hN2⟩))
    go_ret
    exact ⟨rfl, hN1.trans hN2⟩
end Go.Proofs.YtkjghojdfjhhkaaDoor
/- Maps as functions: what a look finds, what a store leaves; keys of one cell, and keys that are compared. -/
namespace Go.Cs
open Go.RowKit

/-- Keys of a map's type: how they are found. -/
structure KeyLike (P : Program) (k : TypeId) {α : Type} (enc : α → Value) : Prop where
  inj : ∀ a b, enc a = enc b → a = b
  check : ∀ (w : World) (em : Bool) (a : α), (Instr.checkKey em 10000 k (enc a)).run P w = .ok () w
  find : ∀ (w : World) (a : α) (es : List MapEntry), (∀ e ∈ es, ∃ b, e.key = enc b) →
    ((Instr.findKey k (enc a) es).run P w = .ok none w ∧ ∀ e ∈ es, e.key ≠ enc a) ∨ ∃ j e, (Instr.findKey k (enc a) es).run P w = .ok (some (j, e.val)) w ∧ es[j]? = some e ∧ e.key = enc a
  stays : ∀ (w : World) (a : α), (Instr.keyThatStays (enc a) (enc a)).run P w = .ok (enc a) w

variable {P : Program} {k : TypeId} {α : Type} {enc : α → Value}

theorem KeyLike.now {d : TypeDesc} (hd : P.underlying k = some d) (hk : ∀ a, MapKept.IsKey d (enc a)) (hi : ∀ a b, enc a = enc b → a = b) : KeyLike P k enc where
  inj := hi
  check w em a := MapKept.run_checkKey hd (hk a) em 9999
  find w a es h := by
    rcases MapKept.findNow_spec (hk a) es 0 (fun e he => by obtain ⟨b, hb⟩ := h e he; rw [hb]; exact hk b) with ⟨h1, h2⟩ | ⟨j, e, h1, h2, h3⟩
    · exact .inl ⟨MapKept.run_findKey hd h1, h2⟩
    · exact .inr ⟨j, e, by rw [Nat.zero_add] at h1; exact MapKept.run_findKey hd h1, h2, h3⟩
  stays w a := MapKept.run_keyThatStays (hk a)

theorem run_findAsking [DecidableEq α] (heq : ∀ w a b, (Op.equal k (enc a) (enc b)).run P w = .ok (decide (a = b)) w) (w : World) (a : α) : ∀ (es : List MapEntry) (i : Nat), (∀ e ∈ es, ∃ b, e.key = enc b) →
    ((Instr.findAsking k (enc a) es i).run P w = .ok none w ∧ ∀ e ∈ es, ∃ b, e.key = enc b ∧ b ≠ a) ∨ ∃ j e, (Instr.findAsking k (enc a) es i).run P w = .ok (some (i + j, e.val)) w ∧ es[j]? = some e ∧ e.key = enc a
  | [], i, _ => .inl ⟨by simp [Instr.findAsking], fun e he => by cases he⟩
  | e :: es, i, h => by
    obtain ⟨b, hb⟩ := h e (by simp)
    by_cases hab : a = b
    · refine .inr ⟨0, e, ?_, rfl, by rw [hb, hab]⟩
      simp [Instr.findAsking, hb, heq, hab, Sem.run_bind]
    · have hd : decide (a = b) = false := by simpa using hab
      have step : (Instr.findAsking k (enc a) (e :: es) i).run P w = (Instr.findAsking k (enc a) es (i + 1)).run P w := by
        simp [Instr.findAsking, hb, heq, hd, Sem.run_bind]
      rcases run_findAsking heq w a es (i + 1) (fun e he => h e (by simp [he])) with ⟨h1, h2⟩ | ⟨j, e', h1, h2, h3⟩
      · refine .inl ⟨by rw [step, h1], fun e' he => ?_⟩
        rcases List.mem_cons.1 he with rfl | he
        · exact ⟨b, hb, fun e => hab e.symm⟩
        · exact h2 e' he
      · exact .inr ⟨j + 1, e', by rw [step, h1]; congr 3; omega, by simpa using h2, h3⟩

theorem KeyLike.asked [DecidableEq α] {d : TypeDesc} (hd : P.underlying k = some d) (hno : ∀ a es i, Instr.findNow d (enc a) es i = if es = [] then some none else none) (hi : ∀ a b, enc a = enc b → a = b)
    (hc : ∀ (w : World) (em : Bool) (a : α), (Instr.checkKey em 10000 k (enc a)).run P w = .ok () w) (heq : ∀ w a b, (Op.equal k (enc a) (enc b)).run P w = .ok (decide (a = b)) w) (hs : ∀ a, Instr.sameBits 10000 (enc a) (enc a) = true) : KeyLike P k enc where
  inj := hi
  check := hc
  find w a es h := by
    cases es with
    | nil => exact .inl ⟨by simp [Instr.findKey, run_underlying hd, Result.andThen, hno], fun e he => by cases he⟩
    | cons e es =>
      have step : (Instr.findKey k (enc a) (e :: es)).run P w = (Instr.findAsking k (enc a) (e :: es)).run P w := by
        simp [Instr.findKey, run_underlying hd, Result.andThen, hno]
      rw [step]
      rcases run_findAsking heq w a (e :: es) 0 h with ⟨h1, h2⟩ | ⟨j, e', h1, h2, h3⟩
      · refine .inl ⟨h1, fun e' he hk => ?_⟩
        obtain ⟨b, hb, hne⟩ := h2 e' he
        exact hne (hi _ _ (hb.symm.trans hk))
      · exact .inr ⟨j, e', by rw [h1, Nat.zero_add], h2, h3⟩
  stays w a := by simp [Instr.keyThatStays, hs]

/-- A map of at most n entries, those of f. -/
def MapFn (enc : α → Value) (W : World) (B n : Nat) (f : α → Option Value) : Prop :=
  ∃ es c, W.heap[B]? = some (.map es c) ∧ es.size ≤ n ∧ (∀ e ∈ es.toList, ∃ a, e.key = enc a ∧ f a = some e.val) ∧ ∀ a v, f a = some v → ∃ e ∈ es.toList, e.key = enc a

theorem MapFn.made {W : World} {B c : Nat} (h : W.heap[B]? = some (.map #[] c)) : MapFn enc W B 0 (fun _ => none) :=
  ⟨#[], c, h, by simp, fun e he => by simp at he, fun a v h => by cases h⟩
theorem MapFn.keep {W W' : World} {B n : Nat} {f : α → Option Value} (h : MapFn enc W B n f) (hk : ∀ o, W.heap[B]? = some o → W'.heap[B]? = some o) : MapFn enc W' B n f := by
  obtain ⟨es, c, h1, r⟩ := h
  exact ⟨es, c, hk _ h1, r⟩
theorem MapFn.new {W W' : World} {B n : Nat} {f : α → Option Value} (h : MapFn enc W B n f) (hN : New W W') : MapFn enc W' B n f := h.keep fun _ ho => hN.heap ho id
theorem MapFn.congr {W : World} {B n : Nat} {f g : α → Option Value} (h : MapFn enc W B n f) (hf : ∀ a, f a = g a) : MapFn enc W B n g := by
  have e : f = g := funext hf
  rwa [← e]

/-- What a look finds. -/
theorem MapFn.find (K : KeyLike P k enc) {W : World} {B n : Nat} {f : α → Option Value} (h : MapFn enc W B n f) (a : α) :
    ∃ es c, W.heap[B]? = some (.map es c) ∧ es.size ≤ n ∧ ∃ r, (Instr.findKey k (enc a) es.toList).run P W = .ok r W ∧ r.map (·.2) = f a := by
  obtain ⟨es, c, h1, hn, h2, h3⟩ := h
  refine ⟨es, c, h1, hn, ?_⟩
  rcases K.find W a es.toList (fun e he => by obtain ⟨b, hb, _⟩ := h2 e he; exact ⟨b, hb⟩) with ⟨hf, hne⟩ | ⟨j, e, hf, hj, hk⟩
  · refine ⟨none, hf, ?_⟩
    cases hfa : f a with
    | none => rfl
    | some v =>
      obtain ⟨e, he, hk⟩ := h3 a v hfa
      exact absurd hk (hne e he)
  · refine ⟨_, hf, ?_⟩
    obtain ⟨b, hb, hv⟩ := h2 e (List.mem_of_getElem? hj)
    rw [K.inj _ _ (hk.symm.trans hb), hv]
    rfl
theorem MapFn.look (K : KeyLike P k enc) {t e : TypeId} (ht : P.underlying t = some (.map k e)) {W : World} {z : Value} (hz : (zeroValue e).run P W = .ok z W) {B n : Nat} {f : α → Option Value} (h : MapFn enc W B n f) (a : α) (ok : Bool) :
    (Instr.lookup t (.map (some B)) (enc a) ok).run P W = .ok (if ok then .tuple #[(f a).getD z, .bool (f a).isSome] else (f a).getD z) W := by
  obtain ⟨es, c, h1, _, r, hf, hr⟩ := h.find K a
  have hg := MapKept.run_getObj_map (P := P) h1
  simp only [Instr.lookup, Sem.run_bind, run_underlying ht W, Result.andThen_ok, hg, Sem.run_pure, K.check, hf]
  rw [← hr]
  cases r with
  | none => cases ok <;> simp [hz]
  | some p => cases ok <;> simp
/-- What a store at a new key leaves. -/
theorem MapFn.put [DecidableEq α] (K : KeyLike P k enc) {t e : TypeId} (ht : P.underlying t = some (.map k e)) {W : World} {B n : Nat} {f : α → Option Value} (h : MapFn enc W B n f) (a : α) (v : Value) (hfa : f a = none) :
    ∃ o, (Instr.mapUpdate t (.map (some B)) (enc a) v).run P W = .ok () (W.putObj B o) ∧ o.isCells = false ∧ MapFn enc (W.putObj B o) B (n + 1) (fun b => if b = a then some v else f b) := by
  obtain ⟨es, c, h1, hn, h2, h3⟩ := h
  have hg := MapKept.run_getObj_map (P := P) h1
  have hs := fun o => MapKept.run_setObj_map (P := P) o h1
  have hlt := (Array.getElem?_eq_some_iff.1 h1).1
  rcases K.find W a es.toList (fun e he => by obtain ⟨b, hb, _⟩ := h2 e he; exact ⟨b, hb⟩) with ⟨hf, hne⟩ | ⟨j, e', hf, hj, hk⟩
  · refine ⟨.map (es.push { key := enc a, val := v, born := c }) (c + 1), ?_, rfl, es.push { key := enc a, val := v, born := c }, c + 1, World.putObj_heap_same hlt, by simp; omega, ?_, ?_⟩
    · simp only [Instr.mapUpdate, Sem.run_bind, run_underlying ht W, Result.andThen_ok, hg, K.check, hf, hs]
      rfl
    · intro x hx
      rw [Array.toList_push, List.mem_append] at hx
      rcases hx with hx | hx
      · obtain ⟨b, hb, hv⟩ := h2 x hx
        exact ⟨b, hb, (if_neg (fun e => hne x hx (by rw [hb, e]))).trans hv⟩
      · rw [List.mem_singleton] at hx
        subst hx
        exact ⟨a, rfl, by simp⟩
    · intro b u hb
      rw [Array.toList_push]
      by_cases e : b = a
      · exact ⟨{ key := enc a, val := v, born := c }, by simp, by rw [e]⟩
      · have hb : (if b = a then some v else f b) = some u := hb
        rw [if_neg e] at hb
        obtain ⟨x, hx, hk⟩ := h3 b u hb
        exact ⟨x, by simp [hx], hk⟩
  · obtain ⟨b, hb, hv⟩ := h2 e' (List.mem_of_getElem? hj)
    rw [← K.inj _ _ (hk.symm.trans hb), hfa] at hv
    cases hv
end Go.Cs
/- A region that stores several entries of a new map, in whatever order. -/
namespace Go.Cs
open Go.RowKit
variable {P : Program} {ops : Array Oper} {Q : Exit → Act → World → Prop} {md : Region.Mode} {r : Option Nat}

def subs : List Nat → List (List Nat)
  | [] => [[]]
  | i :: l => subs l ++ (subs l).map (i :: ·)
theorem filter_subs (p : Nat → Bool) : ∀ l, l.filter p ∈ subs l
  | [] => by simp [subs]
  | i :: l => by
    have ih := filter_subs p l
    unfold subs
    rw [List.mem_append, List.filter_cons]
    split
    · exact .inr (List.mem_map.2 ⟨_, ih, rfl⟩)
    · exact .inl ih
def mark (base : Array Bool) (D : List Nat) : Array Bool := base.mapIdx fun i b => b || D.contains i
theorem mark_congr (base : Array Bool) {D S : List Nat} (h : ∀ i, i ∈ D ↔ i ∈ S) : mark base D = mark base S := by
  unfold mark
  congr 1
  funext i b
  have : D.contains i = S.contains i := by
    rw [Bool.eq_iff_iff]; simp [h]
  rw [this]
theorem mark_set (base : Array Bool) (D : List Nat) (i : Nat) : (mark base D).setIfInBounds i true = mark base (i :: D) := by
  apply Array.ext
  · simp [mark]
  · intro j h1 h2
    simp only [mark, Array.size_setIfInBounds, Array.size_mapIdx] at h1
    rw [Array.getElem_setIfInBounds (by simpa [mark] using h1)]
    by_cases e : i = j
    · subst e; simp [mark]
    · simp [mark, e, Ne.symm e]

theorem nodup_le : ∀ {l m : List Nat}, l.Nodup → (∀ x ∈ l, x ∈ m) → l.length ≤ m.length
  | [], m, _, _ => by simp
  | x :: l, m, hn, hs => by
    have hx := hs x (by simp)
    have hn' := List.nodup_cons.1 hn
    have ih := nodup_le (m := m.erase x) hn'.2 fun y hy => (List.mem_erase_of_ne (by rintro rfl; exact hn'.1 hy)).2 (hs y (by simp [hy]))
    rw [List.length_erase_of_mem hx] at ih
    have : 0 < m.length := List.length_pos_of_mem hx
    simp
    omega
/-- Operations that leave nothing in a slot, in whatever order. -/
theorem any_set (idx : List Nat) (base : Array Bool) (fuel : Nat) (J : List Nat → World → Prop) (a : Act)
    (hready : ((subs idx).all fun S => decide (S.length = idx.length) || decide (Region.ready md ops (mark base S) = idx.filter fun i => !S.contains i)) = true)
    (hnd : idx.Nodup)
    (hstep : ∀ D i W, (∀ j ∈ D, j ∈ idx) → i ∈ idx → i ∉ D → J D W → ∀ K : Act → World → Prop, (∀ W', J (i :: D) W' → K a W') → wpOpIn (Fr r) 0 P ops Q i K a W)
    (hend : ∀ D W, (∀ j, j ∈ D ↔ j ∈ idx) → D.length = idx.length → J D W → wpAnyIn (Fr r) 0 P md ops Q fuel (mark base idx) a W) :
    ∀ (n : Nat) (D : List Nat) (W : World), (∀ j ∈ D, j ∈ idx) → D.Nodup → n + D.length = idx.length → J D W → wpAnyIn (Fr r) 0 P md ops Q (fuel + n) (mark base D) a W := by
  intro n
  induction n with
  | zero =>
    intro D W hD hn hl hJ
    have hiff : ∀ j, j ∈ D ↔ j ∈ idx := by
      intro j
      refine ⟨hD j, fun hj => ?_⟩
      by_cases hjD : j ∈ D
      · exact hjD
      · have := nodup_le (l := j :: D) (m := idx) (List.nodup_cons.2 ⟨hjD, hn⟩) (fun x hx => by
          rcases List.mem_cons.1 hx with rfl | hx
          · exact hj
          · exact hD x hx)
        simp at this
        omega
    rw [mark_congr base hiff]
    exact hend D W hiff (by omega) hJ
  | succ n ih =>
    intro D W hD hn hl hJ
    have hS : ∀ j, j ∈ idx.filter (fun i => D.contains i) ↔ j ∈ D := fun j => by
      rw [List.mem_filter]
      simp
      exact fun h => hD j h
    have hsub := filter_subs (fun i => D.contains i) idx
    have hr := List.all_eq_true.1 hready _ hsub
    have hlen : (idx.filter fun i => D.contains i).length = D.length := by
      have h1 : (idx.filter fun i => D.contains i).Perm D := (List.perm_ext_iff_of_nodup (hnd.filter _) hn).2 hS
      exact h1.length_eq
    rw [Bool.or_eq_true, decide_eq_true_eq, decide_eq_true_eq] at hr
    rcases hr with hr | hr
    · omega
    · rw [mark_congr base hS] at hr
      have hc : ∀ i, (idx.filter fun i => D.contains i).contains i = D.contains i := fun i => by
        rw [Bool.eq_iff_iff]
        simp only [List.contains_iff_mem]
        exact hS i
      simp only [hc] at hr
      refine wpAnyIn_all hr ?_ ?_
      · intro h0
        rw [List.filter_eq_nil_iff] at h0
        have : idx.length ≤ D.length := by
          refine nodup_le hnd fun j hj => ?_
          have := h0 j hj
          simpa using this
        omega
      · intro i hi
        rw [List.mem_filter] at hi
        have hiD : i ∉ D := by simpa using hi.2
        refine hstep D i W hD hi.1 hiD hJ _ fun W' hJ' => ?_
        rw [mark_set]
        exact ih (i :: D) W' (fun j hj => by
          rcases List.mem_cons.1 hj with rfl | hj
          · exact hi.1
          · exact hD j hj) (List.nodup_cons.2 ⟨hiD, hn⟩) (by simp; omega) hJ'
/-- Entries of a new map, stored in whatever order. -/
theorem any_inserts {k : TypeId} {α : Type} [DecidableEq α] {enc : α → Value} (K : KeyLike P k enc) {t e : TypeId} (ht : P.underlying t = some (.map k e)) (idx : List Nat) (base : Array Bool) (fuel : Nat) (key : Nat → α) (val : Nat → Value) (a : Act) (B : Nat) (J : World → Prop) {nn : Nat} {listed : Array Bool}
    (hready : ((subs idx).all fun S => decide (S.length = idx.length) || decide (Region.ready md ops (mark base S) = idx.filter fun i => !S.contains i)) = true)
    (hnd : idx.Nodup) (hinj : ∀ i ∈ idx, ∀ j ∈ idx, key i = key j → i = j) (hf : nn = fuel + idx.length) (hl : listed = mark base [])
    (hop : ∀ i ∈ idx, ∃ (o : Oper) (m x v : Operand), ops[i]? = some o ∧ o.op = .insert t m x v ∧ o.dst = none ∧ o.guard = none ∧ a.eval m = .map (some B) ∧ a.eval x = enc (key i) ∧ a.eval v = val i)
    (hJ : ∀ W o, o.isCells = false → J W → J (W.putObj B o))
    {W : World} (hW : J W) (hm : W.heap[B]? = some (.map #[] 0))
    (hend : ∀ W, J W → MapFn enc W B idx.length (fun q => (idx.find? fun i => decide (key i = q)).map val) → wpAnyIn (Fr r) 0 P md ops Q fuel (mark base idx) a W) :
    wpAnyIn (Fr r) 0 P md ops Q nn listed a W := by
  subst hf hl
  have hfind : ∀ (D : List Nat) (q : α) (i : Nat), (∀ j ∈ D, j ∈ idx) → i ∈ idx → key i = q → (D.find? fun i => decide (key i = q)) = if i ∈ D then some i else none := by
    intro D q i hD hi hq
    induction D with
    | nil => simp
    | cons j D ih =>
      have ih := ih fun x hx => hD x (by simp [hx])
      rw [List.find?_cons]
      by_cases e : key j = q
      · have : j = i := hinj j (hD j (by simp)) i hi (e.trans hq.symm)
        subst this
        simp [e]
      · have hne : i ≠ j := by rintro rfl; exact e hq
        simp [e, ih, hne]
  refine any_set idx base fuel (fun D W => J W ∧ MapFn enc W B D.length (fun q => (D.find? fun i => decide (key i = q)).map val)) a hready hnd ?_ ?_ idx.length [] W (fun _ h => by cases h) List.nodup_nil rfl ⟨hW, ?_⟩
  · rintro D i W hD hi hiD ⟨hJW, hM⟩ K' hK
    obtain ⟨o, m, x, v, h1, h2, h3, h4, h5, h6, h7⟩ := hop i hi
    have hnone : (D.find? fun j => decide (key j = key i)).map val = none := by
      rw [hfind D (key i) i hD hi rfl, if_neg hiD]
      rfl
    obtain ⟨ob, hrun, hob, hM'⟩ := hM.put K ht (key i) (val i) hnone
    refine opIn_skip none (by simp [plainOp, h2]) h1 h4 h3 (w' := W.putObj B ob) ?_ ?_
    · unfold execOp
      simp only [h2, h5, h6, h7, Sem.run_bind, hrun]
      rfl
    · refine hK _ ⟨hJ _ _ hob hJW, hM'.congr fun q => ?_⟩
      by_cases e : q = key i
      · subst e
        rw [if_pos rfl, List.find?_cons]
        simp
      · rw [if_neg e, List.find?_cons]
        have : ¬ key i = q := fun h => e h.symm
        simp [this]
  · rintro D W hiff hlen ⟨hJW, hM⟩
    refine hend W hJW ?_
    obtain ⟨es, c, g1, g2, g3, g4⟩ := hM
    have hfe : ∀ q, ((D.find? fun i => decide (key i = q)).map val) = ((idx.find? fun i => decide (key i = q)).map val) := by
      intro q
      by_cases hex : ∃ i ∈ idx, key i = q
      · obtain ⟨i, hi, hq⟩ := hex
        rw [hfind D q i (fun j hj => (hiff j).1 hj) hi hq, hfind idx q i (fun _ h => h) hi hq, if_pos ((hiff i).2 hi), if_pos hi]
      · have h1 : (D.find? fun i => decide (key i = q)) = none := by
          rw [List.find?_eq_none]
          intro i hi
          simpa using fun h => hex ⟨i, (hiff i).1 hi, h⟩
        have h2 : (idx.find? fun i => decide (key i = q)) = none := by
          rw [List.find?_eq_none]
          intro i hi
          simpa using fun h => hex ⟨i, hi, h⟩
        rw [h1, h2]
    exact ⟨es, c, g1, by omega, fun e he => by
      obtain ⟨b, hb, hv⟩ := g3 e he
      exact ⟨b, hb, (hfe b).symm.trans hv⟩, fun b v hv => g4 b v ((hfe b).trans hv)⟩
  · exact MapFn.made hm
end Go.Cs
/- Fields: compared, as keys of maps. -/
namespace Go.Proofs.YtkjghojdfjhhkaaDoor
open Go.RowKit Go.Cs
/-- A field: its name, its value. -/
structure Fd where
  name : ByteArray
  val : ByteArray
def Fd.no : Fd := ⟨⟨#[]⟩, ⟨#[]⟩⟩
theorem Fd.eq_iff {p q : Fd} : p = q ↔ p.name = q.name ∧ p.val = q.val := by
  obtain ⟨a, b⟩ := p
  obtain ⟨c, d⟩ := q
  simp
instance : DecidableEq Fd := fun _ _ => decidable_of_iff _ Fd.eq_iff.symm
def Fd.cs (p : Fd) : List Value := [.string p.name, .string p.val]
def Fd.v (p : Fd) : Value := .agg #[.string p.name, .string p.val]
theorem Fd.v_inj (p q : Fd) (h : p.v = q.v) : p = q := by
  obtain ⟨a, b⟩ := p
  obtain ⟨c, d⟩ := q
  simp [Fd.v] at h
  simp [h]
theorem bytes_toList (a b : ByteArray) : (a.toList == b.toList) = decide (a = b) := by
  rw [← beq_toListBytes]
  have := MapKept.bytes_beq a b
  by_cases h : a = b
  · rw [this.2 h]; simp [h]
  · rw [decide_eq_false h]
    cases hb : (a == b) with
    | false => rfl
    | true => exact absurd (this.1 hb) h
theorem stood54 : Tryd.prog.stoodInHeld 54 = false := by kernel_rfl
theorem guard54 : Tryd.prog.eqGuardType Tryd.prog.depth 54 = false := by kernel_rfl
theorem eq_field (d : Nat) (p q : Fd) (w : World) : (Op.equalIn (d + 2) 54 p.v q.v).run Tryd.prog w = .ok (decide (p = q)) w := by
  unfold Fd.v
  rw [show d + 2 = (d + 1) + 1 from rfl, run_equalIn_agg w (d + 1) 54 _ _ (by unfold Program.fieldsOf; rw [Tryd.underlying54]) stood54]
  unfold Program.fieldsOf
  rw [Tryd.underlying54]
  have h0 := fun (a b : ByteArray) w => partAt 9 _ Tryd.underlying9 rfl #[.string a, .string b] 0 (.string a) w rfl
  have h1 := fun (a b : ByteArray) w => partAt 9 _ Tryd.underlying9 rfl #[.string a, .string b] 1 (.string b) w rfl
  have e := fun w (a b : ByteArray) => run_equalIn_string w d 9 a b Tryd.underlying9
  have n1 : ("Name" ≠ "_") = True := by simp
  have n2 : ("Value" ≠ "_") = True := by simp
  simp only [Op.eqFields, n1, n2, if_true, Sem.run_bind, h0, e, Result.andThen_ok, bytes_toList]
  have hd : ∀ a b : ByteArray, decide (a = b) = false → a.toList ≠ b.toList := fun a b h he => by
    have := bytes_toList a b
    rw [h, he] at this
    simp at this
  by_cases hb : p.name = q.name <;> by_cases hc : p.val = q.val <;> simp [Fd.eq_iff, hb, hc, Sem.run_bind, h1, e]
  exact hd _ _ (decide_eq_false hc)
theorem keyF : KeyLike Tryd.prog 54 Fd.v :=
  .asked Tryd.underlying54 (fun a es i => by cases es <;> rfl) Fd.v_inj
    (fun w em a => by
      have h0 := fun w => partAt 9 _ Tryd.underlying9 rfl #[.string a.name, .string a.val] 0 (.string a.name) w rfl
      have h1 := fun w => partAt 9 _ Tryd.underlying9 rfl #[.string a.name, .string a.val] 1 (.string a.val) w rfl
      have hc := fun (s : ByteArray) w => MapKept.run_checkKey (P := Tryd.prog) (w := w) (k := .string s) Tryd.underlying9 trivial em 9998
      unfold Instr.checkKey Fd.v
      simp [Sem.run_bind, run_underlying Tryd.underlying54, h0, h1, hc])
    (fun w a b => eq_field 9998 a b w) (fun a => by
      have : ∀ s : ByteArray, (s == s) = true := fun s => (MapKept.bytes_beq s s).2 rfl
      simp [Fd.v, Instr.sameBits, this])
theorem keyS : KeyLike Tryd.prog 9 Value.string := .now Tryd.underlying9 (fun _ => trivial) (fun a b h => by cases h; rfl)
theorem run_eql_field {o : Oper} {a : Act} {w : World} (x y : Operand) (ho : o.op = .binOp .eql 54 x y 54) (p q : Fd) (hx : a.eval x = p.v) (hy : a.eval y = q.v) :
    (execOp a.eval o).run Tryd.prog w = .ok (.value (.bool (decide (p = q)))) w := by
  have he := eq_field 9998 p q w
  unfold Fd.v at he hx hy
  unfold execOp
  simp only [ho, hx, hy, Sem.run_bind, run_eqGuard_agg w .eql 54 x y _ _ guard54, Result.andThen_ok, run_eql_struct w 54 _ _]
  rw [show (10000 : Nat) = 9998 + 2 from rfl, he]
  simp
theorem run_neq_field {o : Oper} {a : Act} {w : World} (x y : Operand) (ho : o.op = .binOp .neq 54 x y 54) (p q : Fd) (hx : a.eval x = p.v) (hy : a.eval y = q.v) :
    (execOp a.eval o).run Tryd.prog w = .ok (.value (.bool (!decide (p = q)))) w := by
  have he := eq_field 9998 p q w
  unfold Fd.v at he hx hy
  unfold execOp
  simp only [ho, hx, hy, Sem.run_bind, run_eqGuard_agg w .neq 54 x y _ _ guard54, Result.andThen_ok, run_neq_struct w 54 _ _]
  rw [show (10000 : Nat) = 9998 + 2 from rfl, he]
  simp
end Go.Proofs.YtkjghojdfjhhkaaDoor
/- Which fields are plain: plain. -/
namespace Go.Proofs.YtkjghojdfjhhkaaDoor
def bTe : ByteArray := ⟨#[116, 101]⟩
def bTrailers : ByteArray := ⟨#[116, 114, 97, 105, 108, 101, 114, 115]⟩
def bConnection : ByteArray := ⟨#[99, 111, 110, 110, 101, 99, 116, 105, 111, 110]⟩
def bKeep : ByteArray := ⟨#[107, 101, 101, 112, 45, 97, 108, 105, 118, 101]⟩
def bProxy : ByteArray := ⟨#[112, 114, 111, 120, 121, 45, 99, 111, 110, 110, 101, 99, 116, 105, 111, 110]⟩
def bTransfer : ByteArray := ⟨#[116, 114, 97, 110, 115, 102, 101, 114, 45, 101, 110, 99, 111, 100, 105, 110, 103]⟩
def bUpgrade : ByteArray := ⟨#[117, 112, 103, 114, 97, 100, 101]⟩
def bNo : ByteArray := ⟨#[]⟩
def forbB (n : ByteArray) : Bool := decide (n = bConnection) || (decide (n = bKeep) || (decide (n = bProxy) || (decide (n = bTransfer) || decide (n = bUpgrade))))
def plainF (p : Fd) : Bool := if p.name = bTe then decide (p.val = bTrailers) else !(forbB p.name) && (nameB p.name.data.toList && valueB p.val.data.toList)
end Go.Proofs.YtkjghojdfjhhkaaDoor
/- Which fields are plain. -/
namespace Go.Proofs.YtkjghojdfjhhkaaDoor
open Go.RowKit Go.Shelf Go.Cs
attribute [local go_sem] Oper.semAt_some
set_option maxHeartbeats 1000000 in
set_option maxRecDepth 100000 in
theorem plain_te (p : Fd) (w : World) (h : p.name = bTe) :
    Calls Tryd.prog 46 #[p.v] w fun e w' => e = .returned (.bool (plainF p)) ∧ New w w' := by
  obtain ⟨a, b⟩ := p
  obtain rfl : a = bTe := h
  have hq : plainF ⟨bTe, b⟩ = decide ((⟨bTe, b⟩ : Fd) = ⟨bTe, bTrailers⟩) := by
    simp [plainF, Fd.eq_iff]
  rw [hq]
  have ht : (bTe.toList == [116, 101]) = true := by rw [Lib.toList_data]; rfl
  obtain ⟨r, hr⟩ : ∃ r, decide ((⟨bTe, b⟩ : Fd) = ⟨bTe, bTrailers⟩) = r := ⟨_, rfl⟩
  have hr' : (b.toList = [116, 114, 97, 105, 108, 101, 114, 115]) ↔ r = true := by
    rw [← hr, decide_eq_true_iff, Fd.eq_iff, Lib.toList_data]
    constructor
    · intro h
      exact ⟨rfl, by obtain ⟨⟨l⟩⟩ := b; simp at h; rw [h]; rfl⟩
    · rintro ⟨_, h⟩
      have h : b = bTrailers := h
      rw [h]; rfl
  rw [hr]
  have Hr := Lib.hid hr'
  clear hr hr' hq
  unfold Fd.v
  go_enter Tryd.func46, Tryd.ntmps46
  go_wp2_with fail
  · have h : b.toList = [116, 114, 97, 105, 108, 101, 114, 115] := by assumption
    go_ret
    exact ⟨by rw [Hr.out.1 h]; rfl, (Mods.refl _ _).alloc _⟩
  · have h : ¬ b.toList = [116, 114, 97, 105, 108, 101, 114, 115] := by assumption
    go_ret
    have : r = false := by
      cases r with
      | false => rfl
      | true => exact absurd (Hr.out.2 rfl) h
    exact ⟨by rw [this]; rfl, (Mods.refl _ _).alloc _⟩
def forbKey (i : Nat) : Fd := if i = 2 then ⟨bConnection, bNo⟩ else if i = 4 then ⟨bKeep, bNo⟩ else if i = 6 then ⟨bProxy, bNo⟩ else if i = 8 then ⟨bTransfer, bNo⟩ else ⟨bUpgrade, bNo⟩
theorem forb_find (a : ByteArray) : ((([2, 4, 6, 8, 10] : List Nat).find? fun i => decide (forbKey i = ⟨a, bNo⟩)).map fun _ => Value.int .i64 1).getD (.int .i64 0) = .int .i64 (if forbB a then 1 else 0) := by
  have e : ∀ n : ByteArray, ((⟨n, bNo⟩ : Fd) = ⟨a, bNo⟩) ↔ a = n := fun n => by rw [Fd.eq_iff]; exact ⟨fun h => h.1.symm, fun h => ⟨h.symm, rfl⟩⟩
  have k2 : forbKey 2 = ⟨bConnection, bNo⟩ := rfl
  have k4 : forbKey 4 = ⟨bKeep, bNo⟩ := rfl
  have k6 : forbKey 6 = ⟨bProxy, bNo⟩ := rfl
  have k8 : forbKey 8 = ⟨bTransfer, bNo⟩ := rfl
  have k10 : forbKey 10 = ⟨bUpgrade, bNo⟩ := rfl
  unfold forbB
  simp only [List.find?_cons, k2, k4, k6, k8, k10, e, List.find?_nil]
  generalize decide (a = bConnection) = d1
  generalize decide (a = bKeep) = d2
  generalize decide (a = bProxy) = d3
  generalize decide (a = bTransfer) = d4
  generalize decide (a = bUpgrade) = d5
  cases d1 <;> cases d2 <;> cases d3 <;> cases d4 <;> cases d5 <;> rfl
theorem zero3 (w : World) : (zeroValue 3).run Tryd.prog w = .ok (.int .i64 0) w := by kernel_rfl
set_option maxHeartbeats 1000000 in
set_option maxRecDepth 100000 in
theorem plain_no (p : Fd) (w : World) (h : ¬ p.name = bTe) (hn : p.name.size ≤ 9223372036854775807) (hv : p.val.size < 4294967281) :
    Calls Tryd.prog 46 #[p.v] w fun e w' => e = .returned (.bool (plainF p)) ∧ New w w' := by
  obtain ⟨a, b⟩ := p
  have hq : plainF ⟨a, b⟩ = (!(forbB a) && (nameB a.data.toList && valueB b.data.toList)) := by
    simp only [plainF]
    rw [if_neg h]
  rw [hq]
  have ht : (a.toList == [116, 101]) = false := by
    rw [beq_eq_false_iff_ne]
    intro e
    apply h
    rw [Lib.toList_data] at e
    obtain ⟨⟨l⟩⟩ := a
    simp at e
    rw [e]; rfl
  have HN := Lib.hid (fun w => name_any a w hn)
  have HV := Lib.hid (fun w => value_any b w hv)
  clear hq h hn hv
  unfold Fd.v
  go_enter Tryd.func46, Tryd.ntmps46
  go_wp2_with fail
  obtain ⟨B, hB⟩ : ∃ B, w.heap.size = B := ⟨_, rfl⟩
  obtain ⟨W0, hW0⟩ : ∃ W, w.alloc (.cells #[.string a, .string b] 54) = W := ⟨_, rfl⟩
  have hb : W0.heap[B]? = some (.cells #[.string a, .string b] 54 (0, 0)) := by rw [← hW0, ← hB]; exact World.alloc_heap_new w _
  have hN0 : New w W0 := by rw [← hW0]; exact (Mods.refl _ _).alloc _
  rw [hW0, hB]
  refine piece (fun a' a'' Wq => ∃ M, a'' = (a'.put (some 11) (forbKey 2).v |>.put (some 12) (forbKey 4).v |>.put (some 13) (forbKey 6).v |>.put (some 14) (forbKey 8).v |>.put (some 15) (forbKey 10).v |>.put (some 10) (.map (some M)) |>.put (some 16) (.map (some M)) |>.put (some 3) (.map (some M))) ∧ MapFn Fd.v Wq M 5 (fun q => ([2, 4, 6, 8, 10].find? fun i => decide (forbKey i = q)).map fun _ => .int .i64 1) ∧ New W0 Wq) ?_ ?_
  · refine (wpIn_wide (n := 0)).1 ?_
    refine wpIn_region_any (by kernel_rfl) ?_
    show wpAnyIn _ _ _ _ _ _ 13 _ _ W0.drew
    refine any_take 1 (some 11) ((forbKey 2).v) rfl rfl (by kernel_rfl) (by kernel_rfl) (by kernel_rfl) (fun _ _ _ h => h.elim) (.value rfl fun w => by go_simp; rfl) ?_
    refine any_take 3 (some 12) ((forbKey 4).v) rfl rfl (by kernel_rfl) (by kernel_rfl) (by kernel_rfl) (fun _ _ _ h => h.elim) (.value rfl fun w => by go_simp; rfl) ?_
    refine any_take 5 (some 13) ((forbKey 6).v) rfl rfl (by kernel_rfl) (by kernel_rfl) (by kernel_rfl) (fun _ _ _ h => h.elim) (.value rfl fun w => by go_simp; rfl) ?_
    refine any_take 7 (some 14) ((forbKey 8).v) rfl rfl (by kernel_rfl) (by kernel_rfl) (by kernel_rfl) (fun _ _ _ h => h.elim) (.value rfl fun w => by go_simp; rfl) ?_
    refine any_take 9 (some 15) ((forbKey 10).v) rfl rfl (by kernel_rfl) (by kernel_rfl) (by kernel_rfl) (fun _ _ _ h => h.elim) (.value rfl fun w => by go_simp; rfl) ?_
    simp only [Act.put, List.setIfInBounds_toArray, List.set_cons_succ, List.set_cons_zero]
    refine wpAnyIn_all (rs := [0]) (by kernel_rfl) (by simp) ?_
    simp only [List.mem_cons, List.not_mem_nil, or_false, forall_eq]
    refine opIn_value (some 10) (v := .map (some W0.drew.heap.size)) (w' := W0.drew.alloc (.map #[] 0)) rfl rfl rfl rfl (by have hmm := @run_makeMap Tryd.prog; go_simp) ?_
    have hm := World.alloc_heap_new W0.drew (.map #[] 0)
    have hN1 : New W0 (W0.drew.alloc (.map #[] 0)) := (Mods.refl _ _).drew.alloc _
    have hM1 : W0.heap.size ≤ W0.drew.heap.size := Nat.le_refl _
    obtain ⟨M, hM⟩ : ∃ M, W0.drew.heap.size = M := ⟨_, rfl⟩
    obtain ⟨W1, hW1⟩ : ∃ W, W0.drew.alloc (.map #[] 0) = W := ⟨_, rfl⟩
    rw [hW1] at hm hN1 ⊢
    rw [hM] at hm hM1 ⊢
    clear hM hW1
    simp only [Act.put, List.setIfInBounds_toArray, List.set_cons_succ, List.set_cons_zero]
    refine any_inserts keyF Tryd.underlying86 [2, 4, 6, 8, 10] #[true, true, false, true, false, true, false, true, false, true, false, false, false] 2 forbKey (fun _ => .int .i64 1) _ M (fun W => New W0 W) (by kernel_rfl) (by decide) (by decide +kernel) rfl (by kernel_rfl) ?_ ?_ hN1 hm ?_
    · intro i hi
      simp only [List.mem_cons, List.not_mem_nil, or_false] at hi
      rcases hi with rfl | rfl | rfl | rfl | rfl
      · exact ⟨_, _, _, _, rfl, rfl, rfl, rfl, rfl, rfl, rfl⟩
      · exact ⟨_, _, _, _, rfl, rfl, rfl, rfl, rfl, rfl, rfl⟩
      · exact ⟨_, _, _, _, rfl, rfl, rfl, rfl, rfl, rfl, rfl⟩
      · exact ⟨_, _, _, _, rfl, rfl, rfl, rfl, rfl, rfl, rfl⟩
      · exact ⟨_, _, _, _, rfl, rfl, rfl, rfl, rfl, rfl, rfl⟩
    · intro W o _ hW
      exact hW.putObj hM1 o
    · intro W hW hMap
      refine wpAnyIn_all (rs := [11]) (by kernel_rfl) (by simp) ?_
      simp only [List.mem_cons, List.not_mem_nil, or_false, forall_eq]
      refine opIn_value (some 16) (v := .map (some M)) (w' := W) rfl rfl rfl rfl (by go_simp) ?_
      refine wpAnyIn_all (rs := [12]) (by kernel_rfl) (by simp) ?_
      simp only [List.mem_cons, List.not_mem_nil, or_false, forall_eq]
      refine opIn_value (some 3) (v := .map (some M)) (w' := W) rfl rfl rfl rfl (by go_simp) ?_
      refine wpAnyIn_done (by kernel_rfl) ?_ _
      exact ⟨M, rfl, hMap, hW⟩
  · rintro a' Wz ⟨M, rfl, hMap, hN⟩
    simp only [Act.put, List.setIfInBounds_toArray, List.set_cons_succ, List.set_cons_zero]
    have hlk := hMap.look keyF Tryd.underlying86 (zero3 Wz) ⟨a, bNo⟩ false
    rw [if_neg (by simp), forb_find] at hlk
    have hlk : (Instr.lookup 86 (.map (some M)) (.agg #[.string a, .string ⟨#[]⟩]) false).run Tryd.prog Wz = .ok (.int .i64 (if forbB a then 1 else 0)) Wz := hlk
    have hNN := hN0.trans hN
    have hca : Wz.cell? ⟨B, 0, none⟩ = some (.string a) := cell_of_row _ _ _ _ _ _ (hN.heap hb id)
    have hcb : Wz.cell? ⟨B, 1, none⟩ = some (.string b) := cell_of_row _ _ _ _ _ _ (hN.heap hb id)
    clear hMap hN hb hN0 hW0 hB
    cases hf : forbB a with
    | true =>
      rw [hf] at hlk
      have Hf := Lib.hid hf
      clear hf
      go_wp2_with fail
      go_ret
      exact ⟨by rw [Hf.out]; rfl, hNN⟩
    | false =>
      rw [hf] at hlk
      have Hf := Lib.hid hf
      clear hf
      cases hn : nameB a.data.toList with
      | false =>
        rw [hn] at HN
        have Hn := Lib.hid hn
        clear hn
        go_wp2_with (go_at_call 42; refine (HN.out _).mono ?_; rintro e w1 ⟨rfl, hN1⟩)
        go_ret
        exact ⟨by rw [Hf.out, Hn.out]; rfl, hNN.trans hN1⟩
      | true =>
        rw [hn] at HN
        have Hn := Lib.hid hn
        clear hn
        go_wp2_with fail
        refine (HN.out _).mono ?_
        rintro e w1 ⟨rfl, hN1⟩
        have hcb := hN1.cell hcb id
        clear hca hlk
        go_wp2_with (go_at_call 44; refine (HV.out _).mono ?_; rintro e w2 ⟨rfl, hN2⟩)
        go_ret
        exact ⟨by rw [Hf.out, Hn.out]; rfl, (hNN.trans hN1).trans hN2⟩
theorem plain_any (p : Fd) (w : World) (hn : p.name.size ≤ 9223372036854775807) (hv : p.val.size < 4294967281) :
    Calls Tryd.prog 46 #[p.v] w fun e w' => e = .returned (.bool (plainF p)) ∧ New w w' := by
  by_cases h : p.name = bTe
  · exact plain_te p w h
  · exact plain_no p w h hn hv
end Go.Proofs.YtkjghojdfjhhkaaDoor
/- Lists of fields: in memory. -/
namespace Go.Proofs.YtkjghojdfjhhkaaDoor
open Go.RowKit Go.Cs
theorem info54 : (Tryd.prog.info? 54).map (·.size) = some 2 := by kernel_rfl
theorem Fd.cs_len (p : Fd) : p.cs.length = 2 := rfl
theorem Fd.v_cs (p : Fd) : p.v = .agg p.cs.toArray := rfl
/-- A slice of fields. -/
def ReadsL (W : World) (v : Value) (L : List Fd) : Prop := ReadsF W v L.length 2 (fun i => (L.getD i .no).cs)
/-- Their sizes. -/
def SmallF (p : Fd) : Prop := p.name.size < 4294967281 ∧ p.val.size < 4294967281
def SmallL (L : List Fd) : Prop := ∀ p ∈ L, SmallF p
theorem SmallF.no : SmallF .no := ⟨by decide, by decide⟩
theorem SmallL.at {L : List Fd} (h : SmallL L) (i : Nat) : SmallF (L.getD i .no) := by
  by_cases hi : i < L.length
  · exact h _ (getD_mem hi)
  · rw [List.getD_eq_getElem?_getD, List.getElem?_eq_none (by omega)]
    exact .no
theorem ReadsL.new {W W' : World} {v : Value} {L : List Fd} (h : ReadsL W v L) (hN : New W W') : ReadsL W' v L := ReadsF.new h hN
theorem ReadsL.slice {W : World} {v : Value} {L : List Fd} (h : ReadsL W v L) : ∃ ao cap, v = .slice ao L.length cap := by
  obtain ⟨_, ao, cap, e, _⟩ := h
  exact ⟨ao, cap, e⟩
theorem ReadsL.nil (W : World) (ao : Option Addr) (cap : Nat) : ReadsL W (.slice ao 0 cap) [] := ⟨by simp, ao, cap, rfl, fun i hi => by simp at hi⟩
theorem run_load_field {W : World} {b o : Nat} {p : Fd} (h : W.rangeAt b o p.cs) : (Instr.loadAt 54 (.pointer (some ⟨b, o, none⟩))).run Tryd.prog W = .ok (.agg #[.string p.name, .string p.val]) W :=
  run_loadAt_mid W b o 54 p.cs _ h Tryd.underlying54 rfl info54
theorem rangeAt_field {W : World} {b o : Nat} {p : Fd} (h : W.rangeAt b o p.cs) : W.cell? ⟨b, o, none⟩ = some (.string p.name) ∧ W.cell? ⟨b, o + 1, none⟩ = some (.string p.val) :=
  ⟨h 0 _ rfl, h 1 _ rfl⟩
theorem ReadsL.at {W : World} {ao : Option Addr} {n cap : Nat} {L : List Fd} (h : ReadsL W (.slice ao n cap) L) {k : Nat} (hk : k < n) : ∃ b o, ao = some ⟨b, o, none⟩ ∧ W.cell? ⟨b, o + k * 2, none⟩ = some (.string (L.getD k .no).name) ∧ W.cell? ⟨b, o + k * 2 + 1, none⟩ = some (.string (L.getD k .no).val) := by
  obtain ⟨_, ao', cap', e, h⟩ := h
  cases e
  obtain ⟨b, o, e, hr⟩ := h k hk
  exact ⟨b, o, e, rangeAt_field hr⟩
theorem ReadsL.lt {W : World} {v : Value} {L : List Fd} (h : ReadsL W v L) (h0 : 0 < L.length) {g : Nat} (hg : v.ownBlock = some g) : g < W.heap.size := by
  obtain ⟨ao, cap, rfl⟩ := h.slice
  obtain ⟨b, o, rfl, hc, _⟩ := h.at h0
  cases hg
  obtain ⟨ob, ho, _⟩ := cells_of_cell hc
  exact (Array.getElem?_eq_some_iff.1 ho).1
/-- Writes beyond what was there do not touch it. -/
theorem ReadsL.kept {W0 W W' : World} {v : Value} {L : List Fd} (h0 : ReadsL W0 v L) (h : ReadsL W v L) {S : Nat → Prop} (hM : Mods S W W') (hS : ∀ b, S b → W0.heap.size ≤ b) : ReadsL W' v L :=
  ReadsF.kept0 h hM fun hp g hg hs => by
    have := h0.lt hp hg
    have := hS g hs
    omega
theorem ReadsL.len {W : World} {ao : Option Addr} {n cap : Nat} {L : List Fd} (h : ReadsL W (.slice ao n cap) L) : L.length = n ∧ n ≤ 2000000 := by
  obtain ⟨hl, ao', cap', e, h⟩ := h
  cases e
  exact ⟨rfl, hl⟩
end Go.Proofs.YtkjghojdfjhhkaaDoor
/- Whether fields are plain, one by one; trailers. -/
namespace Go.Proofs.YtkjghojdfjhhkaaDoor
open Go.RowKit Go.Shelf Go.Cs
attribute [local go_sem] Oper.semAt_some
def encB (b : Bool) : Array Value := #[.bool b]
set_option maxHeartbeats 1000000 in
set_option maxRecDepth 100000 in
theorem plain_iter (B : Nat) (v : Value) (L : List Fd) (hS : SmallL L) (S : Nat → Prop) (hSB : ¬ S B) (W : World) (hB : Boxed W B 25 v) (hR : ReadsL W v L) (hRS : ∀ A, Mods S W A → ReadsL A v L) :
    IterAt Tryd.prog 102 #[.pointer (some ⟨B, 0, none⟩)] ((L.map plainF).map encB) S W := by
  intro l J Jx hJ hJx hY h0
  obtain ⟨ao, cap, rfl⟩ := hR.slice
  have HJ := Lib.hid hJ
  have HRS := Lib.hid hRS
  have HY := Lib.hid hY
  have HS := Lib.hid hS
  have H0 := Lib.hid h0
  have hlen : L.length ≤ 2000000 := hR.1
  clear hJ hJx hRS hY hS h0 hR
  obtain ⟨n, hn⟩ : ∃ n, L.length = n := ⟨_, rfl⟩
  have Hn := Lib.hid hn
  rw [hn] at hB hlen HRS
  clear hn
  have hcB := hB.cell
  refine (callsIn_wide (n := 0)).1 (callsIn_of_wp Tryd.func102 rfl trivial ?_ rfl)
  simp only [Tryd.ntmps102, List.size_toArray, List.length_cons, List.length_nil, Nat.reduceAdd, Nat.reduceSub, Array.replicate_succ, Array.replicate_zero, List.push_toArray, List.append_toArray, List.nil_append, List.cons_append]
  gi_wp2_with fail
  gi_loopw [7] (fun c wr => ∃ k : Nat, k ≤ n ∧ c = .int .i64 k ∧ Hid (J k wr) ∧ Mods S W wr) (fun c _ => n - (intOf c).toNat)
  case atStart => exact ⟨0, Nat.zero_le _, rfl, H0, Mods.refl _ _⟩
  case round =>
    obtain ⟨k, hk, rfl, hJk, hM⟩ := hrel
    by_cases hlt : k < n
    · have hkd : decide ((k : Int) < (n : Int)) = true := decide_eq_true (by omega)
      obtain ⟨b, o, rfl, hc1, hc2⟩ := (HRS.out wr hM).at hlt
      obtain ⟨p, hp⟩ : ∃ p, L.getD k .no = p := ⟨_, rfl⟩
      have Hp := Lib.hid hp
      have hsm := HS.out.at k
      rw [hp] at hc1 hc2 hsm
      clear hp
      obtain ⟨pn, pv⟩ := p
      simp only at hc1 hc2
      have HPl := Lib.hid (fun w => plain_any ⟨pn, pv⟩ w (Nat.le_trans (Nat.le_of_lt hsm.1) (by decide)) hsm.2)
      clear hsm
      have hcB := hM.cell hcB hSB
      gi_wp2_with fail
      refine at_round (r := none) (HPl.out _) ?_
      rintro e w1 ⟨rfl, hN1⟩
      have hN1' : New wr w1 := ((Mods.refl _ _).alloc _).trans hN1
      have hM1 : Mods S W w1 := hM.trans (Mods.ofNew hN1')
      have hx : (((L.map plainF).map encB) : List (Array Value))[k]? = some (encB (plainF ⟨pn, pv⟩)) := by
        have hk' : k < L.length := by rw [Hn.out]; exact hlt
        have e : L[k] = ⟨pn, pv⟩ := by
          have := Hp.out
          simpa [List.getD, hk'] using this
        simp [hk', e]
      obtain ⟨fn, tmps, assign, body, hy, hRn⟩ := HY.out k (encB (plainF ⟨pn, pv⟩)) w1 hx (HJ.out k _ _ hJk.out hN1') hM1
      unfold encB at hy
      clear hx
      gi_wp2_with fail
      refine ⟨rfl, hRn.mono ?_⟩
      rintro e W3 (⟨rfl, hJ3, hm3⟩ | ⟨rfl, hJx3⟩)
      · have HJ3 := Lib.hid hJ3
        clear hJ3
        gi_wp2_with fail
        go_roundw
        case rel => exact ⟨k + 1, by omega, by go_num, HJ3, hM1.trans hm3⟩
        case measure => simp [intOf]; omega
      · gi_wp2_with fail
        refine bodyPost_ret (results_none rfl _ _ _) rfl ?_
        exact ⟨⟨_, rfl⟩, .inr ⟨k + 1, by have := Hn.out; simp; omega, hJx3⟩⟩
    · have hkd : decide ((k : Int) < (n : Int)) = false := decide_eq_false (by omega)
      gi_wp2_with fail
      go_end0
      obtain rfl : k = n := by omega
      exact ⟨⟨_, rfl⟩, .inl (by have := hJk.out; have e := Hn.out; subst e; simpa using this)⟩
theorem plain_call (v : Value) (w : World) (hv : ∃ ao n cap, v = .slice ao n cap) : Calls Tryd.prog 83 #[v] w fun e w' => e = .returned (.func (.func 102) #[] #[.pointer (some ⟨w.heap.size, 0, none⟩)]) ∧ w.alloc (.cells #[v] 25) = w' := by
  obtain ⟨ao, n, cap, rfl⟩ := hv
  go_enter Tryd.func83, Tryd.ntmps83
  go_wp2_with fail
  go_ret
  exact ⟨rfl, rfl⟩
end Go.Proofs.YtkjghojdfjhhkaaDoor
/- Trailers: which lists may be. -/
namespace Go.Proofs.YtkjghojdfjhhkaaDoor
open Go.RowKit Go.Shelf Go.Cs
attribute [local go_sem] Oper.semAt_some
def trailersB (L : List Fd) : Bool := L.all plainF
set_option maxHeartbeats 1000000 in
set_option maxRecDepth 100000 in
theorem trailers_any (v : Value) (L : List Fd) (w : World) (hR : ReadsL w v L) (hS : SmallL L) :
    Calls Tryd.prog 48 #[v] w fun e w' => e = .returned (.bool (trailersB L)) ∧ New w w' := by
  have HC := Lib.hid (fun w => plain_call v w (by obtain ⟨ao, cap, rfl⟩ := hR.slice; exact ⟨_, _, _, rfl⟩))
  have HR := Lib.hid hR
  have HS := Lib.hid hS
  obtain ⟨r, hr⟩ : ∃ r, trailersB L = r := ⟨_, rfl⟩
  rw [hr]
  have Hr := Lib.hid hr
  clear hR hS hr
  refine calls_of_marks Tryd.func48 rfl ?_
  simp only [Tryd.ntmps48, List.size_toArray, List.length_cons, List.length_nil, Nat.reduceAdd, Nat.reduceSub, Array.replicate_succ, Array.replicate_zero, List.push_toArray, List.append_toArray, List.nil_append, List.cons_append]
  go_wp2_with fail
  refine (HC.out _).mono ?_
  rintro e w1 ⟨rfl, hw1⟩
  obtain ⟨A, hA⟩ : ∃ A, w.heap.size = A := ⟨_, rfl⟩
  have hsz : (w.alloc (.cells #[.bool false] 4)).heap.size = A + 1 := by rw [← hA]; simp
  have hb0 : Boxed w1 A 4 (.bool false) := by rw [← hw1, ← hA]; exact (Boxed.new w 4 _).alloc _
  have hb1 : Boxed w1 (A + 1) 25 v := by rw [← hw1, ← hsz]; exact Boxed.new _ _ _
  have hN1 : New w w1 := by rw [← hw1]; exact ((Mods.refl _ _).alloc _).alloc _
  rw [hsz]
  have hAw : w.heap.size ≤ A := by omega
  rw [hA]
  clear hw1 hsz hA
  go_wp2_with fail
  refine wp_rangeList (gf := 102) (lb := #[.pointer (some ⟨A + 1, 0, none⟩)]) rfl (enters_of Tryd.func102 (by kernel_rfl) rfl) (L.map plainF) encB (fun b => b = A)
    (fun W hW => plain_iter (A + 1) v L HS.out _ (by omega) W (hW.boxed hb1 id) ((HR.out.new hN1).new hW) (fun W' hM => ?keep)) (fun _ => rfl)
    (fun k W => (∀ j, j < k → (L.map plainF).getD j true = true) ∧ Boxed W A 4 (.bool false) ∧ Mods (fun b => b = A) w1 W)
    (fun c k W => c = .ret ∧ r = false ∧ Boxed W A 4 (.bool false) ∧ Mods (fun b => b = A) w1 W)
    (fun k => .and (.pure _) (.and (.boxed _ _ _) (.mods (Nat.le_refl _))))
    (fun c k => .and (.pure _) (.and (.pure _) (.and (.boxed _ _ _) (.mods (Nat.le_refl _)))))
    ⟨fun j hj => by omega, hb0, Mods.refl _ _⟩
    (fun p t => (t.setIfInBounds 6 (.bool p)).setIfInBounds 3 (.bool p)) ?assign ?body ?done ?stop
  case keep => exact HR.out.kept ((HR.out.new hN1).new hW) hM fun b hb => by omega
  case assign =>
    rintro l p W K hK
    simp only [encB] at hK ⊢
    gi_wp2_with fail
    exact hK
  case body =>
    rintro l k p W hp hl _ ⟨hbef, n0, hM⟩
    obtain ⟨c0, f0⟩ := n0.both
    have hget : (L.map plainF).getD k true = p := by rw [List.getD_eq_getElem?_getD, hp]; rfl
    have hlt : k < (L.map plainF).length := (List.getElem?_eq_some_iff.1 hp).1
    cases p with
    | true =>
      have HB : Hid (∀ j, j < k + 1 → (L.map plainF).getD j true = true) := Lib.hid fun j hj => by
        by_cases h : j < k
        · exact hbef j h
        · obtain rfl : j = k := by omega
          exact hget
      clear hbef hget hlt hp
      gi_wp2_with fail
      exact ⟨Mods.refl _ _, HB.out, n0, hM⟩
    | false =>
      have hR : r = false := by
        rw [← Hr.out, trailersB, List.all_eq_false]
        rw [List.length_map] at hlt
        refine ⟨L[k], List.getElem_mem hlt, ?_⟩
        have : (L.map plainF).getD k true = plainF L[k] := by simp [List.getD, hlt]
        rw [this] at hget
        simp [hget]
      have HR' := Lib.hid hR
      clear hbef hget hlt hp hR
      gi_wp2_with fail
      exact ⟨setMods W A 0 _, rfl, HR'.out, n0.set _, hM.setCell (p := ⟨A, 0, none⟩) (.inr rfl) _⟩
  case done =>
    rintro W ⟨hall, n0, hM⟩ hD
    have hRt : r = true := by
      rw [← Hr.out, trailersB, List.all_eq_true]
      intro x hx
      obtain ⟨j, hj⟩ := List.getElem?_of_mem hx
      have hlt := (List.getElem?_eq_some_iff.1 hj).1
      have := hall j (by simpa using hlt)
      simp [List.getD, hj] at this
      exact this
    have HR' := Lib.hid hRt
    obtain ⟨c0, f0⟩ := n0.both
    clear hall hRt
    go_wp2_with fail
    have p1 := n0.set (.bool true)
    have hMM := hM.setCell (p := ⟨A, 0, none⟩) (.inr rfl) (.bool true)
    have hD' := (KeepsOthers.setCell W ⟨A, 0, none⟩ (.bool true)).same _ _ hD rfl
    have q1 := (Stab.boxed (B := 0) _ _ _ _ _ p1 (Quiet.putObj (.deferred none) hD' rfl (Nat.zero_le _))).cell
    refine marks_one rfl hD' (v := .bool true) ?_ ⟨by rw [HR'.out], (((Mods.ofNew hN1).trans hMM).new (by omega)).putObj (by have := hN1.size; omega) _⟩
    simp [results, Tryd.f48, go_sem, q1]
  case stop =>
    rintro c k W hk ⟨rfl, hrf, n0, hM⟩ hD
    refine wp_ret ?_
    have q1 := (Stab.boxed (B := 0) _ _ _ _ _ n0 (Quiet.putObj (.deferred none) hD rfl (Nat.zero_le _))).cell
    refine marks_one rfl hD (v := .bool false) ?_ ⟨by rw [hrf], (((Mods.ofNew hN1).trans hM).new (by omega)).putObj (by have := hN1.size; omega) _⟩
    simp [results, Tryd.f48, go_sem, q1]
end Go.Proofs.YtkjghojdfjhhkaaDoor
/- The document's answer: names, methods, values. -/
namespace Go.Proofs.YtkjghojdfjhhkaaDoor
open Go.RowKit Go.Shelf Go.Cs
attribute [local go_sem] Oper.semAt_some
/-- A text's byte. -/
def gb (s : ByteArray) (k : Nat) : UInt8 := s.data.toList.getD k 0
theorem gb_eq (s : ByteArray) (k : Nat) (h : k < s.size) : s[k]'h = gb s k := by
  have := Lib.data_getElem? s k h
  unfold gb
  rw [List.getD_eq_getElem?_getD, this]
  rfl
theorem run_idx (s : ByteArray) (k : Nat) (h : k < s.size) (w : World) : (Instr.index 9 (.string s) (.int .i64 (k : Nat))).run Tryd.prog w = .ok (.int .u8 ((gb s k).toNat : Nat)) w := by
  have e := gb_eq s k h
  rw [← e]
  simp [go_sem, h]
theorem all_gb (s : ByteArray) (p : UInt8 → Bool) : (s.data.toList.all p = true) ↔ ∀ k, k < s.size → p (gb s k) = true := by
  rw [List.all_eq_true]
  constructor
  · intro h k hk
    have := Lib.data_getElem? s k hk
    rw [gb_eq s k hk] at this
    exact h _ (List.mem_of_getElem? this)
  · intro h x hx
    obtain ⟨i, hi⟩ := List.getElem?_of_mem hx
    obtain ⟨_, h2⟩ := get_list s i x hi
    have e := Lib.data_getElem? s i h2
    rw [gb_eq s i h2, hi] at e
    rw [Option.some.inj e]
    exact h i h2
theorem any_gb (s : ByteArray) (p : UInt8 → Bool) {k : Nat} (hk : k < s.size) (hp : p (gb s k) = false) : s.data.toList.all p = false := by
  rw [Bool.eq_false_iff]
  intro h
  rw [(all_gb s p).1 h k hk] at hp
  cases hp
theorem marks_get (k : Nat) (hk : k < 15) : marks.getD k 0 ∈ marks := getD_mem hk
set_option maxHeartbeats 1000000 in
theorem small_ref (c : UInt8) (w : World) : Calls Tryd.prog 79 #[.int .u8 (c.toNat : Nat)] w fun e w' => e = .returned (.bool (smallB c)) ∧ w' = w := by
  obtain ⟨n, hn⟩ : ∃ n, c.toNat = n := ⟨_, rfl⟩
  obtain ⟨sm, hsm⟩ : ∃ b, smallB c = b := ⟨_, rfl⟩
  have Hsm := Lib.hid hsm
  have Hn := Lib.hid hn
  rw [hsm, hn]
  clear hsm hn
  have Heq : Hid (smallB c = ((decide (97 ≤ n) && decide (n ≤ 122)) || ((decide (48 ≤ n) && decide (n ≤ 57)) || marks.contains c))) := Lib.hid (by rw [← Hn.out]; rfl)
  have hall : (97 ≤ n ∧ n ≤ 122) ∨ (48 ≤ n ∧ n ≤ 57) ∨ (n < 48 ∨ (57 < n ∧ n < 97) ∨ 122 < n) := by omega
  rcases hall with ⟨h1, h2⟩ | ⟨h1, h2⟩ | h1
  · have hs : sm = true := by rw [← Hsm.out, Heq.out]; simp [h1, h2]
    subst hs
    go_enter Tryd.func79, Tryd.ntmps79
    go_wp2_with fail
    go_ret
    exact ⟨rfl, rfl⟩
  · have hs : sm = true := by rw [← Hsm.out, Heq.out]; simp [h1, h2]
    subst hs
    go_enter Tryd.func79, Tryd.ntmps79
    go_wp2_with fail
    go_ret
    exact ⟨rfl, rfl⟩
  · have hs : sm = marks.contains c := by
      rw [← Hsm.out, Heq.out]
      have e1 : (decide (97 ≤ n) && decide (n ≤ 122)) = false := by simp; omega
      have e2 : (decide (48 ≤ n) && decide (n ≤ 57)) = false := by simp; omega
      rw [e1, e2]; simp
    have Hs := Lib.hid hs
    clear hs
    have d1 : (decide ((97 : Int) ≤ (n : Int)) && decide ((n : Int) ≤ 122)) = false := by simp; omega
    rcases h1 with h1 | ⟨h1, h2⟩ | h1
    all_goals
      clear d1
      go_enter Tryd.func79, Tryd.ntmps79
      go_wp2_with fail
      go_loop [3] (fun i => ∃ k : Nat, k ≤ 15 ∧ i = .int .i64 k ∧ Hid (∀ j, j < k → marks.getD j 0 ≠ c)) (fun i => 15 - (intOf i).toNat)
      case atStart => exact ⟨0, Nat.zero_le _, rfl, Lib.hid fun j hj => by omega⟩
      case round =>
        obtain ⟨k, hk, rfl, hbef⟩ := hrel
        by_cases hlt : k < 15
        · have hix := run_idx ⟨#[33, 35, 36, 37, 38, 39, 42, 43, 45, 46, 94, 95, 96, 124, 126]⟩ k hlt
          obtain ⟨m, hm⟩ : ∃ m : UInt8, gb ⟨#[33, 35, 36, 37, 38, 39, 42, 43, 45, 46, 94, 95, 96, 124, 126]⟩ k = m := ⟨_, rfl⟩
          have Hm : Hid (marks.getD k 0 = m) := Lib.hid hm
          rw [hm] at hix
          obtain ⟨x, hx⟩ : ∃ x, m.toNat = x := ⟨_, rfl⟩
          have Hx := Lib.hid hx
          rw [hx] at hix
          clear hm hx
          by_cases hc : x = n
          · have he : sm = true := by
              rw [Hs.out]
              have : m = c := UInt8.toNat_inj.1 (by rw [Hx.out, Hn.out, hc])
              rw [← this, ← Hm.out]
              simpa using marks_get k hlt
            subst he hc
            clear hbef
            go_wp2_with fail
            go_ret
            exact ⟨rfl, rfl⟩
          · have hb : ((x : Int) == (n : Int)) = false := by rw [beq_eq_false_iff_ne]; omega
            have hnext : Hid (∀ j, j < k + 1 → marks.getD j 0 ≠ c) := Lib.hid fun j hj => by
              by_cases h : j < k
              · exact hbef.out j h
              · obtain rfl : j = k := by omega
                rw [Hm.out]
                rintro rfl
                exact hc (by rw [← Hx.out, Hn.out])
            clear hbef hc
            go_wp2_with fail
            go_round
            case rel => exact ⟨k + 1, by omega, by go_num, hnext⟩
            case measure => simp [intOf]; omega
        · obtain rfl : k = 15 := by omega
          have he : sm = false := by
            rw [Hs.out, Bool.eq_false_iff]
            intro h
            have hmem : c ∈ marks := by simpa using h
            obtain ⟨j, hj⟩ := List.getElem?_of_mem hmem
            have hl := (List.getElem?_eq_some_iff.1 hj).1
            exact hbef.out j hl (by rw [List.getD_eq_getElem?_getD, hj]; rfl)
          subst he
          clear hbef
          go_wp2_with fail
          go_ret
          exact ⟨rfl, rfl⟩
end Go.Proofs.YtkjghojdfjhhkaaDoor
/- Values: by their ends. -/
namespace Go.Proofs.YtkjghojdfjhhkaaDoor
theorem dropWhile_le {α : Type} (p : α → Bool) : ∀ l : List α, (l.dropWhile p).length ≤ l.length
  | [] => by simp
  | b :: l => by
    have ih := dropWhile_le p l
    rw [List.dropWhile_cons]
    split
    · simp; omega
    · exact Nat.le_refl _
theorem dropWhile_self {α : Type} (p : α → Bool) (l : List α) : l.dropWhile p = l ↔ ∀ b, l.head? = some b → p b = false := by
  cases l with
  | nil => simp
  | cons b l =>
    rw [List.dropWhile_cons]
    constructor
    · intro h x hx
      simp at hx
      subst hx
      cases hp : p b with
      | false => rfl
      | true =>
        rw [hp, if_pos rfl] at h
        have := dropWhile_le p l
        rw [h] at this
        simp at this
        omega
    · intro h
      rw [h b rfl]
      simp
theorem trimS_self (l cs : List UInt8) : Lib.trimS l cs = l ↔ (∀ b, l.head? = some b → cs.contains b = false) ∧ ∀ b, l.getLast? = some b → cs.contains b = false := by
  have hr : ∀ b, l.getLast? = some b ↔ l.reverse.head? = some b := fun b => by rw [List.head?_reverse]
  unfold Lib.trimS Lib.trimLeftS Lib.trimRightS
  constructor
  · intro h
    have h1 := dropWhile_le (fun x => cs.contains x) (l.reverse.dropWhile (fun x => cs.contains x)).reverse
    have h2 := dropWhile_le (fun x => cs.contains x) l.reverse
    rw [h, List.length_reverse] at h1
    rw [List.length_reverse] at h2
    have e1 : l.reverse.dropWhile (fun x => cs.contains x) = l.reverse := by
      have hsuf : (l.reverse.dropWhile (fun x => cs.contains x)) <:+ l.reverse := List.dropWhile_suffix _
      exact hsuf.eq_of_length (by rw [List.length_reverse]; omega)
    rw [e1, List.reverse_reverse] at h
    refine ⟨(dropWhile_self _ l).1 h, fun b hb => (dropWhile_self _ l.reverse).1 e1 b ((hr b).1 hb)⟩
  · rintro ⟨h1, h2⟩
    have e1 : l.reverse.dropWhile (fun x => cs.contains x) = l.reverse := (dropWhile_self _ l.reverse).2 fun b hb => h2 b ((hr b).2 hb)
    rw [e1, List.reverse_reverse]
    exact (dropWhile_self _ l).2 h1
/-- A value may be, by its bytes and its ends. -/
theorem valueB_ends (l : List UInt8) : valueB l = ((l.all fun c => !bads.contains c) && (l.isEmpty || (!blanks.contains (l.getD 0 0) && !blanks.contains (l.getD (l.length - 1) 0)))) := by
  unfold valueB
  have e1 : (!(l.any fun c => bads.contains c)) = l.all fun c => !bads.contains c := by
    rw [List.not_any_eq_all_not]
  rw [e1]
  congr 1
  rw [Bool.eq_iff_iff, decide_eq_true_iff, trimS_self]
  cases l with
  | nil => simp
  | cons b t =>
    have hl : (b :: t).getLast? = some ((b :: t).getD ((b :: t).length - 1) 0) := by
      rw [List.getLast?_eq_getElem?, List.getD_eq_getElem?_getD, List.getElem?_eq_getElem (by simp)]
      rfl
    rw [hl]
    simp only [List.head?_cons, Option.some.injEq, forall_eq', List.isEmpty_cons, Bool.false_or, Bool.and_eq_true, Bool.not_eq_true', List.getD_cons_zero]
end Go.Proofs.YtkjghojdfjhhkaaDoor
