/- Which items may be (the program). -/
import Derived.Test.YtihmnkbkigkjjaaDoorZ2
import Derived.MapKept
namespace Go.Proofs.YtihmnkbkigkjjaaDoor
open Go.RowKit Go.Shelf Go.Cs
attribute [local go_sem] Oper.semAt_some
set_option linter.unusedVariables false
set_option linter.unusedSimpArgs false
/-- An item's value. -/
def bcs (b : Bare.It) : List Value := [.int .u8 b.kind, .int .i64 b.int, .string (tx b.text), .bool b.yes]
def bv (b : Bare.It) : Value := .agg (bcs b).toArray
/-- A function of an item. -/
def PredI (g : Nat) (lb : Array Value) (ok : World → Prop) (p : Bare.It → Bool) : Prop := ∀ (b : Bare.It) (w : World), b.text.length ≤ 100000000 → ok w → Calls Tryd.prog g (#[bv b] ++ lb) w fun e w' => e = .returned (.bool (p b)) ∧ New w w'
theorem box_row (w : World) (b : Bare.It) : New w (w.alloc (.cells (bcs b).toArray 23)) ∧ (w.alloc (.cells (bcs b).toArray 23)).heap[w.heap.size]? = some (.cells (bcs b).toArray 23 (0, 0)) :=
  ⟨(Mods.refl _ _).alloc _, World.alloc_heap_new w _⟩
theorem tx_empty (l : Bare.Bs) : (tx l).toList.isEmpty = l.isEmpty := by
  rw [empty_toList, tx_size]
  cases l <;> rfl
def numI (b : Bare.It) : Bool := decide (-Bare.most ≤ b.int) && (decide (b.int ≤ Bare.most) && (b.text.isEmpty && !b.yes))
set_option maxHeartbeats 2000000 in
theorem fits1_any : PredI 32 #[] (fun _ => True) numI := by
  intro b w hl _
  obtain ⟨k, n, t, y⟩ := b
  obtain ⟨hN, hr⟩ := box_row w ⟨k, n, t, y⟩
  unfold bv numI bcs Bare.most at *
  simp only at hN hr hl ⊢
  have HX := hN
  have ht := tx_empty t
  obtain ⟨z, hz⟩ : ∃ z, t.isEmpty = z := ⟨_, rfl⟩
  rw [hz] at ht ⊢
  obtain ⟨s, hs⟩ : ∃ s, tx t = s := ⟨_, rfl⟩
  rw [hs] at hr hN HX ht ⊢
  clear hs hz
  have hc : (decide (-999999999999999 ≤ n) = false) ∨ (decide (-999999999999999 ≤ n) = true ∧ decide (n ≤ 999999999999999) = false) ∨ (decide (-999999999999999 ≤ n) = true ∧ decide (n ≤ 999999999999999) = true ∧ z = false) ∨ (decide (-999999999999999 ≤ n) = true ∧ decide (n ≤ 999999999999999) = true ∧ z = true) := by
    cases decide (-999999999999999 ≤ n) <;> cases decide (n ≤ 999999999999999) <;> cases z <;> simp
  rcases hc with d1 | ⟨d1, d2⟩ | ⟨d1, d2, rfl⟩ | ⟨d1, d2, rfl⟩
  all_goals
    (first | rw [d1, d2] | rw [d1])
    go_enter Tryd.func32, Tryd.ntmps32
    go_upto_region 1 with fail
    have k1 := cell_of_row _ _ 1 _ _ _ hr
    have k2 := cell_of_row _ _ 2 _ _ _ hr
    have k3 := cell_of_row _ _ 3 _ _ _ hr
    simp only [List.getElem?_toArray, List.getElem?_cons_succ, List.getElem?_cons_zero] at k1 k2 k3
    obtain ⟨W, hW⟩ : ∃ W, w.alloc (.cells #[.int .u8 k, .int .i64 n, .string s, .bool y] 23) = W := ⟨_, rfl⟩
    rw [hW] at k1 k2 k3 hN HX ⊢
    clear hW hr
    go_wp2_with fail
    go_ret
    exact ⟨rfl, hN⟩
def boolI (b : Bare.It) : Bool := decide (b.int = 0) && b.text.isEmpty
set_option maxHeartbeats 1000000 in
theorem fits5_any : PredI 38 #[] (fun _ => True) boolI := by
  intro b w hl _
  obtain ⟨k, n, t, y⟩ := b
  obtain ⟨hN, hr⟩ := box_row w ⟨k, n, t, y⟩
  unfold bv boolI bcs at *
  simp only at hN hr hl ⊢
  have HX := hN
  have ht := tx_empty t
  obtain ⟨z, hz⟩ : ∃ z, t.isEmpty = z := ⟨_, rfl⟩
  rw [hz] at ht ⊢
  obtain ⟨s, hs⟩ : ∃ s, tx t = s := ⟨_, rfl⟩
  rw [hs] at hr hN HX ht ⊢
  clear hs hz
  have hc : (decide (n = 0) = false) ∨ (decide (n = 0) = true ∧ z = false) ∨ (decide (n = 0) = true ∧ z = true) := by
    cases decide (n = 0) <;> cases z <;> simp
  rcases hc with d1 | ⟨d1, rfl⟩ | ⟨d1, rfl⟩
  all_goals
    have d2 : (n == 0) = decide (n = 0) := rfl
    rw [d1] at d2 ⊢
    go_enter Tryd.func38, Tryd.ntmps38
    go_upto_region 1 with fail
    have k1 := cell_of_row _ _ 1 _ _ _ hr
    have k2 := cell_of_row _ _ 2 _ _ _ hr
    simp only [List.getElem?_toArray, List.getElem?_cons_succ, List.getElem?_cons_zero] at k1 k2
    obtain ⟨W, hW⟩ : ∃ W, w.alloc (.cells #[.int .u8 k, .int .i64 n, .string s, .bool y] 23) = W := ⟨_, rfl⟩
    rw [hW] at k1 k2 hN HX ⊢
    clear hW hr
    go_wp2_with fail
    go_ret
    exact ⟨rfl, hN⟩
/-- A function of a text. -/
def PredT (g : Nat) (p : Bare.Bs → Bool) : Prop := ∀ (s : ByteArray) (w : World), s.size ≤ 100000000 → Calls Tryd.prog g #[.string s] w fun e w' => e = .returned (.bool (p (bl s))) ∧ w' = w
def fn (g : Nat) : Value := .func (.func g) #[] #[]
def clo (b : Nat) : Value := .func (.func 34) #[] #[.pointer (some ⟨b, 0, none⟩)]
def textI (p : Bare.Bs → Bool) (b : Bare.It) : Bool := decide (b.int = 0) && (!b.yes && p b.text)
set_option maxHeartbeats 1000000 in
theorem fits21_any (g : Nat) (p : Bare.Bs → Bool) (hg : PredT g p) (eg : ∀ args w, (callFunc g args).run Tryd.prog w = .ok (.enter g args) w) (B : Nat) :
    PredI 34 #[.pointer (some ⟨B, 0, none⟩)] (fun W => Boxed W B 32 (fn g)) (textI p) := by
  intro b w hl hB
  obtain ⟨k, n, t, y⟩ := b
  obtain ⟨hN, hr⟩ := box_row w ⟨k, n, t, y⟩
  unfold bv textI bcs fn at *
  simp only at hN hr hl ⊢
  have HG := Lib.hid (fun W => hg (tx t) W (by rw [tx_size]; exact hl))
  obtain ⟨r, hr'⟩ : ∃ r, p t = r := ⟨_, rfl⟩
  rw [bl_tx, hr'] at HG
  rw [hr']
  obtain ⟨s, hs⟩ : ∃ s, tx t = s := ⟨_, rfl⟩
  rw [hs] at hr hN HG ⊢
  clear hs hr' hg
  have HX := (hN.boxed hB id).cell
  clear hB
  have hc : (decide (n = 0) = false) ∨ (decide (n = 0) = true ∧ y = true) ∨ (decide (n = 0) = true ∧ y = false) := by
    cases decide (n = 0) <;> cases y <;> simp
  rcases hc with d1 | ⟨d1, rfl⟩ | ⟨d1, rfl⟩
  · have d2 : (n == 0) = decide (n = 0) := rfl
    rw [d1] at d2 ⊢
    go_enter Tryd.func34, Tryd.ntmps34
    go_upto_region 1 with fail
    have k1 := cell_of_row _ _ 1 _ _ _ hr
    have k2 := cell_of_row _ _ 2 _ _ _ hr
    have k3 := cell_of_row _ _ 3 _ _ _ hr
    simp only [List.getElem?_toArray, List.getElem?_cons_succ, List.getElem?_cons_zero] at k1 k2 k3
    obtain ⟨W, hW⟩ : ∃ W, w.alloc (.cells #[.int .u8 k, .int .i64 n, .string s, .bool y] 23) = W := ⟨_, rfl⟩
    rw [hW] at k1 k2 k3 hN HX ⊢
    clear hW hr
    go_wp2_with fail
    go_ret
    exact ⟨rfl, hN⟩
  · have d2 : (n == 0) = decide (n = 0) := rfl
    rw [d1] at d2 ⊢
    go_enter Tryd.func34, Tryd.ntmps34
    go_upto_region 1 with fail
    have k1 := cell_of_row _ _ 1 _ _ _ hr
    have k2 := cell_of_row _ _ 2 _ _ _ hr
    have k3 := cell_of_row _ _ 3 _ _ _ hr
    simp only [List.getElem?_toArray, List.getElem?_cons_succ, List.getElem?_cons_zero] at k1 k2 k3
    obtain ⟨W, hW⟩ : ∃ W, w.alloc (.cells #[.int .u8 k, .int .i64 n, .string s, .bool true] 23) = W := ⟨_, rfl⟩
    rw [hW] at k1 k2 k3 hN HX ⊢
    clear hW hr
    go_wp2_with fail
    go_ret
    exact ⟨rfl, hN⟩
  · have d2 : (n == 0) = decide (n = 0) := rfl
    rw [d1] at d2 ⊢
    go_enter Tryd.func34, Tryd.ntmps34
    go_upto_region 1 with fail
    have k1 := cell_of_row _ _ 1 _ _ _ hr
    have k2 := cell_of_row _ _ 2 _ _ _ hr
    have k3 := cell_of_row _ _ 3 _ _ _ hr
    simp only [List.getElem?_toArray, List.getElem?_cons_succ, List.getElem?_cons_zero] at k1 k2 k3
    obtain ⟨W, hW⟩ : ∃ W, w.alloc (.cells #[.int .u8 k, .int .i64 n, .string s, .bool false] 23) = W := ⟨_, rfl⟩
    rw [hW] at k1 k2 k3 hN HX ⊢
    clear hW hr
    go_wp2_with fail
    refine (HG.out _).mono ?_
    rintro e w' ⟨rfl, rfl⟩
    go_wp2_with fail
    go_ret
    exact ⟨rfl, hN⟩
theorem fits2_any (g : Nat) (w : World) : Calls Tryd.prog 33 #[fn g] w fun e w' => e = .returned (clo w.heap.size) ∧ w.alloc (.cells #[fn g] 32) = w' := by
  unfold fn clo
  go_enter Tryd.func33, Tryd.ntmps33
  go_wp2_with fail
  go_ret
  exact ⟨rfl, rfl⟩
end Go.Proofs.YtihmnkbkigkjjaaDoor
