/- Texts: their bytes, pieces of them; a row of bytes; closures of bytes. -/
import Derived.Test.YtihmnkbkigkjjaaDoorTool
import Derived.Test.YtihmnkbkigkjjaaDoorBare
import Derived.Laws.DeepStrings4
import Derived.Laws.Concat
import Derived.Lib.Strings
import Derived.Shelf.Strings.SlTrimAscii
import Derived.Deep.CutRange
import Derived.Deep.CutBlock
import Derived.Deep.RegionHeld3
import Derived.Deep.LoopGhost
import Derived.MapKept
import Derived.WalkSpells
namespace Go.Proofs.YtihmnkbkigkjjaaDoor
open Go.RowKit Go.Shelf Go.Cs
attribute [local go_sem] Oper.semAt_some
/-- A text's bytes. -/
abbrev bl (s : ByteArray) : Bare.Bs := s.data.toList
/-- The text of bytes. -/
abbrev tx (l : Bare.Bs) : ByteArray := ⟨l.toArray⟩
theorem bl_tx (l : Bare.Bs) : bl (tx l) = l := rfl
theorem tx_bl (s : ByteArray) : tx (bl s) = s := by
  cases s; rfl
theorem bl_len (s : ByteArray) : (bl s).length = s.size := by
  cases s; simp [ByteArray.size]
theorem tx_size (l : Bare.Bs) : (tx l).size = l.length := by
  simp [ByteArray.size]
theorem tx_inj {a b : Bare.Bs} : tx a = tx b ↔ a = b := ⟨fun h => by rw [← bl_tx a, h, bl_tx], fun h => by rw [h]⟩
/-- A text's byte. -/
def gb (s : ByteArray) (k : Nat) : UInt8 := s.data.toList.getD k 0
theorem gb_eq (s : ByteArray) (k : Nat) (h : k < s.size) : s[k]'h = gb s k := by
  have := Lib.data_getElem? s k h
  unfold gb
  rw [List.getD_eq_getElem?_getD, this]
  rfl
theorem gb_get (s : ByteArray) (k : Nat) (h : k < s.size) : (bl s)[k]? = some (gb s k) := by
  have := Lib.data_getElem? s k h
  rw [gb_eq s k h] at this
  exact this
theorem get_gb {s : ByteArray} {k : Nat} {c : UInt8} (h : (bl s)[k]? = some c) : k < s.size ∧ gb s k = c := by
  have hl := (List.getElem?_eq_some_iff.1 h).1
  rw [bl_len] at hl
  rw [gb_get s k hl] at h
  exact ⟨hl, Option.some.inj h⟩
theorem run_idx (s : ByteArray) (k : Nat) (h : k < s.size) (w : World) : (Instr.index 9 (.string s) (.int .i64 (k : Nat))).run Tryd.prog w = .ok (.int .u8 ((gb s k).toNat : Nat)) w := by
  have e := gb_eq s k h
  rw [← e]
  simp [go_sem, h]
theorem all_gb (s : ByteArray) (p : UInt8 → Bool) : ((bl s).all p = true) ↔ ∀ k, k < s.size → p (gb s k) = true := by
  rw [List.all_eq_true]
  constructor
  · intro h k hk
    exact h _ (List.mem_of_getElem? (gb_get s k hk))
  · intro h x hx
    obtain ⟨i, hi⟩ := List.getElem?_of_mem hx
    obtain ⟨h1, h2⟩ := get_gb hi
    rw [← h2]
    exact h i h1
theorem any_gb (s : ByteArray) (p : UInt8 → Bool) {k : Nat} (hk : k < s.size) (hp : p (gb s k) = false) : (bl s).all p = false := by
  rw [Bool.eq_false_iff]
  intro h
  rw [(all_gb s p).1 h k hk] at hp
  cases hp
/-- A piece of a text. -/
def piec (s : ByteArray) (i j : Nat) : ByteArray := tx (((bl s).drop i).take (j - i))
theorem extract_piec (s : ByteArray) (i j : Nat) : s.extract i j = piec s i j := by
  apply ByteArray.ext
  unfold piec tx
  rw [ByteArray.data_extract]
  apply Array.toList_inj.1
  rw [Array.toList_extract, List.extract_eq_take_drop]
theorem piec_size (s : ByteArray) (i j : Nat) (h : j ≤ s.size) : (piec s i j).size = j - i := by
  unfold piec
  rw [tx_size, List.length_take, List.length_drop, bl_len]; omega
theorem bl_piec (s : ByteArray) (i j : Nat) : bl (piec s i j) = ((bl s).drop i).take (j - i) := rfl
theorem piec_end (s : ByteArray) (i : Nat) : piec s i s.size = tx ((bl s).drop i) := by
  unfold piec
  rw [List.take_of_length_le]
  rw [List.length_drop, bl_len]; omega
theorem piec_head (s : ByteArray) (j : Nat) : piec s 0 j = tx ((bl s).take j) := by
  unfold piec
  rw [List.drop_zero, Nat.sub_zero]
theorem run_sl (s : ByteArray) (i j : Nat) (h : i ≤ j) (hj : j ≤ s.size) (w : World) : (Instr.slice 9 (.string s) (some (.int .i64 (i : Int))) (some (.int .i64 (j : Int))) none).run Tryd.prog w = .ok (.string (piec s i j)) w := by
  rw [run_slice_string_if w 9 s .i64 .i64 _ _ Tryd.underlying9, if_pos (by omega), if_pos (by omega), ← extract_piec]
  congr 1
theorem run_sl_l (s : ByteArray) (i : Nat) (h : i ≤ s.size) (w : World) : (Instr.slice 9 (.string s) (some (.int .i64 (i : Int))) none none).run Tryd.prog w = .ok (.string (tx ((bl s).drop i))) w := by
  rw [run_slice_string_l w 9 s Tryd.underlying9 .i64 _ (by omega) (by omega), ← piec_end, ← extract_piec]
  congr 1
theorem run_sl_h (s : ByteArray) (j : Nat) (h : j ≤ s.size) (w : World) : (Instr.slice 9 (.string s) none (some (.int .i64 (j : Int))) none).run Tryd.prog w = .ok (.string (tx ((bl s).take j))) w := by
  rw [run_slice_string_h w 9 s Tryd.underlying9 .i64 _ (by omega) (by omega), ← piec_head, ← extract_piec]
  congr 1
theorem run_cat (s t : ByteArray) (h : s.size + t.size ≤ 9223372036854775807) (w : World) : (binOp .add 9 (.string s) (.string t)).run Tryd.prog w = .ok (.string (tx (bl s ++ bl t))) w := by
  rw [binOp_string_add, run_string_add_sum _ s t h]
  congr 2
theorem eq_tx (a b : ByteArray) : (a.toList == b.toList) = decide (bl a = bl b) := by
  rw [Lib.toList_data, Lib.toList_data, Bool.eq_iff_iff]
  simp
theorem empty_toList (s : ByteArray) : s.toList.isEmpty = decide (s.size = 0) := by
  rw [Lib.toList_data, ← bl_len, Bool.eq_iff_iff, List.isEmpty_iff, decide_eq_true_eq, List.length_eq_zero_iff]
theorem setCell_heap {W : World} {B i : Nat} {cs : Array Value} {t : TypeId} {fr : Nat × Nat} (h : W.heap[B]? = some (.cells cs t fr)) (v : Value) : (W.setCell ⟨B, i, none⟩ v).heap[B]? = some (.cells (cs.setIfInBounds i v) t fr) := by
  simp only [World.setCell, Array.getElem?_modify, if_pos, h, Option.map_some]
  simp
theorem frozen_row {W : World} {B i : Nat} {cs : Array Value} {t : TypeId} (h : W.heap[B]? = some (.cells cs t (0, 0))) : W.frozen? ⟨B, i, none⟩ = false := by simp [World.frozen?, h]
theorem owns_other {W W' : World} {base : Nat} {e : TypeId} {sz n : Nat} {v : Value} {xs : List Value} (h : W.ownsRow base e sz v n xs) (hk : ∀ g o, base ≤ g → W.heap[g]? = some o → W'.heap[g]? = some o) : W'.ownsRow base e sz v n xs := by
  refine ⟨h.1, h.2.imp id ?_⟩
  rintro ⟨g, cap, cur, rfl, hg, hh, r⟩
  exact ⟨g, cap, cur, rfl, hg, hk _ _ hg hh, r⟩
theorem cell_other {W : World} {T i k : Nat} {v : Value} {ob : Obj} (h : W.heap[k]? = some ob) (hne : k ≠ T) : (W.setCell ⟨T, i, none⟩ v).heap[k]? = some ob :=
  ((Mods.refl (fun b => b = T) W).setCell (p := ⟨T, i, none⟩) (.inr rfl) v).heap h (fun h => hne h)
theorem pair_rows (w : World) (c1 c2 : Array Value) (t1 t2 : TypeId) : ∃ W B C, (w.alloc (.cells c1 t1)).alloc (.cells c2 t2) = W ∧ w.heap.size = B ∧ B + 1 = C ∧ W.heap[B]? = some (.cells c1 t1 (0, 0)) ∧ W.heap[C]? = some (.cells c2 t2 (0, 0)) ∧ New w W ∧ W.heap.size = C + 1 := by
  refine ⟨_, _, _, rfl, rfl, rfl, ?_, ?_, (Mods.refl _ _).alloc _ |>.alloc _, by simp⟩
  · exact ((Mods.refl (fun _ => False) (w.alloc (.cells c1 t1))).alloc (.cells c2 t2)).heap (World.alloc_heap_new w _) id
  · have := World.alloc_heap_new (w.alloc (.cells c1 t1)) (.cells c2 t2)
    simpa using this
/-- A function of a byte. -/
def PredB (g : Nat) (lb : Array Value) (p : UInt8 → Bool) : Prop := ∀ (c : UInt8) (w : World), Calls Tryd.prog g (#[.int .u8 (c.toNat : Nat)] ++ lb) w fun e w' => e = .returned (.bool (p c)) ∧ w' = w
end Go.Proofs.YtihmnkbkigkjjaaDoor
