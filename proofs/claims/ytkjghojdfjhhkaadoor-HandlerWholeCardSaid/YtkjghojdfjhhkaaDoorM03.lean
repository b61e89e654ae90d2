/- Signs beyond ASCII are not found among ASCII ones. -/
import Derived.Test.YtkjghojdfjhhkaaDoorM01
import Derived.Test.YtkjghojdfjhhkaaDoorM02
import Derived.Laws.RangeAny
import Derived.Laws.Runes
import Derived.Lib.IndexLaws
import Derived.Lib.IndexAny
import Derived.Lib.IndexBytes
import Derived.Deep.LoopGhost
import Derived.Lib.SlTrimSet
set_option linter.unusedSimpArgs false
set_option linter.unusedVariables false
namespace Go.Proofs.YtkjghojdfjhhkaaDoor
open Go.RowKit Go.Shelf Go.Cs
attribute [local go_sem] Oper.semAt_some
/-- What is read as one sign from a byte beyond ASCII on is bytes beyond ASCII. -/
theorem decode_run (s : ByteArray) (pos : Nat) (h : pos < s.size) (ha : 128 ≤ (s[pos]'h).toNat) : ∀ j, j < (Utf8.decode s pos).2 → pos + j < s.size ∧ 128 ≤ (s.get! (pos + j)).toNat := by
  have e0 := get_at s pos h
  have h0 : 128 ≤ (s.get! (pos + 0)).toNat := by rw [e0]; exact ha
  have hn : ¬ (s.get! (pos + 0)).toNat < 128 := by omega
  intro j hj
  simp only [Utf8.decode, hn, if_false, Bool.and_eq_true, decide_eq_true_eq, beq_iff_eq] at hj
  have one : j = 0 → pos + j < s.size ∧ 128 ≤ (s.get! (pos + j)).toNat := fun e => by subst e; exact ⟨h, h0⟩
  split at hj
  · next hc =>
    split at hj
    · rcases (show j = 0 ∨ j = 1 by simp at hj; omega) with rfl | rfl
      · exact one rfl
      · exact ⟨hc.2.1, by omega⟩
    · exact one (by simp at hj; omega)
  · split at hj
    · next hc =>
      split at hj
      · rcases (show j = 0 ∨ j = 1 ∨ j = 2 by simp at hj; omega) with rfl | rfl | rfl
        · exact one rfl
        · exact ⟨hc.1.2.1, by omega⟩
        · exact ⟨hc.2.1, by omega⟩
      · exact one (by simp at hj; omega)
    · split at hj
      · next hc =>
        split at hj
        · rcases (show j = 0 ∨ j = 1 ∨ j = 2 ∨ j = 3 by simp at hj; omega) with rfl | rfl | rfl | rfl
          · exact one rfl
          · exact ⟨hc.1.1.2.1, by omega⟩
          · exact ⟨hc.1.2.1, by omega⟩
          · exact ⟨hc.2.1, by omega⟩
        · exact one (by simp at hj; omega)
      · exact one (by simp at hj; omega)
theorem index_hi (l : List UInt8) (c : UInt8) (hl : ∀ b ∈ l, b.toNat < 128) (hc : 128 ≤ c.toNat) : Lib.indexByte l c = -1 := by
  induction l with
  | nil => rfl
  | cons b l ih =>
    have hb := hl b (by simp)
    have hne : (b == c) = false := by
      rw [beq_eq_false_iff_ne]; rintro rfl; omega
    rw [Lib.indexByte, hne, ih fun x hx => hl x (by simp [hx])]
    rfl
set_option maxHeartbeats 2000000 in
set_option maxRecDepth 100000 in
/-- A sign beyond ASCII among at most three ASCII ones: none. -/
theorem rune_hi (s : ByteArray) (r : Int) (w : World) (hs : ∀ b ∈ s.data.toList, b.toNat < 128) (h0 : 128 ≤ r) (h1 : r ≤ 2147483647) :
    Calls Tryd.prog 108 #[.string s, .int .i32 r] w fun e w' => e = .returned (.int .i64 (-1)) ∧ New w w' := by
  have Hs := Lib.hid hs
  by_cases hr : r = 65533
  · subst hr
    clear h0 h1 hs
    go_enter Tryd.func108, Tryd.ntmps108
    go_wp2_with fail
    go_loopg [5, 6] s.size (fun g _ _ wx => ∃ i : Nat, i + g = s.size ∧ wx = w.iter s i)
    case atStart => exact ⟨0, by omega, rfl⟩
    case round =>
      obtain ⟨i, hig, rfl⟩ := hrel
      cases gk with
      | zero =>
        obtain rfl : i = s.size := by omega
        have hnx := run_next_end (P := Tryd.prog) w s s.size
        go_wp2_with fail
        go_ret
        exact ⟨rfl, (Mods.refl _ _).alloc _⟩
      | succ g =>
        have hi : i < s.size := by omega
        have hx : (s[i]'hi).toNat < 128 := Hs.out _ (by exact Array.getElem_mem_toList (xs := s.data) hi)
        have hnx := fun ty => run_next_ascii (P := Tryd.prog) w s i ty hi hx
        obtain ⟨x, hxx⟩ : ∃ x : Nat, (s[i]'hi).toNat = x := ⟨_, rfl⟩
        rw [hxx] at hnx hx
        clear hxx
        go_wp2_with fail
        go_roundg g
        case measure => omega
        case rel => exact ⟨i + 1, by omega, rfl⟩
  · have hb : (r == 65533) = false := by simpa using hr
    have hlt : ¬ r < 128 := by omega
    clear hr hs
    cases hv : Lib.validRune r with
    | false =>
      have Hv := Lib.hid hv
      clear hv
      go_enter Tryd.func108, Tryd.ntmps108
      go_wp2_with (go_at_call 121; refine (Tryd.utf8_ValidRune _ _).mono ?_; rintro e w' ⟨rfl, rfl⟩; rw [Hv.out])
      go_ret
      exact ⟨rfl, Mods.refl _ _⟩
    | true =>
      have Hv := Lib.hid hv
      obtain ⟨h2, h4, hlast⟩ := encode_facts r (by rw [validRune_eq]; exact hv) h0
      clear hv
      obtain ⟨t, ht⟩ : ∃ t, Utf8.encode r = t := ⟨_, rfl⟩
      rw [ht] at h2 h4 hlast
      have hcv := fun w => run_convert_int_string (P := Tryd.prog) w 21 9 .i32 r (by kernel_rfl) Tryd.underlying9
      rw [ht] at hcv
      have hlast' := Lib.hid (hlast (by omega))
      clear hlast ht
      by_cases hms : t.size - 1 < s.size
      · have hx := Hs.out _ (show s[t.size - 1]'hms ∈ s.data.toList from Array.getElem_mem_toList (xs := s.data) hms)
        have hi1 : ∀ w, (Instr.index 9 (.string s) (.int .i64 ((t.size : Int) - 1))).run Tryd.prog w = .ok (.int .u8 ((s[t.size - 1]'hms).toNat : Nat)) w := fun w => by
          rw [show ((t.size : Int) - 1) = ((t.size - 1 : Nat) : Int) by omega]
          simp [go_sem, hms]
        have hi2 : ∀ w, (Instr.index 9 (.string t) (.int .i64 ((t.size : Int) - 1))).run Tryd.prog w = .ok (.int .u8 ((t[t.size - 1]'(by omega)).toNat : Nat)) w := fun w => by
          rw [show ((t.size : Int) - 1) = ((t.size - 1 : Nat) : Int) by omega]
          simp [go_sem, show t.size - 1 < t.size by omega]
        obtain ⟨x, hxx⟩ : ∃ x : Nat, (s[t.size - 1]'hms).toNat = x := ⟨_, rfl⟩
        obtain ⟨y, hyy⟩ : ∃ x : UInt8, t[t.size - 1]'(by omega) = x := ⟨_, rfl⟩
        rw [hxx] at hx hi1
        rw [hyy] at hi2 hlast'
        have hy := hlast'.out
        have hne : ((x : Int) == (y.toNat : Int)) = false := by
          rw [beq_eq_false_iff_ne]; omega
        have hib := index_hi (s.extract t.size s.size).data.toList y (fun b hb => Hs.out b (mem_extract hb)) hy
        have HC := Lib.hid (fun (W : World) => (show Calls Tryd.prog 93 #[.string (s.extract t.size s.size), .int .u8 (y.toNat : Nat)] W fun e w' => e = .returned (.int .i64 (-1)) ∧ w' = W from
          (Tryd.strings_IndexByte _ _ W).mono (by
            rintro e w' ⟨rfl, hw⟩
            refine ⟨?_, hw⟩
            rw [show ((y.toNat : Nat) : Int).toNat.toUInt8 = y by simp, hib])))
        have hsum : IntKind.i64.wrap ((t.size : Int) - 1 + 1) = (t.size : Int) := by
          rw [show (t.size : Int) - 1 + 1 = (t.size : Int) by omega]
          exact wrap_small (by omega) (by omega)
        have hts : (t.size : Int) ≤ (s.size : Int) := by omega
        have Hsum := Lib.hid hsum
        clear hib hxx hyy hlast' hsum
        go_enter Tryd.func108, Tryd.ntmps108
        go_wp2_with (go_at_call 121; refine (Tryd.utf8_ValidRune _ _).mono ?_; rintro e w' ⟨rfl, rfl⟩; rw [Hv.out])
        go_step3
        go_wp2_with fail
        refine wp_loop_rounds 1 ?_
        rw [rounds_succ]
        go_wp2_with fail
        go_step3
        go_wp2_with fail
        go_quiet (fail)
        go_wp2_with fail
        have hsum := Hsum.out
        have hN1 : New w' (w'.drewN nq) := (Mods.refl _ _).drewN nq
        obtain ⟨W1, hW1⟩ : ∃ W, w'.drewN nq = W := ⟨_, rfl⟩
        rw [hW1] at hN1 ⊢
        clear hW1
        go_quiet ((go_at_call 93; exact Calls.quiet_of_same (HC.out _)))
        clear hsum
        go_wp2_with fail
        simp only [Exit.inBlock, Exit.then, Exit.noGoto]
        go_ret
        exact ⟨rfl, hN1.drewN _⟩
      · go_enter Tryd.func108, Tryd.ntmps108
        go_wp2_with (go_at_call 121; refine (Tryd.utf8_ValidRune _ _).mono ?_; rintro e w' ⟨rfl, rfl⟩; rw [Hv.out])
        go_step3
        go_wp2_with fail
        refine wp_loop_rounds 1 ?_
        rw [rounds_succ]
        go_wp2_with fail
        simp only [Exit.inBlock, Exit.then, Exit.noGoto]
        go_ret
        exact ⟨rfl, Mods.refl _ _⟩
end Go.Proofs.YtkjghojdfjhhkaaDoor
/- Signs of a set of ASCII ones, in whatever text: strings.ContainsAny. -/
namespace Go.Proofs.YtkjghojdfjhhkaaDoor
open Go.RowKit Go.Shelf Go.Cs
attribute [local go_sem] Oper.semAt_some
theorem noAny_run {l chars : List UInt8} {i n : Nat} (h : Lib.NoAny l chars i) (hr : ∀ j b, j < n → l[i + j]? = some b → chars.contains b = false) : Lib.NoAny l chars (i + n) := by
  intro j b hj hb
  by_cases h1 : j < i
  · exact h j b h1 hb
  · exact hr (j - i) b (by omega) (by rw [show i + (j - i) = j by omega]; exact hb)
theorem ascii_no {chars : List UInt8} (hc : ∀ b ∈ chars, b.toNat < 128) {x : UInt8} (hx : 128 ≤ x.toNat) : chars.contains x = false := by
  rw [Bool.eq_false_iff]
  intro h
  have := hc x (by simpa using h)
  omega
theorem get_list (s : ByteArray) (i : Nat) (b : UInt8) (h : s.data.toList[i]? = some b) : s.get! i = b ∧ i < s.size := by
  have hl : i < s.data.toList.length := (List.getElem?_eq_some_iff.1 h).1
  have hi : i < s.size := by simpa using hl
  refine ⟨?_, hi⟩
  have e0 := get_at s i hi
  rw [Nat.add_zero] at e0
  rw [e0]
  have := Lib.data_getElem? s i hi
  rw [h] at this
  exact (Option.some.inj this).symm
theorem next_any {P : Program} {W : World} {B : Nat} {s : ByteArray} {pos : Nat} (hB : W.heap[B]? = some (.stringIter s pos)) (ty : TypeId) (h : pos < s.size) :
    (Instr.next (.pointer (some ⟨B, 0, none⟩)) true ty).run P W = .ok (.tuple #[.bool true, .int .i64 pos, .int .i32 (Utf8.decode s pos).1]) (W.putObj B (.stringIter s (pos + (Utf8.decode s pos).2))) := by
  simp [Instr.next, getObj, setObj, Sem.run, hB, Result.andThen, h, goInt, World.putObj]
theorem next_end {P : Program} {W : World} {B : Nat} {s : ByteArray} {pos : Nat} (hB : W.heap[B]? = some (.stringIter s pos)) (ty : TypeId) (h : ¬ pos < s.size) :
    (Instr.next (.pointer (some ⟨B, 0, none⟩)) true ty).run P W = .ok (.tuple #[.bool false]) W := by
  simp [Instr.next, getObj, Sem.run, hB, h]
set_option maxHeartbeats 2000000 in
set_option maxRecDepth 100000 in
theorem indexAny_short (s chars : ByteArray) (w : World) (h2 : 2 ≤ chars.size) (h8 : s.size ≤ 8) (hascii : ∀ b ∈ chars.data.toList, b.toNat < 128) :
    Calls Tryd.prog 94 #[.string s, .string chars] w fun e w' => e = .returned (.int .i64 (Lib.indexAny s.data.toList chars.data.toList)) ∧ New w w' := by
  have HA := Lib.hid hascii
  clear hascii
  have hemp : chars.toList.isEmpty = false := by
    rw [Lib.toList_data]
    cases h : chars.data.toList with
    | nil => have := Lib.size_eq chars; rw [h, List.length_nil] at this; omega
    | cons _ _ => rfl
  have hn1 : ((chars.size : Int) == 1) = false := beq_eq_false_iff_ne.2 (by omega)
  have h8z : decide ((8 : Int) < (s.size : Int)) = false := decide_eq_false (by omega)
  have HR := Lib.hid (fun (r : Int) (W : World) h0 h1 => rune_hi chars r W HA.out h0 h1)
  go_enter Tryd.func94, Tryd.ntmps94
  go_wp2_with (go_at_call 109; refine (Tryd.strings_shouldUseASCIISet _ _).mono ?_; rintro e w' ⟨rfl, hw⟩; rw [hw, h8z])
  go_loopg [9, 10] s.size (fun g _ _ wx => ∃ i : Nat, s.size - i ≤ g ∧ i ≤ s.size ∧ wx.heap[w.heap.size]? = some (.stringIter s i) ∧ New w wx ∧ Lib.NoAny s.data.toList chars.data.toList i)
  case atStart => exact ⟨0, by omega, by omega, World.iter_heap w s 0, (Mods.refl _ _).alloc _, Lib.NoAny.zero _ _⟩
  case round =>
    obtain ⟨i, hig, his, hB, hN, hno⟩ := hrel
    have HN := Lib.hid hno
    clear hno
    by_cases hi : i < s.size
    · have hnx := fun ty => next_any (P := Tryd.prog) hB ty hi
      obtain ⟨x, hx⟩ : ∃ x : UInt8, s[i]'hi = x := ⟨_, rfl⟩
      have hxl : s.data.toList[i]? = some x := by rw [← hx]; exact Lib.data_getElem? s i hi
      have hhi := decode_run s i hi
      have hhi' := decode_high s i hi
      have hle := decode_le s i
      have hasc := fun h => decode_ascii s i hi h
      rw [hx] at hhi hhi' hasc
      obtain ⟨r, hr⟩ : ∃ r, Utf8.decode s i = r := ⟨_, rfl⟩
      obtain ⟨r, n⟩ := r
      rw [hr] at hnx hhi hhi' hasc hle
      simp only at hnx hhi hhi' hle
      obtain ⟨W1, hW1⟩ : ∃ W, wr.putObj w.heap.size (.stringIter s (i + n)) = W := ⟨_, rfl⟩
      have hB1 : W1.heap[w.heap.size]? = some (.stringIter s (i + n)) := by rw [← hW1]; exact World.putObj_heap_same (Array.getElem?_eq_some_iff.1 hB).1
      have hN1 : New w W1 := by rw [← hW1]; exact hN.putObj (Nat.le_refl _) _
      rw [hW1] at hnx
      clear hB hN hr hW1
      by_cases ha : x.toNat < 128
      · have hrn := hasc ha
        simp only [Prod.mk.injEq] at hrn
        obtain ⟨rfl, rfl⟩ := hrn
        have Hx := Lib.hid hxl
        clear hxl hx hhi hhi' hasc
        have hback : ((x.toNat : Int)).toNat.toUInt8 = x := by simp
        have hcon := Lib.contains_iff_indexByte chars.data.toList x
        cases hin : chars.data.toList.contains x with
        | false =>
          rw [hin] at hcon
          have hlt : ¬ ((0 : Int) ≤ Lib.indexByte chars.data.toList x) := of_decide_eq_false hcon.symm
          clear hcon
          have hno1 := Lib.hid (HN.out.succ Hx.out hin)
          clear hin
          go_wp2_with (go_at_call 108; refine (Tryd.strings_IndexRune_ascii _ _ _ (by omega) (by omega)).mono ?_; rintro e w' ⟨rfl, hw⟩; rw [hw, hback])
          go_roundg (s.size - (i + 1))
          case measure => omega
          case rel => exact ⟨i + 1, by omega, by omega, hB1, hN1, hno1.out⟩
        | true =>
          rw [hin] at hcon
          have hge : (0 : Int) ≤ Lib.indexByte chars.data.toList x := of_decide_eq_true hcon.symm
          clear hcon
          have Hin := Lib.hid hin
          clear hin
          go_wp2_with (go_at_call 108; refine (Tryd.strings_IndexRune_ascii _ _ _ (by omega) (by omega)).mono ?_; rintro e w' ⟨rfl, hw⟩; rw [hw, hback])
          go_ret
          exact ⟨by rw [Lib.indexAny_hit HN.out Hx.out Hin.out]; rfl, hN1⟩
      · have h128 := hhi' (by omega)
        have hrun := hhi (by omega)
        have hno1 := Lib.hid (noAny_run (n := n) HN.out (fun j b hj hb => by
          obtain ⟨h1, h2⟩ := hrun j hj
          obtain ⟨h3, _⟩ := get_list s (i + j) b hb
          rw [h3] at h2
          exact ascii_no HA.out h2))
        have hin : i + n ≤ s.size := by
          have := (hrun (n - 1) (by omega)).1
          omega
        have hr1 : 128 ≤ (r : Int) := by omega
        have hr2 : (r : Int) ≤ 2147483647 := by omega
        clear hx hxl hhi hhi' hasc hrun hle ha
        go_wp2_with (go_at_call 108; refine (HR.out _ _ hr1 hr2).mono ?_; rintro e w' ⟨rfl, hN2⟩)
        go_roundg (s.size - (i + n))
        case measure => omega
        case rel => exact ⟨i + n, by omega, by omega, hN2.heap hB1 id, hN1.trans hN2, hno1.out⟩
    · obtain rfl : i = s.size := by omega
      have hnx := fun ty => next_end (P := Tryd.prog) hB ty hi
      go_wp2_with fail
      go_ret
      exact ⟨by rw [Lib.indexAny_none (by rw [← Lib.size_eq]; exact HN.out)]; rfl, hN⟩
end Go.Proofs.YtkjghojdfjhhkaaDoor
/- Names, values, methods: plain. -/
namespace Go.Proofs.YtkjghojdfjhhkaaDoor
def marks : List UInt8 := [33, 35, 36, 37, 38, 39, 42, 43, 45, 46, 94, 95, 96, 124, 126]
def smallB (c : UInt8) : Bool := (decide (97 ≤ c.toNat) && decide (c.toNat ≤ 122)) || ((decide (48 ≤ c.toNat) && decide (c.toNat ≤ 57)) || marks.contains c)
def upperB (c : UInt8) : Bool := decide (65 ≤ c.toNat) && decide (c.toNat ≤ 90)
def tokenB (p : UInt8 → Bool) (l : List UInt8) : Bool := l.all (fun c => smallB c || p c) && !l.isEmpty
def nameB (l : List UInt8) : Bool := tokenB (fun _ => false) l
def methodB (l : List UInt8) : Bool := tokenB upperB l
def bads : List UInt8 := [0, 10, 13]
def blanks : List UInt8 := [32, 9]
def valueB (l : List UInt8) : Bool := !(l.any fun c => bads.contains c) && decide (Lib.trimS l blanks = l)
end Go.Proofs.YtkjghojdfjhhkaaDoor
