/- Streams: plain. -/
import Derived.Test.YtkjghojdfjhhkaaDoorM09
import Derived.Test.YtkjghojdfjhhkaaDoorM20
import Derived.Test.YtkjghojdfjhhkaaDoorM17
import Derived.Test.YtkjghojdfjhhkaaDoorM00
import Derived.Test.YtkjghojdfjhhkaaDoorM05
set_option linter.unusedSimpArgs false
set_option linter.unusedVariables false
namespace Go.Proofs.YtkjghojdfjhhkaaDoor
open Go.RowKit Go.Cs
/-- A stream. -/
structure St where
  id : Int
  state : Int
  send : Int
  recv : Int
  owed : Int
  ans : Bool
  ends : Bool
  out : List Int
  urg : Int
  inc : Bool
  slot : Int
  deriving DecidableEq
def St.cs (s : St) (ov : Value) : List Value := [.int .i64 s.id, .int .u8 s.state, .int .i64 s.send, .int .i64 s.recv, .int .i64 s.owed, .bool s.ans, .bool s.ends, ov, .int .u8 s.urg, .bool s.inc, .int .i64 s.slot]
def I64 (z : Int) : Prop := -9223372036854775808 ≤ z ∧ z ≤ 9223372036854775807
def oursB (s : St) : Bool := decide (s.state = 1) || decide (s.state = 2)
def openB (s : St) : Bool := oursB s && (s.ans && !s.ends)
def answerS (s : St) (n : Int) (L : List Fd) : St × List Fd × Int :=
  if oursB s && !s.ans then (match answerL n L with | none => (s, [], 2) | some l => ({ s with ans := true }, l, 0)) else (s, [], 270)
def writeS (s : St) (b : List Int) : St × Int := if openB s then (if 65535 < s.out.length + b.length then (s, 271) else ({ s with out := s.out ++ b }, 0)) else (s, 270)
def endS (s : St) : St × Int := if openB s then ({ s with ends := true }, 0) else (s, 270)
def resetS (s : St) : St × Int := if oursB s || decide (s.state = 3) then ({ s with state := 5, out := [], ends := false }, 0) else (s, 270)
def canZ (w : Int) : Int := if 0 ≤ w ∧ w ≤ 2147483647 then w else 0
def sendB (s : St) (c : Int) : Bool := oursB s && (s.ans && (if s.out.length = 0 then s.ends else decide (0 < canZ s.send) && decide (0 < canZ c)))
def cutZ (a b c d e : Int) : Int := max (min (min (min (min (canZ a) (canZ b)) c) d) e) 0
def takeS (s : St) (c f k : Int) : St × List Int × Bool × Bool :=
  let n := (cutZ s.send c f k s.out.length).toNat
  if sendB s c && !(decide (0 < s.out.length) && decide (n = 0)) then
    (if s.ends && decide ((s.out.drop n).length = 0) then { s with out := s.out.drop n, send := s.send - n, ends := false, state := if s.state = 1 then 3 else 4 } else { s with out := s.out.drop n, send := s.send - n },
      s.out.take n, s.ends && decide ((s.out.drop n).length = 0), true)
  else (s, [], false, false)
theorem canZ_0 (w : Int) : 0 ≤ canZ w ∧ canZ w ≤ 2147483647 := by
  unfold canZ
  split <;> omega
theorem cutZ_le (a b c d e : Int) : 0 ≤ cutZ a b c d e ∧ (0 ≤ e → cutZ a b c d e ≤ e) ∧ cutZ a b c d e ≤ 2147483647 := by
  have := canZ_0 a
  have := canZ_0 b
  unfold cutZ
  omega
end Go.Proofs.YtkjghojdfjhhkaaDoor
/- Bytes of a call's own. -/
namespace Go.Proofs.YtkjghojdfjhhkaaDoor
open Go.RowKit Go.Shelf Go.Cs
attribute [local go_sem] Oper.semAt_some
def In8 (xs : List Int) : Prop := ∀ x ∈ xs, 0 ≤ x ∧ x ≤ 255
def RdB (W : World) (v : Value) (xs : List Int) : Prop := ReadsI .u8 W v xs ∧ CapOk v
def OwB (base : Nat) (W : World) (v : Value) (xs : List Int) : Prop := W.ownsRow base 5 1 v xs.length (xs.map (Value.int .u8))
theorem RdB.new {W W' : World} {v : Value} {xs : List Int} (h : RdB W v xs) (hN : New W W') : RdB W' v xs := ⟨h.1.new hN, h.2⟩
theorem OwB.new {base : Nat} {W W' : World} {v : Value} {xs : List Int} (h : OwB base W v xs) (hN : New W W') : OwB base W' v xs := Mods.ownsRow hN h (fun _ _ h => h)
theorem OwB.cap {base : Nat} {W : World} {v : Value} {xs : List Int} (h : OwB base W v xs) : CapOk v := by
  rintro ao n cap rfl
  rcases h.2 with ⟨h, h2⟩ | ⟨g, c, cur, h, _, _, hnc, _⟩
  · cases h
    exact ⟨Nat.le_refl _, fun _ => rfl⟩
  · cases h
    exact ⟨hnc, fun h => by cases h⟩
theorem OwB.reads {base : Nat} {W : World} {v : Value} {xs : List Int} (h : OwB base W v xs) : RdB W v xs := ⟨ReadsI.ofOwns h, h.cap⟩
theorem OwB.mono {base base' : Nat} {W : World} {v : Value} {xs : List Int} (h : OwB base W v xs) (hb : base' ≤ base) : OwB base' W v xs := owns_mono h hb
theorem OwB.nil (W : World) : OwB W.heap.size (W.alloc (.cells #[] 5)) (.slice (some ⟨W.heap.size, 0, none⟩) 0 0) [] :=
  ⟨rfl, .inr ⟨W.heap.size, 0, _, rfl, Nat.le_refl _, World.alloc_heap_new W _, Nat.le_refl _, by unfold maxLen; omega, rfl, rfl⟩⟩
theorem OwB.none (base : Nat) (W : World) : OwB base W (.slice none 0 0) [] := ⟨rfl, .inl ⟨rfl, rfl⟩⟩
theorem OwB.slice {base : Nat} {W : World} {v : Value} {xs : List Int} (h : OwB base W v xs) : ∃ ao cap, v = .slice ao xs.length cap := owns_slice h
theorem OwB.lt {base : Nat} {W : World} {v : Value} {xs : List Int} (h : OwB base W v xs) : ∀ g, v.ownBlock = some g → base ≤ g ∧ g < W.heap.size := fun g hg => World.ownsRow.lt h g hg
theorem RdB.slice {W : World} {v : Value} {xs : List Int} (h : RdB W v xs) : ∃ ao cap, v = .slice ao xs.length cap := by
  obtain ⟨⟨_, ao, cap, e, _⟩, _⟩ := h
  exact ⟨ao, cap, e⟩
theorem RdB.cells {W : World} {ao : Option Addr} {n cap : Nat} {xs : List Int} (h : RdB W (.slice ao n cap) xs) : xs.length = n ∧ (ao = .none → n = 0) ∧ ∀ a, ao = some a → ∀ i, i < n → W.cell? (a.add i) = some (.int .u8 (xs.getD i 0)) := by
  obtain ⟨⟨hl, ao', cap', e, hc⟩, hk⟩ := h
  cases e
  refine ⟨rfl, fun e => ?_, fun a ha i hi => ?_⟩
  · subst e
    rcases Nat.eq_zero_or_pos xs.length with h | h
    · exact h
    · obtain ⟨b, o, e, _⟩ := hc 0 h
      cases e
  · obtain ⟨b, o, e, h⟩ := hc i hi
    rw [ha] at e
    cases e
    rw [Addr.add_mid]
    exact h
theorem map_getD (xs : List Int) {j : Nat} {u : Value} (h : (xs.map (Value.int .u8))[j]? = some u) : j < xs.length ∧ u = .int .u8 (xs.getD j 0) := by
  rw [List.getElem?_map] at h
  obtain ⟨x, hx, rfl⟩ := Option.map_eq_some_iff.1 h
  refine ⟨(List.getElem?_eq_some_iff.1 hx).1, ?_⟩
  rw [List.getD_eq_getElem?_getD, hx]
  rfl
theorem info5' : (Tryd.prog.info? 5).map (fun i => (i.zero, i.size, i.bytes)) = some (some (.int .u8 0), 1, 1) := by kernel_rfl
theorem info5 : ∃ i z, Tryd.prog.info? 5 = some i ∧ i.zero = some z ∧ i.size = 1 ∧ i.bytes = 1 ∧ z.cells.size = 1 := by
  obtain ⟨i, h, e⟩ := Option.map_eq_some_iff.1 info5'
  simp only [Prod.mk.injEq] at e
  exact ⟨i, _, h, e.1, e.2.1, e.2.2, rfl⟩
/-- An append of bytes to bytes of the call's own. -/
theorem run_append_B {o : Oper} {a : Act} {w : World} {s x : Operand} {base : Nat} {v xv : Value} {A B : List Int} (hop : o.op = .call { callee := .builtin .append, args := #[s, x], argTypes := #[22, 22] })
    (hs : a.eval s = v) (hx : a.eval x = xv) (hown : OwB base w v A) (hB : RdB w xv B) (hn : A.length + B.length ≤ 100000000) (hbase : base ≤ w.heap.size) :
    ∃ v' w', (execOp a.eval o).run Tryd.prog w = .ok (.value v') w' ∧ OwB base w' v' (A ++ B) ∧ w.grownBy w' v.ownBlock := by
  obtain ⟨ao, cap, rfl⟩ := hB.slice
  obtain ⟨-, h1, h2⟩ := hB.cells
  obtain ⟨i0, z, hi, hz0, hz1, hz2, hz3⟩ := info5
  cases ao with
  | none =>
    have hl := h1 rfl
    obtain rfl : B = [] := List.length_eq_zero_iff.1 hl
    obtain ⟨-, h0⟩ := hB.2 _ _ _ rfl
    obtain rfl : cap = 0 := h0 rfl
    have hr := run_append_owned_none (P := Tryd.prog) (w := w) base 22 o.type 5 i0 1 Tryd.underlying22 hi v A.length (A.map (Value.int .u8)) hown
    refine ⟨v, w, ?_, by rw [List.append_nil]; exact hown, ⟨rfl, rfl, rfl, Nat.le_refl _, fun _ _ _ => rfl⟩⟩
    simp [execOp, hop, resolve, invoke, builtin, hs, hx, hr, Result.andThen]
  | some ad =>
    obtain ⟨v', w', hr, ho, hg, -⟩ := run_append_own (P := Tryd.prog) w base 22 o.type 5 i0 z 1 1 Tryd.underlying22 hi hz0 hz1 hz2 hz3 (by decide) v A.length (A.map (Value.int .u8)) hown ad B.length cap (B.map (Value.int .u8)) (by simp) (fun j u hj => by
        obtain ⟨hj1, rfl⟩ := map_getD B hj
        exact h2 ad rfl j hj1) (fun u hu => by
        obtain ⟨x, _, rfl⟩ := List.mem_map.1 hu
        rfl) (by unfold maxLen; omega) (by omega) hbase
    refine ⟨v', w', ?_, ?_, hg⟩
    · simp [execOp, hop, resolve, invoke, builtin, hs, hx, hr, Result.andThen]
    · unfold OwB
      rw [List.length_append, List.map_append]
      exact ho
theorem wpList_append_B {ops : Array Oper} {Q : Exit → Act → World → Prop} {rest : List Oper} {o : Oper} {a : Act} {w : World} (s x : Operand) {base : Nat} {v xv : Value} {A B : List Int} (hgd : o.guard = .none) (hop : o.op = .call { callee := .builtin .append, args := #[s, x], argTypes := #[22, 22] })
    (hs : a.eval s = v) (hx : a.eval x = xv) (hown : OwB base w v A) (hB : RdB w xv B) (hn : A.length + B.length ≤ 100000000) (hbase : base ≤ w.heap.size)
    (h : ∀ v' w', OwB base w' v' (A ++ B) → w.grownBy w' v.ownBlock → wpList Tryd.prog ops Q rest (a.put o.dst v') w') : wpList Tryd.prog ops Q (o :: rest) a w := by
  refine wpList_plain hgd fun K hK => ?_
  obtain ⟨v', w', hr, ho, hg⟩ := run_append_B hop hs hx hown hB hn hbase
  unfold Oper.wp
  rw [hr]
  exact hK _ _ (h v' w' ho hg)
theorem wpOp_append_B {ops : Array Oper} {Q : Exit → Act → World → Prop} {i : Nat} {o : Oper} (d : Option Tmp) {a : Act} {w : World} {K : Act → World → Prop} (hi : ops[i]? = some o) (hw : Region.wanted o (yielded ops a.tmps) = true) (hd : o.dst = d) (s x : Operand) {base : Nat} {v xv : Value} {A B : List Int} (hop : o.op = .call { callee := .builtin .append, args := #[s, x], argTypes := #[22, 22] })
    (hs : a.eval s = v) (hx : a.eval x = xv) (hown : OwB base w v A) (hB : RdB w xv B) (hn : A.length + B.length ≤ 100000000) (hbase : base ≤ w.heap.size)
    (h : ∀ v' w', OwB base w' v' (A ++ B) → w.grownBy w' v.ownBlock → K (a.put d v') w') : wpOp Tryd.prog ops Q i K a w := by
  obtain ⟨v', w', hr, ho, hg⟩ := run_append_B hop hs hx hown hB hn hbase
  exact opH_value d hi hw hd hr (h v' w' ho hg)
theorem elem22 : Tryd.prog.elem 22 = 5 := by kernel_rfl
theorem und22 : Tryd.prog.underlying 22 = some (.slice (Tryd.prog.elem 22)) := by kernel_rfl
theorem run_size5 (w : World) : (sizeOf (Tryd.prog.elem 22)).run Tryd.prog w = .ok 1 w := by
  rw [elem22]
  obtain ⟨i, z, h, _, hs, _, _⟩ := info5
  unfold sizeOf typeInfo
  simp [h, hs, go_sem]
theorem run_prefix_B (w : World) (lo : Option Addr) (n cap i : Nat) (hi : i ≤ cap) : (Instr.slice 22 (.slice lo n cap) .none (some (.int .i64 (i : Int))) .none).run Tryd.prog w = .ok (.slice lo i cap) w := by
  rw [run_slice_h w 22 lo n cap und22 .i64 i (by omega) (by omega), run_size5]
  simp only [Result.andThen, sliced, Int.toNat_natCast, Nat.sub_zero, Nat.zero_mul]
  congr 1
  cases lo with
  | none => simp
  | some a => obtain ⟨b, o, sp⟩ := a; simp [Addr.add]
theorem run_suffix_B (w : World) (lo : Option Addr) (n cap i : Nat) (hi : i ≤ n) : (Instr.slice 22 (.slice lo n cap) (some (.int .i64 (i : Int))) .none .none).run Tryd.prog w = .ok (.slice (if cap = i then lo else lo.map (·.add (i * 1))) (n - i) (cap - i)) w := by
  rw [run_slice_l w 22 lo n cap und22 .i64 i (by omega) (by omega), run_size5]
  simp only [Result.andThen, sliced, Int.toNat_natCast]
theorem RdB.prefx {W : World} {lo : Option Addr} {n cap : Nat} {xs : List Int} (h : RdB W (.slice lo n cap) xs) {i : Nat} (hi : i ≤ n) : RdB W (.slice lo i cap) (xs.take i) := by
  obtain ⟨⟨hl, lo', cap', e, hr⟩, hc⟩ := h
  cases e
  obtain ⟨hcap, hnil⟩ := hc _ _ _ rfl
  have hlen : (xs.take i).length = i := by rw [List.length_take]; omega
  refine ⟨⟨by omega, lo, cap, by rw [hlen], fun k hk => ?_⟩, fun ao n c e => by cases e; exact ⟨by omega, hnil⟩⟩
  rw [hlen] at hk
  obtain ⟨b, o, e1, h1⟩ := hr k (by omega)
  refine ⟨b, o, e1, ?_⟩
  have e2 : (xs.take i).getD k 0 = xs.getD k 0 := by rw [List.getD_eq_getElem?_getD, List.getD_eq_getElem?_getD, List.getElem?_take, if_pos hk]
  rw [e2]
  exact h1
theorem RdB.suffx {W : World} {lo : Option Addr} {n cap : Nat} {xs : List Int} (h : RdB W (.slice lo n cap) xs) {i : Nat} (hi : i ≤ n) : RdB W (.slice (if cap = i then lo else lo.map (·.add (i * 1))) (n - i) (cap - i)) (xs.drop i) := by
  obtain ⟨⟨hl, lo', cap', e, hr⟩, hc⟩ := h
  cases e
  obtain ⟨hcap, hnil⟩ := hc _ _ _ rfl
  have hlen : (xs.drop i).length = xs.length - i := List.length_drop
  refine ⟨⟨by omega, _, cap - i, by rw [hlen], fun k hk => ?_⟩, fun ao n c e => ?_⟩
  · rw [hlen] at hk
    obtain ⟨b, o, e1, h1⟩ := hr (i + k) (by omega)
    subst e1
    refine ⟨b, o + i, ?_, ?_⟩
    · rw [if_neg (by omega), Option.map_some, Addr.add_mid, Nat.mul_one]
    · have e2 : (xs.drop i).getD k 0 = xs.getD (i + k) 0 := by rw [List.getD_eq_getElem?_getD, List.getD_eq_getElem?_getD, List.getElem?_drop]
      rw [e2, Nat.add_assoc]
      exact h1
  · cases e
    refine ⟨by omega, fun hh => ?_⟩
    by_cases hci : cap = i
    · omega
    · rw [if_neg hci] at hh
      have : lo = .none := by cases lo <;> simp_all
      have := hnil this
      omega
theorem In8.take {xs : List Int} (h : In8 xs) (i : Nat) : In8 (xs.take i) := fun x hx => h x (List.mem_of_mem_take hx)
theorem In8.drop {xs : List Int} (h : In8 xs) (i : Nat) : In8 (xs.drop i) := fun x hx => h x (List.mem_of_mem_drop hx)
theorem In8.app {xs ys : List Int} (h : In8 xs) (h' : In8 ys) : In8 (xs ++ ys) := fun x hx => (List.mem_append.1 hx).elim (h x) (h' x)
/-- bytes.Clone. -/
theorem clone_B (v : Value) (xs : List Int) (w : World) (h : RdB w v xs) (hl : xs.length ≤ 100000000) :
    Calls Tryd.prog 65 #[v] w fun e w' => ∃ v', e = .returned v' ∧ OwB w.heap.size w' v' xs ∧ New w w' := by
  obtain ⟨ao, cap, rfl⟩ := h.slice
  obtain ⟨-, h1, h2⟩ := h.cells
  cases ao with
  | none =>
    obtain rfl : xs = [] := List.length_eq_zero_iff.1 (h1 rfl)
    refine (Tryd.bytes_Clone_nil _ cap w).mono ?_
    rintro e w' ⟨rfl, rfl⟩
    exact ⟨_, rfl, OwB.none _ _, Mods.refl _ _⟩
  | some a =>
    refine (Tryd.bytes_Clone_at a xs.length cap xs w rfl (by omega) (h2 a rfl)).mono ?_
    rintro e w' ⟨v', rfl, ho, -, hb⟩
    exact ⟨v', rfl, ho, Mods.below hb (Nat.le_refl _)⟩
end Go.Proofs.YtkjghojdfjhhkaaDoor
/- Streams: the small functions. -/
namespace Go.Proofs.YtkjghojdfjhhkaaDoor
open Go.RowKit Go.Shelf Go.Cs
attribute [local go_sem] Oper.semAt_some
theorem info24 : (Tryd.prog.info? 24).map (·.size) = some 11 := by kernel_rfl
def RdS (W : World) (v : Value) (s : St) : Prop := ∃ ov, v = .agg (s.cs ov).toArray ∧ RdB W ov s.out
def OwS (base : Nat) (W : World) (v : Value) (s : St) : Prop := ∃ ov, v = .agg (s.cs ov).toArray ∧ OwB base W ov s.out
theorem RdS.new {W W' : World} {v : Value} {s : St} (h : RdS W v s) (hN : New W W') : RdS W' v s := by
  obtain ⟨ov, e, h⟩ := h
  exact ⟨ov, e, h.new hN⟩
theorem OwS.new {b : Nat} {W W' : World} {v : Value} {s : St} (h : OwS b W v s) (hN : New W W') : OwS b W' v s := by
  obtain ⟨ov, e, h⟩ := h
  exact ⟨ov, e, h.new hN⟩
theorem OwS.reads {b : Nat} {W : World} {v : Value} {s : St} (h : OwS b W v s) : RdS W v s := by
  obtain ⟨ov, e, h⟩ := h
  exact ⟨ov, e, h.reads⟩
theorem OwS.mono {b b' : Nat} {W : World} {v : Value} {s : St} (h : OwS b W v s) (hb : b' ≤ b) : OwS b' W v s := by
  obtain ⟨ov, e, h⟩ := h
  exact ⟨ov, e, h.mono hb⟩
set_option maxHeartbeats 1000000 in
theorem ours_any (s : St) (ov : Value) (w : World) : Calls Tryd.prog 27 #[.agg (s.cs ov).toArray] w fun e w' => e = .returned (.bool (oursB s)) ∧ New w w' := by
  have HB : Hid (oursB s = (decide (s.state = 1) || decide (s.state = 2))) := Lib.hid rfl
  obtain ⟨r, hr⟩ : ∃ r, oursB s = r := ⟨_, rfl⟩
  rw [hr] at HB ⊢
  clear hr
  unfold St.cs
  obtain ⟨z, hz⟩ : ∃ z, s.state = z := ⟨_, rfl⟩
  rw [hz] at HB ⊢
  clear hz
  obtain ⟨a, ha⟩ : ∃ a, decide (z = 1) = a := ⟨_, rfl⟩
  obtain ⟨b, hb⟩ : ∃ a, decide (z = 2) = a := ⟨_, rfl⟩
  have ha' : (z == 1) = a := ha
  have hb' : (z == 2) = b := hb
  rw [ha, hb] at HB
  have hN : New w (w.alloc (.cells #[.int .i64 s.id, .int .u8 z, .int .i64 s.send, .int .i64 s.recv, .int .i64 s.owed, .bool s.ans, .bool s.ends, ov, .int .u8 s.urg, .bool s.inc, .int .i64 s.slot] 24)) := (Mods.refl _ _).alloc _
  cases a <;> cases b
  all_goals
    go_enter Tryd.func27, Tryd.ntmps27
    go_wp2_with fail
    go_ret
    exact ⟨by rw [HB.out]; rfl, hN⟩
set_option maxHeartbeats 1000000 in
theorem ours_ref (s : St) (ov : Value) (w : World) : Calls Tryd.prog 28 #[.agg (s.cs ov).toArray] w fun e w' => e = .returned (.bool (oursB s)) ∧ New w w' := by
  have HB : Hid (oursB s = (decide (s.state = 1) || decide (s.state = 2))) := Lib.hid rfl
  obtain ⟨r, hr⟩ : ∃ r, oursB s = r := ⟨_, rfl⟩
  rw [hr] at HB ⊢
  clear hr
  unfold St.cs
  obtain ⟨z, hz⟩ : ∃ z, s.state = z := ⟨_, rfl⟩
  rw [hz] at HB ⊢
  clear hz
  obtain ⟨a, ha⟩ : ∃ a, decide (z = 1) = a := ⟨_, rfl⟩
  obtain ⟨b, hb⟩ : ∃ a, decide (z = 2) = a := ⟨_, rfl⟩
  have ha' : (z == 1) = a := ha
  have hb' : (z == 2) = b := hb
  rw [ha, hb] at HB
  have hN : New w (w.alloc (.cells #[.int .i64 s.id, .int .u8 z, .int .i64 s.send, .int .i64 s.recv, .int .i64 s.owed, .bool s.ans, .bool s.ends, ov, .int .u8 s.urg, .bool s.inc, .int .i64 s.slot] 24)) := (Mods.refl _ _).alloc _
  cases a <;> cases b
  all_goals
    go_enter Tryd.func28, Tryd.ntmps28
    go_wp2_with fail
    go_ret
    exact ⟨by rw [HB.out]; rfl, hN⟩
set_option maxHeartbeats 1000000 in
theorem open_ref (s : St) (ov : Value) (w : World) : Calls Tryd.prog 57 #[.agg (s.cs ov).toArray] w fun e w' => e = .returned (.bool (openB s)) ∧ New w w' := by
  have HO := Lib.hid (fun W => ours_ref s ov W)
  have HB : Hid (openB s = (oursB s && (s.ans && !s.ends))) := Lib.hid rfl
  obtain ⟨o, ho⟩ : ∃ r, oursB s = r := ⟨_, rfl⟩
  rw [ho] at HB HO
  clear ho
  unfold St.cs at HO ⊢
  have hN := (Mods.refl (fun _ => False) w).alloc (.cells #[.int .i64 s.id, .int .u8 s.state, .int .i64 s.send, .int .i64 s.recv, .int .i64 s.owed, .bool s.ans, .bool s.ends, ov, .int .u8 s.urg, .bool s.inc, .int .i64 s.slot] 24)
  obtain ⟨an, ha⟩ : ∃ a, s.ans = a := ⟨_, rfl⟩
  obtain ⟨en, hb⟩ : ∃ a, s.ends = a := ⟨_, rfl⟩
  rw [ha, hb] at HB HO hN ⊢
  clear ha hb
  have hz := World.alloc_heap_new w (.cells #[.int .i64 s.id, .int .u8 s.state, .int .i64 s.send, .int .i64 s.recv, .int .i64 s.owed, .bool an, .bool en, ov, .int .u8 s.urg, .bool s.inc, .int .i64 s.slot] 24)
  cases o <;> cases an <;> cases en
  all_goals
    go_enter Tryd.func57, Tryd.ntmps57
    go_wp2_with fail
    refine (HO.out _).mono ?_
    rintro e w1 ⟨rfl, hN1⟩
    have hz1 := hN1.heap hz id
    have k5 := cell_of_row _ _ 5 _ _ _ hz1
    have k6 := cell_of_row _ _ 6 _ _ _ hz1
    have hN2 := hN.trans hN1
    go_wp2_with fail
    go_ret
    exact ⟨by rw [HB.out]; rfl, hN2⟩
set_option maxHeartbeats 1000000 in
theorem great_S (s : St) (ov : Value) (w : World) (n : Nat) (ao : Option Addr) (cap : Nat) (h : ov = .slice ao n cap) : Calls Tryd.prog 12 #[.agg (s.cs ov).toArray] w fun e w' => e = .returned (.bool (decide (3000 < n))) ∧ New w w' := by
  subst h
  have hd : decide ((3000 : Int) < (n : Int)) = decide (3000 < n) := decide_eq_decide.2 (by omega)
  obtain ⟨r, hr⟩ : ∃ r, decide (3000 < n) = r := ⟨_, rfl⟩
  rw [hr] at hd ⊢
  unfold St.cs
  have hN := (Mods.refl (fun _ => False) w).alloc (.cells #[.int .i64 s.id, .int .u8 s.state, .int .i64 s.send, .int .i64 s.recv, .int .i64 s.owed, .bool s.ans, .bool s.ends, .slice ao n cap, .int .u8 s.urg, .bool s.inc, .int .i64 s.slot] 24)
  clear hr
  cases r
  all_goals
    go_enter Tryd.func12, Tryd.ntmps12
    go_wp2_with fail
    go_ret
    exact ⟨rfl, hN⟩
theorem shr_31 (z : Int) (h : I64 z) : (decide (z / 2147483648 = 0)) = decide (0 ≤ z ∧ z ≤ 2147483647) := decide_eq_decide.2 (by omega)
set_option maxHeartbeats 1000000 in
theorem can_any (z : Int) (w : World) (h : I64 z) : Calls Tryd.prog 63 #[.int .i64 z] w fun e w' => e = .returned (.int .i64 (canZ z)) ∧ w' = w := by
  obtain ⟨h0, h1⟩ := h
  by_cases hc : 0 ≤ z ∧ z ≤ 2147483647
  · have hz : canZ z = z := by unfold canZ; rw [if_pos hc]
    rw [hz]
    have hq : z / 2147483648 = 0 := by omega
    go_enter Tryd.func63, Tryd.ntmps63
    go_wp2_with fail
    go_ret
    exact ⟨rfl, rfl⟩
  · have hz : canZ z = 0 := by unfold canZ; rw [if_neg hc]
    rw [hz]
    have hq : ¬ z / 2147483648 = 0 := by omega
    go_enter Tryd.func63, Tryd.ntmps63
    go_wp2_with fail
    go_ret
    exact ⟨rfl, rfl⟩
set_option maxHeartbeats 1000000 in
theorem right_20 (z : Int) (w : World) : Calls Tryd.prog 66 #[.int .i64 z] w fun e w' => e = .returned (.bool (decide (-2147483647 ≤ z) && decide (z ≤ 2147483647))) ∧ w' = w := by
  obtain ⟨a, ha⟩ : ∃ a, decide (-2147483647 ≤ z) = a := ⟨_, rfl⟩
  obtain ⟨b, hb⟩ : ∃ a, decide (z ≤ 2147483647) = a := ⟨_, rfl⟩
  rw [ha, hb]
  cases a <;> cases b
  all_goals
    go_enter Tryd.func66, Tryd.ntmps66
    go_wp2_with fail
    go_ret
    exact ⟨rfl, rfl⟩
set_option maxHeartbeats 1000000 in
theorem can_ref (z : Int) (w : World) (h : I64 z) : Calls Tryd.prog 33 #[.int .i64 z] w fun e w' => e = .returned (.int .i64 (canZ z)) ∧ w' = w := by
  have HR := Lib.hid (fun W => right_20 z W)
  obtain ⟨a, ha⟩ : ∃ a, decide (-2147483647 ≤ z) = a := ⟨_, rfl⟩
  obtain ⟨b, hb⟩ : ∃ a, decide (z ≤ 2147483647) = a := ⟨_, rfl⟩
  obtain ⟨c, hc⟩ : ∃ a, decide (z < 0) = a := ⟨_, rfl⟩
  have hz : canZ z = if (a && (b && !c)) then z else 0 := by
    rw [← ha, ← hb, ← hc]
    unfold canZ
    by_cases h : 0 ≤ z ∧ z ≤ 2147483647
    · rw [if_pos h, if_pos (by simp; omega)]
    · rw [if_neg h, if_neg (by simp; omega)]
  rw [ha, hb] at HR
  rw [hz]
  clear hz ha hb
  cases a <;> cases b <;> cases c
  all_goals
    go_enter Tryd.func33, Tryd.ntmps33
    go_wp2_with fail
    refine (HR.out _).mono ?_
    rintro e w1 ⟨rfl, rfl⟩
    go_wp2_with fail
    go_ret
    exact ⟨rfl, rfl⟩
end Go.Proofs.YtkjghojdfjhhkaaDoor
/- Bytes and streams that came in. -/
namespace Go.Proofs.YtkjghojdfjhhkaaDoor
open Go.RowKit Go.Shelf Go.Cs Go.ChangeShapes Go.WideShapes Go.ChangeAt
section
variable {H : Type} {enc : TypeId × Value → H} {w : World} {base : Nat} {spare : Nat → Bool} {held : Bool} {fuel : Nat}
theorem cells5 : Tryd.prog.cellsOf 5 = 1 := by kernel_rfl
theorem byte_of_wf {n : Int} (h : (Lit.int .u8 n).wf = true) : 0 ≤ n ∧ n ≤ 255 := by
  simp [Lit.wf] at h
  exact ⟨Int.le_trans (by decide) h.1, Int.le_trans h.2 (by decide)⟩
theorem open_bytes' {v : Value} {x : DataW H × List MemPlace} (h : DataW.trod enc Tryd.prog w base spare held fuel 22 [v] = some x) :
    ∃ xs : List Int, RdB w v xs ∧ In8 xs := by
  rcases open_ints Tryd.underlying22 Tryd.underlying5 cells5 h with ⟨hcs, -⟩ | ⟨a, len, cap, zs, hcs, -, hl, hm, hz, -, hcell, hwz⟩
  · obtain rfl : v = .slice none 0 0 := by simpa using hcs
    exact ⟨[], ⟨⟨by simp, none, 0, rfl, fun i hi => by cases hi⟩, fun ao n cap e => by cases e; exact ⟨Nat.le_refl _, fun _ => rfl⟩⟩, fun _ h => by cases h⟩
  · obtain rfl : v = .slice (some a) len cap := by simpa using hcs
    unfold maxLen at hm
    have hlz : len ≤ zs.length := by rw [hz]; split <;> omega
    have hlen : (zs.take len).length = len := by simp; omega
    refine ⟨zs.take len, ⟨⟨by omega, some a, cap, by rw [hlen], fun i hi => ?_⟩, fun ao n cap e => by cases e; exact ⟨hl, fun h => by cases h⟩⟩, fun z hz' => ?_⟩
    · rw [hlen] at hi
      have hci := hcell i (by omega)
      have hc0 := hcell 0 (by omega)
      obtain ⟨b, o, sp⟩ := a
      obtain rfl : sp = none := by
        have hsp := spot_none hc0
        simpa [Addr.add] using hsp
      rw [Addr.add_mid] at hci
      refine ⟨b, o, rfl, ?_⟩
      rw [hci]
      simp [List.getD, hi]
    · have := hwz z (List.mem_of_mem_take hz')
      exact byte_of_wf this
theorem len_eleven {α : Type} : ∀ {l : List α}, l.length = 11 → ∃ a b c d e f g h i j k, l = [a, b, c, d, e, f, g, h, i, j, k]
  | [a, b, c, d, e, f, g, h, i, j, k], _ => ⟨a, b, c, d, e, f, g, h, i, j, k, rfl⟩
def St.Ok (s : St) : Prop := In8 s.out ∧ I64 s.send ∧ I64 s.recv ∧ I64 s.owed ∧ 0 ≤ s.state ∧ s.state ≤ 255
theorem i64_of_wf {n : Int} (h : (Lit.int .i64 n).wf = true) : I64 n := by
  simp [Lit.wf] at h
  exact ⟨Int.le_trans (by decide) h.1, h.2⟩
set_option maxRecDepth 100000 in
theorem open_st {cs : List Value} {x : DataW H × List MemPlace} (h : DataW.trod enc Tryd.prog w base spare held fuel 24 cs = some x) :
    ∃ s : St, RdS w (.agg cs.toArray) s ∧ s.Ok := by
  obtain ⟨xs, n, rfl, rfl, hl, hn, hf⟩ := DataW.trod_struct Tryd.underlying24 h
  have c24 : Tryd.prog.cellsOf 24 = 11 := by kernel_rfl
  have c3 : Tryd.prog.cellsOf 3 = 1 := by kernel_rfl
  have c4 : Tryd.prog.cellsOf 4 = 1 := by kernel_rfl
  have c5 : Tryd.prog.cellsOf 5 = 1 := cells5
  have c22 : Tryd.prog.cellsOf 22 = 1 := by kernel_rfl
  rw [c24] at hl
  have hn : xs.length = 11 := hn
  obtain ⟨a0, a1, a2, a3, a4, a5, a6, a7, a8, a9, a10, rfl⟩ := len_eleven hl
  obtain ⟨x0, x1, x2, x3, x4, x5, x6, x7, x8, x9, x10, rfl⟩ := len_eleven hn
  have L : ([a0, a1, a2, a3, a4, a5, a6, a7, a8, a9, a10] : List Value) = [a0, a1, a2, a3, a4, a5, a6, a7, a8, a9, a10] := rfl
  have g0 : DataW.trod enc Tryd.prog w base spare held n 3 [a0] = some x0 := by
    have : (([a0, a1, a2, a3, a4, a5, a6, a7, a8, a9, a10] : List Value).drop 0).take (Tryd.prog.cellsOf 3) = [a0] := by rw [c3]; rfl
    rw [← this]; exact hf 0 _ rfl
  have g1 : DataW.trod enc Tryd.prog w base spare held n 5 [a1] = some x1 := by
    have : (([a0, a1, a2, a3, a4, a5, a6, a7, a8, a9, a10] : List Value).drop 1).take (Tryd.prog.cellsOf 5) = [a1] := by rw [c5]; rfl
    rw [← this]; exact hf 1 _ rfl
  have g2 : DataW.trod enc Tryd.prog w base spare held n 3 [a2] = some x2 := by
    have : (([a0, a1, a2, a3, a4, a5, a6, a7, a8, a9, a10] : List Value).drop 2).take (Tryd.prog.cellsOf 3) = [a2] := by rw [c3]; rfl
    rw [← this]; exact hf 2 _ rfl
  have g3 : DataW.trod enc Tryd.prog w base spare held n 3 [a3] = some x3 := by
    have : (([a0, a1, a2, a3, a4, a5, a6, a7, a8, a9, a10] : List Value).drop 3).take (Tryd.prog.cellsOf 3) = [a3] := by rw [c3]; rfl
    rw [← this]; exact hf 3 _ rfl
  have g4 : DataW.trod enc Tryd.prog w base spare held n 3 [a4] = some x4 := by
    have : (([a0, a1, a2, a3, a4, a5, a6, a7, a8, a9, a10] : List Value).drop 4).take (Tryd.prog.cellsOf 3) = [a4] := by rw [c3]; rfl
    rw [← this]; exact hf 4 _ rfl
  have g5 : DataW.trod enc Tryd.prog w base spare held n 4 [a5] = some x5 := by
    have : (([a0, a1, a2, a3, a4, a5, a6, a7, a8, a9, a10] : List Value).drop 5).take (Tryd.prog.cellsOf 4) = [a5] := by rw [c4]; rfl
    rw [← this]; exact hf 5 _ rfl
  have g6 : DataW.trod enc Tryd.prog w base spare held n 4 [a6] = some x6 := by
    have : (([a0, a1, a2, a3, a4, a5, a6, a7, a8, a9, a10] : List Value).drop 6).take (Tryd.prog.cellsOf 4) = [a6] := by rw [c4]; rfl
    rw [← this]; exact hf 6 _ rfl
  have g7 : DataW.trod enc Tryd.prog w base spare held n 22 [a7] = some x7 := by
    have : (([a0, a1, a2, a3, a4, a5, a6, a7, a8, a9, a10] : List Value).drop 7).take (Tryd.prog.cellsOf 22) = [a7] := by rw [c22]; rfl
    rw [← this]; exact hf 7 _ rfl
  have g8 : DataW.trod enc Tryd.prog w base spare held n 5 [a8] = some x8 := by
    have : (([a0, a1, a2, a3, a4, a5, a6, a7, a8, a9, a10] : List Value).drop 8).take (Tryd.prog.cellsOf 5) = [a8] := by rw [c5]; rfl
    rw [← this]; exact hf 8 _ rfl
  have g9 : DataW.trod enc Tryd.prog w base spare held n 4 [a9] = some x9 := by
    have : (([a0, a1, a2, a3, a4, a5, a6, a7, a8, a9, a10] : List Value).drop 9).take (Tryd.prog.cellsOf 4) = [a9] := by rw [c4]; rfl
    rw [← this]; exact hf 9 _ rfl
  have g10 : DataW.trod enc Tryd.prog w base spare held n 3 [a10] = some x10 := by
    have : (([a0, a1, a2, a3, a4, a5, a6, a7, a8, a9, a10] : List Value).drop 10).take (Tryd.prog.cellsOf 3) = [a10] := by rw [c3]; rfl
    rw [← this]; exact hf 10 _ rfl
  obtain ⟨n0, e0, -, -⟩ := DataW.trod_int Tryd.underlying3 g0
  obtain ⟨n1, e1, -, w1⟩ := DataW.trod_int Tryd.underlying5 g1
  obtain ⟨n2, e2, -, w2⟩ := DataW.trod_int Tryd.underlying3 g2
  obtain ⟨n3, e3, -, w3⟩ := DataW.trod_int Tryd.underlying3 g3
  obtain ⟨n4, e4, -, w4⟩ := DataW.trod_int Tryd.underlying3 g4
  obtain ⟨n5, e5, -⟩ := DataW.trod_bool Tryd.underlying4 g5
  obtain ⟨n6, e6, -⟩ := DataW.trod_bool Tryd.underlying4 g6
  obtain ⟨xs, hR, hI⟩ := open_bytes' g7
  obtain ⟨n8, e8, -, -⟩ := DataW.trod_int Tryd.underlying5 g8
  obtain ⟨n9, e9, -⟩ := DataW.trod_bool Tryd.underlying4 g9
  obtain ⟨n10, e10, -, -⟩ := DataW.trod_int Tryd.underlying3 g10
  cases e0
  cases e1
  cases e2
  cases e3
  cases e4
  cases e5
  cases e6
  cases e8
  cases e9
  cases e10
  have hb := byte_of_wf w1
  exact ⟨⟨n0, n1, n2, n3, n4, n5, n6, xs, n8, n9, n10⟩, ⟨a7, rfl, hR⟩, hI, i64_of_wf w2, i64_of_wf w3, i64_of_wf w4, hb.1, hb.2⟩
end
end Go.Proofs.YtkjghojdfjhhkaaDoor
/- Deeds of HandlerWhole that came in. -/
namespace Go.Proofs.YtkjghojdfjhhkaaDoor
open Go.RowKit Go.Shelf Go.Cs Go.ChangeShapes Go.WideShapes Go.ChangeAt
/-- A deed: what is done, with what bytes, by what numbers. -/
structure Dd where
  act : Int
  bytes : List Int
  send : Int
  conn : Int
  cut : Int
def Dd.cs (d : Dd) (bv : Value) : List Value := [.int .i64 d.act, bv, .int .i64 d.send, .int .i64 d.conn, .int .i64 d.cut]
def Dd.Ok (d : Dd) : Prop := In8 d.bytes ∧ I64 d.act ∧ I64 d.send ∧ I64 d.conn ∧ I64 d.cut
def Dd.no : Dd := ⟨0, [], 0, 0, 0⟩
def ReadsD (W : World) (v : Value) (L : List Dd) : Prop :=
  ∃ (ao : Option Addr) (cap : Nat), v = .slice ao L.length cap ∧ L.length ≤ cap ∧ cap ≤ 9223372036854775807 ∧
    ∀ i, i < L.length → ∃ b o bv, ao = some ⟨b, o, none⟩ ∧ W.rangeAt b (o + i * 5) ((L.getD i .no).cs bv) ∧ RdB W bv (L.getD i .no).bytes ∧ (L.getD i .no).Ok
section
variable {H : Type} {enc : TypeId × Value → H} {w : World} {base : Nat} {spare : Nat → Bool} {held : Bool} {fuel : Nat}
set_option maxRecDepth 100000 in
theorem open_dd {cs : List Value} {x : DataW H × List MemPlace} (h : DataW.trod enc Tryd.prog w base spare held fuel 44 cs = some x) :
    ∃ (d : Dd) (bv : Value), cs = d.cs bv ∧ RdB w bv d.bytes ∧ d.Ok := by
  obtain ⟨xs, n, rfl, rfl, hl, hn, hf⟩ := DataW.trod_struct Tryd.underlying44 h
  have c44 : Tryd.prog.cellsOf 44 = 5 := by kernel_rfl
  have c3 : Tryd.prog.cellsOf 3 = 1 := by kernel_rfl
  have c22 : Tryd.prog.cellsOf 22 = 1 := by kernel_rfl
  rw [c44] at hl
  have hn : xs.length = 5 := hn
  obtain ⟨a0, a1, a2, a3, a4, rfl⟩ := len_five hl
  obtain ⟨x0, x1, x2, x3, x4, rfl⟩ := len_five hn
  have g0 : DataW.trod enc Tryd.prog w base spare held n 3 [a0] = some x0 := by
    have : (([a0, a1, a2, a3, a4] : List Value).drop 0).take (Tryd.prog.cellsOf 3) = [a0] := by rw [c3]; rfl
    rw [← this]; exact hf 0 _ rfl
  have g1 : DataW.trod enc Tryd.prog w base spare held n 22 [a1] = some x1 := by
    have : (([a0, a1, a2, a3, a4] : List Value).drop 1).take (Tryd.prog.cellsOf 22) = [a1] := by rw [c22]; rfl
    rw [← this]; exact hf 1 _ rfl
  have g2 : DataW.trod enc Tryd.prog w base spare held n 3 [a2] = some x2 := by
    have : (([a0, a1, a2, a3, a4] : List Value).drop 2).take (Tryd.prog.cellsOf 3) = [a2] := by rw [c3]; rfl
    rw [← this]; exact hf 2 _ rfl
  have g3 : DataW.trod enc Tryd.prog w base spare held n 3 [a3] = some x3 := by
    have : (([a0, a1, a2, a3, a4] : List Value).drop 3).take (Tryd.prog.cellsOf 3) = [a3] := by rw [c3]; rfl
    rw [← this]; exact hf 3 _ rfl
  have g4 : DataW.trod enc Tryd.prog w base spare held n 3 [a4] = some x4 := by
    have : (([a0, a1, a2, a3, a4] : List Value).drop 4).take (Tryd.prog.cellsOf 3) = [a4] := by rw [c3]; rfl
    rw [← this]; exact hf 4 _ rfl
  obtain ⟨n0, e0, -, w0⟩ := DataW.trod_int Tryd.underlying3 g0
  obtain ⟨ys, hR, hI⟩ := open_bytes' g1
  obtain ⟨n2, e2, -, w2⟩ := DataW.trod_int Tryd.underlying3 g2
  obtain ⟨n3, e3, -, w3⟩ := DataW.trod_int Tryd.underlying3 g3
  obtain ⟨n4, e4, -, w4⟩ := DataW.trod_int Tryd.underlying3 g4
  cases e0
  cases e2
  cases e3
  cases e4
  exact ⟨⟨n0, ys, n2, n3, n4⟩, a1, rfl, hR, hI, i64_of_wf w0, i64_of_wf w2, i64_of_wf w3, i64_of_wf w4⟩
theorem open_deeds {v : Value} {x : DataW H × List MemPlace} (h : DataW.trod enc Tryd.prog w base spare held fuel 42 [v] = some x) : ∃ L : List Dd, ReadsD w v L := by
  obtain ⟨ao, len, cap, rfl, hlc, hcm, hel⟩ := open_elems Tryd.underlying42 (show Tryd.prog.cellsOf 44 = 5 by kernel_rfl) (by omega) h
  have hone : ∀ i, i < len → ∃ d : Dd, ∃ b o bv, ao = some ⟨b, o, none⟩ ∧ w.rangeAt b (o + i * 5) (d.cs bv) ∧ RdB w bv d.bytes ∧ d.Ok := by
    intro i hi
    obtain ⟨b, o, rfl, cs, y, n, -, hr, ht⟩ := hel i hi
    obtain ⟨d, bv, rfl, hR, hOk⟩ := open_dd ht
    exact ⟨d, b, o, bv, rfl, hr, hR, hOk⟩
  obtain ⟨L, hL, hR⟩ := choose_list len _ Dd.no hone
  subst hL
  exact ⟨L, ao, cap, rfl, hlc, hcm, hR⟩
end
end Go.Proofs.YtkjghojdfjhhkaaDoor
/- Ranges over a function whose values are told when they come. -/
namespace Go.Cs
open Go.RowKit
/-- An iterator: n rounds; what comes in round k meets El k in the world it comes in. -/
def IterE (P : Program) (g : Nat) (lb : Array Value) (n : Nat) (El : Nat → Array Value → World → Prop) (S : Nat → Prop) (W : World) : Prop :=
  ∀ (l : Nat) (J Jx : Nat → World → Prop), (∀ k, ∀ A A', J k A → New A A' → J k A') → (∀ k, ∀ A A', Jx k A → New A A' → Jx k A') →
    (∀ k x W1, k < n → El k x W1 → J k W1 → Mods S W W1 → YieldAt Fence.wide 0 P l x W1 fun e W' =>
      (e = .returned (.bool true) ∧ J (k + 1) W' ∧ Mods S W1 W') ∨ (e = .returned (.bool false) ∧ Jx (k + 1) W')) →
    J 0 W →
    Calls P g (#[.func (.yield l) #[] #[]] ++ lb) W fun e W' => (∃ v, e = .returned v) ∧ (J n W' ∨ ∃ k, k ≤ n ∧ Jx k W')
variable {P : Program}
theorem rangeE_core (r : Option Nat)
    {g : Operand} {ps : Array Tmp} {assign body : Code} {Q : Exit → Act → World → Prop} {a : Act} {w : World}
    {gf : Nat} {lb : Array Value} (hg : a.eval g = .func (.func gf) #[] lb) (eg : ∀ args w, (callFunc gf args).run P w = .ok (.enter gf args) w)
    (n : Nat) (El : Nat → Array Value → World → Prop) (S : Nat → Prop) (hit : ∀ W, New w W → IterE P gf lb n El S W) (hps : ∀ k x W, El k x W → x.size = ps.size)
    (W0 : World) (hW0 : New w W0) (mark : List Deferred) (d : Nat)
    (henter : ∀ fn, (Instr.enterLoop fn a.tmps ps assign body r).run P w = .ok (W0.heap.size, mark) (W0.alloc (.loop { state := .ready, pending := none, fn, tmps := a.tmps, params := ps, assign, body, defers := d })))
    (I : Nat → World → Prop) (Ix : Code → Nat → World → Prop) (hI : ∀ k, Stab w.heap.size (I k)) (hIx : ∀ c k, Stab w.heap.size (Ix c k)) (h0 : I 0 w)
    (hround : ∀ (l k : Nat) (x : Array Value) (W : World), k < n → El k x W → w.heap.size ≤ l → (∃ r, W.heap[l]? = some (.loop r)) → I k W →
      assign.wpIn (Fr (some l)) 0 P (Exit.then (fun a1 W1 => Mods S W W1 ∧ ∀ W2, Quiet w.heap.size W1 W2 → (∃ r, W2.heap[l]? = some (.loop r)) → body.wpIn (Fr (some l)) 0 P (roundQ S I Ix (k + 1) W2) a1 W2) (fun _ _ _ => False))
        { tmps := (ps.zip x).foldl (fun t (p, v) => t.setIfInBounds p v) a.tmps, defers := [] } W)
    (hdone : ∀ W, I n W → Others W0 W → Q .normal { a with defers := mark ++ a.defers } W)
    (hstop : ∀ c k W, k ≤ n → Ix c k W → Others W0 W → c.wpIn (Fr r) 0 P Q { a with defers := mark ++ a.defers } W) :
    (Code.rangeFunc g ps assign body).wpIn (Fr r) 0 P Q a w := by
  refine wpIn_rangeFunc ?_
  intro fn _
  obtain ⟨rec, hrec⟩ : ∃ rec : LoopState → Option Code → Loop, rec = fun st pe => { state := st, pending := pe, fn, tmps := a.tmps, params := ps, assign, body, defers := d } := ⟨_, rfl⟩
  obtain ⟨W1, hW1⟩ : ∃ W1, W0.alloc (.loop (rec .ready none)) = W1 := ⟨_, rfl⟩
  obtain ⟨l, hl0⟩ : ∃ l, W0.heap.size = l := ⟨_, rfl⟩
  have hL1 : W1.heap[l]? = some (.loop (rec .ready none)) := by rw [← hW1, ← hl0]; exact World.alloc_heap_new W0 _
  have hN1 : New w W1 := by rw [← hW1]; exact hW0.alloc _
  have hwl : w.heap.size ≤ l := by rw [← hl0]; exact hW0.size
  have hC1 : Others W0 W1 := fun k o hk _ => by
    rw [← hW1]; exact (Below.heap_alloc W0 _ k (Array.getElem?_eq_some_iff.1 hk).1).trans hk
  refine ⟨l, mark, W1, { target := .fn (.func gf) lb, args := #[.func (.yield l) #[] #[]] }, W1, gf,
    #[.func (.yield l) #[] #[]] ++ lb, W1, ?_, ?_, fun _ _ => trivial, ?_, fun h => by simp [Fence.wide] at h, ?_⟩
  · rw [← hW1, hrec, ← hl0]; exact henter fn
  · simp only [resolve, hg]
    simp [go_sem]
  · simp [invoke, go_sem, eg]
  · have hlW0 : ∀ {k : Nat} {o : Obj}, W0.heap[k]? = some o → k ≠ l := fun hk => by have := (Array.getElem?_eq_some_iff.1 hk).1; omega
    have hput : ∀ (W : World) (o : Obj), Others W0 W → Others W0 (W.putObj l o) := fun W o h k o' hk ho =>
      (World.putObj_heap_other (hlW0 hk)).trans (h k o' hk ho)
    refine Calls.mono (R := fun e W' => (∃ v, e = .returned v) ∧
        ((I n W' ∧ W'.heap[l]? = some (.loop (rec .ready none)) ∧ Others W0 W') ∨
          ∃ k, k ≤ n ∧ ∃ c, Ix c k W' ∧ W'.heap[l]? = some (.loop (rec .done (some c))) ∧ Others W0 W')) ?_ ?_ |> callsIn_wide.2
    · refine hit W1 hN1 l
        (fun k W => I k W ∧ W.heap[l]? = some (.loop (rec .ready none)) ∧ Others W0 W)
        (fun k W => ∃ c, Ix c k W ∧ W.heap[l]? = some (.loop (rec .done (some c))) ∧ Others W0 W)
        (fun k A A' h hn => ⟨hI k A A' h.1 (hn.quiet _), hn.heap h.2.1 id, fun j o hj ho => hn.heap (h.2.2 j o hj ho) id⟩)
        (fun k A A' h hn => by
          obtain ⟨c, h1, h2, h3⟩ := h
          exact ⟨c, hIx c k A A' h1 (hn.quiet _), hn.heap h2 id, fun j o hj ho => hn.heap (h3 j o hj ho) id⟩)
        ?_ ⟨hI 0 w W1 h0 (hN1.quiet _), hL1, hC1⟩
      rintro k x W hkn hx ⟨hi, hl, hk⟩ _
      have hy := run_yield (P := P) (args := x) hl (by rw [hrec]; exact hps k x W hx)
      rw [hrec] at hy
      refine ⟨fn, _, assign, body, hy, roundIn_of_wpIn trivial (wpIn_mono (hround l k x W hkn hx hwl ⟨_, hl⟩ hi) ?_)⟩
      clear hy
      rintro e a1 Wa he
      cases e with
      | normal =>
        obtain ⟨hma, hb⟩ := he
        have hla := hma.block _ _ hl (.inr rfl)
        have hka : Others W0 Wa := fun j o hj ho => hma.block _ _ (hk j o hj ho) (.inr ho)
        have hlt : l < Wa.heap.size := (Array.getElem?_eq_some_iff.1 hla).1
        refine ⟨_, run_beginRound hla (by rw [hrec]), ?_⟩
        obtain ⟨Wb, hWb⟩ : ∃ Wb, Wa.putObj l (.loop { rec .ready none with state := .busy }) = Wb := ⟨_, rfl⟩
        have hl2 : Wb.heap[l]? = some (.loop { rec .ready none with state := .busy }) := by rw [← hWb]; exact World.putObj_heap_same hlt
        have hk2 : Others W0 Wb := by rw [← hWb]; exact hput _ _ hka
        have hqb : Quiet w.heap.size Wa Wb := by rw [← hWb]; exact Quiet.putObj _ hla rfl hwl
        rw [hWb]
        refine wpIn_mono (hb Wb hqb ⟨_, hl2⟩) ?_
        have fin : ∀ (jump : Option Code) (W3 : World), Mods S Wb W3 →
            (Instr.endRound l jump).run P W3 = .ok (.bool jump.isNone) (W3.putObj l (.loop (rec (if jump.isNone then .ready else .done) jump))) ∧
            W3.heap[l]? = some (.loop { rec .ready none with state := .busy }) ∧
            (W3.putObj l (.loop (rec (if jump.isNone then .ready else .done) jump))).heap[l]? = some (.loop (rec (if jump.isNone then .ready else .done) jump)) ∧
            Others W0 (W3.putObj l (.loop (rec (if jump.isNone then .ready else .done) jump))) := fun jump W3 hm3 => by
          have hl3 := hm3.block _ _ hl2 (.inr rfl)
          have := run_endRound (P := P) jump hl3
          rw [hrec] at this ⊢
          exact ⟨this, by rw [hrec] at hl3; exact hl3, World.putObj_heap_same (Array.getElem?_eq_some_iff.1 hl3).1, hput _ _ fun j o hj ho => hm3.block _ _ (hk2 j o hj ho) (.inr ho)⟩
        rintro e a3 W3 hp
        cases e with
        | normal =>
          obtain ⟨hm3, hi3⟩ := hp
          obtain ⟨hr, hl3, hl4, hk4⟩ := fin none W3 hm3
          refine ⟨_, _, hr, .inl ⟨rfl, ⟨hI _ _ _ hi3 (Quiet.putObj _ hl3 rfl hwl), hl4, hk4⟩, ?_⟩⟩
          refine ⟨(hm3.os.trans hqb.os).trans hma.os, (hm3.tape.trans hqb.tape).trans hma.tape, (hm3.output.trans hqb.output).trans hma.output, ?_, ?_⟩
          · simp only [World.putObj_size]; exact Nat.le_trans hma.size (Nat.le_trans hqb.size hm3.size)
          · intro j o hj ho
            by_cases e : j = l
            · subst e; rw [hl] at hj; cases hj; exact hl4
            · refine (World.putObj_heap_other e).trans (hm3.block _ _ ?_ ho)
              rw [← hWb]; exact (World.putObj_heap_other e).trans (hma.block _ _ hj ho)
        | ret =>
          obtain ⟨hm3, hi3⟩ := hp
          obtain ⟨hr, hl3, hl4, hk4⟩ := fin (some .ret) W3 hm3
          exact ⟨_, _, hr, .inr ⟨rfl, .ret, hIx _ _ _ _ hi3 (Quiet.putObj _ hl3 rfl hwl), hl4, hk4⟩⟩
        | exit id =>
          obtain ⟨hm3, hi3⟩ := hp
          obtain ⟨hr, hl3, hl4, hk4⟩ := fin (some (.exit id)) W3 hm3
          exact ⟨_, _, hr, .inr ⟨rfl, .exit id, hIx _ _ _ _ hi3 (Quiet.putObj _ hl3 rfl hwl), hl4, hk4⟩⟩
        | goto t =>
          obtain ⟨hm3, hi3⟩ := hp
          obtain ⟨hr, hl3, hl4, hk4⟩ := fin (some (.goto t)) W3 hm3
          exact ⟨_, _, hr, .inr ⟨rfl, .goto t, hIx _ _ _ _ hi3 (Quiet.putObj _ hl3 rfl hwl), hl4, hk4⟩⟩
        | panic ch => exact hp.elim
        | outgrown => exact hp.elim
      | exit id => exact he.elim
      | goto t => exact he.elim
      | ret => exact he.elim
      | panic ch => exact he.elim
      | outgrown => exact he.elim
    · rintro e W2 ⟨⟨v, rfl⟩, (⟨hi, hl, hk⟩ | ⟨k, hkl, c, hi, hl, hk⟩)⟩
      · exact ⟨none, _, by have := run_endLoop (P := P) hl (by rw [hrec]; simp); rw [hrec] at this; exact this, hdone _ (hI _ _ _ hi (Quiet.putObj _ hl rfl hwl)) (hput _ _ hk)⟩
      · exact ⟨some c, _, by have := run_endLoop (P := P) hl (by rw [hrec]; simp); rw [hrec] at this; exact this, hstop c k _ hkl (hIx _ _ _ _ hi (Quiet.putObj _ hl rfl hwl)) (hput _ _ hk)⟩
/-- A range over such a function, at a function's own level. -/
theorem wp_rangeE {g : Operand} {ps : Array Tmp} {assign body : Code} {Q : Exit → Act → World → Prop} {a : Act} {w : World}
    {gf : Nat} {lb : Array Value} (hg : a.eval g = .func (.func gf) #[] lb) (eg : ∀ args w, (callFunc gf args).run P w = .ok (.enter gf args) w)
    (n : Nat) (El : Nat → Array Value → World → Prop) (S : Nat → Prop) (hit : ∀ W, New w W → IterE P gf lb n El S W) (hps : ∀ k x W, El k x W → x.size = ps.size) (hEl : ∀ k x, Stab w.heap.size (El k x))
    (I : Nat → World → Prop) (Ix : Code → Nat → World → Prop) (hI : ∀ k, Stab w.heap.size (I k)) (hIx : ∀ c k, Stab w.heap.size (Ix c k)) (h0 : I 0 w) (upd : Array Value → Array Value → Array Value)
    (hassign : ∀ (l : Nat) (k : Nat) (x : Array Value) (W : World) (K : Act → World → Prop), El k x W → K { tmps := upd x a.tmps, defers := [] } W →
      assign.wpIn (Fr (some l)) 0 P (Exit.then K (fun _ _ _ => False)) { tmps := (ps.zip x).foldl (fun t (p, v) => t.setIfInBounds p v) a.tmps, defers := [] } W)
    (hbody : ∀ (l k : Nat) (x : Array Value) (W : World), k < n → El k x W → w.heap.size ≤ l → (∃ r, W.heap[l]? = some (.loop r)) → I k W → body.wpIn (Fr (some l)) 0 P (roundQ S I Ix (k + 1) W) { tmps := upd x a.tmps, defers := [] } W)
    (hdone : ∀ W, I n W → W.heap[w.heap.size]? = some (.deferred (some [])) → Q .normal { a with defers := { target := .collected w.heap.size, args := #[] } :: a.defers } W)
    (hstop : ∀ c k W, k ≤ n → Ix c k W → W.heap[w.heap.size]? = some (.deferred (some [])) → c.wp P Q { a with defers := { target := .collected w.heap.size, args := #[] } :: a.defers } W) :
    (Code.rangeFunc g ps assign body).wp P Q a w := by
  refine (wpIn_wide (n := 0)).1 ?_
  refine rangeE_core (P := P) none hg eg n El S hit hps (w.alloc (.deferred (some []))) ((Mods.refl _ _).alloc _) [{ target := .collected w.heap.size, args := #[] }] w.heap.size ?_ I Ix hI hIx h0 ?_ ?_ ?_
  · intro fn
    rw [World.size_alloc]
    exact run_enterLoop_outer _ _ _ _ _
  · intro l k x W hk hx hl hr hi
    exact hassign l k x W _ hx ⟨Mods.refl _ _, fun W2 hq hr2 => hbody l k x W2 hk (hEl k x W W2 hx hq) hl hr2 (hI k W W2 hi hq)⟩
  · intro W hi ho
    exact hdone W hi (ho _ _ (World.alloc_heap_new w _) rfl)
  · intro c k W hk hi ho
    exact (wpIn_wide (n := 0)).2 (hstop c k W hk hi (ho _ _ (World.alloc_heap_new w _) rfl))
end Go.Cs
/- Streams: their own memory. -/
namespace Go.Proofs.YtkjghojdfjhhkaaDoor
open Go.RowKit Go.Shelf Go.Cs
attribute [local go_sem] Oper.semAt_some
theorem RdB.one {W : World} {v : Value} {xs : List Int} (h : RdB W v xs) : v.oneCell' = true := by
  obtain ⟨ao, cap, rfl⟩ := h.slice
  rfl
theorem OwB.one {base : Nat} {W : World} {v : Value} {xs : List Int} (h : OwB base W v xs) : v.oneCell' = true := h.reads.one
theorem cs_one (s : St) {ov : Value} (h : ov.oneCell' = true) : ∀ v ∈ s.cs ov, v.oneCell' = true := by
  intro v hv
  simp [St.cs] at hv
  rcases hv with rfl | rfl | rfl | rfl | rfl | rfl | rfl | rfl | rfl | rfl | rfl
  all_goals first | rfl | exact h
/-- The zero stream. -/
def zeroSt : St := ⟨0, 0, 0, 0, 0, false, false, [], 0, false, 0⟩
theorem pair_rows (w : World) (c1 c2 : Array Value) (t1 t2 : TypeId) : ∃ W B C, (w.alloc (.cells c1 t1)).alloc (.cells c2 t2) = W ∧ w.heap.size = B ∧ B + 1 = C ∧ W.heap[B]? = some (.cells c1 t1 (0, 0)) ∧ W.heap[C]? = some (.cells c2 t2 (0, 0)) ∧ New w W ∧ W.heap.size = C + 1 := by
  refine ⟨_, _, _, rfl, rfl, rfl, ?_, ?_, (Mods.refl _ _).alloc _ |>.alloc _, by simp⟩
  · exact ((Mods.refl (fun _ => False) (w.alloc (.cells c1 t1))).alloc (.cells c2 t2)).heap (World.alloc_heap_new w _) id
  · have := World.alloc_heap_new (w.alloc (.cells c1 t1)) (.cells c2 t2)
    simpa using this
set_option maxHeartbeats 2000000 in
theorem own_S (v : Value) (s : St) (w : World) (h : RdS w v s) (hl : s.out.length ≤ 100000000) :
    Calls Tryd.prog 32 #[v] w fun e w' => ∃ v', e = .returned v' ∧ OwS w.heap.size w' v' s ∧ New w w' := by
  obtain ⟨ov, rfl, hr⟩ := h
  have HC := Lib.hid (fun W (hN : New w W) => clone_B ov s.out W (hr.new hN) hl)
  have hone := hr.one
  unfold St.cs
  clear hr
  obtain ⟨W1, B, C, hW, hB, hC, rB, rC, hN1, hz⟩ := pair_rows w #[.int .i64 s.id, .int .u8 s.state, .int .i64 s.send, .int .i64 s.recv, .int .i64 s.owed, .bool s.ans, .bool s.ends, ov, .int .u8 s.urg, .bool s.inc, .int .i64 s.slot] #[.int .i64 0, .int .u8 0, .int .i64 0, .int .i64 0, .int .i64 0, .bool false, .bool false, .slice none 0 0, .int .u8 0, .bool false, .int .i64 0] 24 24
  go_enter Tryd.func32, Tryd.ntmps32
  go_upto_region 1 with fail

  have k7 : W1.cell? ⟨B, 7, none⟩ = some ov := cell_of_row _ _ 7 _ _ _ rB
  go_wp2_with fail
  refine (HC.out _ hN1).mono ?_
  rintro e W2 ⟨v', rfl, hO, hk⟩
  obtain ⟨xa, xc, rfl⟩ := hO.slice
  obtain ⟨xn, hxn⟩ : ∃ x, s.out.length = x := ⟨_, rfl⟩
  rw [hxn] at hO ⊢
  have hN2 := hN1.trans hk
  have rB2 := hk.heap rB id
  have rC2 := hk.heap rC id
  have k72 : W2.cell? ⟨B, 7, none⟩ = some ov := cell_of_row _ _ 7 _ _ _ rB2
  have f72 := frozen_row (i := 7) rB2
  have rB3 : (W2.setCell ⟨B, 7, none⟩ (.slice xa xn xc)).heap[B]? = some (.cells #[.int .i64 s.id, .int .u8 s.state, .int .i64 s.send, .int .i64 s.recv, .int .i64 s.owed, .bool s.ans, .bool s.ends, .slice xa xn xc, .int .u8 s.urg, .bool s.inc, .int .i64 s.slot] 24 (0, 0)) := setCell_heap rB2 (.slice xa xn xc)
  have rC3 := cell_other (T := B) (i := 7) (v := (.slice xa xn xc)) rC2 (show C ≠ B by omega)
  have hO1 := hO.one
  have hO3 : OwB W1.heap.size (W2.setCell ⟨B, 7, none⟩ (.slice xa xn xc)) (.slice xa xn xc) s.out := owns_other hO fun g o hg hh => cell_other hh (by omega)
  have hN3 : New w (W2.setCell ⟨B, 7, none⟩ (.slice xa xn xc)) := hN2.setCell (p := ⟨B, 7, none⟩) (.inl (show w.heap.size ≤ B by omega)) _
  have hone' := cs_one s hO1
  have HO3 := Lib.hid hO3
  clear hO hO3 hone k7 rB rC hW
  go_wp2_with (first | (refine op_value rfl (run_load_row 24 (.tmp 1) rfl B rfl 24 _ (0, 0) _ rB3 Tryd.underlying24 rfl info24) ?_) | (refine op_skip rfl (run_store_row 24 (.tmp 2) (.tmp 7) rfl C rfl 24 [.int .i64 0, .int .u8 0, .int .i64 0, .int .i64 0, .int .i64 0, .bool false, .bool false, .slice none 0 0, .int .u8 0, .bool false, .int .i64 0] _ rfl rC3 info24 rfl hone') ?_))
  have rC4 := setRow_heap _ C _ (s.cs (.slice xa xn xc)).toArray 24 (0, 0) rC3
  have hO4 : OwB W1.heap.size ((W2.setCell ⟨B, 7, none⟩ (.slice xa xn xc)).setRow C (s.cs (.slice xa xn xc)).toArray) (.slice xa xn xc) s.out := owns_other HO3.out fun g o hg hh => (mods_setRow rC3 _).heap hh (show g ≠ C by omega)
  refine bodyPost_ret (v := .agg (s.cs (.slice xa xn xc)).toArray) (results_cell_row rfl _ _ C 24 _ (0, 0) _ rfl rC4 Tryd.underlying24 rfl info24) rfl ?_
  exact ⟨_, rfl, ⟨.slice xa xn xc, rfl, hO4.mono (by omega)⟩, hN3.setRow (by omega) _⟩
end Go.Proofs.YtkjghojdfjhhkaaDoor
/- Where a stream is: a key of a map. -/
namespace Go.Proofs.YtkjghojdfjhhkaaDoor
open Go.RowKit Go.Shelf Go.Cs
attribute [local go_sem] Oper.semAt_some
structure Pl where
  st : Int
  a : Bool
  e : Bool
  deriving DecidableEq
def Pl.v (p : Pl) : Value := .agg #[.int .u8 p.st, .bool p.a, .bool p.e]
theorem Pl.v_inj (p q : Pl) (h : p.v = q.v) : p = q := by
  obtain ⟨a, b, c⟩ := p
  obtain ⟨d, e, f⟩ := q
  simp [Pl.v] at h
  simp [h]
theorem stood74 : Tryd.prog.stoodInHeld 74 = false := by kernel_rfl
theorem guard74 : Tryd.prog.eqGuardType Tryd.prog.depth 74 = false := by kernel_rfl
theorem eq_place (d : Nat) (p q : Pl) (w : World) : (Op.equalIn (d + 2) 74 p.v q.v).run Tryd.prog w = .ok (decide (p = q)) w := by
  unfold Pl.v
  rw [show d + 2 = (d + 1) + 1 from rfl, run_equalIn_agg w (d + 1) 74 _ _ (by unfold Program.fieldsOf; rw [Tryd.underlying74]) stood74]
  unfold Program.fieldsOf
  rw [Tryd.underlying74]
  have h0 := fun (x : Int) (a b : Bool) w => partAt 5 _ Tryd.underlying5 rfl #[.int .u8 x, .bool a, .bool b] 0 (.int .u8 x) w rfl
  have h1 := fun (x : Int) (a b : Bool) w => partAt 4 _ Tryd.underlying4 rfl #[.int .u8 x, .bool a, .bool b] 1 (.bool a) w rfl
  have h2 := fun (x : Int) (a b : Bool) w => partAt 4 _ Tryd.underlying4 rfl #[.int .u8 x, .bool a, .bool b] 2 (.bool b) w rfl
  have ei := fun w (a b : Int) => run_equalIn_int w d 5 .u8 .u8 a b Tryd.underlying5
  have eb := fun w (a b : Bool) => run_equalIn_bool w d 4 a b Tryd.underlying4
  have n1 : ("state" ≠ "_") = True := by simp
  have n2 : ("answered" ≠ "_") = True := by simp
  have n3 : ("ends" ≠ "_") = True := by simp
  obtain ⟨x, a, b⟩ := p
  obtain ⟨y, c, e⟩ := q
  simp only [Op.eqFields, n1, n2, n3, if_true, Sem.run_bind, h0, ei, Result.andThen_ok]
  by_cases hx : x = y <;> by_cases ha : a = c <;> by_cases hb : b = e <;> simp [hx, ha, hb, Sem.run_bind, h1, h2, eb]
theorem keyP : KeyLike Tryd.prog 74 Pl.v :=
  .asked Tryd.underlying74 (fun a es i => by cases es <;> rfl) Pl.v_inj
    (fun w em a => by
      have h0 := fun w => partAt 5 _ Tryd.underlying5 rfl #[.int .u8 a.st, .bool a.a, .bool a.e] 0 (.int .u8 a.st) w rfl
      have h1 := fun w => partAt 4 _ Tryd.underlying4 rfl #[.int .u8 a.st, .bool a.a, .bool a.e] 1 (.bool a.a) w rfl
      have h2 := fun w => partAt 4 _ Tryd.underlying4 rfl #[.int .u8 a.st, .bool a.a, .bool a.e] 2 (.bool a.e) w rfl
      have hc := fun (s : Int) w => MapKept.run_checkKey (P := Tryd.prog) (w := w) (k := .int .u8 s) Tryd.underlying5 rfl em 9998
      have hb := fun (s : Bool) w => MapKept.run_checkKey (P := Tryd.prog) (w := w) (k := .bool s) Tryd.underlying4 trivial em 9998
      unfold Instr.checkKey Pl.v
      simp [Sem.run_bind, run_underlying Tryd.underlying74, h0, h1, h2, hc, hb])
    (fun w a b => eq_place 9998 a b w) (fun a => by
      simp [Pl.v, Instr.sameBits])
end Go.Proofs.YtkjghojdfjhhkaaDoor
/- Streams: their own memory (the document's); where they are; where they may be written. -/
namespace Go.Proofs.YtkjghojdfjhhkaaDoor
open Go.RowKit Go.Shelf Go.Cs
attribute [local go_sem] Oper.semAt_some
set_option maxHeartbeats 2000000 in
theorem own_R (v : Value) (s : St) (w : World) (h : RdS w v s) (hl : s.out.length ≤ 100000000) :
    Calls Tryd.prog 53 #[v] w fun e w' => ∃ v', e = .returned v' ∧ OwS w.heap.size w' v' s ∧ New w w' := by
  obtain ⟨ov, rfl, hr⟩ := h
  obtain ⟨oa, oc, rfl⟩ := hr.slice
  obtain ⟨on, hon⟩ : ∃ x, s.out.length = x := ⟨_, rfl⟩
  rw [hon] at hr hl ⊢
  have HR := Lib.hid hr
  unfold St.cs
  clear hr
  obtain ⟨W1, B, C, hW, hB, hC, rB, rC, hN1, hz⟩ := pair_rows w #[.int .i64 s.id, .int .u8 s.state, .int .i64 s.send, .int .i64 s.recv, .int .i64 s.owed, .bool s.ans, .bool s.ends, .slice oa on oc, .int .u8 s.urg, .bool s.inc, .int .i64 s.slot] #[.int .i64 0, .int .u8 0, .int .i64 0, .int .i64 0, .int .i64 0, .bool false, .bool false, .slice none 0 0, .int .u8 0, .bool false, .int .i64 0] 24 24
  go_enter Tryd.func53, Tryd.ntmps53
  go_upto_region 1 with fail
  have hN1' := hN1.alloc (.cells #[] 5)
  have rB1 := ((Mods.refl (fun _ => False) W1).alloc (.cells #[] 5)).heap rB id
  have rC1 := ((Mods.refl (fun _ => False) W1).alloc (.cells #[] 5)).heap rC id
  have hO0 := OwB.nil W1
  have hz1 : (W1.alloc (.cells #[] 5)).heap.size = W1.heap.size + 1 := by simp
  obtain ⟨Wa, hWa⟩ : ∃ W, W1.alloc (.cells #[] 5) = W := ⟨_, rfl⟩
  rw [hWa] at hN1' rB1 rC1 hO0 hz1
  rw [hz] at hO0 hz1
  have k7 : Wa.cell? ⟨B, 7, none⟩ = some (.slice oa on oc) := cell_of_row _ _ 7 _ _ _ rB1
  go_wp2_with (at_builtin; refine wpList_append_B _ _ rfl rfl rfl rfl hO0 (HR.out.new hN1') (by rw [hon, List.length_nil]; omega) (by omega) ?_)
  intro v' W2 hO hg
  have hk : New W1 W2 := ((Mods.refl _ W1).alloc (.cells #[] 5)).grown (by rw [hWa]; exact hg) (fun k hk => by cases hk; exact .inl (Nat.le_of_eq hz))
  obtain ⟨xa, xc, rfl⟩ := hO.slice
  rw [hon] at hO ⊢
  have hN2 := hN1.trans hk
  have rB2 := hk.heap rB id
  have rC2 := hk.heap rC id
  have k72 : W2.cell? ⟨B, 7, none⟩ = some (.slice oa on oc) := cell_of_row _ _ 7 _ _ _ rB2
  have f72 := frozen_row (i := 7) rB2
  have rB3 : (W2.setCell ⟨B, 7, none⟩ (.slice xa on xc)).heap[B]? = some (.cells #[.int .i64 s.id, .int .u8 s.state, .int .i64 s.send, .int .i64 s.recv, .int .i64 s.owed, .bool s.ans, .bool s.ends, .slice xa on xc, .int .u8 s.urg, .bool s.inc, .int .i64 s.slot] 24 (0, 0)) := setCell_heap rB2 (.slice xa on xc)
  have rC3 := cell_other (T := B) (i := 7) (v := (.slice xa on xc)) rC2 (show C ≠ B by omega)
  have hO1 := hO.one
  have hO3 : OwB (C + 1) (W2.setCell ⟨B, 7, none⟩ (.slice xa on xc)) (.slice xa on xc) s.out := owns_other hO fun g o hg hh => cell_other hh (by omega)
  have hN3 : New w (W2.setCell ⟨B, 7, none⟩ (.slice xa on xc)) := hN2.setCell (p := ⟨B, 7, none⟩) (.inl (show w.heap.size ≤ B by omega)) _
  have hone' := cs_one s hO1
  have HO3 := Lib.hid hO3
  clear hO hO3 k7 rB rC hW hO0 hg hWa rB1 rC1
  go_wp2_with (first | (refine op_value rfl (run_load_row 24 (.tmp 1) rfl B rfl 24 _ (0, 0) _ rB3 Tryd.underlying24 rfl info24) ?_) | (refine op_skip rfl (run_store_row 24 (.tmp 2) (.tmp 8) rfl C rfl 24 [.int .i64 0, .int .u8 0, .int .i64 0, .int .i64 0, .int .i64 0, .bool false, .bool false, .slice none 0 0, .int .u8 0, .bool false, .int .i64 0] _ rfl rC3 info24 rfl hone') ?_))
  have rC4 := setRow_heap _ C _ (s.cs (.slice xa on xc)).toArray 24 (0, 0) rC3
  have hO4 : OwB (C + 1) ((W2.setCell ⟨B, 7, none⟩ (.slice xa on xc)).setRow C (s.cs (.slice xa on xc)).toArray) (.slice xa on xc) s.out := owns_other HO3.out fun g o hg hh => (mods_setRow rC3 _).heap hh (show g ≠ C by omega)
  refine bodyPost_ret (v := .agg (s.cs (.slice xa on xc)).toArray) (results_cell_row rfl _ _ C 24 _ (0, 0) _ rfl rC4 Tryd.underlying24 rfl info24) rfl ?_
  exact ⟨_, rfl, ⟨.slice xa on xc, rfl, hO4.mono (by omega)⟩, hN3.setRow (by omega) _⟩
theorem info74 : (Tryd.prog.info? 74).map (·.size) = some 3 := by kernel_rfl
def placeOf (s : St) : Pl := ⟨s.state, s.ans, s.ends⟩
set_option maxHeartbeats 2000000 in
theorem of_S (s : St) (ov : Value) (w : World) : Calls Tryd.prog 55 #[.agg (s.cs ov).toArray] w fun e w' => e = .returned (placeOf s).v ∧ New w w' := by
  unfold St.cs Pl.v placeOf
  obtain ⟨W1, B, C, hW, hB, hC, rB, rC, hN1, hz⟩ := pair_rows w #[.int .i64 s.id, .int .u8 s.state, .int .i64 s.send, .int .i64 s.recv, .int .i64 s.owed, .bool s.ans, .bool s.ends, ov, .int .u8 s.urg, .bool s.inc, .int .i64 s.slot] #[.int .u8 0, .bool false, .bool false] 24 74
  have hone : ∀ v ∈ ([.int .u8 s.state, .bool s.ans, .bool s.ends] : List Value), v.oneCell' = true := by
    intro v hv
    simp at hv
    rcases hv with rfl | rfl | rfl <;> rfl
  go_enter Tryd.func55, Tryd.ntmps55
  go_upto_region 1 with fail
  have k1 : W1.cell? ⟨B, 1, none⟩ = some (.int .u8 s.state) := cell_of_row _ _ 1 _ _ _ rB
  have k5 : W1.cell? ⟨B, 5, none⟩ = some (.bool s.ans) := cell_of_row _ _ 5 _ _ _ rB
  have k6 : W1.cell? ⟨B, 6, none⟩ = some (.bool s.ends) := cell_of_row _ _ 6 _ _ _ rB
  go_wp2_with (refine op_skip rfl (run_store_row 74 (.tmp 2) (.tmp 9) rfl C rfl 74 [.int .u8 0, .bool false, .bool false] [.int .u8 s.state, .bool s.ans, .bool s.ends] rfl rC info74 rfl hone) ?_)
  have rC2 := setRow_heap _ C _ #[.int .u8 s.state, .bool s.ans, .bool s.ends] 74 (0, 0) rC
  refine bodyPost_ret (v := .agg #[.int .u8 s.state, .bool s.ans, .bool s.ends]) (results_cell_row rfl _ _ C 74 _ (0, 0) _ rfl rC2 Tryd.underlying74 rfl info74) rfl ?_
  exact ⟨rfl, hN1.setRow (by omega) _⟩
def writeKey (i : Nat) : Pl := if i = 2 then ⟨1, true, false⟩ else ⟨2, true, false⟩
def writeF (q : Pl) : Option Value := ([2, 4].find? fun i => decide (writeKey i = q)).map fun _ => .int .i64 1
theorem writeF_open (s : St) : ((writeF (placeOf s)).getD (.int .i64 0)) = .int .i64 (if openB s then 1 else 0) := by
  unfold writeF openB oursB placeOf writeKey
  by_cases h1 : s.state = 1
  · cases s.ans <;> cases s.ends <;> simp [h1]
  · by_cases h2 : s.state = 2
    · cases s.ans <;> cases s.ends <;> simp [h2]
    · have e1 : ¬ (1 : Int) = s.state := fun h => h1 h.symm
      have e2 : ¬ (2 : Int) = s.state := fun h => h2 h.symm
      simp [h1, h2, e1, e2]
set_option maxHeartbeats 2000000 in
theorem writes_S (w : World) : Calls Tryd.prog 54 #[] w fun e w' => ∃ M, e = .returned (.map (some M)) ∧ MapFn Pl.v w' M 2 writeF ∧ New w w' := by
  go_enter Tryd.func54, Tryd.ntmps54
  go_wp2_with fail
  refine piece (fun a' a'' Wq => ∃ M, a'' = (a'.put (some 2) (writeKey 2).v |>.put (some 3) (writeKey 4).v |>.put (some 1) (.map (some M)) |>.put (some 4) (.map (some M)) |>.put (some 0) (.map (some M))) ∧ MapFn Pl.v Wq M 2 writeF ∧ New w Wq) ?_ ?_
  · refine (wpIn_wide (n := 0)).1 ?_
    refine wpIn_region_any (by kernel_rfl) ?_
    show wpAnyIn _ _ _ _ _ _ 7 _ _ w.drew
    refine any_take 1 (some 2) ((writeKey 2).v) rfl rfl (by kernel_rfl) (by kernel_rfl) (by kernel_rfl) (fun _ _ _ h => h.elim) (.value rfl fun w => by go_simp; rfl) ?_
    refine any_take 3 (some 3) ((writeKey 4).v) rfl rfl (by kernel_rfl) (by kernel_rfl) (by kernel_rfl) (fun _ _ _ h => h.elim) (.value rfl fun w => by go_simp; rfl) ?_
    simp only [Act.put, List.setIfInBounds_toArray, List.set_cons_succ, List.set_cons_zero]
    refine wpAnyIn_all (rs := [0]) (by kernel_rfl) (by simp) ?_
    simp only [List.mem_cons, List.not_mem_nil, or_false, forall_eq]
    refine opIn_value (some 1) (v := .map (some w.drew.heap.size)) (w' := w.drew.alloc (.map #[] 0)) rfl rfl rfl rfl (by have hmm := @run_makeMap Tryd.prog; go_simp) ?_
    have hm := World.alloc_heap_new w.drew (.map #[] 0)
    have hN1 : New w (w.drew.alloc (.map #[] 0)) := (Mods.refl _ _).drew.alloc _
    have hM1 : w.heap.size ≤ w.drew.heap.size := Nat.le_refl _
    obtain ⟨M, hM⟩ : ∃ M, w.drew.heap.size = M := ⟨_, rfl⟩
    obtain ⟨W1, hW1⟩ : ∃ W, w.drew.alloc (.map #[] 0) = W := ⟨_, rfl⟩
    rw [hW1] at hm hN1 ⊢
    rw [hM] at hm hM1 ⊢
    clear hM hW1
    simp only [Act.put, List.setIfInBounds_toArray, List.set_cons_succ, List.set_cons_zero]
    refine any_inserts keyP Tryd.underlying71 [2, 4] #[true, true, false, true, false, false, false] 2 writeKey (fun _ => .int .i64 1) _ M (fun W => New w W) (by kernel_rfl) (by decide) (by decide +kernel) rfl (by kernel_rfl) ?_ ?_ hN1 hm ?_
    · intro i hi
      simp only [List.mem_cons, List.not_mem_nil, or_false] at hi
      rcases hi with rfl | rfl
      · exact ⟨_, _, _, _, rfl, rfl, rfl, rfl, rfl, rfl, rfl⟩
      · exact ⟨_, _, _, _, rfl, rfl, rfl, rfl, rfl, rfl, rfl⟩
    · intro W o _ hW
      exact hW.putObj hM1 o
    · intro W hW hMap
      refine wpAnyIn_all (rs := [5]) (by kernel_rfl) (by simp) ?_
      simp only [List.mem_cons, List.not_mem_nil, or_false, forall_eq]
      refine opIn_value (some 4) (v := .map (some M)) (w' := W) rfl rfl rfl rfl (by go_simp) ?_
      refine wpAnyIn_all (rs := [6]) (by kernel_rfl) (by simp) ?_
      simp only [List.mem_cons, List.not_mem_nil, or_false, forall_eq]
      refine opIn_value (some 0) (v := .map (some M)) (w' := W) rfl rfl rfl rfl (by go_simp) ?_
      refine wpAnyIn_done (by kernel_rfl) ?_ _
      exact ⟨M, rfl, hMap, hW⟩
  · rintro a' Wz ⟨M, rfl, hMap, hN⟩
    simp only [Act.put, List.setIfInBounds_toArray, List.set_cons_succ, List.set_cons_zero]
    go_wp2_with fail
    go_ret
    exact ⟨M, rfl, hMap, hN⟩
end Go.Proofs.YtkjghojdfjhhkaaDoor
/- Streams: which are sendable. -/
namespace Go.Proofs.YtkjghojdfjhhkaaDoor
open Go.RowKit Go.Shelf Go.Cs
attribute [local go_sem] Oper.semAt_some
theorem one_row (w : World) (c1 : Array Value) (t1 : TypeId) : ∃ W B, w.alloc (.cells c1 t1) = W ∧ w.heap.size = B ∧ W.heap[B]? = some (.cells c1 t1 (0, 0)) ∧ New w W :=
  ⟨_, _, rfl, rfl, World.alloc_heap_new w _, (Mods.refl _ _).alloc _⟩
set_option maxHeartbeats 4000000 in
set_option maxRecDepth 100000 in
theorem send_S (v : Value) (s : St) (c : Int) (w : World) (h : RdS w v s) (hs : I64 s.send) (hcc : I64 c) :
    Calls Tryd.prog 29 #[v, .int .i64 c] w fun e w' => e = .returned (.bool (sendB s c)) ∧ New w w' := by
  obtain ⟨ov, rfl, hr⟩ := h
  obtain ⟨oa, oc, rfl⟩ := hr.slice
  obtain ⟨on, hon⟩ : ∃ x, s.out.length = x := ⟨_, rfl⟩
  have HOU := Lib.hid (fun W => ours_any s (.slice oa s.out.length oc) W)
  have HC1 := Lib.hid (fun W => can_any s.send W hs)
  have HC2 := Lib.hid (fun W => can_any c W hcc)
  have HB : Hid (sendB s c = (oursB s && (s.ans && (if s.out.length = 0 then s.ends else decide (0 < canZ s.send) && decide (0 < canZ c))))) := Lib.hid rfl
  obtain ⟨r, hr1⟩ : ∃ r, sendB s c = r := ⟨_, rfl⟩
  rw [hr1] at HB ⊢
  clear hr1 hr
  obtain ⟨z1, hz1⟩ : ∃ x, canZ s.send = x := ⟨_, rfl⟩
  obtain ⟨z2, hz2⟩ : ∃ x, canZ c = x := ⟨_, rfl⟩
  rw [hz1, hz2] at HB
  rw [hz1] at HC1
  rw [hz2] at HC2
  obtain ⟨d1, hd1⟩ : ∃ x, decide (0 < z1) = x := ⟨_, rfl⟩
  obtain ⟨d2, hd2⟩ : ∃ x, decide (0 < z2) = x := ⟨_, rfl⟩
  obtain ⟨o, ho⟩ : ∃ x, oursB s = x := ⟨_, rfl⟩
  rw [hd1, hd2, ho, hon] at HB
  rw [ho, hon] at HOU
  unfold St.cs at HOU ⊢
  obtain ⟨an, han⟩ : ∃ x, s.ans = x := ⟨_, rfl⟩
  obtain ⟨en, hen⟩ : ∃ x, s.ends = x := ⟨_, rfl⟩
  rw [han, hen] at HB HOU ⊢
  rw [hon]
  clear han hen ho hz1 hz2 hon hs hcc
  obtain ⟨W1, B, hW, hBB, rB, hN1⟩ := one_row w #[.int .i64 s.id, .int .u8 s.state, .int .i64 s.send, .int .i64 s.recv, .int .i64 s.owed, .bool an, .bool en, .slice oa on oc, .int .u8 s.urg, .bool s.inc, .int .i64 s.slot] 24
  have k2 : W1.cell? ⟨B, 2, none⟩ = some (.int .i64 s.send) := cell_of_row _ _ 2 _ _ _ rB
  have k5 : W1.cell? ⟨B, 5, none⟩ = some (.bool an) := cell_of_row _ _ 5 _ _ _ rB
  have k6 : W1.cell? ⟨B, 6, none⟩ = some (.bool en) := cell_of_row _ _ 6 _ _ _ rB
  have k7 : W1.cell? ⟨B, 7, none⟩ = some (.slice oa on oc) := cell_of_row _ _ 7 _ _ _ rB
  go_enter Tryd.func29, Tryd.ntmps29
  go_upto_region 1 with fail
  clear hW hBB
  cases an with
  | false =>
    go_wp2_with fail
    go_ret
    exact ⟨by rw [HB.out]; cases o <;> rfl, hN1⟩
  | true =>
    go_wp2_with (first | (refine op_value rfl (run_load_row 24 (.tmp 2) rfl B rfl 24 _ (0, 0) _ rB Tryd.underlying24 rfl info24) ?_) | (refine op_value_g rfl (run_load_row 24 (.tmp 2) rfl B rfl 24 _ (0, 0) _ rB Tryd.underlying24 rfl info24) ?_))
    refine (HOU.out _).mono ?_
    rintro e w2 ⟨rfl, hk⟩
    have hN2 := hN1.trans hk
    have rB2 := hk.heap rB id
    have q2 : w2.cell? ⟨B, 2, none⟩ = some (.int .i64 s.send) := cell_of_row _ _ 2 _ _ _ rB2
    have q5 : w2.cell? ⟨B, 5, none⟩ = some (.bool true) := cell_of_row _ _ 5 _ _ _ rB2
    have q6 : w2.cell? ⟨B, 6, none⟩ = some (.bool en) := cell_of_row _ _ 6 _ _ _ rB2
    have q7 : w2.cell? ⟨B, 7, none⟩ = some (.slice oa on oc) := cell_of_row _ _ 7 _ _ _ rB2
    clear rB
    cases o with
    | false =>
      go_wp2_with fail
      go_ret
      exact ⟨by rw [HB.out]; rfl, hN2⟩
    | true =>
      by_cases h0 : on = 0
      · rw [if_pos h0] at HB
        have e1 : decide ((0 : Int) < (on : Int)) = false := decide_eq_false (by omega)
        have e2 : ((on : Int) == 0) = true := decide_eq_true (by omega)
        have e3 : decide ((on : Int) = 0) = true := decide_eq_true (by omega)
        go_wp2_with fail
        go_ret
        exact ⟨by rw [HB.out]; rfl, hN2⟩
      · rw [if_neg h0] at HB
        have e1 : decide ((0 : Int) < (on : Int)) = true := decide_eq_true (by omega)
        have e2 : ((on : Int) == 0) = false := decide_eq_false (by omega)
        have e3 : decide ((on : Int) = 0) = false := decide_eq_false (by omega)
        cases d1
        · go_wp2_with fail
          refine (HC1.out _).mono ?_
          rintro e w3 ⟨rfl, rfl⟩
          go_wp2_with fail
          go_ret
          exact ⟨by rw [HB.out]; rfl, hN2⟩
        · go_wp2_with fail
          refine (HC1.out _).mono ?_
          rintro e w3 ⟨rfl, rfl⟩
          go_wp2_with fail
          refine (HC2.out _).mono ?_
          rintro e w3 ⟨rfl, rfl⟩
          go_wp2_with fail
          go_ret
          exact ⟨by rw [HB.out]; rfl, hN2⟩
set_option maxHeartbeats 4000000 in
set_option maxRecDepth 100000 in
theorem send_R (v : Value) (s : St) (c : Int) (w : World) (h : RdS w v s) (hs : I64 s.send) (hcc : I64 c) :
    Calls Tryd.prog 30 #[v, .int .i64 c] w fun e w' => e = .returned (.bool (sendB s c)) ∧ New w w' := by
  obtain ⟨ov, rfl, hr⟩ := h
  obtain ⟨oa, oc, rfl⟩ := hr.slice
  obtain ⟨on, hon⟩ : ∃ x, s.out.length = x := ⟨_, rfl⟩
  have HOU := Lib.hid (fun W => ours_ref s (.slice oa s.out.length oc) W)
  have HC1 := Lib.hid (fun W => can_ref s.send W hs)
  have HC2 := Lib.hid (fun W => can_ref c W hcc)
  have HB : Hid (sendB s c = (oursB s && (s.ans && (if s.out.length = 0 then s.ends else decide (0 < canZ s.send) && decide (0 < canZ c))))) := Lib.hid rfl
  obtain ⟨r, hr1⟩ : ∃ r, sendB s c = r := ⟨_, rfl⟩
  rw [hr1] at HB ⊢
  clear hr1 hr
  obtain ⟨z1, hz1⟩ : ∃ x, canZ s.send = x := ⟨_, rfl⟩
  obtain ⟨z2, hz2⟩ : ∃ x, canZ c = x := ⟨_, rfl⟩
  rw [hz1, hz2] at HB
  rw [hz1] at HC1
  rw [hz2] at HC2
  obtain ⟨d1, hd1⟩ : ∃ x, decide (0 < z1) = x := ⟨_, rfl⟩
  obtain ⟨d2, hd2⟩ : ∃ x, decide (0 < z2) = x := ⟨_, rfl⟩
  obtain ⟨o, ho⟩ : ∃ x, oursB s = x := ⟨_, rfl⟩
  rw [hd1, hd2, ho, hon] at HB
  rw [ho, hon] at HOU
  unfold St.cs at HOU ⊢
  obtain ⟨an, han⟩ : ∃ x, s.ans = x := ⟨_, rfl⟩
  obtain ⟨en, hen⟩ : ∃ x, s.ends = x := ⟨_, rfl⟩
  rw [han, hen] at HB HOU ⊢
  rw [hon]
  clear han hen ho hz1 hz2 hon hs hcc
  obtain ⟨W1, B, hW, hBB, rB, hN1⟩ := one_row w #[.int .i64 s.id, .int .u8 s.state, .int .i64 s.send, .int .i64 s.recv, .int .i64 s.owed, .bool an, .bool en, .slice oa on oc, .int .u8 s.urg, .bool s.inc, .int .i64 s.slot] 24
  have k2 : W1.cell? ⟨B, 2, none⟩ = some (.int .i64 s.send) := cell_of_row _ _ 2 _ _ _ rB
  have k5 : W1.cell? ⟨B, 5, none⟩ = some (.bool an) := cell_of_row _ _ 5 _ _ _ rB
  have k6 : W1.cell? ⟨B, 6, none⟩ = some (.bool en) := cell_of_row _ _ 6 _ _ _ rB
  have k7 : W1.cell? ⟨B, 7, none⟩ = some (.slice oa on oc) := cell_of_row _ _ 7 _ _ _ rB
  go_enter Tryd.func30, Tryd.ntmps30
  go_upto_region 1 with fail
  clear hW hBB
  go_wp2_with (first | (refine op_value rfl (run_load_row 24 (.tmp 2) rfl B rfl 24 _ (0, 0) _ rB Tryd.underlying24 rfl info24) ?_) | (refine op_value_g rfl (run_load_row 24 (.tmp 2) rfl B rfl 24 _ (0, 0) _ rB Tryd.underlying24 rfl info24) ?_))
  refine (HOU.out _).mono ?_
  rintro e w2 ⟨rfl, hk⟩
  have hN2 := hN1.trans hk
  have rB2 := hk.heap rB id
  have q2 : w2.cell? ⟨B, 2, none⟩ = some (.int .i64 s.send) := cell_of_row _ _ 2 _ _ _ rB2
  have q5 : w2.cell? ⟨B, 5, none⟩ = some (.bool an) := cell_of_row _ _ 5 _ _ _ rB2
  have q6 : w2.cell? ⟨B, 6, none⟩ = some (.bool en) := cell_of_row _ _ 6 _ _ _ rB2
  have q7 : w2.cell? ⟨B, 7, none⟩ = some (.slice oa on oc) := cell_of_row _ _ 7 _ _ _ rB2
  clear rB
  cases o with
  | false =>
    go_wp2_with fail
    go_ret
    exact ⟨by rw [HB.out]; rfl, hN2⟩
  | true =>
    cases an with
    | false =>
      go_wp2_with fail
      go_ret
      exact ⟨by rw [HB.out]; rfl, hN2⟩
    | true =>
      by_cases h0 : on = 0
      · rw [if_pos h0] at HB
        have e1 : decide ((0 : Int) < (on : Int)) = false := decide_eq_false (by omega)
        have e2 : ((on : Int) == 0) = true := decide_eq_true (by omega)
        have e3 : decide ((on : Int) = 0) = true := decide_eq_true (by omega)
        go_wp2_with fail
        go_ret
        exact ⟨by rw [HB.out]; rfl, hN2⟩
      · rw [if_neg h0] at HB
        have e1 : decide ((0 : Int) < (on : Int)) = true := decide_eq_true (by omega)
        have e2 : ((on : Int) == 0) = false := decide_eq_false (by omega)
        have e3 : decide ((on : Int) = 0) = false := decide_eq_false (by omega)
        cases d1
        · go_wp2_with fail
          refine (HC1.out _).mono ?_
          rintro e w3 ⟨rfl, rfl⟩
          go_wp2_with fail
          go_ret
          exact ⟨by rw [HB.out]; rfl, hN2⟩
        · go_wp2_with fail
          refine (HC1.out _).mono ?_
          rintro e w3 ⟨rfl, rfl⟩
          go_wp2_with fail
          refine (HC2.out _).mono ?_
          rintro e w3 ⟨rfl, rfl⟩
          go_wp2_with fail
          go_ret
          exact ⟨by rw [HB.out]; rfl, hN2⟩
end Go.Proofs.YtkjghojdfjhhkaaDoor
/- What goes out at once: how many bytes. -/
namespace Go.Proofs.YtkjghojdfjhhkaaDoor
open Go.RowKit Go.Shelf Go.Cs
attribute [local go_sem] Oper.semAt_some
theorem min_if (x y : Int) : (if y < x then y else x) = min x y := by
  rw [Int.min_def]
  split <;> split <;> omega
theorem max_if (x y : Int) : (if y > x then y else x) = max x y := by
  rw [Int.max_def]
  split <;> split <;> omega
theorem run_min2' (x y : Int) (W : World) (ts : Array TypeId) (t : TypeId) : (Builtin.min_ ts t #[.int .i64 x, .int .i64 y]).run Tryd.prog W = .ok (.int .i64 (min x y)) W := by
  rw [run_min_int2, min_if]
theorem run_max2' (x y : Int) (W : World) (ts : Array TypeId) (t : TypeId) : (Builtin.max_ ts t #[.int .i64 x, .int .i64 y]).run Tryd.prog W = .ok (.int .i64 (max x y)) W := by
  rw [run_max_int2, max_if]
theorem run_min5 (a b c d e : Int) (W : World) (ts : Array TypeId) (t : TypeId) : (Builtin.min_ ts t #[.int .i64 a, .int .i64 b, .int .i64 c, .int .i64 d, .int .i64 e]).run Tryd.prog W = .ok (.int .i64 (min (min (min (min a b) c) d) e)) W := by
  simp only [Builtin.min_, List.foldlM, Builtin.min2, pure_bind, min_if]
  rfl
set_option maxHeartbeats 1000000 in
theorem cut_R (a b c d e : Int) (w : World) (ha : I64 a) (hb : I64 b) (hc : I64 c) (hd : I64 d) (he : I64 e) :
    Calls Tryd.prog 62 #[.int .i64 a, .int .i64 b, .int .i64 c, .int .i64 d, .int .i64 e] w fun r w' => r = .returned (.int .i64 (cutZ a b c d e)) ∧ w' = w := by
  have H1 := Lib.hid (fun W => can_ref a W ha)
  have H2 := Lib.hid (fun W => can_ref b W hb)
  unfold cutZ
  obtain ⟨z1, hz1⟩ : ∃ x, canZ a = x := ⟨_, rfl⟩
  obtain ⟨z2, hz2⟩ : ∃ x, canZ b = x := ⟨_, rfl⟩
  rw [hz1] at H1 ⊢
  rw [hz2] at H2 ⊢
  clear hz1 hz2
  have hmin := fun W => run_min5 z1 z2 c d e W #[3, 3, 3, 3, 3] 3
  have hmax := fun W => run_max2' (min (min (min (min z1 z2) c) d) e) 0 W #[3, 3] 3
  obtain ⟨mm, hmm⟩ : ∃ x, min (min (min (min z1 z2) c) d) e = x := ⟨_, rfl⟩
  rw [hmm] at hmax ⊢
  simp only [hmm] at hmin
  obtain ⟨mx, hmx⟩ : ∃ x, max mm 0 = x := ⟨_, rfl⟩
  rw [hmx]
  simp only [hmx] at hmax
  clear hmm hmx
  go_enter Tryd.func62, Tryd.ntmps62
  go_wp2_with fail
  refine (H1.out _).mono ?_
  rintro e1 w1 ⟨rfl, rfl⟩
  go_wp2_with fail
  refine (H2.out _).mono ?_
  rintro e1 w1 ⟨rfl, rfl⟩
  go_wp2_with fail
  go_ret
  exact ⟨rfl, rfl⟩
end Go.Proofs.YtkjghojdfjhhkaaDoor
/- What is done to a stream, where it may be. -/
namespace Go.Proofs.YtkjghojdfjhhkaaDoor
open Go.RowKit Go.Shelf Go.Cs
attribute [local go_sem] Oper.semAt_some
theorem lit21 (t : Array Value) (h : t.size = 21) : ∃ u : Nat → Value, t = (u 0 :: u 1 :: u 2 :: u 3 :: u 4 :: u 5 :: u 6 :: u 7 :: u 8 :: u 9 :: u 10 :: u 11 :: u 12 :: u 13 :: u 14 :: u 15 :: u 16 :: u 17 :: u 18 :: u 19 :: u 20 :: ([] : List Value)).toArray := ⟨fun i => t.getD i undef, range_lit t 21 h⟩
/-- What a deed's function does: code c, the stream behind it. -/
def Deed1 (S0 : Nat → Prop) (J0 : World → Prop) (J1 : Nat → World → Prop) (g : FuncId) (caps : Array Value) (c : Int) (s s' : St) (w : World) : Prop :=
  ∀ W O ov, W.heap[O]? = some (.cells (s.cs ov).toArray 24 (0, 0)) → OwB w.heap.size W ov s.out → w.heap.size ≤ O → New w W → J0 W →
    Calls Tryd.prog g (#[.pointer (some ⟨O, 0, none⟩)] ++ caps) W fun e W' => e = .returned (.int .i64 c) ∧ Mods S0 w W' ∧ Mods (fun b => S0 b ∨ b = O ∨ ov.ownBlock = some b) W W' ∧ J1 O W' ∧
      ∃ c', W'.heap[O]? = some (.cells (List.toArray c') 24 (0, 0)) ∧ c'.length = 11 ∧ (c = 0 → ∃ ov2, c' = s'.cs ov2 ∧ OwB w.heap.size W' ov2 s'.out)
def Stays (w : World) (J : World → Prop) : Prop := (∀ W W', J W → New W W' → J W') ∧ ∀ W C c c', J W → W.heap[C]? = some (.cells c 24 (0, 0)) → w.heap.size ≤ C → J (W.setRow C c')
def Stay1 (w : World) (J1 : Nat → World → Prop) : Prop := ∀ C, w.heap.size ≤ C → (∀ W W', J1 C W → New W W' → J1 C W') ∧ ∀ W c c', J1 C W → W.heap[C]? = some (.cells c 24 (0, 0)) → J1 C (W.setRow C c')
theorem owB_ne {base : Nat} {W : World} {v : Value} {xs : List Int} {g t : Nat} {c : Array Value} {fr : Nat × Nat} (h : OwB base W v xs) (hg : W.heap[g]? = some (.cells c t fr)) (ht : t ≠ 5) : v.ownBlock ≠ some g := by
  intro hv
  rcases h.2 with ⟨rfl, _⟩ | ⟨g', cap, cur, rfl, _, hh, _⟩
  · cases hv
  · simp only [Value.ownBlock, Option.some.injEq] at hv
    subst hv
    rw [hg] at hh
    simp only [Option.some.injEq, Obj.cells.injEq] at hh
    exact ht hh.2.1
theorem OwB.setRow {base : Nat} {W : World} {v : Value} {xs : List Int} {C t : Nat} {c c' : Array Value} {fr : Nat × Nat} (h : OwB base W v xs) (hC : W.heap[C]? = some (.cells c t fr)) (ht : t ≠ 5) : OwB base (W.setRow C c') v xs :=
  Mods.ownsRow (mods_setRow hC c') h fun g hg e => owB_ne h hC ht (by rw [hg, e])
set_option maxHeartbeats 4000000 in
set_option maxRecDepth 100000 in
theorem does_S {S0 : Nat → Prop} {J0 : World → Prop} {J1 : Nat → World → Prop} (may : Bool) (g : FuncId) (caps : Array Value) (c : Int) (s s' : St) (v : Value) (w : World) (hv : RdS w v s) (hl : s.out.length ≤ 1000000)
    (eg : ∀ args w, (callFunc g args).run Tryd.prog w = .ok (.enter g args) w) (hS0 : ∀ b, S0 b → b < w.heap.size) (hkeep : ∀ W, Mods S0 w W → RdS W v s)
    (hJ : J0 w) (hs0 : Stays w J0) (hs1 : Stay1 w J1) (hG : may = true → Deed1 S0 J0 J1 g caps c s s' w) :
    Calls Tryd.prog 51 #[v, .bool may, .func (.func g) #[] caps] w fun e w' => ∃ v', e = .returned (.tuple #[v', .int .i64 (if may then c else 270)]) ∧ OwS w.heap.size w' v' (if may && decide (c = 0) then s' else s) ∧ Mods S0 w w' ∧ (if may then ∃ C, w.heap.size ≤ C ∧ J1 C w' else J0 w') := by
  have HO := Lib.hid (fun W (hM : Mods S0 w W) => own_S v s W (hkeep W hM) (by omega))
  obtain ⟨ov, rfl, hr⟩ := hv
  have HS0 := Lib.hid hS0
  have Hs0 := Lib.hid hs0
  have HG := Lib.hid hG
  obtain ⟨so, hso⟩ : ∃ x, (if (may && decide (c = 0)) = true then s' else s) = x := ⟨_, rfl⟩
  rw [hso]
  have Hso := Lib.hid hso
  clear hso
  unfold St.cs at HO ⊢
  obtain ⟨W1, B, C, hW, hB, hC, rB, rC, hN1, hz⟩ := pair_rows w #[.int .i64 s.id, .int .u8 s.state, .int .i64 s.send, .int .i64 s.recv, .int .i64 s.owed, .bool s.ans, .bool s.ends, ov, .int .u8 s.urg, .bool s.inc, .int .i64 s.slot] #[.int .i64 0, .int .u8 0, .int .i64 0, .int .i64 0, .int .i64 0, .bool false, .bool false, .slice none 0 0, .int .u8 0, .bool false, .int .i64 0] 24 24
  have HJ1 : Hid (J0 W1) := Lib.hid (hs0.1 _ _ hJ hN1)
  have hM1 : Mods S0 w W1 := Mods.ofNew hN1
  have Hs1 := Lib.hid (hs1 C (by omega))
  clear hr hkeep hS0 hs0 hs1 hJ hG
  go_enter Tryd.func51, Tryd.ntmps51
  go_upto_region 1 with fail
  clear hW
  cases may with
  | false =>
    refine wp_scope_fwd 0 (fun a W => (a.tmps.size = 21 ∧ a.defers = [] ∧ a.tmps.getD 3 undef = .pointer (some ⟨B, 0, none⟩) ∧ a.tmps.getD 6 undef = .pointer (some ⟨C, 0, none⟩) ∧ a.tmps.getD 7 undef = .int .i64 270) ∧ W.heap[B]? = some (.cells #[.int .i64 s.id, .int .u8 s.state, .int .i64 s.send, .int .i64 s.recv, .int .i64 s.owed, .bool s.ans, .bool s.ends, ov, .int .u8 s.urg, .bool s.inc, .int .i64 s.slot] 24 (0, 0)) ∧ (∃ c', W.heap[C]? = some (.cells (List.toArray c') 24 (0, 0)) ∧ c'.length = 11) ∧ Mods S0 w W ∧ J0 W) rfl ?first ?pass
    case pass =>
      rintro ⟨z, dfs⟩ W ⟨⟨hs, hd, hq3, hq6, hq7⟩, rBW, ⟨c', rCW, hc'⟩, hMW, hJW⟩
      simp only at hs hd hq3 hq6 hq7
      subst hd
      obtain ⟨u, rfl⟩ := lit21 z hs
      have hp3 : u 3 = _ := hq3
      have hp6 : u 6 = _ := hq6
      have hp7 : u 7 = _ := hq7
      rw [hp3, hp6, hp7]
      clear hp3 hp6 hp7 hq3 hq6 hq7 hs
      go_wp2_with (refine op_value rfl (run_load_row 24 (.tmp 3) rfl B rfl 24 #[.int .i64 s.id, .int .u8 s.state, .int .i64 s.send, .int .i64 s.recv, .int .i64 s.owed, .bool s.ans, .bool s.ends, ov, .int .u8 s.urg, .bool s.inc, .int .i64 s.slot] (0, 0) _ rBW Tryd.underlying24 rfl info24) ?_)
      refine (HO.out _ hMW).mono ?_
      rintro e Wx ⟨v9, rfl, ⟨ov9, rfl, hO9⟩, hk9⟩
      have rB9 := hk9.heap rBW id
      have rC9 := hk9.heap rCW id
      have hJ9 : J0 Wx := Hs0.out.1 _ _ hJW hk9
      have hM9 := (hMW).trans (Mods.ofNew hk9)
      have hone9 := cs_one s hO9.one
      go_wp2_with (refine op_skip rfl (run_store_row 24 (.tmp 6) (.tmp 19) rfl C rfl 24 c' (s.cs ov9) rfl rC9 info24 (by rw [hc']; rfl) hone9) ?_)
      have rC10 := setRow_heap _ C _ (s.cs ov9).toArray 24 (0, 0) rC9
      have hO10 : OwB w.heap.size (Wx.setRow C (s.cs ov9).toArray) ov9 s.out := (hO9.mono (hMW).size).setRow rC9 (by decide)
      have hJ10 : J0 (Wx.setRow C (s.cs ov9).toArray) := Hs0.out.2 _ C _ _ hJ9 rC9 (by omega)
      rw [Exit.noGoto_ret]
      refine bodyPost_ret (v := .tuple #[.agg (s.cs ov9).toArray, .int .i64 270]) (results_row2 rfl _ _ C 24 _ (0, 0) _ rfl rC10 Tryd.underlying24 rfl info24 rfl) rfl ?_
      obtain rfl : s = so := by rw [← Hso.out]; rfl
      exact ⟨_, rfl, ⟨ov9, rfl, hO10⟩, hM9.setRow (by omega) _, hJ10⟩
    case first =>
      go_wp2_with (refine op_value rfl (run_load_row 24 (.tmp 3) rfl B rfl 24 #[.int .i64 s.id, .int .u8 s.state, .int .i64 s.send, .int .i64 s.recv, .int .i64 s.owed, .bool s.ans, .bool s.ends, ov, .int .u8 s.urg, .bool s.inc, .int .i64 s.slot] (0, 0) _ rB Tryd.underlying24 rfl info24) ?_)
      refine (HO.out _ hM1).mono ?_
      rintro e W2 ⟨v1, rfl, ⟨ov1, rfl, hO1⟩, hk1⟩
      have rB2 := hk1.heap rB id
      have rC2 := hk1.heap rC id
      have hJ2 : J0 W2 := Hs0.out.1 _ _ HJ1.out hk1
      have hM2 := hM1.trans (Mods.ofNew hk1)
      have hN2 := hN1.trans hk1
      have hone1 := cs_one s hO1.one
      have rC3 := setRow_heap W2 C _ (s.cs ov1).toArray 24 (0, 0) rC2
      have rB3 := (mods_setRow rC2 (s.cs ov1).toArray).heap rB2 (show B ≠ C by omega)
      have hJ3 : J0 (W2.setRow C (s.cs ov1).toArray) := Hs0.out.2 _ C _ _ hJ2 rC2 (by omega)
      have hM3 := hM2.setRow (show w.heap.size ≤ C by omega) (s.cs ov1).toArray
      have hN3 := hN2.setRow (show w.heap.size ≤ C by omega) (s.cs ov1).toArray
      have hO3 : OwB w.heap.size (W2.setRow C (s.cs ov1).toArray) ov1 s.out := (hO1.mono hM1.size).setRow rC2 (by decide)
      have HO3 := Lib.hid hO3
      clear hO3 hO1
      go_upto_region 2 with (refine op_skip rfl (run_store_row 24 (.tmp 6) (.tmp 9) rfl C rfl 24 [.int .i64 0, .int .u8 0, .int .i64 0, .int .i64 0, .int .i64 0, .bool false, .bool false, .slice none 0 0, .int .u8 0, .bool false, .int .i64 0] (s.cs ov1) rfl rC2 info24 rfl hone1) ?_)
      go_wp2_with fail
      exact wp_goto (And.intro rfl ⟨⟨rfl, rfl, rfl, rfl, rfl⟩, rB3, ⟨_, rC3, rfl⟩, hM3, hJ3⟩)
  | true =>
    refine wp_scope_fwd 0 (fun a W => False) rfl ?first ?pass
    case pass => exact fun a W h => h.elim
    case first =>
      go_wp2_with (refine op_value rfl (run_load_row 24 (.tmp 3) rfl B rfl 24 #[.int .i64 s.id, .int .u8 s.state, .int .i64 s.send, .int .i64 s.recv, .int .i64 s.owed, .bool s.ans, .bool s.ends, ov, .int .u8 s.urg, .bool s.inc, .int .i64 s.slot] (0, 0) _ rB Tryd.underlying24 rfl info24) ?_)
      refine (HO.out _ hM1).mono ?_
      rintro e W2 ⟨v1, rfl, ⟨ov1, rfl, hO1⟩, hk1⟩
      have rB2 := hk1.heap rB id
      have rC2 := hk1.heap rC id
      have hJ2 : J0 W2 := Hs0.out.1 _ _ HJ1.out hk1
      have hM2 := hM1.trans (Mods.ofNew hk1)
      have hN2 := hN1.trans hk1
      have hone1 := cs_one s hO1.one
      have rC3 := setRow_heap W2 C _ (s.cs ov1).toArray 24 (0, 0) rC2
      have rB3 := (mods_setRow rC2 (s.cs ov1).toArray).heap rB2 (show B ≠ C by omega)
      have hJ3 : J0 (W2.setRow C (s.cs ov1).toArray) := Hs0.out.2 _ C _ _ hJ2 rC2 (by omega)
      have hM3 := hM2.setRow (show w.heap.size ≤ C by omega) (s.cs ov1).toArray
      have hN3 := hN2.setRow (show w.heap.size ≤ C by omega) (s.cs ov1).toArray
      have hO3 : OwB w.heap.size (W2.setRow C (s.cs ov1).toArray) ov1 s.out := (hO1.mono hM1.size).setRow rC2 (by decide)
      have HO3 := Lib.hid hO3
      clear hO3 hO1
      go_upto_region 2 with (refine op_skip rfl (run_store_row 24 (.tmp 6) (.tmp 9) rfl C rfl 24 [.int .i64 0, .int .u8 0, .int .i64 0, .int .i64 0, .int .i64 0, .bool false, .bool false, .slice none 0 0, .int .u8 0, .bool false, .int .i64 0] (s.cs ov1) rfl rC2 info24 rfl hone1) ?_)
      go_wp2_with fail
      refine (HG.out (by first | rfl | trivial) _ C ov1 rC3 HO3.out (by omega) hN3 hJ3).mono ?_
      rintro e W4 ⟨rfl, hM4, hK4, hJ4, c', rC4, hc4, hgood⟩
      have rB4 := hK4.heap rB3 (by
        rintro (h | h | h)
        · have := HS0.out _ h; omega
        · omega
        · exact owB_ne HO3.out rB3 (by decide) h)
      by_cases hc : c = 0
      · subst hc
        obtain ⟨ov2, rfl, hO4⟩ := hgood rfl
        have hone4 := cs_one s' hO4.one
        have HO4 := Lib.hid hO4
        clear hgood hO4 rB rC rB2 rC2 rB3 rC3 hK4
        go_upto_region 6 with fail
        go_wp2_with (first | (refine op_value rfl (run_load_row 24 (.tmp 6) rfl C rfl 24 (s'.cs ov2).toArray (0, 0) _ rC4 Tryd.underlying24 rfl info24) ?_) | (refine op_skip rfl (run_store_row 24 (.tmp 6) (.tmp 16) rfl C rfl 24 (s'.cs ov2) (s'.cs ov2) rfl rC4 info24 rfl hone4) ?_))
        rw [setRow_same rC4]
        simp only [Exit.jump]
        refine bodyPost_ret (v := .tuple #[.agg (s'.cs ov2).toArray, .int .i64 0]) (results_row2 rfl _ _ C 24 _ (0, 0) _ rfl rC4 Tryd.underlying24 rfl info24 rfl) rfl ?_
        obtain rfl : s' = so := by rw [← Hso.out]; rfl
        exact ⟨_, rfl, ⟨ov2, rfl, HO4.out⟩, hM4, ⟨C, by omega, hJ4⟩⟩
      · have e1 : decide (c = 0) = false := decide_eq_false hc
        have e2 : (c == 0) = false := e1
        clear hgood rB rC rB2 rC2 rB3 rC3 hK4
        go_wp2_with fail
        refine wp_label ?_
        go_wp2_with (refine op_value rfl (run_load_row 24 (.tmp 3) rfl B rfl 24 #[.int .i64 s.id, .int .u8 s.state, .int .i64 s.send, .int .i64 s.recv, .int .i64 s.owed, .bool s.ans, .bool s.ends, ov, .int .u8 s.urg, .bool s.inc, .int .i64 s.slot] (0, 0) _ rB4 Tryd.underlying24 rfl info24) ?_)
        refine (HO.out _ hM4).mono ?_
        rintro e Wx ⟨v9, rfl, ⟨ov9, rfl, hO9⟩, hk9⟩
        have rB9 := hk9.heap rB4 id
        have rC9 := hk9.heap rC4 id
        have hJ9 : J1 C Wx := Hs1.out.1 _ _ hJ4 hk9
        have hM9 := (hM4).trans (Mods.ofNew hk9)
        have hone9 := cs_one s hO9.one
        go_wp2_with (refine op_skip rfl (run_store_row 24 (.tmp 6) (.tmp 19) rfl C rfl 24 c' (s.cs ov9) rfl rC9 info24 (by rw [hc4]; rfl) hone9) ?_)
        have rC10 := setRow_heap _ C _ (s.cs ov9).toArray 24 (0, 0) rC9
        have hO10 : OwB w.heap.size (Wx.setRow C (s.cs ov9).toArray) ov9 s.out := (hO9.mono (hM4).size).setRow rC9 (by decide)
        have hJ10 : J1 C (Wx.setRow C (s.cs ov9).toArray) := Hs1.out.2 _ _ _ hJ9 rC9
        simp only [Exit.jump]
        refine bodyPost_ret (v := .tuple #[.agg (s.cs ov9).toArray, .int .i64 c]) (results_row2 rfl _ _ C 24 _ (0, 0) _ rfl rC10 Tryd.underlying24 rfl info24 rfl) rfl ?_
        obtain rfl : s = so := by rw [← Hso.out, e1]; rfl
        exact ⟨_, rfl, ⟨ov9, rfl, hO10⟩, hM9.setRow (by omega) _, ⟨C, by omega, hJ10⟩⟩
end Go.Proofs.YtkjghojdfjhhkaaDoor
