/- RequestNeeds: plain. -/
import Derived.Test.YtkjghojdfjhhkaaDoorM09
import Derived.Test.YtkjghojdfjhhkaaDoorM19
set_option linter.unusedSimpArgs false
set_option linter.unusedVariables false
namespace Go.Proofs.YtkjghojdfjhhkaaDoor
open Go.RowKit Go.Cs
def fA : Fd := ⟨⟨#[97]⟩, bNo⟩
theorem headN_app : ∀ (H M : List Fd), (∀ p ∈ H, pseudoB p.name = true) → headN (H ++ M) = H.length + headN M
  | [], M, _ => by simp
  | p :: H, M, h => by
    rw [List.cons_append, headN, if_pos (h p (List.mem_cons_self ..)), headN_app H M (fun q hq => h q (List.mem_cons_of_mem _ hq)), List.length_cons]
    omega
theorem headN_pseudo : ∀ (L : List Fd), ∀ p ∈ L.take (headN L), pseudoB p.name = true
  | [], p, h => by simp at h
  | f :: l, p, h => by
    rw [headN] at h
    split at h
    · next hf =>
      rw [List.take_succ_cons] at h
      rcases List.mem_cons.1 h with rfl | h
      · exact hf
      · exact headN_pseudo l p h
    · simp at h
theorem headN_le : ∀ L : List Fd, headN L ≤ L.length
  | [] => Nat.le_refl _
  | f :: l => by
    rw [headN]
    have := headN_le l
    split
    · simp; omega
    · simp
theorem headN_drop : ∀ L : List Fd, headN (L.drop (headN L)) = 0
  | [] => rfl
  | f :: l => by
    by_cases hf : pseudoB f.name = true
    · rw [headN, if_pos hf, List.drop_succ_cons]
      exact headN_drop l
    · have e : headN (f :: l) = 0 := by rw [headN, if_neg hf]
      rw [e, List.drop_zero, e]
theorem headN_tail {rest : List Fd} (f : Fd) (h : headN rest = 0) : headN (rest ++ [fA, f]) = 0 := by
  cases rest with
  | nil => rfl
  | cons p t =>
    rw [headN] at h
    rw [List.cons_append, headN]
    split at h
    · omega
    · next hf => rw [if_neg hf]
/-- The answer by head and rest. -/
theorem refOf_app {H rest : List Fd} (hp : ∀ p ∈ H, pseudoB p.name = true) (hr : headN rest = 0) :
    (ofR (H ++ rest)).isSome = (!(badRef H rest) && H.all fun f => valueB f.val.data.toList) := by
  rw [← refOf_eq]
  unfold refOf
  rw [headN_app H rest hp, hr, Nat.add_zero, List.take_left, List.drop_left]
  cases badRef H rest <;> cases H.all (fun f => valueB f.val.data.toList) <;> rfl
theorem cntN_app (A B : List Fd) (n : ByteArray) : cntN (A ++ B) n = cntN A n + cntN B n := by
  unfold cntN
  rw [List.filter_append, List.length_append]
theorem cntN_cons (f : Fd) (B : List Fd) (n : ByteArray) : cntN (f :: B) n = (if f.name = n then 1 else 0) + cntN B n := by
  unfold cntN
  rw [List.filter_cons]
  by_cases h : f.name = n <;> simp [h]
  omega
theorem cntN_le (A : List Fd) (n : ByteArray) : cntN A n ≤ A.length := List.length_filter_le ..
theorem known_le : ∀ A : List Fd, cntN A nMethod + cntN A nScheme + cntN A nPath + cntN A nAuth ≤ A.length := fun A => by
  have := cnt_sum A
  obtain ⟨c0, c1, c2, c3⟩ := cnt_eq A
  omega
theorem valN_skip {A B : List Fd} {f : Fd} {n : ByteArray} (h : f.name ≠ n) : valN (A ++ f :: B) n = valN (A ++ B) n := by
  unfold valN
  rw [List.find?_append, List.find?_append, List.find?_cons]
  simp [h]
theorem names_ne : nMethod ≠ nScheme ∧ nMethod ≠ nPath ∧ nMethod ≠ nAuth ∧ nScheme ≠ nPath ∧ nScheme ≠ nAuth ∧ nPath ≠ nAuth := by decide
theorem pseudo_first {n : ByteArray} (h : pseudoB n = true) : ∃ t, n.data.toList = 58 :: t := by
  unfold pseudoB at h
  cases hl : n.data.toList with
  | nil => rw [hl] at h; cases h
  | cons a t =>
    rw [hl] at h
    have : a = 58 := by
      unfold Lib.hasPrefix at h
      simp [List.isPrefixOf] at h
      exact h.symm
    exact ⟨t, by rw [this]⟩
theorem pseudo_not_plain {f : Fd} (h : pseudoB f.name = true) : plainF f = false := by
  obtain ⟨t, ht⟩ := pseudo_first h
  unfold plainF
  rw [if_neg]
  · have : nameB f.name.data.toList = false := by
      rw [ht]
      rfl
    rw [this]
    simp
  · intro e
    rw [e] at ht
    cases ht
theorem needs_plain {L : List Fd} {r : Rq} (h : ofR L = some r) : ∃ k, 1 ≤ k ∧ k ≤ L.length ∧ r.fields = L.drop k ∧ ∀ i, i < k →
    (ofR (L.take i ++ L.drop (i + 1))).isSome = decide ((L.getD i .no).name = nAuth) ∧ ofR (L.getD i .no :: L) = none ∧ ofR ((L.take i ++ L.drop (i + 1)) ++ [fA, L.getD i .no]) = none := by
  have hle := headN_le L
  have hps := headN_pseudo L
  have hdr := headN_drop L
  have h1 := h
  rw [← refOf_eq] at h1
  unfold refOf at h1
  obtain ⟨k, hk⟩ : ∃ k, headN L = k := ⟨_, rfl⟩
  rw [hk] at hle hps hdr h1
  cases hbad : badRef (L.take k) (L.drop k) with
  | true => rw [hbad, if_pos rfl] at h1; cases h1
  | false =>
  rw [hbad, if_neg (by simp)] at h1
  cases hall : (L.take k).all (fun f => valueB f.val.data.toList) with
  | false => rw [hall, if_neg (by simp)] at h1; cases h1
  | true =>
  rw [hall, if_pos rfl] at h1
  have hf : r.fields = L.drop k := by cases h1; rfl
  have hk1 : 1 ≤ k := by
    rcases Nat.eq_zero_or_pos k with h | h
    · subst h
      simp [badRef, cntN] at hbad
    · exact h
  refine ⟨k, hk1, hle, hf, fun i hi => ?_⟩
  obtain ⟨f, hfi⟩ : ∃ f, L.getD i .no = f := ⟨_, rfl⟩
  rw [hfi]
  obtain ⟨A, B, rest, hL, hH, hR, hless⟩ : ∃ A B rest, L = (A ++ f :: B) ++ rest ∧ L.take k = A ++ f :: B ∧ L.drop k = rest ∧ L.take i ++ L.drop (i + 1) = (A ++ B) ++ rest := by
    have hgi : L[i]? = some f := by
      rw [List.getD_eq_getElem?_getD, List.getElem?_eq_getElem (by omega)] at hfi
      rw [List.getElem?_eq_getElem (by omega)]
      exact congrArg some hfi
    have hd : L.drop i = f :: L.drop (i + 1) := by
      rw [List.drop_eq_getElem_cons (by omega)]
      rw [List.getElem?_eq_getElem (by omega)] at hgi
      rw [Option.some.inj hgi]
    have hk1 : L.drop k = (L.drop (i + 1)).drop (k - (i + 1)) := by rw [List.drop_drop]; congr 1; omega
    refine ⟨L.take i, (L.drop (i + 1)).take (k - (i + 1)), L.drop k, ?_, ?_, rfl, ?_⟩
    · rw [List.append_assoc, List.cons_append, hk1, List.take_append_drop, ← hd, List.take_append_drop]
    · have e : k = i + (1 + (k - (i + 1))) := by omega
      conv => lhs; rw [e, List.take_add, hd, Nat.add_comm 1, List.take_succ_cons]
    · rw [List.append_assoc, hk1, List.take_append_drop]
  rw [hH] at hbad hall hps
  rw [hR] at hbad hdr
  rw [hless, hL]
  clear hL hH hR hless hfi hi hle hf h1 h hk
  have hpA : ∀ p ∈ A ++ B, pseudoB p.name = true := fun p hp => hps p (by
    rcases List.mem_append.1 hp with h | h
    · exact List.mem_append_left _ h
    · exact List.mem_append_right _ (List.mem_cons_of_mem _ h))
  have hpf : pseudoB f.name = true := hps f (List.mem_append_right _ (List.mem_cons_self ..))
  have hallA : (A ++ B).all (fun f => valueB f.val.data.toList) = true := by
    rw [List.all_append, List.all_cons, Bool.and_eq_true, Bool.and_eq_true] at hall
    rw [List.all_append, hall.1, hall.2.2]
    rfl
  obtain ⟨n1, n2, n3, n4, n5, n6⟩ := names_ne
  unfold badRef at hbad
  simp only [Bool.or_eq_false_iff, decide_eq_false_iff_not, Decidable.not_not, Bool.not_eq_false'] at hbad
  obtain ⟨b1, b2, b3, b4, b5, b6, b7, b8⟩ := hbad
  rw [cntN_app, cntN_cons] at b1 b2 b3 b4 b5
  simp only [cntN_app, cntN_cons, List.length_append, List.length_cons] at b1
  have kA := known_le A
  have kB := known_le B
  have hknown : f.name = nMethod ∨ f.name = nScheme ∨ f.name = nPath ∨ f.name = nAuth := by
    rcases Classical.em (f.name = nMethod) with h | h
    · exact .inl h
    rcases Classical.em (f.name = nScheme) with h2 | h2
    · exact .inr (.inl h2)
    rcases Classical.em (f.name = nPath) with h3 | h3
    · exact .inr (.inr (.inl h3))
    rcases Classical.em (f.name = nAuth) with h4 | h4
    · exact .inr (.inr (.inr h4))
    · rw [if_neg h, if_neg h2, if_neg h3, if_neg h4] at b1
      omega
  have isN : ∀ {o : Option Rq}, o.isSome = false → o = none := fun {o} h => by cases o <;> simp_all
  have hfn := pseudo_not_plain hpf
  refine ⟨?_, isN ?_, isN ?_⟩
  · rw [refOf_app hpA hdr, hallA, Bool.and_true]
    by_cases ha : f.name = nAuth
    · rw [decide_eq_true ha]
      have m0 : f.name ≠ nMethod := fun h => n3 (h.symm.trans ha)
      have m1 : f.name ≠ nScheme := fun h => n5 (h.symm.trans ha)
      have m2 : f.name ≠ nPath := fun h => n6 (h.symm.trans ha)
      rw [valN_skip m0] at b6
      rw [valN_skip m2] at b7
      rw [if_neg m0, if_neg m1, if_neg m2, if_pos ha] at b1
      rw [if_neg m0] at b2
      rw [if_neg m1] at b3
      rw [if_neg m2] at b4
      rw [if_pos ha] at b5
      have : badRef (A ++ B) rest = false := by
        unfold badRef
        simp only [Bool.or_eq_false_iff, decide_eq_false_iff_not, Decidable.not_not, Bool.not_eq_false', cntN_app, List.length_append]
        exact ⟨by omega, by omega, by omega, by omega, by omega, b6, b7, b8⟩
      rw [this]
      rfl
    · rw [decide_eq_false ha]
      have : badRef (A ++ B) rest = true := by
        unfold badRef
        simp only [Bool.or_eq_true, decide_eq_true_eq, cntN_app]
        rcases hknown with h | h | h | h
        · right; left; rw [if_pos h] at b2; omega
        · right; right; left; rw [if_pos h] at b3; omega
        · right; right; right; left; rw [if_pos h] at b4; omega
        · exact absurd h ha
      rw [this]
      rfl
  · have hp2 : ∀ p ∈ f :: (A ++ f :: B), pseudoB p.name = true := fun p hp => by
      rcases List.mem_cons.1 hp with rfl | h
      · exact hpf
      · exact hps p h
    rw [← List.cons_append, refOf_app hp2 hdr]
    have : badRef (f :: (A ++ f :: B)) rest = true := by
      unfold badRef
      simp only [Bool.or_eq_true, decide_eq_true_eq, cntN_app, cntN_cons]
      rcases hknown with h | h | h | h
      · right; left; simp only [if_pos h] at b2 ⊢; omega
      · right; right; left; simp only [if_pos h] at b3 ⊢; omega
      · right; right; right; left; simp only [if_pos h] at b4 ⊢; omega
      · right; right; right; right; left; simp only [if_pos h] at b5 ⊢; omega
    rw [this]
    rfl
  · have hr2 := headN_tail f hdr
    rw [List.append_assoc, refOf_app hpA hr2]
    have ht : trailersB (rest ++ [fA, f]) = false := by
      unfold trailersB
      rw [List.all_append]
      simp [hfn]
    have : badRef (A ++ B) (rest ++ [fA, f]) = true := by
      unfold badRef
      rw [ht]
      simp
    rw [this]
    rfl
end Go.Proofs.YtkjghojdfjhhkaaDoor
/- RequestNeeds: lists joined; the list without one. -/
namespace Go.Proofs.YtkjghojdfjhhkaaDoor
open Go.RowKit Go.Shelf Go.Cs
attribute [local go_sem] Oper.semAt_some
/-- A list's cells. -/
def flat (L : List Fd) : List Value := flatF L.length (fun i => (L.getD i .no).cs)
theorem flat_cons (p : Fd) (L : List Fd) : flat (p :: L) = p.cs ++ flat L := flatF_cons p L
theorem flat_app : ∀ A B : List Fd, flat (A ++ B) = flat A ++ flat B
  | [], B => rfl
  | p :: A, B => by rw [List.cons_append, flat_cons, flat_cons, flat_app A B, List.append_assoc]
theorem flat_len (L : List Fd) : (flat L).length = L.length * 2 := flatF_len (sz := 2) (fun i => rfl) L.length
def OwR (base : Nat) (W : World) (v : Value) (L : List Fd) : Prop := W.ownsRow base 54 2 v L.length (flat L)
theorem OwR.reads {base : Nat} {W : World} {v : Value} {L : List Fd} (h : OwR base W v L) (hl : L.length ≤ 2000000) : OwnL base W v L ∧ CapOk v := own_reads h hl
theorem OwR.lt {base : Nat} {W : World} {v : Value} {L : List Fd} (h : OwR base W v L) : ∀ g, v.ownBlock = some g → base ≤ g ∧ g < W.heap.size := fun g hg => World.ownsRow.lt h g hg
theorem OwR.new {base : Nat} {W W' : World} {v : Value} {L : List Fd} (h : OwR base W v L) (hN : New W W') : OwR base W' v L := Mods.ownsRow hN h (fun _ _ h => h)
theorem OwR.nil (W : World) : OwR W.heap.size (W.alloc (.cells #[] 54)) (.slice (some ⟨W.heap.size, 0, none⟩) 0 0) [] :=
  ⟨rfl, .inr ⟨W.heap.size, 0, _, rfl, Nat.le_refl _, World.alloc_heap_new W _, Nat.le_refl _, by unfold maxLen; omega, rfl, rfl⟩⟩
theorem OwR.ones {W : World} (L : List Fd) (hl : L.length ≤ 1000000) : OwR W.heap.size (W.alloc (.cells (flat L).toArray 54)) (.slice (some ⟨W.heap.size, 0, none⟩) L.length L.length) L :=
  ⟨flat_len L, .inr ⟨W.heap.size, L.length, _, rfl, Nat.le_refl _, World.alloc_heap_new W _, Nat.le_refl _, by unfold maxLen; omega, by simp [flat_len], by rw [List.toList_toArray, List.take_of_length_le (by rw [flat_len]; exact Nat.le_refl _)]⟩⟩
theorem ReadsL.flat {W : World} {ao : Option Addr} {n cap : Nat} {L : List Fd} (h : ReadsL W (.slice ao n cap) L) : (ao = none → L = []) ∧ ∀ a, ao = some a → ∀ j u, (flat L)[j]? = some u → W.cell? (a.add j) = some u := by
  obtain ⟨hl, hn⟩ := h.len
  subst hl
  have hc := (show ReadsF W (.slice ao L.length cap) L.length 2 (fun i => (L.getD i .no).cs) from h).cells (sz := 2) (by decide) (fun i => rfl)
  exact ⟨fun e => List.length_eq_zero_iff.1 (hc.1 e), hc.2⟩
/-- An append of a list to a list of the call's own. -/
theorem run_append_L {o : Oper} {a : Act} {w : World} {s x : Operand} {base : Nat} {v xv : Value} {A B : List Fd} (hop : o.op = .call { callee := .builtin .append, args := #[s, x], argTypes := #[25, 25] })
    (hs : a.eval s = v) (hx : a.eval x = xv) (hown : OwR base w v A) (hB : ReadsL w xv B) (hc : CapOk xv) (hn : A.length + B.length ≤ 1000000) (hbase : base ≤ w.heap.size) :
    ∃ v' w', (execOp a.eval o).run Tryd.prog w = .ok (.value v') w' ∧ OwR base w' v' (A ++ B) ∧ w.grownBy w' v.ownBlock := by
  obtain ⟨ao, cap, rfl⟩ := hB.slice
  obtain ⟨h1, h2⟩ := hB.flat
  obtain ⟨i0, hi, hz0, hz1, hz2⟩ := info_parts info54'
  cases ao with
  | none =>
    obtain rfl := h1 rfl
    obtain ⟨-, h0⟩ := hc _ _ _ rfl
    obtain rfl : cap = 0 := h0 rfl
    have hr := run_append_owned_none (P := Tryd.prog) (w := w) base 25 o.type 54 i0 2 Tryd.underlying25 hi v A.length (flat A) hown
    refine ⟨v, w, ?_, by rw [List.append_nil]; exact hown, ⟨rfl, rfl, rfl, Nat.le_refl _, fun _ _ _ => rfl⟩⟩
    simp [execOp, hop, resolve, invoke, builtin, hs, hx, hr, Result.andThen]
  | some ad =>
    obtain ⟨v', w', hr, ho, hg, -⟩ := run_append_own (P := Tryd.prog) w base 25 o.type 54 i0 _ 2 32 Tryd.underlying25 hi hz0 hz1 hz2 rfl (by decide) v A.length (flat A) hown ad B.length cap (flat B) (flat_len B) (h2 ad rfl) (flat_one B B.length) (by unfold maxLen; omega) (by omega) hbase
    refine ⟨v', w', ?_, ?_, hg⟩
    · simp [execOp, hop, resolve, invoke, builtin, hs, hx, hr, Result.andThen]
    · unfold OwR
      rw [List.length_append, flat_app]
      exact ho
/-- The same, in a region whose order is listed. -/
theorem wpList_append_L {ops : Array Oper} {Q : Exit → Act → World → Prop} {rest : List Oper} {o : Oper} {a : Act} {w : World} (s x : Operand) {base : Nat} {v xv : Value} {A B : List Fd} (hgd : o.guard = none) (hop : o.op = .call { callee := .builtin .append, args := #[s, x], argTypes := #[25, 25] })
    (hs : a.eval s = v) (hx : a.eval x = xv) (hown : OwR base w v A) (hB : ReadsL w xv B) (hc : CapOk xv) (hn : A.length + B.length ≤ 1000000) (hbase : base ≤ w.heap.size)
    (h : ∀ v' w', OwR base w' v' (A ++ B) → w.grownBy w' v.ownBlock → wpList Tryd.prog ops Q rest (a.put o.dst v') w') : wpList Tryd.prog ops Q (o :: rest) a w := by
  refine wpList_plain hgd fun K hK => ?_
  obtain ⟨v', w', hr, ho, hg⟩ := run_append_L hop hs hx hown hB hc hn hbase
  unfold Oper.wp
  rw [hr]
  exact hK _ _ (h v' w' ho hg)
/-- The same, in a region that draws its order. -/
theorem wpOp_append_L {ops : Array Oper} {Q : Exit → Act → World → Prop} {i : Nat} {o : Oper} (d : Option Tmp) {a : Act} {w : World} {K : Act → World → Prop} (hi : ops[i]? = some o) (hw : Region.wanted o (yielded ops a.tmps) = true) (hd : o.dst = d) (s x : Operand) {base : Nat} {v xv : Value} {A B : List Fd} (hop : o.op = .call { callee := .builtin .append, args := #[s, x], argTypes := #[25, 25] })
    (hs : a.eval s = v) (hx : a.eval x = xv) (hown : OwR base w v A) (hB : ReadsL w xv B) (hc : CapOk xv) (hn : A.length + B.length ≤ 1000000) (hbase : base ≤ w.heap.size)
    (h : ∀ v' w', OwR base w' v' (A ++ B) → w.grownBy w' v.ownBlock → K (a.put d v') w') : wpOp Tryd.prog ops Q i K a w := by
  obtain ⟨v', w', hr, ho, hg⟩ := run_append_L hop hs hx hown hB hc hn hbase
  exact opH_value d hi hw hd hr (h v' w' ho hg)
theorem und25 : Tryd.prog.underlying 25 = some (.slice (Tryd.prog.elem 25)) := by kernel_rfl
theorem run_size54 (w : World) : (sizeOf (Tryd.prog.elem 25)).run Tryd.prog w = .ok 2 w := by
  rw [elem25]
  obtain ⟨i, hi1, hi2⟩ := Option.map_eq_some_iff.1 info54
  unfold sizeOf typeInfo
  simp [hi1, hi2, go_sem]
/-- The first ones of a list. -/
theorem run_prefix (w : World) (lo : Option Addr) (n cap i : Nat) (hi : i ≤ cap) : (Instr.slice 25 (.slice lo n cap) none (some (.int .i64 (i : Int))) none).run Tryd.prog w = .ok (.slice lo i cap) w := by
  rw [run_slice_h w 25 lo n cap und25 .i64 i (by omega) (by omega), run_size54]
  simp only [Result.andThen, sliced, Int.toNat_natCast, Nat.sub_zero, Nat.zero_mul]
  congr 1
  cases lo with
  | none => simp
  | some a => obtain ⟨b, o, sp⟩ := a; simp [Addr.add]
/-- And those behind. -/
theorem run_suffix (w : World) (lo : Option Addr) (n cap i : Nat) (hi : i ≤ n) : (Instr.slice 25 (.slice lo n cap) (some (.int .i64 (i : Int))) none none).run Tryd.prog w = .ok (.slice (if cap = i then lo else lo.map (·.add (i * 2))) (n - i) (cap - i)) w := by
  rw [run_slice_l w 25 lo n cap und25 .i64 i (by omega) (by omega), run_size54]
  simp only [Result.andThen, sliced, Int.toNat_natCast]
theorem ReadsL.firsts {W : World} {lo : Option Addr} {n cap : Nat} {L : List Fd} (h : ReadsL W (.slice lo n cap) L) {i : Nat} (hi : i ≤ n) : ReadsL W (.slice lo i cap) (L.take i) := by
  obtain ⟨hl, hn⟩ := h.len
  have hlen : (L.take i).length = i := by rw [List.length_take]; omega
  refine ⟨by rw [hlen]; omega, lo, cap, by rw [hlen], fun k hk => ?_⟩
  rw [hlen] at hk
  obtain ⟨_, lo', cap', e, hr⟩ := h
  cases e
  obtain ⟨b, o, e1, h1⟩ := hr k (by omega)
  refine ⟨b, o, e1, ?_⟩
  have e2 : (L.take i).getD k .no = L.getD k .no := by rw [List.getD_eq_getElem?_getD, List.getD_eq_getElem?_getD, List.getElem?_take, if_pos hk]
  show W.rangeAt b (o + k * 2) ((L.take i).getD k .no).cs
  rw [e2]
  exact h1
theorem suffix_reads {W : World} {lo : Option Addr} {n cap : Nat} {L : List Fd} (h : ReadsL W (.slice lo n cap) L) (hc : CapOk (.slice lo n cap)) {i : Nat} (hi : i ≤ n) : ReadsL W (.slice (if cap = i then lo else lo.map (·.add (i * 2))) (n - i) (cap - i)) (L.drop i) ∧ CapOk (.slice (if cap = i then lo else lo.map (·.add (i * 2))) (n - i) (cap - i)) := by
  obtain ⟨hl, hn⟩ := h.len
  obtain ⟨hcap, hnil⟩ := hc _ _ _ rfl
  constructor
  · by_cases hin : i < n
    · obtain ⟨b, o, rfl, -⟩ := h.at hin
      rw [if_neg (by omega)]
      have hd := h.drop hin
      rw [Option.map_some, Addr.add_mid]
      exact hd
    · have e : L.drop i = [] := List.drop_eq_nil_of_le (by omega)
      rw [e, show n - i = 0 by omega]
      exact ReadsL.nil _ _ _
  · intro ao' n' cap' e
    cases e
    refine ⟨by omega, fun hh => ?_⟩
    by_cases hci : cap = i
    · omega
    · rw [if_neg hci] at hh
      have : lo = none := by cases lo <;> simp_all
      have := hnil this
      omega
theorem lit102 (t : Array Value) (h : t.size = 102) : ∃ u : Nat → Value, t = (u 0 :: u 1 :: u 2 :: u 3 :: u 4 :: u 5 :: u 6 :: u 7 :: u 8 :: u 9 :: u 10 :: u 11 :: u 12 :: u 13 :: u 14 :: u 15 :: u 16 :: u 17 :: u 18 :: u 19 :: u 20 :: u 21 :: u 22 :: u 23 :: u 24 :: u 25 :: u 26 :: u 27 :: u 28 :: u 29 :: u 30 :: u 31 :: u 32 :: u 33 :: u 34 :: u 35 :: u 36 :: u 37 :: u 38 :: u 39 :: u 40 :: u 41 :: u 42 :: u 43 :: u 44 :: u 45 :: u 46 :: u 47 :: u 48 :: u 49 :: u 50 :: u 51 :: u 52 :: u 53 :: u 54 :: u 55 :: u 56 :: u 57 :: u 58 :: u 59 :: u 60 :: u 61 :: u 62 :: u 63 :: u 64 :: u 65 :: u 66 :: u 67 :: u 68 :: u 69 :: u 70 :: u 71 :: u 72 :: u 73 :: u 74 :: u 75 :: u 76 :: u 77 :: u 78 :: u 79 :: u 80 :: u 81 :: u 82 :: u 83 :: u 84 :: u 85 :: u 86 :: u 87 :: u 88 :: u 89 :: u 90 :: u 91 :: u 92 :: u 93 :: u 94 :: u 95 :: u 96 :: u 97 :: u 98 :: u 99 :: u 100 :: u 101 :: ([] : List Value)).toArray := ⟨fun i => t.getD i undef, range_lit t 102 h⟩
noncomputable def reg9_9 : Code := ((Tryd.f9.body.bind (regionOf 9)).getD .skip)
set_option maxHeartbeats 4000000 in
set_option maxRecDepth 100000 in
theorem less9 (t : Array Value) (hs : t.size = 102) (w : World) {lo : Option Addr} {ln lcap i : Nat} {L : List Fd} {p : Value}
    (hq0 : t.getD 0 undef = .slice lo ln lcap) (hq1 : t.getD 1 undef = .int .i64 (i : Int)) (hq8 : t.getD 8 undef = p)
    (hL : ReadsL w (.slice lo ln lcap) L) (hc : CapOk (.slice lo ln lcap)) (hi : i < ln) (hln : ln ≤ 140) :
    reg9_9.wp Tryd.prog (Only fun a' W' => ∃ v, (a'.tmps.size = 102 ∧ a'.defers = [] ∧ a'.tmps.getD 0 undef = .slice lo ln lcap ∧ a'.tmps.getD 8 undef = p ∧ a'.tmps.getD 9 undef = v) ∧ OwR w.heap.size W' v (L.take i ++ L.drop (i + 1)) ∧ New w W') ⟨t, []⟩ w := by
  conv => arg 2; whnf
  obtain ⟨u, rfl⟩ := lit102 t hs
  have hq0 : u 0 = .slice lo ln lcap := hq0
  have hq1 : u 1 = .int .i64 (i : Int) := hq1
  have hq8 : u 8 = p := hq8
  rw [hq0, hq1, hq8]
  clear hq0 hq1 hq8 hs
  obtain ⟨hcap, hnil⟩ := hc _ _ _ rfl
  have hw1 : IntKind.i64.wrap ((i : Int) + 1) = (i : Int) + 1 := wrap_small (by omega) (by omega)
  have hsl1 := fun W => run_prefix W lo ln lcap i (by omega)
  have hsl2 : ∀ W, _ := fun W => run_suffix W lo ln lcap (i + 1) (by omega)
  obtain ⟨hd, hdc⟩ := suffix_reads hL hc (i := i + 1) (by omega)
  have htk := hL.firsts (i := i) (by omega)
  have htc : CapOk (.slice lo i lcap) := fun ao n cap e => by cases e; exact ⟨by omega, hnil⟩
  obtain ⟨y, hy⟩ : ∃ y, (Value.slice (if lcap = i + 1 then lo else lo.map (·.add ((i + 1) * 2))) (ln - (i + 1)) (lcap - (i + 1))) = y := ⟨_, rfl⟩
  rw [hy] at hd hdc
  simp only [hy] at hsl2
  clear hy
  have hcast : ((i + 1 : Nat) : Int) = (i : Int) + 1 := by omega
  simp only [hcast] at hsl2
  obtain ⟨hll, -⟩ := hL.len
  have hN0 : New w w.drew := (Mods.refl _ _).drew
  refine wp_region_held (by kernel_rfl) (S := fun W => Mods (fun _ => False) w W) ?_
  show wpAnyH _ _ _ _ _ _ _ _ w.drew
  have hS : Mods (fun _ => False) w w.drew := hN0
  obtain ⟨Wd, hWd⟩ : ∃ Wd, w.drew = Wd := ⟨_, rfl⟩
  rw [hWd] at hS ⊢
  clear hWd hN0
  refine anyH_take 1 (some 53) (.slice lo ln lcap) rfl rfl (by kernel_rfl) (by kernel_rfl) (by kernel_rfl) (fun _ _ _ h => h.elim) (.inl ⟨by rfl, fun W hW => by go_simp⟩) hS ?_
  simp only [Act.put, List.setIfInBounds_toArray, List.set_cons_succ, List.set_cons_zero]
  refine anyH_take 2 (some 54) (.int .i64 (i : Int)) rfl rfl (by kernel_rfl) (by kernel_rfl) (by kernel_rfl) (fun _ _ _ h => h.elim) (.inl ⟨by rfl, fun W hW => by go_simp⟩) hS ?_
  simp only [Act.put, List.setIfInBounds_toArray, List.set_cons_succ, List.set_cons_zero]
  refine anyH_take 3 (some 55) (.slice lo i lcap) rfl rfl (by kernel_rfl) (by kernel_rfl) (by kernel_rfl) (fun _ _ _ h => h.elim) (.inl ⟨by rfl, fun W hW => by go_simp⟩) hS ?_
  simp only [Act.put, List.setIfInBounds_toArray, List.set_cons_succ, List.set_cons_zero]
  refine anyH_take 5 (some 57) (.slice lo ln lcap) rfl rfl (by kernel_rfl) (by kernel_rfl) (by kernel_rfl) (fun _ _ _ h => h.elim) (.inl ⟨by rfl, fun W hW => by go_simp⟩) hS ?_
  simp only [Act.put, List.setIfInBounds_toArray, List.set_cons_succ, List.set_cons_zero]
  refine anyH_take 6 (some 58) (.int .i64 (i : Int)) rfl rfl (by kernel_rfl) (by kernel_rfl) (by kernel_rfl) (fun _ _ _ h => h.elim) (.inl ⟨by rfl, fun W hW => by go_simp⟩) hS ?_
  simp only [Act.put, List.setIfInBounds_toArray, List.set_cons_succ, List.set_cons_zero]
  refine anyH_take 7 (some 59) (.int .i64 ((i : Int) + 1)) rfl rfl (by kernel_rfl) (by kernel_rfl) (by kernel_rfl) (fun _ _ _ h => h.elim) (.inl ⟨by rfl, fun W hW => by go_simp⟩) hS ?_
  simp only [Act.put, List.setIfInBounds_toArray, List.set_cons_succ, List.set_cons_zero]
  refine anyH_take 8 (some 60) y rfl rfl (by kernel_rfl) (by kernel_rfl) (by kernel_rfl) (fun _ _ _ h => h.elim) (.inl ⟨by rfl, fun W hW => by go_simp⟩) hS ?_
  simp only [Act.put, List.setIfInBounds_toArray, List.set_cons_succ, List.set_cons_zero]
  refine wpAnyH_all (rs := [0]) (by kernel_rfl) (by simp) ?_
  simp only [List.mem_cons, List.not_mem_nil, or_false, forall_eq]
  refine opH_value (some 52) rfl (by rfl) rfl (v := .slice (some ⟨Wd.heap.size, 0, none⟩) 0 0) (w' := Wd.alloc (.cells #[] 54)) (by go_simp) ?_
  have hO0 := OwR.nil Wd
  have hS1 := hS.alloc (.cells #[] 54)
  refine ⟨hS1, ?_⟩
  simp only [Act.put, List.setIfInBounds_toArray, List.set_cons_succ, List.set_cons_zero]
  refine wpAnyH_all (rs := [4]) (by kernel_rfl) (by simp) ?_
  simp only [List.mem_cons, List.not_mem_nil, or_false, forall_eq]
  have hlt : (L.take i).length ≤ 140 := by rw [List.length_take]; omega
  have hld : (L.drop (i + 1)).length ≤ 140 := by rw [List.length_drop]; omega
  refine wpOp_append_L (some 56) rfl (by rfl) rfl (.tmp 52) (.tmp 55) rfl rfl rfl hO0 (htk.new hS1) htc (by rw [List.length_nil]; omega) (by simp) ?_
  intro v1 W1 hO1 hg1
  have hS2 : Mods (fun _ => False) w W1 := hS1.grown hg1 (fun k hk => by cases hk; exact .inl hS.size)
  refine ⟨hS2, ?_⟩
  simp only [Act.put, List.setIfInBounds_toArray, List.set_cons_succ, List.set_cons_zero]
  refine wpAnyH_all (rs := [9]) (by kernel_rfl) (by simp) ?_
  simp only [List.mem_cons, List.not_mem_nil, or_false, forall_eq]
  have hb1 : Wd.heap.size ≤ W1.heap.size := by have := hg1.size; simp at this; omega
  refine wpOp_append_L (some 61) rfl (by rfl) rfl (.tmp 56) (.tmp 60) rfl rfl rfl hO1 (hd.new hS2) hdc (by rw [List.nil_append]; omega) hb1 ?_
  intro v2 W2 hO2 hg2
  have hS3 : Mods (fun _ => False) w W2 := hS2.grown hg2 (fun k hk => by have := hO1.lt k hk; have := hS.size; exact .inl (by omega))
  refine ⟨hS3, ?_⟩
  simp only [Act.put, List.setIfInBounds_toArray, List.set_cons_succ, List.set_cons_zero]
  refine anyH_take 10 (some 9) v2 rfl rfl (by kernel_rfl) (by kernel_rfl) (by kernel_rfl) (fun _ _ _ h => h.elim) (.inl ⟨by rfl, fun W hW => by go_simp⟩) hS3 ?_
  simp only [Act.put, List.setIfInBounds_toArray, List.set_cons_succ, List.set_cons_zero]
  refine wpAnyH_done (by kernel_rfl) ?_ _
  rw [List.nil_append] at hO2
  exact ⟨v2, ⟨rfl, rfl, rfl, rfl, rfl⟩, owns_mono hO2 hS.size, hS3⟩
end Go.Proofs.YtkjghojdfjhhkaaDoor
