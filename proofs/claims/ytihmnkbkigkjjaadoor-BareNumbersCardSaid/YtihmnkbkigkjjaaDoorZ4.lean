/- The map of what each kind lets be; which items may be. -/
import Derived.Test.YtihmnkbkigkjjaaDoorZ3
namespace Go.Proofs.YtihmnkbkigkjjaaDoor
open Go.RowKit Go.Shelf Go.Cs
attribute [local go_sem] Oper.semAt_some
set_option linter.unusedVariables false
set_option linter.unusedSimpArgs false
def ent (k : Nat) (val : Value) (i : Nat) : MapEntry := { key := .int .u8 (k : Nat), val := val, born := i }
theorem findNow_none (k : Nat) : ∀ (l : List MapEntry) (i : Nat), (∀ e, e ∈ l → ∃ j : Nat, e.key = .int .u8 j ∧ j ≠ k) → Instr.findNow (.int .u8) (.int .u8 (k : Nat)) l i = some none
  | [], _, _ => rfl
  | e :: l, i, hl => by
    obtain ⟨j, hj, hne⟩ := hl e (by simp)
    have hb : ((k : Int) == (j : Int)) = false := by simp; omega
    simp only [Instr.findNow, hj, Instr.sameNow, if_true, hb]
    exact findNow_none k l _ fun e he => hl e (by simp [he])
theorem run_put (w : World) (B : Nat) (es : List MapEntry) (k : Nat) (val : Value) (h : w.heap[B]? = some (.map es.toArray es.length)) (hn : ∀ e, e ∈ es → ∃ j : Nat, e.key = .int .u8 j ∧ j ≠ k) :
    (Instr.mapUpdate 39 (.map (some B)) (.int .u8 (k : Nat)) val).run Tryd.prog w = .ok () (w.putObj B (.map (es ++ [ent k val es.length]).toArray (es.length + 1))) := by
  have hf := findNow_none k es 0 hn
  have hd : Tryd.prog.underlying 39 = some (.map 5 28) := Tryd.underlying39
  have hg := MapKept.run_getObj_map (P := Tryd.prog) h
  have hs := fun o => MapKept.run_setObj_map (P := Tryd.prog) o h
  have hc := MapKept.run_checkKey (P := Tryd.prog) (w := w) (k := .int .u8 (k : Nat)) Tryd.underlying5 rfl false 9999
  have hk := MapKept.run_findKey (P := Tryd.prog) (w := w) Tryd.underlying5 hf
  simp only [Instr.mapUpdate, Sem.run_bind, run_underlying hd w, Result.andThen_ok, hg, hc, hk, hs]
  simp [World.putObj, ent]
theorem run_look (w : World) (B : Nat) (es : List MapEntry) (c k i : Nat) (val : Value) (hne : es ≠ []) (h : w.heap[B]? = some (.map es.toArray c)) (hf : Instr.findNow (.int .u8) (.int .u8 (k : Nat)) es 0 = some (some (i, val))) :
    (Instr.lookup 39 (.map (some B)) (.int .u8 (k : Nat)) false).run Tryd.prog w = .ok val w := by
  have hd : Tryd.prog.underlying 39 = some (.map 5 28) := Tryd.underlying39
  have hg := MapKept.run_getObj_map (P := Tryd.prog) h
  have he : es.toArray.isEmpty = false := by simp [hne]
  have hc := MapKept.run_checkKey (P := Tryd.prog) (w := w) (k := .int .u8 (k : Nat)) Tryd.underlying5 rfl false 9999
  have hk := MapKept.run_findKey (P := Tryd.prog) (w := w) Tryd.underlying5 hf
  simp only [Instr.lookup, Sem.run_bind, run_underlying hd w, Result.andThen_ok, hg, Sem.run_pure, he, hc, hk]
  simp
theorem run_look_none (w : World) (B : Nat) (es : List MapEntry) (c k : Nat) (hne : es ≠ []) (h : w.heap[B]? = some (.map es.toArray c)) (hf : Instr.findNow (.int .u8) (.int .u8 (k : Nat)) es 0 = some none) :
    (Instr.lookup 39 (.map (some B)) (.int .u8 (k : Nat)) false).run Tryd.prog w = .ok .nilFunc w := by
  have hd : Tryd.prog.underlying 39 = some (.map 5 28) := Tryd.underlying39
  have hg := MapKept.run_getObj_map (P := Tryd.prog) h
  have he : es.toArray.isEmpty = false := by simp [hne]
  have hc := MapKept.run_checkKey (P := Tryd.prog) (w := w) (k := .int .u8 (k : Nat)) Tryd.underlying5 rfl false 9999
  have hk := MapKept.run_findKey (P := Tryd.prog) (w := w) Tryd.underlying5 hf
  have hz : (zeroValue 28).run Tryd.prog w = .ok .nilFunc w := by kernel_rfl
  simp only [Instr.lookup, Sem.run_bind, run_underlying hd w, Result.andThen_ok, hg, Sem.run_pure, he, hc, hk, hz]
  simp
theorem run_insert {o : Oper} {a : Act} {w : World} (m v : Operand) (k : Nat) (ho : o.op = .insert 39 m (.const (.int .u8 (k : Nat))) v) (B : Nat) (es : List MapEntry) (val : Value) (hm : a.eval m = .map (some B)) (hv : a.eval v = val)
    (h : w.heap[B]? = some (.map es.toArray es.length)) (hn : ∀ e, e ∈ es → ∃ j : Nat, e.key = .int .u8 j ∧ j ≠ k) :
    (execOp a.eval o).run Tryd.prog w = .ok .skip (w.putObj B (.map (es ++ [ent k val es.length]).toArray (es.length + 1))) := by
  have hp := run_put w B es k val h hn
  have hc : a.eval (.const (.int .u8 (k : Nat))) = .int .u8 (k : Nat) := rfl
  unfold execOp
  simp only [ho, hm, hv, hc, Sem.run_bind, hp]
  rfl
theorem put_same {w : World} {B : Nat} {o o' : Obj} (h : w.heap[B]? = some o) : (w.putObj B o').heap[B]? = some o' := World.putObj_heap_same (Array.getElem?_eq_some_iff.1 h).1
theorem boxed_put {w : World} {B b : Nat} {t : TypeId} {v : Value} (h : Boxed w b t v) (hne : b ≠ B) (o : Obj) : Boxed (w.putObj B o) b t v := (World.putObj_heap_other hne).trans h
abbrev numF : Value := fn 32
abbrev boolF : Value := fn 38
/-- What each kind lets be. -/
structure FitsAt (W : World) (M b3 b4 b5 : Nat) : Prop where
  map : W.heap[M]? = some (.map [ent 1 numF 0, ent 2 numF 1, ent 3 (clo b3) 2, ent 4 (clo b4) 3, ent 5 (clo b5) 4, ent 6 boolF 5].toArray 6)
  str : Boxed W b3 32 (fn 35)
  tok : Boxed W b4 32 (fn 13)
  byt : Boxed W b5 32 (fn 37)
theorem FitsAt.new {W W' : World} {M b3 b4 b5 : Nat} (h : FitsAt W M b3 b4 b5) (hN : New W W') : FitsAt W' M b3 b4 b5 :=
  ⟨hN.heap h.map id, hN.boxed h.str id, hN.boxed h.tok id, hN.boxed h.byt id⟩
set_option maxRecDepth 100000 in
set_option maxHeartbeats 2000000 in
theorem fits_any (w : World) : Calls Tryd.prog 17 #[] w fun e w' => ∃ M b3 b4 b5, e = .returned (.map (some M)) ∧ FitsAt w' M b3 b4 b5 ∧ New w w' := by
  have HP := Lib.hid fits2_any
  have hmm := @run_makeMap Tryd.prog
  go_enter Tryd.func17, Tryd.ntmps17
  go_upto_region 3 with fail
  obtain ⟨M, hM⟩ : ∃ M, w.heap.size = M := ⟨_, rfl⟩
  have m0 : (w.alloc (.map #[] 0)).heap[M]? = some (.map ([] : List MapEntry).toArray ([] : List MapEntry).length) := by rw [← hM]; exact World.alloc_heap_new w _
  have m1 : ((w.alloc (.map #[] 0)).putObj M (.map (([] : List MapEntry) ++ [ent 1 numF ([] : List MapEntry).length]).toArray (([] : List MapEntry).length + 1))).heap[M]? = some (.map ([ent 1 numF 0] : List MapEntry).toArray ([ent 1 numF 0] : List MapEntry).length) := put_same m0
  have m2 : (((w.alloc (.map #[] 0)).putObj M (.map (([] : List MapEntry) ++ [ent 1 numF ([] : List MapEntry).length]).toArray (([] : List MapEntry).length + 1))).putObj M (.map (([ent 1 numF 0] : List MapEntry) ++ [ent 2 numF ([ent 1 numF 0] : List MapEntry).length]).toArray (([ent 1 numF 0] : List MapEntry).length + 1))).heap[M]? = some (.map ([ent 1 numF 0, ent 2 numF 1] : List MapEntry).toArray ([ent 1 numF 0, ent 2 numF 1] : List MapEntry).length) := put_same m1
  have hMw : w.heap.size ≤ M := by omega
  have n2 : New w (((w.alloc (.map #[] 0)).putObj M (.map (([] : List MapEntry) ++ [ent 1 numF ([] : List MapEntry).length]).toArray (([] : List MapEntry).length + 1))).putObj M (.map (([ent 1 numF 0] : List MapEntry) ++ [ent 2 numF ([ent 1 numF 0] : List MapEntry).length]).toArray (([ent 1 numF 0] : List MapEntry).length + 1))) := (((Mods.refl _ _).alloc _).putObj hMw _).putObj hMw _
  subst hM
  go_wp2_with (first | (refine op_skip rfl (run_insert (.tmp 3) (.tmp 4) 1 rfl w.heap.size ([] : List MapEntry) numF rfl rfl m0 (fun e he => by simp at he)) ?_) | (refine op_skip rfl (run_insert (.tmp 3) (.tmp 5) 2 rfl w.heap.size ([ent 1 numF 0] : List MapEntry) numF rfl rfl m1 (fun e he => by simp at he; subst he; exact ⟨_, rfl, by decide⟩)) ?_))
  have n2' : New w (((w.alloc (.map #[] 0)).putObj w.heap.size (.map #[ent 1 numF 0] 1)).putObj w.heap.size (.map #[ent 1 numF 0, ent 2 numF 1] 2)) := n2
  have m2' : (((w.alloc (.map #[] 0)).putObj w.heap.size (.map #[ent 1 numF 0] 1)).putObj w.heap.size (.map #[ent 1 numF 0, ent 2 numF 1] 2)).heap[w.heap.size]? = some (.map ([ent 1 numF 0, ent 2 numF 1] : List MapEntry).toArray ([ent 1 numF 0, ent 2 numF 1] : List MapEntry).length) := m2
  obtain ⟨W2, hW⟩ : ∃ W, ((w.alloc (.map #[] 0)).putObj w.heap.size (.map #[ent 1 numF 0] 1)).putObj w.heap.size (.map #[ent 1 numF 0, ent 2 numF 1] 2) = W := ⟨_, rfl⟩
  rw [hW] at n2' m2' ⊢
  obtain ⟨M, hM⟩ : ∃ M, w.heap.size = M := ⟨_, rfl⟩
  rw [hM] at m2' ⊢
  have hMw : w.heap.size ≤ M := by omega
  have s2 : M + 1 ≤ W2.heap.size := by have := (Array.getElem?_eq_some_iff.1 m2').1; omega
  clear hW hM m0 m1 m2 n2
  refine (HP.out 35 _).mono ?_
  rintro e w3 ⟨rfl, hw⟩
  obtain ⟨b3, hb⟩ : ∃ b, W2.heap.size = b := ⟨_, rfl⟩
  have hN : New W2 w3 := by rw [← hw]; exact (Mods.refl _ _).alloc _
  have x2 : Boxed w3 b3 32 (fn 35) := by rw [← hw, ← hb]; exact Boxed.new W2 _ _
  have m2a := hN.heap m2' id
  have n2a := n2'.trans hN
  have s2a : M + 1 ≤ w3.heap.size := by have := hN.size; omega
  have t2 : M < b3 := by omega
  rw [hb]
  clear hw hb hN m2' n2' s2
  go_wp2_with (refine op_skip rfl (run_insert (.tmp 3) (.tmp 7) 3 rfl M ([ent 1 numF 0, ent 2 numF 1] : List MapEntry) (clo b3) rfl rfl m2a (fun e he => by simp at he; rcases he with rfl | rfl <;> exact ⟨_, rfl, by decide⟩)) ?_)
  obtain ⟨W3, hW⟩ : ∃ W, (w3.putObj M (.map (([ent 1 numF 0, ent 2 numF 1] : List MapEntry) ++ [ent 3 (clo b3) ([ent 1 numF 0, ent 2 numF 1] : List MapEntry).length]).toArray (([ent 1 numF 0, ent 2 numF 1] : List MapEntry).length + 1))) = W := ⟨_, rfl⟩
  have m3' : W3.heap[M]? = some (.map ([ent 1 numF 0, ent 2 numF 1, ent 3 (clo b3) 2] : List MapEntry).toArray ([ent 1 numF 0, ent 2 numF 1, ent 3 (clo b3) 2] : List MapEntry).length) := by rw [← hW]; exact put_same m2a
  have n3' : New w W3 := by rw [← hW]; exact n2a.putObj hMw _
  have s3 : M + 1 ≤ W3.heap.size := by rw [← hW]; simp; exact s2a
  have x2 : Boxed W3 b3 32 (fn 35) := by rw [← hW]; exact boxed_put x2 (by omega) _
  have hW' : w3.putObj M (.map ([ent 1 numF 0, ent 2 numF 1, ent 3 (clo b3) 2] : List MapEntry).toArray 3) = W3 := hW
  first | rw [hW'] | rw [hW]
  clear hW hW' m2a n2a s2a
  refine (HP.out 13 _).mono ?_
  rintro e w4 ⟨rfl, hw⟩
  obtain ⟨b4, hb⟩ : ∃ b, W3.heap.size = b := ⟨_, rfl⟩
  have hN : New W3 w4 := by rw [← hw]; exact (Mods.refl _ _).alloc _
  have x3 : Boxed w4 b4 32 (fn 13) := by rw [← hw, ← hb]; exact Boxed.new W3 _ _
  have x2 := hN.boxed x2 id
  have m3a := hN.heap m3' id
  have n3a := n3'.trans hN
  have s3a : M + 1 ≤ w4.heap.size := by have := hN.size; omega
  have t3 : M < b4 := by omega
  rw [hb]
  clear hw hb hN m3' n3' s3
  go_wp2_with (refine op_skip rfl (run_insert (.tmp 3) (.tmp 9) 4 rfl M ([ent 1 numF 0, ent 2 numF 1, ent 3 (clo b3) 2] : List MapEntry) (clo b4) rfl rfl m3a (fun e he => by simp at he; rcases he with rfl | rfl | rfl <;> exact ⟨_, rfl, by decide⟩)) ?_)
  obtain ⟨W4, hW⟩ : ∃ W, (w4.putObj M (.map (([ent 1 numF 0, ent 2 numF 1, ent 3 (clo b3) 2] : List MapEntry) ++ [ent 4 (clo b4) ([ent 1 numF 0, ent 2 numF 1, ent 3 (clo b3) 2] : List MapEntry).length]).toArray (([ent 1 numF 0, ent 2 numF 1, ent 3 (clo b3) 2] : List MapEntry).length + 1))) = W := ⟨_, rfl⟩
  have m4' : W4.heap[M]? = some (.map ([ent 1 numF 0, ent 2 numF 1, ent 3 (clo b3) 2, ent 4 (clo b4) 3] : List MapEntry).toArray ([ent 1 numF 0, ent 2 numF 1, ent 3 (clo b3) 2, ent 4 (clo b4) 3] : List MapEntry).length) := by rw [← hW]; exact put_same m3a
  have n4' : New w W4 := by rw [← hW]; exact n3a.putObj hMw _
  have s4 : M + 1 ≤ W4.heap.size := by rw [← hW]; simp; exact s3a
  have x2 : Boxed W4 b3 32 (fn 35) := by rw [← hW]; exact boxed_put x2 (by omega) _
  have x3 : Boxed W4 b4 32 (fn 13) := by rw [← hW]; exact boxed_put x3 (by omega) _
  have hW' : w4.putObj M (.map ([ent 1 numF 0, ent 2 numF 1, ent 3 (clo b3) 2, ent 4 (clo b4) 3] : List MapEntry).toArray 4) = W4 := hW
  first | rw [hW'] | rw [hW]
  clear hW hW' m3a n3a s3a
  refine (HP.out 37 _).mono ?_
  rintro e w5 ⟨rfl, hw⟩
  obtain ⟨b5, hb⟩ : ∃ b, W4.heap.size = b := ⟨_, rfl⟩
  have hN : New W4 w5 := by rw [← hw]; exact (Mods.refl _ _).alloc _
  have x4 : Boxed w5 b5 32 (fn 37) := by rw [← hw, ← hb]; exact Boxed.new W4 _ _
  have x2 := hN.boxed x2 id
  have x3 := hN.boxed x3 id
  have m4a := hN.heap m4' id
  have n4a := n4'.trans hN
  have s4a : M + 1 ≤ w5.heap.size := by have := hN.size; omega
  have t4 : M < b5 := by omega
  rw [hb]
  clear hw hb hN m4' n4' s4
  have m5a : (w5.putObj M (.map (([ent 1 numF 0, ent 2 numF 1, ent 3 (clo b3) 2, ent 4 (clo b4) 3] : List MapEntry) ++ [ent 5 (clo b5) ([ent 1 numF 0, ent 2 numF 1, ent 3 (clo b3) 2, ent 4 (clo b4) 3] : List MapEntry).length]).toArray (([ent 1 numF 0, ent 2 numF 1, ent 3 (clo b3) 2, ent 4 (clo b4) 3] : List MapEntry).length + 1))).heap[M]? = some (.map ([ent 1 numF 0, ent 2 numF 1, ent 3 (clo b3) 2, ent 4 (clo b4) 3, ent 5 (clo b5) 4] : List MapEntry).toArray ([ent 1 numF 0, ent 2 numF 1, ent 3 (clo b3) 2, ent 4 (clo b4) 3, ent 5 (clo b5) 4] : List MapEntry).length) := put_same m4a
  go_wp2_with (first | (refine op_skip rfl (run_insert (.tmp 3) (.tmp 11) 5 rfl M ([ent 1 numF 0, ent 2 numF 1, ent 3 (clo b3) 2, ent 4 (clo b4) 3] : List MapEntry) (clo b5) rfl rfl m4a (fun e he => by simp at he; rcases he with rfl | rfl | rfl | rfl <;> exact ⟨_, rfl, by decide⟩)) ?_) | (refine op_skip rfl (run_insert (.tmp 3) (.func 38) 6 rfl M ([ent 1 numF 0, ent 2 numF 1, ent 3 (clo b3) 2, ent 4 (clo b4) 3, ent 5 (clo b5) 4] : List MapEntry) boolF rfl rfl m5a (fun e he => by simp at he; rcases he with rfl | rfl | rfl | rfl | rfl <;> exact ⟨_, rfl, by decide⟩)) ?_))
  go_ret
  refine ⟨M, b3, b4, b5, rfl, ⟨put_same m5a, ?_, ?_, ?_⟩, (n4a.putObj hMw _).putObj hMw _⟩
  · exact boxed_put (boxed_put x2 (by omega) _) (by omega) _
  · exact boxed_put (boxed_put x3 (by omega) _) (by omega) _
  · exact boxed_put (boxed_put x4 (by omega) _) (by omega) _
theorem opIn_call' {P : Program} {ops : Array Oper} {Q : Exit → Act → World → Prop} {r : Option Nat} {i : Nat} {o : Oper} (d : Option Tmp) {a : Act} {w : World} {K : Act → World → Prop} (hp : plainOp o = true) (hi : ops[i]? = some o) (hg : o.guard = none) (hd : o.dst = d)
    (f : FuncId) (args : Array Value) (h : (execOp a.eval o).run P w = .ok (.enter f args) w) (hc : Calls P f args w fun e w' => ∃ v, e = .returned v ∧ K (a.put d v) w') : wpOpIn (Fr r) 0 P ops Q i K a w := by
  subst hd
  unfold Go.wpOpIn
  simp only [hi, Region.wanted, hg, if_true, Oper.wpIn, semAt_plain hp, h]
  refine ⟨fun _ _ => trivial, fun h => by simp [Fence.wide] at h, (callsIn_wide (n := 0)).2 (hc.mono ?_)⟩
  rintro e w' ⟨v, rfl, hk⟩
  exact hk
/-- What a kind is looked up as. -/
def fval (k b3 b4 b5 : Nat) : Value := if k = 1 ∨ k = 2 then numF else if k = 3 then clo b3 else if k = 4 then clo b4 else if k = 5 then clo b5 else if k = 6 then boolF else .nilFunc
theorem look_fits {W : World} {M b3 b4 b5 : Nat} (h : FitsAt W M b3 b4 b5) (k : Nat) : (Instr.lookup 39 (.map (some M)) (.int .u8 (k : Nat)) false).run Tryd.prog W = .ok (fval k b3 b4 b5) W := by
  unfold fval
  by_cases h1 : k = 1
  · subst h1; exact run_look W M _ 6 1 0 _ (by simp) h.map rfl
  by_cases h2 : k = 2
  · subst h2; exact run_look W M _ 6 2 1 _ (by simp) h.map rfl
  by_cases h3 : k = 3
  · subst h3; exact run_look W M _ 6 3 2 _ (by simp) h.map rfl
  by_cases h4 : k = 4
  · subst h4; exact run_look W M _ 6 4 3 _ (by simp) h.map rfl
  by_cases h5 : k = 5
  · subst h5; exact run_look W M _ 6 5 4 _ (by simp) h.map rfl
  by_cases h6 : k = 6
  · subst h6; exact run_look W M _ 6 6 5 _ (by simp) h.map rfl
  rw [if_neg (by omega), if_neg h3, if_neg h4, if_neg h5, if_neg h6]
  refine run_look_none W M _ 6 k (by simp) h.map (findNow_none k _ 0 ?_)
  intro e he
  simp at he
  rcases he with rfl | rfl | rfl | rfl | rfl | rfl
  · exact ⟨1, rfl, fun e => h1 e.symm⟩
  · exact ⟨2, rfl, fun e => h2 e.symm⟩
  · exact ⟨3, rfl, fun e => h3 e.symm⟩
  · exact ⟨4, rfl, fun e => h4 e.symm⟩
  · exact ⟨5, rfl, fun e => h5 e.symm⟩
  · exact ⟨6, rfl, fun e => h6 e.symm⟩
theorem eqF (d : Nat) (f : Fn) (l m : Array Value) (w : World) : (Op.equalIn (d + 1) 28 (.func f l m) .nilFunc).run Tryd.prog w = .ok false w := by
  simp only [Op.equalIn, Sem.run_bind, run_underlying Tryd.underlying28 w, Result.andThen_ok]
  rfl
theorem eqN (d : Nat) (w : World) : (Op.equalIn (d + 1) 28 .nilFunc .nilFunc).run Tryd.prog w = .ok true w := by
  simp only [Op.equalIn, Sem.run_bind, run_underlying Tryd.underlying28 w, Result.andThen_ok]
  rfl
theorem neqF (f : Fn) (l m : Array Value) (w : World) : (binOp .neq 28 (.func f l m) .nilFunc).run Tryd.prog w = .ok (.bool true) w := by
  have h2 := eqF 9999 f l m w
  simp only [binOp]
  simp [Op.equal, Op.maxDepth, h2]
theorem neqN (w : World) : (binOp .neq 28 .nilFunc .nilFunc).run Tryd.prog w = .ok (.bool false) w := by
  have h2 := eqN 9999 w
  simp only [binOp]
  simp [Op.equal, Op.maxDepth, h2]
theorem info_bare : (Tryd.prog.info? 23).map (·.size) = some 4 := by kernel_rfl
set_option maxRecDepth 100000 in
set_option maxHeartbeats 2000000 in
theorem right_none (b : Bare.It) (k : Nat) (hk : b.kind = k) (hno : ∀ b3 b4 b5, fval k b3 b4 b5 = .nilFunc) (w : World) :
    Calls Tryd.prog 9 #[bv b] w fun e w' => e = .returned (.bool false) ∧ New w w' := by
  have HD := Lib.hid fits_any
  have HN := Lib.hid hno
  clear hno
  obtain ⟨hN, hr⟩ := box_row w b
  obtain ⟨kk, n, t, y⟩ := b
  simp only at hk
  subst hk
  unfold bv bcs at *
  simp only at hN hr ⊢
  obtain ⟨s, hs⟩ : ∃ s, tx t = s := ⟨_, rfl⟩
  rw [hs] at hr hN ⊢
  clear hs
  have k0 := cell_of_row _ _ 0 _ _ _ hr
  simp only [List.getElem?_toArray, List.getElem?_cons_zero] at k0
  go_enter Tryd.func9, Tryd.ntmps9
  go_upto_region 1 with fail
  obtain ⟨W0, hW0⟩ : ∃ W0, w.alloc (.cells #[.int .u8 (k : Nat), .int .i64 n, .string s, .bool y] 23) = W0 := ⟨_, rfl⟩
  obtain ⟨B, hB⟩ : ∃ B, w.heap.size = B := ⟨_, rfl⟩
  rw [hW0] at hN k0 ⊢
  rw [hB] at k0 ⊢
  clear hW0 hr hB
  refine (wpIn_wide (n := 0)).1 ?_
  refine wpIn_region_any (by kernel_rfl) ?_
  show wpAnyIn _ _ _ _ _ _ _ _ _ W0.drew
  have hNd : New w W0.drew := hN.drew
  have hcd : W0.drew.cell? ⟨B, 0, none⟩ = some (.int .u8 (k : Nat)) := k0
  obtain ⟨Wd, hWd⟩ : ∃ W, W0.drew = W := ⟨_, rfl⟩
  rw [hWd] at hNd hcd ⊢
  clear hWd hN k0
  refine any_take 1 (some 5) (.pointer (some ⟨B, 0, none⟩)) rfl rfl (by kernel_rfl) (by kernel_rfl) (by kernel_rfl) (fun _ _ _ h => h) (.value rfl fun w => by go_simp) ?_
  simp only [Act.put, List.setIfInBounds_toArray, List.set_cons_succ, List.set_cons_zero]
  refine wpAnyIn_all (rs := [0, 2]) (by kernel_rfl) (by simp) ?_
  simp only [List.mem_cons, List.not_mem_nil, or_false, forall_eq_or_imp, forall_eq]
  refine ⟨?ord1, ?ord2⟩
  case' ord1 =>
    refine opIn_call' (some 4) rfl rfl rfl rfl 17 #[] (by go_simp) ((HD.out _).mono ?_)
    rintro e w1 ⟨M, b3, b4, b5, rfl, hM, hN1⟩
    refine ⟨_, rfl, ?_⟩
    have hc1 := hN1.cell hcd id
    refine wpAnyIn_all (rs := [2]) (by kernel_rfl) (by simp) ?_
    simp only [List.mem_cons, List.not_mem_nil, or_false, forall_eq]
    refine opIn_value (some 6) (v := .int .u8 (k : Nat)) (w' := w1) rfl rfl rfl rfl (by go_simp) ?_
  case' ord2 =>
    refine opIn_value (some 6) (v := .int .u8 (k : Nat)) (w' := Wd) rfl rfl rfl rfl (by go_simp) ?_
    refine wpAnyIn_all (rs := [0]) (by kernel_rfl) (by simp) ?_
    simp only [List.mem_cons, List.not_mem_nil, or_false, forall_eq]
    refine opIn_call' (some 4) rfl rfl rfl rfl 17 #[] (by go_simp) ((HD.out _).mono ?_)
    rintro e w1 ⟨M, b3, b4, b5, rfl, hM, hN1⟩
    refine ⟨_, rfl, ?_⟩
  all_goals
    simp only [Act.put, List.setIfInBounds_toArray, List.set_cons_succ, List.set_cons_zero]
    refine wpAnyIn_all (rs := [3]) (by kernel_rfl) (by simp) ?_
    simp only [List.mem_cons, List.not_mem_nil, or_false, forall_eq]
    have hlk := look_fits hM k
    rw [HN.out] at hlk
    refine opIn_value (some 7) (v := .nilFunc) (w' := w1) rfl rfl rfl rfl (by go_simp) ?_
    simp only [Act.put, List.setIfInBounds_toArray, List.set_cons_succ, List.set_cons_zero]
    refine wpAnyIn_all (rs := [4]) (by kernel_rfl) (by simp) ?_
    simp only [List.mem_cons, List.not_mem_nil, or_false, forall_eq]
    refine opIn_value (some 3) (v := .nilFunc) (w' := w1) rfl rfl rfl rfl (by go_simp) ?_
    simp only [Act.put, List.setIfInBounds_toArray, List.set_cons_succ, List.set_cons_zero]
    refine wpAnyIn_done (by kernel_rfl) ?_ _
    have hne := neqN
    go_wp2_with fail
    go_ret
    exact ⟨rfl, hNd.trans hN1⟩
set_option maxRecDepth 100000 in
set_option maxHeartbeats 2000000 in
theorem right_yes (b : Bare.It) (k : Nat) (hk : b.kind = k) (r : Bool)
    (hcall : ∀ W M b3 b4 b5, FitsAt W M b3 b4 b5 → ∃ g lb, fval k b3 b4 b5 = .func (.func g) #[] lb ∧ (∀ args w, (callFunc g args).run Tryd.prog w = .ok (.enter g args) w) ∧ Calls Tryd.prog g (#[bv b] ++ lb) W fun e w' => e = .returned (.bool r) ∧ New W w') (w : World) :
    Calls Tryd.prog 9 #[bv b] w fun e w' => e = .returned (.bool r) ∧ New w w' := by
  have HD := Lib.hid fits_any
  have HC := Lib.hid hcall
  clear hcall
  obtain ⟨hN, hr⟩ := box_row w b
  obtain ⟨kk, n, t, y⟩ := b
  simp only at hk
  subst hk
  unfold bv bcs at *
  simp only at hN hr HC ⊢
  obtain ⟨s, hs⟩ : ∃ s, tx t = s := ⟨_, rfl⟩
  rw [hs] at hr hN HC ⊢
  clear hs
  have k0 := cell_of_row _ _ 0 _ _ _ hr
  simp only [List.getElem?_toArray, List.getElem?_cons_zero] at k0
  go_enter Tryd.func9, Tryd.ntmps9
  go_upto_region 1 with fail
  obtain ⟨W0, hW0⟩ : ∃ W0, w.alloc (.cells #[.int .u8 (k : Nat), .int .i64 n, .string s, .bool y] 23) = W0 := ⟨_, rfl⟩
  obtain ⟨B, hB⟩ : ∃ B, w.heap.size = B := ⟨_, rfl⟩
  rw [hW0] at hN k0 hr ⊢
  rw [hB] at k0 hr ⊢
  clear hW0 hB
  refine (wpIn_wide (n := 0)).1 ?_
  refine wpIn_region_any (by kernel_rfl) ?_
  show wpAnyIn _ _ _ _ _ _ _ _ _ W0.drew
  have hNd : New w W0.drew := hN.drew
  have hcd : W0.drew.cell? ⟨B, 0, none⟩ = some (.int .u8 (k : Nat)) := k0
  have hrd : W0.drew.heap[B]? = some (.cells #[.int .u8 (k : Nat), .int .i64 n, .string s, .bool y] 23 (0, 0)) := hr
  obtain ⟨Wd, hWd⟩ : ∃ W, W0.drew = W := ⟨_, rfl⟩
  rw [hWd] at hNd hcd hrd ⊢
  clear hWd hN k0 hr
  refine any_take 1 (some 5) (.pointer (some ⟨B, 0, none⟩)) rfl rfl (by kernel_rfl) (by kernel_rfl) (by kernel_rfl) (fun _ _ _ h => h) (.value rfl fun w => by go_simp) ?_
  simp only [Act.put, List.setIfInBounds_toArray, List.set_cons_succ, List.set_cons_zero]
  refine wpAnyIn_all (rs := [0, 2]) (by kernel_rfl) (by simp) ?_
  simp only [List.mem_cons, List.not_mem_nil, or_false, forall_eq_or_imp, forall_eq]
  refine ⟨?ord1, ?ord2⟩
  case' ord1 =>
    refine opIn_call' (some 4) rfl rfl rfl rfl 17 #[] (by go_simp) ((HD.out _).mono ?_)
    rintro e w1 ⟨M, b3, b4, b5, rfl, hM, hN1⟩
    refine ⟨_, rfl, ?_⟩
    have hc1 := hN1.cell hcd id
    refine wpAnyIn_all (rs := [2]) (by kernel_rfl) (by simp) ?_
    simp only [List.mem_cons, List.not_mem_nil, or_false, forall_eq]
    refine opIn_value (some 6) (v := .int .u8 (k : Nat)) (w' := w1) rfl rfl rfl rfl (by go_simp) ?_
  case' ord2 =>
    refine opIn_value (some 6) (v := .int .u8 (k : Nat)) (w' := Wd) rfl rfl rfl rfl (by go_simp) ?_
    refine wpAnyIn_all (rs := [0]) (by kernel_rfl) (by simp) ?_
    simp only [List.mem_cons, List.not_mem_nil, or_false, forall_eq]
    refine opIn_call' (some 4) rfl rfl rfl rfl 17 #[] (by go_simp) ((HD.out _).mono ?_)
    rintro e w1 ⟨M, b3, b4, b5, rfl, hM, hN1⟩
    refine ⟨_, rfl, ?_⟩
  all_goals
    simp only [Act.put, List.setIfInBounds_toArray, List.set_cons_succ, List.set_cons_zero]
    refine wpAnyIn_all (rs := [3]) (by kernel_rfl) (by simp) ?_
    simp only [List.mem_cons, List.not_mem_nil, or_false, forall_eq]
    have hlk := look_fits hM k
    obtain ⟨g, lb, hv, eg, hcg⟩ := HC.out w1 M b3 b4 b5 hM
    rw [hv] at hlk
    have HG := Lib.hid hcg
    have hrow := hN1.heap hrd id
    clear hcg hv
    refine opIn_value (some 7) (v := .func (.func g) #[] lb) (w' := w1) rfl rfl rfl rfl (by go_simp) ?_
    simp only [Act.put, List.setIfInBounds_toArray, List.set_cons_succ, List.set_cons_zero]
    refine wpAnyIn_all (rs := [4]) (by kernel_rfl) (by simp) ?_
    simp only [List.mem_cons, List.not_mem_nil, or_false, forall_eq]
    refine opIn_value (some 3) (v := .func (.func g) #[] lb) (w' := w1) rfl rfl rfl rfl (by go_simp) ?_
    simp only [Act.put, List.setIfInBounds_toArray, List.set_cons_succ, List.set_cons_zero]
    refine wpAnyIn_done (by kernel_rfl) ?_ _
    have hne := neqF (.func g) #[] lb
    go_wp2_with (first | (refine op_value_g rfl (run_load_row 23 (.tmp 1) rfl B rfl 23 _ (0, 0) _ hrow Tryd.underlying23 rfl info_bare) ?_))
    refine HG.out.mono ?_
    rintro e w2 ⟨rfl, hN2⟩
    go_wp2_with fail
    go_ret
    exact ⟨rfl, (hNd.trans hN1).trans hN2⟩
theorem token_T : PredT 13 Bare.tokB := fun s w hs => token_any s w (by omega)
theorem fits3_T : PredT 35 (fun l => l.all Bare.plnB) := fun s w hs => fits3_any s w (by omega)
theorem fits4_T : PredT 37 (fun _ => true) := fun s w hs => fits4_any s w
theorem right_any (b : Bare.It) (h0 : 0 ≤ b.kind) (hl : b.text.length ≤ 100000000) (w : World) :
    Calls Tryd.prog 9 #[bv b] w fun e w' => e = .returned (.bool (Bare.rightI b)) ∧ New w w' := by
  obtain ⟨k, hk⟩ : ∃ k : Nat, b.kind = k := ⟨b.kind.toNat, by omega⟩
  by_cases h1 : k = 1 ∨ k = 2
  · have e : Bare.rightI b = numI b := by unfold Bare.rightI numI; rw [if_pos (by omega)]
    rw [e]
    refine right_yes b k hk _ (fun W M b3 b4 b5 hF => ⟨32, #[], by unfold fval; rw [if_pos h1]; rfl, enters_of Tryd.func32 (by kernel_rfl) rfl, fits1_any b W hl trivial⟩) w
  by_cases h3 : k = 3
  · have e : Bare.rightI b = textI (fun l => l.all Bare.plnB) b := by unfold Bare.rightI textI; rw [if_neg (by omega), if_pos (by omega)]
    rw [e]
    refine right_yes b k hk _ (fun W M b3 b4 b5 hF => ⟨34, #[.pointer (some ⟨b3, 0, none⟩)], by unfold fval; rw [if_neg h1, if_pos h3]; rfl, enters_of Tryd.func34 (by kernel_rfl) rfl, fits21_any _ _ fits3_T (enters_of Tryd.func35 (by kernel_rfl) rfl) b3 b W hl hF.str⟩) w
  by_cases h4 : k = 4
  · have e : Bare.rightI b = textI Bare.tokB b := by unfold Bare.rightI textI; rw [if_neg (by omega), if_neg (by omega), if_pos (by omega)]
    rw [e]
    refine right_yes b k hk _ (fun W M b3 b4 b5 hF => ⟨34, #[.pointer (some ⟨b4, 0, none⟩)], by unfold fval; rw [if_neg h1, if_neg h3, if_pos h4]; rfl, enters_of Tryd.func34 (by kernel_rfl) rfl, fits21_any _ _ token_T (enters_of Tryd.func13 (by kernel_rfl) rfl) b4 b W hl hF.tok⟩) w
  by_cases h5 : k = 5
  · have e : Bare.rightI b = textI (fun _ => true) b := by unfold Bare.rightI textI; rw [if_neg (by omega), if_neg (by omega), if_neg (by omega), if_pos (by omega), Bool.and_true]
    rw [e]
    refine right_yes b k hk _ (fun W M b3 b4 b5 hF => ⟨34, #[.pointer (some ⟨b5, 0, none⟩)], by unfold fval; rw [if_neg h1, if_neg h3, if_neg h4, if_pos h5]; rfl, enters_of Tryd.func34 (by kernel_rfl) rfl, fits21_any _ _ fits4_T (enters_of Tryd.func37 (by kernel_rfl) rfl) b5 b W hl hF.byt⟩) w
  by_cases h6 : k = 6
  · have e : Bare.rightI b = boolI b := by unfold Bare.rightI boolI; rw [if_neg (by omega), if_neg (by omega), if_neg (by omega), if_neg (by omega), if_pos (by omega)]
    rw [e]
    refine right_yes b k hk _ (fun W M b3 b4 b5 hF => ⟨38, #[], by unfold fval; rw [if_neg h1, if_neg h3, if_neg h4, if_neg h5, if_pos h6]; rfl, enters_of Tryd.func38 (by kernel_rfl) rfl, fits5_any b W hl trivial⟩) w
  have e : Bare.rightI b = false := by unfold Bare.rightI; rw [if_neg (by omega), if_neg (by omega), if_neg (by omega), if_neg (by omega), if_neg (by omega)]
  rw [e]
  exact right_none b k hk (fun b3 b4 b5 => by unfold fval; rw [if_neg h1, if_neg h3, if_neg h4, if_neg h5, if_neg h6]) w
end Go.Proofs.YtihmnkbkigkjjaaDoor
