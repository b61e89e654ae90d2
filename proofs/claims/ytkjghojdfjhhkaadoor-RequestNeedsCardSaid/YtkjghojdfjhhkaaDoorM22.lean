/- RequestNeeds, walked. -/
import Derived.Test.YtkjghojdfjhhkaaDoorM21
set_option linter.unusedSimpArgs false
set_option linter.unusedVariables false
namespace Go.Proofs.YtkjghojdfjhhkaaDoor
open Go.RowKit Go.Shelf Go.Cs
attribute [local go_sem] Oper.semAt_some
theorem tmod_place (a : Int) (k : Nat) (hk : 1 ≤ k) : ∃ i : Nat, i < k ∧ Int.tmod (Int.tmod a k + k) k = i ∧ -(k : Int) < Int.tmod a k ∧ Int.tmod a k < k := by
  have h1 : Int.tmod a k < k := Int.tmod_lt_of_pos a (by omega)
  have h2 : -(k : Int) < Int.tmod a k := by
    have := Int.tmod_lt_of_pos (-a) (show (0 : Int) < k by omega)
    rw [Int.neg_tmod] at this
    omega
  have h3 : 0 ≤ Int.tmod (Int.tmod a k + k) k := Int.tmod_nonneg _ (by omega)
  have h4 : Int.tmod (Int.tmod a k + k) k < k := Int.tmod_lt_of_pos _ (by omega)
  exact ⟨(Int.tmod (Int.tmod a k + k) k).toNat, by omega, by omega, h2, h1⟩
set_option maxHeartbeats 4000000 in
set_option maxRecDepth 100000 in
theorem needs_law (lv : Value) (L : List Fd) (n : Int) (w : World) (hl : ReadsU w lv L) (hL : ReachL L) (hc : CapOk lv) (h0 : -9223372036854775808 ≤ n) (h1 : n ≤ 9223372036854775807) (hT : Tab w) :
    Calls Tryd.prog 9 #[lv, .int .i64 n] w fun e w' => e = .returned (.bool true) ∧ New w w' := by
  have HG := Lib.hid (great_any lv L w hl hL)
  have HW := Lib.hid (fun W (hN : New w W) => (wakes_any W (hT.new hN)).mono fun e w' h => show e = .returned (.bool true) ∧ New w w' from ⟨h.1, hN.trans h.2⟩)
  obtain ⟨lo, lcap, rfl⟩ : ∃ lo lcap, lv = .slice lo L.length lcap := by obtain ⟨_, lo, lcap, e, _⟩ := hl; exact ⟨lo, lcap, e⟩
  cases hg : greatL L with
  | true =>
    rw [hg] at HG
    clear hg hl hL hc hT h0 h1
    go_enter Tryd.func9, Tryd.ntmps9
    go_wp2_with fail
    refine HG.out.mono ?_
    rintro e w1 ⟨rfl, hN1⟩
    go_wp2_with fail
    refine (HW.out _ hN1).mono ?_
    rintro e w2 ⟨rfl, hN2⟩
    go_wp2_with fail
    go_ret
    exact ⟨rfl, hN2⟩
  | false =>
    rw [hg] at HG
    obtain ⟨hlen, hsum, hsm⟩ := small_of hg
    have hR := hl.small (by omega)
    have HOf := Lib.hid (fun W (hN : New w W) => of_any _ L W (hR.new hN) hsm (fun ao n cap e => (hc ao n cap e).1))
    have HR := Lib.hid hR
    have Hc := Lib.hid hc
    have Hsm := Lib.hid hsm
    clear hg hl hL hc hT hsum hsm
    obtain ⟨ln, hln⟩ : ∃ x, L.length = x := ⟨_, rfl⟩
    rw [hln] at HG HOf HR Hc hlen ⊢
    have Hln := Lib.hid hln
    clear hln hR
    cases hof : ofR L with
    | none =>
      rw [hof] at HOf
      clear hof
      go_enter Tryd.func9, Tryd.ntmps9
      go_wp2_with fail
      refine HG.out.mono ?_
      rintro e w1 ⟨rfl, hN1⟩
      go_wp2_with fail
      refine (HOf.out _ hN1).mono ?_
      rintro e w2 ⟨fv, rfl, hO, hN2⟩
      have hN := hN1.trans hN2
      obtain ⟨fa, fc, rfl⟩ := hO.1.slice
      have el : (((none : Option Rq).getD .no).fields).length = 0 := rfl
      rw [el]
      clear hO HOf HG
      simp only [Option.getD_none, Option.isSome_none, Rq.no, Rq.cs]
      go_wp2_with fail
      refine (HW.out _ ?_).mono ?_
      · exact (hN.alloc _)
      rintro e w3 ⟨rfl, hN3⟩
      go_wp2_with fail
      go_ret
      exact ⟨rfl, hN3⟩
    | some r =>
      rw [hof] at HOf
      obtain ⟨k, hk1, hk2, hfk, hall⟩ := needs_plain hof
      rw [Hln.out] at hk2
      have Hall := Lib.hid hall
      have hfl : r.fields.length = ln - k := by rw [hfk, List.length_drop, Hln.out]
      obtain ⟨i, hi, hti, hb1, hb2⟩ := tmod_place n k hk1
      have hnn : (ln : Int) - ((ln - k : Nat) : Int) = (k : Int) := by omega
      clear hof hall hfk
      go_enter Tryd.func9, Tryd.ntmps9
      go_wp2_with fail
      refine HG.out.mono ?_
      rintro e w1 ⟨rfl, hN1⟩
      go_wp2_with fail
      refine (HOf.out _ hN1).mono ?_
      rintro e w2 ⟨fv, rfl, hO, hN2⟩
      have hN := hN1.trans hN2
      obtain ⟨fa, fc, rfl⟩ := hO.1.slice
      simp only [Option.getD_some, Option.isSome_some, Rq.cs]
      rw [hfl]
      obtain ⟨b, o, rfl, c1, c2⟩ := HR.out.at (k := i) (by omega)
      obtain ⟨f, hf⟩ : ∃ f, L.getD i .no = f := ⟨_, rfl⟩
      have hplain := Hall.out i hi
      rw [hf] at c1 c2 hplain
      have Hplain := Lib.hid hplain
      have HfS : Hid (SmallF f) := Lib.hid (by rw [← hf]; exact Hsm.out.at i)
      clear hO HOf HG hplain Hall hf
      have d1 : decide ((k : Int) < 1) = false := decide_eq_false (by omega)
      go_upto_region 4 with fail
      have hz := World.alloc_heap_new w2 (.cells #[.string r.meth, .string r.scheme, .string r.path, .string r.host, .slice fa (ln - k) fc] 56)
      have hN3 := hN.alloc (.cells #[.string r.meth, .string r.scheme, .string r.path, .string r.host, .slice fa (ln - k) fc] 56)
      obtain ⟨W3, hW3⟩ : ∃ W, w2.alloc (.cells #[.string r.meth, .string r.scheme, .string r.path, .string r.host, .slice fa (ln - k) fc] 56) = W := ⟨_, rfl⟩
      rw [hW3] at hz hN3 ⊢
      obtain ⟨R, hR⟩ : ∃ R, w2.heap.size = R := ⟨_, rfl⟩
      rw [hR] at hz ⊢
      clear hW3 hR
      have kR := cell_of_row _ _ 4 _ _ _ hz
      have c1' := hN3.cell c1 id
      have c2' := hN3.cell c2 id
      go_upto_region 9 with fail
      have hF := World.alloc_heap_new W3 (.cells #[.string f.name, .string f.val] 54)
      have hN4 := hN3.alloc (.cells #[.string f.name, .string f.val] 54)
      obtain ⟨W4, hW4⟩ : ∃ W, W3.alloc (.cells #[.string f.name, .string f.val] 54) = W := ⟨_, rfl⟩
      rw [hW4] at hF hN4 ⊢
      obtain ⟨F, hFF⟩ : ∃ R, W3.heap.size = R := ⟨_, rfl⟩
      rw [hFF] at hF ⊢
      clear hW4 hFF kR c1' c2' hz c1 c2
      refine piece (fun _ a' W' => ∃ v, (a'.tmps.size = 102 ∧ a'.defers = [] ∧ a'.tmps.getD 0 undef = .slice (some ⟨b, o, none⟩) ln lcap ∧ a'.tmps.getD 8 undef = .pointer (some ⟨F, 0, none⟩) ∧ a'.tmps.getD 9 undef = v) ∧ OwR W4.heap.size W' v (L.take i ++ L.drop (i + 1)) ∧ New W4 W') (less9 _ rfl W4 rfl rfl rfl (HR.out.new hN4) Hc.out (by omega) (by omega)) ?_
      rintro ⟨t, dfs⟩ W5 ⟨v, ⟨hs, hd, hq0, hq8, hq9⟩, hO5, hN5⟩
      simp only at hs hd hq0 hq8 hq9
      subst hd
      obtain ⟨u, rfl⟩ := lit102 t hs
      have hq0 : u 0 = _ := hq0
      have hq8 : u 8 = _ := hq8
      have hq9 : u 9 = v := hq9
      rw [hq0, hq8, hq9]
      clear hq0 hq8 hq9 hs
      have hN5w := hN4.trans hN5
      have hF5 := hN5.heap hF id
      obtain ⟨M, hM⟩ : ∃ M, L.take i ++ L.drop (i + 1) = M := ⟨_, rfl⟩
      have hMl : M.length = ln - 1 := by rw [← hM, List.length_append, List.length_take, List.length_drop, Hln.out]; omega
      have hMS : SmallL M := fun p hp => Hsm.out p (by
        rw [← hM] at hp
        rcases List.mem_append.1 hp with h | h
        · exact List.mem_of_mem_take h
        · exact List.mem_of_mem_drop h)
      rw [hM] at Hplain hO5
      have HO5 := Lib.hid hO5
      have Ho5 := Lib.hid (hO5.reads (by omega))
      have HMS := Lib.hid hMS
      have HF5 := Lib.hid hF5
      clear hM hF hO5 hMS hF5
      go_wp2_with fail
      refine (of_any _ M _ Ho5.out.1.1 HMS.out (fun ao n cap e => (Ho5.out.2 ao n cap e).1)).mono ?_
      rintro e w6 ⟨fv1, rfl, hO6, hN6⟩
      obtain ⟨ga, gc, rfl⟩ := hO6.1.slice
      obtain ⟨r1, hr1⟩ : ∃ r1, (ofR M).getD .no = r1 := ⟨_, rfl⟩
      obtain ⟨one, hone⟩ : ∃ x, (ofR M).isSome = x := ⟨_, rfl⟩
      rw [hr1, hone]
      have Hone := Lib.hid hone
      simp only [Rq.cs]
      obtain ⟨l1, hl1⟩ : ∃ x, r1.fields.length = x := ⟨_, rfl⟩
      rw [hl1]
      have hN6w := hN5w.trans hN6
      clear hO6 hr1 hone hl1
      go_upto_region 11 with fail
      have hN7 := hN6w.alloc (.cells #[.string r1.meth, .string r1.scheme, .string r1.path, .string r1.host, .slice ga l1 gc] 56)
      have hk7 := hN6.alloc (.cells #[.string r1.meth, .string r1.scheme, .string r1.path, .string r1.host, .slice ga l1 gc] 56)
      obtain ⟨W7, hW7⟩ : ∃ W, w6.alloc (.cells #[.string r1.meth, .string r1.scheme, .string r1.path, .string r1.host, .slice ga l1 gc] 56) = W := ⟨_, rfl⟩
      rw [hW7] at hN7 hk7 ⊢
      clear hW7
      have hF7 := hk7.heap HF5.out id
      have kF0 := cell_of_row _ _ 0 _ _ _ hF7
      have kF1 := cell_of_row _ _ 1 _ _ _ hF7
      have hOf := OwR.ones (W := W7) [f] (by simp)
      have hN8 := hN7.alloc (.cells #[.string f.name, .string f.val] 54)
      have hk8 := hk7.alloc (.cells #[.string f.name, .string f.val] 54)
      go_wp2_with (at_builtin; refine wpList_append_L _ _ rfl rfl rfl rfl hOf (HR.out.new hN8) Hc.out (by rw [Hln.out]; simp; omega) (by simp) ?_)
      intro v8 W8 hO8 hg8
      have hN9 : New w W8 := hN8.grown hg8 (fun k hk => by cases hk; exact .inl hN7.size)
      have hk9 : New W5 W8 := hk8.grown hg8 (fun k hk => by cases hk; exact .inl hk7.size)
      have Ho8 := Lib.hid (hO8.reads (by show L.length + 1 ≤ 2000000; rw [Hln.out]; omega))
      clear hO8 hg8 hOf hN8 hk8 kF0 kF1
      go_wp2_with fail
      have HS8 : Hid (SmallL (f :: L)) := Lib.hid fun p hp => by
        rcases List.mem_cons.1 hp with h | h
        · rw [h]; exact HfS.out
        · exact Hsm.out p h
      refine (of_any _ (f :: L) _ Ho8.out.1.1 HS8.out (fun ao n cap e => (Ho8.out.2 ao n cap e).1)).mono ?_
      rintro e w10 ⟨fv2, rfl, hO10, hN10⟩
      have h2 : ofR (f :: L) = none := Hplain.out.2.1
      rw [h2] at hO10
      rw [h2]
      obtain ⟨ha, hc2, rfl⟩ := hO10.1.slice
      simp only [Option.getD_none, Option.isSome_none, Rq.no, Rq.cs]
      have hN10w := hN9.trans hN10
      have hk10 := hk9.trans hN10
      clear hO10 h2
      go_upto_region 12 with fail
      have hN11 := hN10w.alloc (.cells #[.string bNo, .string bNo, .string bNo, .string bNo, .slice ha 0 hc2] 56)
      have hk11 := hk10.alloc (.cells #[.string bNo, .string bNo, .string bNo, .string bNo, .slice ha 0 hc2] 56)
      obtain ⟨W11, hW11⟩ : ∃ W, w10.alloc (.cells #[.string bNo, .string bNo, .string bNo, .string bNo, .slice ha 0 hc2] 56) = W := ⟨_, rfl⟩
      rw [hW11] at hN11 hk11 ⊢
      clear hW11
      have hF11 := hk11.heap HF5.out id
      have hC : Hid (∀ W u, ReadsL W u (M ++ [fA, f]) → CapOk u → Calls Tryd.prog 36 #[u] W fun e w' => ∃ (r : Rq) (ao : Option Addr) (n c : Nat), e = .returned (.tuple #[.agg #[.string r.meth, .string r.scheme, .string r.path, .string r.host, .slice ao n c], .bool false]) ∧ New W w') := Lib.hid fun W u hu hcu => by
        have hS3 : SmallL (M ++ [fA, f]) := fun p hp => by
          rcases List.mem_append.1 hp with h | h
          · exact HMS.out p h
          · rcases List.mem_cons.1 h with h | h
            · rw [h]; exact ⟨by decide, by decide⟩
            · rw [List.mem_singleton.1 h]; exact HfS.out
        refine (of_any u _ W hu hS3 (fun ao n cap e => (hcu ao n cap e).1)).mono ?_
        rintro e w' ⟨fv, rfl, hO, hN⟩
        have h3 : ofR (M ++ [fA, f]) = none := Hplain.out.2.2
        rw [h3] at hO ⊢
        obtain ⟨xa, xc, rfl⟩ := hO.1.slice
        exact ⟨.no, xa, _, xc, rfl, hN⟩
      refine piece (fun _ a' W' => (a'.tmps.size = 102 ∧ a'.defers = [] ∧ a'.tmps.getD 8 undef = .pointer (some ⟨F, 0, none⟩) ∧ a'.tmps.getD 11 undef = .bool one ∧ a'.tmps.getD 13 undef = .bool false ∧ a'.tmps.getD 15 undef = .bool false) ∧ New W11 W') (three9 _ rfl W11 (f := f) (M := M) (b := false) (x0 := undef) rfl rfl rfl rfl (cell_of_row _ _ 0 _ _ _ hF11) (cell_of_row _ _ 1 _ _ _ hF11) (Ho5.out.1.1.new hk11) Ho5.out.2 (by omega) hC) ?_
      rintro ⟨t, dfs⟩ W12 ⟨⟨hs, hd, hq8, hq11, hq13, hq15⟩, hN12⟩
      simp only at hs hd hq8 hq11 hq13 hq15
      subst hd
      obtain ⟨z, rfl⟩ := lit102 t hs
      have hq8 : z 8 = _ := hq8
      have hq11 : z 11 = _ := hq11
      have hq13 : z 13 = _ := hq13
      have hq15 : z 15 = _ := hq15
      rw [hq8, hq11, hq13, hq15]
      clear hq8 hq11 hq13 hq15 hs hC
      have hN12w := hN11.trans hN12
      have kF := cell_of_row _ _ 0 _ _ _ (hN12.heap hF11 id)
      have he : (f.name.toList == [58, 97, 117, 116, 104, 111, 114, 105, 116, 121]) = one := by
        rw [← Hone.out, Hplain.out.1, Lib.toList_data, Bool.eq_iff_iff, decide_eq_true_iff, beq_iff_eq]
        constructor
        · intro h
          exact ByteArray.ext (Array.toList_inj.1 h)
        · intro h
          rw [h]
          rfl
      clear hF11
      go_wp2_with fail
      refine (HW.out _ hN12w).mono ?_
      rintro e w13 ⟨rfl, hN13⟩
      cases one
      all_goals
        go_wp2_with fail
        go_ret
        exact ⟨rfl, hN13⟩
end Go.Proofs.YtkjghojdfjhhkaaDoor
