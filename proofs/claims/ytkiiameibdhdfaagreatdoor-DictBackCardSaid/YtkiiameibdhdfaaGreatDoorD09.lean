/- Strings read (the program). -/
import Derived.Test.YtkiiameibdhdfaaGreatDoorD04
set_option linter.unusedSimpArgs false
set_option linter.unusedVariables false
namespace Go.Proofs.YtkiiameibdhdfaaGreatDoor
open Go.RowKit Go.Shelf Go.Cs
attribute [local go_sem] Oper.semAt_some
set_option linter.unusedVariables false
set_option linter.unusedSimpArgs false
theorem wp_scope_loop {P : Program} {a : Act} {w : World} {Q : Exit → Act → World → Prop} {c rest : Code} (l : Nat) (J : Act → World → Prop) (μ : Act → World → Nat) (hf : findLabel c l = some rest)
    (pass : ∀ a w, J a w → rest.wp P (Exit.jump l (fun a' w' => J a' w' ∧ μ a' w' < μ a w) Q) a w)
    (first : (∀ a w, J a w → rest.wp P (Exit.jump l J Q) a w) → c.wp P (Exit.jump l J Q) a w) : (Code.scope c).wp P Q a w :=
  wp_scope_jumps l J μ hf (first fun a w h => wp_mono (pass a w h) fun e a' w' hq => by
    cases e with
    | goto l' => exact ⟨hq.1, hq.2.1⟩
    | _ => exact hq) pass
theorem quoted_at (acc : Bare.Bs) (s : ByteArray) (k : Nat) (h : k < s.size) : Bare.quoted acc ((bl s).drop k) = (if Bare.plnB (gb s k) = false then none
    else if gb s k = 34 then some (⟨3, 0, acc, false⟩, (bl s).drop (k + 1))
    else if gb s k = 92 then (if k + 1 < s.size ∧ (gb s (k + 1) = 34 ∨ gb s (k + 1) = 92) then Bare.quoted (acc ++ [gb s (k + 1)]) ((bl s).drop (k + 2)) else none)
    else Bare.quoted (acc ++ [gb s k]) ((bl s).drop (k + 1))) := by
  have hdr : (bl s).drop k = gb s k :: (bl s).drop (k + 1) := by
    have := gb_get s k h
    obtain ⟨h1, h2⟩ := List.getElem?_eq_some_iff.1 this
    rw [List.drop_eq_getElem_cons h1, h2]
  rw [hdr, Bare.quoted_cons]
  by_cases hp : Bare.plnB (gb s k) = false
  · rw [if_pos hp, if_pos hp]
  rw [if_neg hp, if_neg hp]
  by_cases h34 : gb s k = 34
  · rw [if_pos h34, if_pos h34]
  rw [if_neg h34, if_neg h34]
  by_cases h92 : gb s k = 92
  · rw [if_pos h92, if_pos h92]
    by_cases hk : k + 1 < s.size
    · have hdr2 : (bl s).drop (k + 1) = gb s (k + 1) :: (bl s).drop (k + 2) := by
        have := gb_get s (k + 1) hk
        obtain ⟨h1, h2⟩ := List.getElem?_eq_some_iff.1 this
        rw [List.drop_eq_getElem_cons h1, h2]
      rw [hdr2]
      simp only
      by_cases hd : gb s (k + 1) = 34 ∨ gb s (k + 1) = 92
      · rw [if_pos hd, if_pos ⟨hk, hd⟩]
      · rw [if_neg hd, if_neg (fun h => hd h.2)]
    · have hdr2 : (bl s).drop (k + 1) = [] := List.drop_eq_nil_of_le (by rw [bl_len]; omega)
      rw [hdr2, if_neg (fun h => hk h.1)]
  · rw [if_neg h92, if_neg h92]
theorem quoted_end (acc : Bare.Bs) (s : ByteArray) (k : Nat) (h : s.size ≤ k) : Bare.quoted acc ((bl s).drop k) = none := by
  rw [List.drop_eq_nil_of_le (by rw [bl_len]; exact h)]
  rfl
/-- What is laid of a text's byte: the walk's spellings. -/
theorem byte_test (c : UInt8) (d : Nat) (hd : d < 256) (n : Nat) (hn : c.toNat = n) : ((n : Int) == (d : Int)) = decide (c = UInt8.ofNat d) ∧ ((n : Int) != (d : Int)) = !decide (c = UInt8.ofNat d) := by
  have e : ((n : Int) == (d : Int)) = decide (c = UInt8.ofNat d) := by
    rw [Bool.eq_iff_iff, beq_iff_eq, decide_eq_true_eq, ← UInt8.toNat_inj, hn, UInt8.toNat_ofNat']
    omega
  exact ⟨e, by rw [← e]; rfl⟩
theorem lit62' (t : Array Value) (h : t.size = 62) : ∃ u : Nat → Value, t = (u 0 :: u 1 :: u 2 :: u 3 :: u 4 :: u 5 :: u 6 :: u 7 :: u 8 :: u 9 :: u 10 :: u 11 :: u 12 :: u 13 :: u 14 :: u 15 :: u 16 :: u 17 :: u 18 :: u 19 :: u 20 :: u 21 :: u 22 :: u 23 :: u 24 :: u 25 :: u 26 :: u 27 :: u 28 :: u 29 :: u 30 :: u 31 :: u 32 :: u 33 :: u 34 :: u 35 :: u 36 :: u 37 :: u 38 :: u 39 :: u 40 :: u 41 :: u 42 :: u 43 :: u 44 :: u 45 :: u 46 :: u 47 :: u 48 :: u 49 :: u 50 :: u 51 :: u 52 :: u 53 :: u 54 :: u 55 :: u 56 :: u 57 :: u 58 :: u 59 :: u 60 :: u 61 :: ([] : List Value)).toArray := ⟨fun i => t.getD i undef, range_lit t 62 h⟩
def scopeOf : Code → Option Code
  | .scope c => some c
  | .seq a b => (scopeOf a).orElse fun _ => scopeOf b
  | .block _ c => scopeOf c
  | _ => none
def behindSkip : Code → Code
  | .seq .skip x => x
  | x => x
/-- What follows the label 'next'. -/
noncomputable def quotedX : Code := ((((Tryz.f211.body.bind scopeOf).bind fun c => findLabel c 0).map behindSkip).getD .skip)
def QJ (s : ByteArray) (w : World) (B : Nat) (r : Option (Bare.It × Bare.Bs)) (a : Act) (W : World) : Prop := ∃ (k : Nat) (acc : Bare.Bs) (v : Value), (a.tmps.size = 62 ∧ a.defers = [] ∧ a.tmps.getD 0 undef = .string s ∧ a.tmps.getD 2 undef = .pointer (some ⟨B, 0, none⟩) ∧ a.tmps.getD 5 undef = v ∧ a.tmps.getD 6 undef = .int .i64 k) ∧ k ≤ s.size ∧ acc.length ≤ k ∧ W.ownsRow (B + 1) 5 1 v acc.length (u8s acc) ∧ W.heap[B]? = some (.cells #[.int .u8 0, .int .i64 0, .string ⟨#[]⟩, .bool false] 66 (0, 0)) ∧ New w W ∧ Hid (Bare.quoted acc ((bl s).drop k) = r)
def Qμ (s : ByteArray) (a : Act) (_ : World) : Nat := s.size - (intOf (a.tmps.getD 6 undef)).toNat
set_option maxHeartbeats 4000000 in
set_option maxRecDepth 100000 in
theorem quoted_X (s : ByteArray) (w : World) (B : Nat) (r : Option (Bare.It × Bare.Bs)) (hs : s.size ≤ 1000000) (hBw : w.heap.size ≤ B) (a0 : Act) (W : World) (hJ : QJ s w B r a0 W) :
    quotedX.wp Tryz.prog (Exit.jump 0 (fun a' w' => QJ s w B r a' w' ∧ Qμ s a' w' < Qμ s a0 W) (bodyPost Tryz.prog Tryz.f211 fun e w' => ReadP r w e w')) a0 W := by
  conv => arg 2; whnf
  obtain ⟨i0, hi, hz0, hz1, hz2⟩ := info_parts infoB'
  obtain ⟨z, dfs⟩ := a0
  obtain ⟨k, acc, v, ⟨hsz, hd, hq0, hq2, hq5, hq6⟩, hk, hacc, hown, hr, hN, HR⟩ := hJ
  simp only at hsz hd hq0 hq2 hq5 hq6
  subst hd
  obtain ⟨u, rfl⟩ := lit62' z hsz
  have hp0 : u 0 = _ := hq0
  have hp2 : u 2 = _ := hq2
  have hp5 : u 5 = _ := hq5
  have hp6 : u 6 = _ := hq6
  rw [hp0, hp2, hp5, hp6]
  clear hp0 hp2 hp5 hp6 hq0 hq2 hq5 hq6 hsz
  skip
  obtain ⟨⟨c0, c1, c2, c3⟩, f0, f1, f2, f3⟩ := row_facts hr
  have hBl : B < W.heap.size := (Array.getElem?_eq_some_iff.1 hr).1
  by_cases hlt : k < s.size
  · have hge : decide ((s.size : Int) ≤ (k : Int)) = false := decide_eq_false (by omega)
    have hix := run_idx s k hlt
    have HP := Lib.hid (fun W => (plain_p (gb s k) W).mono fun e w' h => show e = _ ∧ W = w' from ⟨h.1, h.2.symm⟩)
    have hqa := quoted_at acc s k hlt
    rw [HR.out] at hqa
    obtain ⟨n, hn⟩ : ∃ n, (gb s k).toNat = n := ⟨_, rfl⟩
    obtain ⟨t34, t34n⟩ := byte_test (gb s k) 34 (by decide) n hn
    obtain ⟨t92, t92n⟩ := byte_test (gb s k) 92 (by decide) n hn
    rw [show UInt8.ofNat 34 = 34 from rfl] at t34
    rw [show UInt8.ofNat 92 = 92 from rfl] at t92
    have t34 : ((n : Int) == 34) = decide (gb s k = 34) := t34
    have t92 : ((n : Int) == 92) = decide (gb s k = 92) := t92
    have hnc : (gb s k).toNat = n := hn
    rw [hn] at HP hix
    clear t34n t92n HR hn
    cases hp : Bare.plnB (gb s k) with
    | false =>
      rw [hp, if_pos rfl] at hqa
      rw [hp] at HP
      subst hqa
      unfold ReadP bv bcs noIt
      simp only
      clear t34 t92 hp
      go_wp2_with (go_at_call 151; refine (HP.out _).mono ?_; rintro e w' ⟨rfl, rfl⟩)
      simp only [Exit.jump]
      obtain ⟨hN2, hr2⟩ := set4 hN hBw hr (.int .u8 0) (.int .i64 0) (.string ⟨#[]⟩) (.bool false)
      obtain ⟨W2, hW2⟩ : ∃ W2, ((((W.setCell ⟨B, 0, none⟩ (.int .u8 0)).setCell ⟨B, 1, none⟩ (.int .i64 0)).setCell ⟨B, 2, none⟩ (.string ⟨#[]⟩)).setCell ⟨B, 3, none⟩ (.bool false)) = W2 := ⟨_, rfl⟩
      rw [hW2] at hN2 hr2 ⊢
      exact read_end (by kernel_rfl) rfl rfl rfl hr2 ⟨rfl, hN2⟩
    | true =>
      rw [hp, if_neg (by decide)] at hqa
      rw [hp] at HP
      have hkb : (k : Int) ≤ 1000000 := by omega
      by_cases h34 : gb s k = 34
      · rw [if_pos h34] at hqa
        rw [decide_eq_true h34] at t34
        have hcv := conv_own (w := W.drew) hown
        have hsl : ∀ W, (Instr.slice 9 (.string s) (some (.int .i64 ((k : Int) + 1))) none none).run Tryz.prog W = .ok (.string (tx ((bl s).drop (k + 1)))) W := fun W => run_sl_l s (k + 1) (by omega) W
        subst hqa
        unfold ReadP bv bcs
        simp only
        obtain ⟨x, hx⟩ : ∃ x, tx acc = x := ⟨_, rfl⟩
        obtain ⟨y, hy⟩ : ∃ y, tx ((bl s).drop (k + 1)) = y := ⟨_, rfl⟩
        rw [hx] at hcv ⊢
        rw [hy] at hsl ⊢
        clear hx hy hp h34 t92 hacc hk
        go_upto_region 7 with (go_at_call 151; refine (HP.out _).mono ?_; rintro e w' ⟨rfl, rfl⟩)
        go_region
        obtain ⟨hN2, hr2⟩ := set4 hN hBw hr (.int .u8 3) (.int .i64 0) (.string x) (.bool false)
        have hN2 := hN2.drew
        have hr2 : ((((W.setCell ⟨B, 0, none⟩ (.int .u8 3)).setCell ⟨B, 1, none⟩ (.int .i64 0)).setCell ⟨B, 2, none⟩ (.string x)).setCell ⟨B, 3, none⟩ (.bool false)).drew.heap[B]? = some (.cells #[(.int .u8 3), (.int .i64 0), (.string x), (.bool false)] 66 (0, 0)) := hr2
        obtain ⟨W2, hW2⟩ : ∃ W2, ((((W.setCell ⟨B, 0, none⟩ (.int .u8 3)).setCell ⟨B, 1, none⟩ (.int .i64 0)).setCell ⟨B, 2, none⟩ (.string x)).setCell ⟨B, 3, none⟩ (.bool false)).drew = W2 := ⟨_, rfl⟩
        rw [hW2] at hN2 hr2 ⊢
        go_wp2_with fail
        simp only [Exit.jump]
        exact read_end (by kernel_rfl) rfl rfl rfl hr2 ⟨rfl, hN2⟩
      rw [if_neg h34] at hqa
      rw [decide_eq_false h34] at t34
      by_cases h92 : gb s k = 92
      · rw [if_pos h92] at hqa
        rw [decide_eq_true h92] at t92
        by_cases hk1 : k + 1 < s.size
        · have hge1 : decide ((s.size : Int) ≤ (k : Int) + 1) = false := decide_eq_false (by omega)
          have hix2 : ∀ W, (Instr.index 9 (.string s) (.int .i64 ((k : Int) + 1))).run Tryz.prog W = .ok (.int .u8 ((gb s (k + 1)).toNat : Nat)) W := fun W => run_idx s (k + 1) hk1 W
          obtain ⟨m, hm⟩ : ∃ m, (gb s (k + 1)).toNat = m := ⟨_, rfl⟩
          obtain ⟨-, m34⟩ := byte_test (gb s (k + 1)) 34 (by decide) m hm
          obtain ⟨-, m92⟩ := byte_test (gb s (k + 1)) 92 (by decide) m hm
          rw [show UInt8.ofNat 34 = 34 from rfl] at m34
          rw [show UInt8.ofNat 92 = 92 from rfl] at m92
          have m34 : ((m : Int) != 34) = !decide (gb s (k + 1) = 34) := m34
          have m92 : ((m : Int) != 92) = !decide (gb s (k + 1) = 92) := m92
          have hmc : (gb s (k + 1)).toNat = m := hm
          rw [hm] at hix2
          by_cases hok : gb s (k + 1) = 34 ∨ gb s (k + 1) = 92
          · rw [if_pos ⟨hk1, hok⟩] at hqa
            obtain ⟨a, ha⟩ : ∃ a, decide (gb s (k + 1) = 34) = a := ⟨_, rfl⟩
            obtain ⟨b, hb⟩ : ∃ b, decide (gb s (k + 1) = 92) = b := ⟨_, rfl⟩
            have hab : a = true ∨ (a = false ∧ b = true) := by
              rw [← ha, ← hb]
              by_cases h : gb s (k + 1) = 34
              · exact .inl (decide_eq_true h)
              · exact .inr ⟨decide_eq_false h, decide_eq_true (hok.resolve_left h)⟩
            rw [ha] at m34
            rw [hb] at m92
            clear ha hb hok hm hp h34 h92
            rcases hab with rfl | ⟨rfl, rfl⟩
            · have m34 : ((m : Int) != 34) = false := m34
              clear m92
              go_wp2_with (first | (go_at_call 151; refine (HP.out _).mono ?_; rintro e w' ⟨rfl, rfl⟩) | (at_builtin; refine wpList_append_own _ rfl _ _ 113 rfl (B + 1) 5 i0 _ 1 1 Tryz.underlying113 hi hz0 hz1 hz2 rfl (by decide) _ _ _ rfl (hown.alloc _) ⟨W.heap.size, 0, none⟩ 1 1 [.int .u8 (m : Nat)] rfl rfl ?c1 ?c2 ?c3 ?c4 ?c5 ?_))
              case c1 => exact cell_one_new _ _ _
              case c2 => simp [Value.oneCell']
              case c3 => unfold maxLen; omega
              case c4 => have := hown.1; simp; omega
              case c5 => simp; omega
              intro v' W2 hown' hgrow _
              have hk2 : New W (W.alloc (.cells #[.int .u8 (m : Nat)] 5)) := (Mods.refl _ _).alloc _
              have hN3 : New w W2 := (hN.alloc _).grown hgrow (fun g hg => .inl (by have := (hown.lt g hg).1; omega))
              have hr3 : W2.heap[B]? = some (.cells #[.int .u8 0, .int .i64 0, .string ⟨#[]⟩, .bool false] 66 (0, 0)) := by
                have h2 := hk2.heap hr id
                have h3 : Mods (fun b => B + 1 ≤ b) (W.alloc (.cells #[.int .u8 (m : Nat)] 5)) W2 := (Mods.refl _ _).grown hgrow (fun g hg => .inr ⟨(hown.lt g hg).1, own_cells (hown.alloc _) hg⟩)
                exact h3.heap h2 (by omega)
              have hown3 : W2.ownsRow (B + 1) 5 1 v' (acc ++ [gb s (k + 1)]).length (u8s (acc ++ [gb s (k + 1)])) := by
                have : u8s (acc ++ [gb s (k + 1)]) = u8s acc ++ [.int .u8 (m : Nat)] := by rw [u8s_snoc, hmc]
                rw [this, List.length_append]
                exact hown'
              clear hown hown' hgrow c0 c1 c2 c3 f0 f1 f2 f3 hk2
              go_wp2_with fail
              exact wp_goto (And.intro rfl ⟨⟨k + 2, acc ++ [gb s (k + 1)], v', ⟨rfl, rfl, rfl, rfl, rfl, rfl⟩, by omega, by rw [List.length_append]; show acc.length + 1 ≤ _; omega, hown3, hr3, hN3, Lib.hid hqa.symm⟩, by simp [Qμ, intOf]; omega⟩)
            · have m34 : ((m : Int) != 34) = true := m34
              have m92 : ((m : Int) != 92) = false := m92
              go_wp2_with (first | (go_at_call 151; refine (HP.out _).mono ?_; rintro e w' ⟨rfl, rfl⟩) | (at_builtin; refine wpList_append_own _ rfl _ _ 113 rfl (B + 1) 5 i0 _ 1 1 Tryz.underlying113 hi hz0 hz1 hz2 rfl (by decide) _ _ _ rfl (hown.alloc _) ⟨W.heap.size, 0, none⟩ 1 1 [.int .u8 (m : Nat)] rfl rfl ?c1 ?c2 ?c3 ?c4 ?c5 ?_))
              case c1 => exact cell_one_new _ _ _
              case c2 => simp [Value.oneCell']
              case c3 => unfold maxLen; omega
              case c4 => have := hown.1; simp; omega
              case c5 => simp; omega
              intro v' W2 hown' hgrow _
              have hk2 : New W (W.alloc (.cells #[.int .u8 (m : Nat)] 5)) := (Mods.refl _ _).alloc _
              have hN3 : New w W2 := (hN.alloc _).grown hgrow (fun g hg => .inl (by have := (hown.lt g hg).1; omega))
              have hr3 : W2.heap[B]? = some (.cells #[.int .u8 0, .int .i64 0, .string ⟨#[]⟩, .bool false] 66 (0, 0)) := by
                have h2 := hk2.heap hr id
                have h3 : Mods (fun b => B + 1 ≤ b) (W.alloc (.cells #[.int .u8 (m : Nat)] 5)) W2 := (Mods.refl _ _).grown hgrow (fun g hg => .inr ⟨(hown.lt g hg).1, own_cells (hown.alloc _) hg⟩)
                exact h3.heap h2 (by omega)
              have hown3 : W2.ownsRow (B + 1) 5 1 v' (acc ++ [gb s (k + 1)]).length (u8s (acc ++ [gb s (k + 1)])) := by
                have : u8s (acc ++ [gb s (k + 1)]) = u8s acc ++ [.int .u8 (m : Nat)] := by rw [u8s_snoc, hmc]
                rw [this, List.length_append]
                exact hown'
              clear hown hown' hgrow c0 c1 c2 c3 f0 f1 f2 f3 hk2
              go_wp2_with fail
              exact wp_goto (And.intro rfl ⟨⟨k + 2, acc ++ [gb s (k + 1)], v', ⟨rfl, rfl, rfl, rfl, rfl, rfl⟩, by omega, by rw [List.length_append]; show acc.length + 1 ≤ _; omega, hown3, hr3, hN3, Lib.hid hqa.symm⟩, by simp [Qμ, intOf]; omega⟩)
          · rw [if_neg (fun h => hok h.2)] at hqa
            have n34 : ((m : Int) != 34) = true := by rw [m34, decide_eq_false (fun h => hok (.inl h))]; rfl
            have n92 : ((m : Int) != 92) = true := by rw [m92, decide_eq_false (fun h => hok (.inr h))]; rfl
            clear m34 m92
            subst hqa
            unfold ReadP bv bcs noIt
            simp only
            clear hok hm hmc hp h34 h92
            go_wp2_with (go_at_call 151; refine (HP.out _).mono ?_; rintro e w' ⟨rfl, rfl⟩)
            simp only [Exit.jump]
            obtain ⟨hN2, hr2⟩ := set4 hN hBw hr (.int .u8 0) (.int .i64 0) (.string ⟨#[]⟩) (.bool false)
            obtain ⟨W2, hW2⟩ : ∃ W2, ((((W.setCell ⟨B, 0, none⟩ (.int .u8 0)).setCell ⟨B, 1, none⟩ (.int .i64 0)).setCell ⟨B, 2, none⟩ (.string ⟨#[]⟩)).setCell ⟨B, 3, none⟩ (.bool false)) = W2 := ⟨_, rfl⟩
            rw [hW2] at hN2 hr2 ⊢
            exact read_end (by kernel_rfl) rfl rfl rfl hr2 ⟨rfl, hN2⟩
        · have hge1 : decide ((s.size : Int) ≤ (k : Int) + 1) = true := decide_eq_true (by omega)
          rw [if_neg (fun h => hk1 h.1)] at hqa
          subst hqa
          unfold ReadP bv bcs noIt
          simp only
          have hge1' : (s.size : Int) ≤ (k : Int) + 1 := by omega
          clear hp h34 h92 hk1
          go_wp2_with (go_at_call 151; refine (HP.out _).mono ?_; rintro e w' ⟨rfl, rfl⟩)
          simp only [Exit.jump]
          obtain ⟨hN2, hr2⟩ := set4 hN hBw hr (.int .u8 0) (.int .i64 0) (.string ⟨#[]⟩) (.bool false)
          obtain ⟨W2, hW2⟩ : ∃ W2, ((((W.setCell ⟨B, 0, none⟩ (.int .u8 0)).setCell ⟨B, 1, none⟩ (.int .i64 0)).setCell ⟨B, 2, none⟩ (.string ⟨#[]⟩)).setCell ⟨B, 3, none⟩ (.bool false)) = W2 := ⟨_, rfl⟩
          rw [hW2] at hN2 hr2 ⊢
          exact read_end (by kernel_rfl) rfl rfl rfl hr2 ⟨rfl, hN2⟩
      · rw [if_neg h92] at hqa
        rw [decide_eq_false h92] at t92
        clear hp h34 h92
        go_wp2_with (first | (go_at_call 151; refine (HP.out _).mono ?_; rintro e w' ⟨rfl, rfl⟩) | (at_builtin; refine wpList_append_own _ rfl _ _ 113 rfl (B + 1) 5 i0 _ 1 1 Tryz.underlying113 hi hz0 hz1 hz2 rfl (by decide) _ _ _ rfl (hown.alloc _) ⟨W.heap.size, 0, none⟩ 1 1 [.int .u8 (n : Nat)] rfl rfl ?c1 ?c2 ?c3 ?c4 ?c5 ?_))
        case c1 => exact cell_one_new _ _ _
        case c2 => simp [Value.oneCell']
        case c3 => unfold maxLen; omega
        case c4 => have := hown.1; simp; omega
        case c5 => simp; omega
        intro v' W2 hown' hgrow _
        have hk2 : New W (W.alloc (.cells #[.int .u8 (n : Nat)] 5)) := (Mods.refl _ _).alloc _
        have hN3 : New w W2 := (hN.alloc _).grown hgrow (fun g hg => .inl (by have := (hown.lt g hg).1; omega))
        have hr3 : W2.heap[B]? = some (.cells #[.int .u8 0, .int .i64 0, .string ⟨#[]⟩, .bool false] 66 (0, 0)) := by
          have h2 := hk2.heap hr id
          have h3 : Mods (fun b => B + 1 ≤ b) (W.alloc (.cells #[.int .u8 (n : Nat)] 5)) W2 := (Mods.refl _ _).grown hgrow (fun g hg => .inr ⟨(hown.lt g hg).1, own_cells (hown.alloc _) hg⟩)
          exact h3.heap h2 (by omega)
        have hown3 : W2.ownsRow (B + 1) 5 1 v' (acc ++ [gb s k]).length (u8s (acc ++ [gb s k])) := by
          have : u8s (acc ++ [gb s k]) = u8s acc ++ [.int .u8 (n : Nat)] := by rw [u8s_snoc, hnc]
          rw [this, List.length_append]
          exact hown'
        clear hown hown' hgrow c0 c1 c2 c3 f0 f1 f2 f3 hk2
        go_wp2_with fail
        exact wp_goto (And.intro rfl ⟨⟨k + 1, acc ++ [gb s k], v', ⟨rfl, rfl, rfl, rfl, rfl, rfl⟩, by omega, by rw [List.length_append]; show acc.length + 1 ≤ _; omega, hown3, hr3, hN3, Lib.hid hqa.symm⟩, by simp [Qμ, intOf]; omega⟩)
  · have hge : decide ((s.size : Int) ≤ (k : Int)) = true := decide_eq_true (by omega)
    have hqa := quoted_end acc s k (by omega)
    rw [HR.out] at hqa
    subst hqa
    unfold ReadP bv bcs noIt
    simp only
    have hge' : s.size ≤ k := by omega
    clear HR hlt
    go_wp2_with fail
    simp only [Exit.jump]
    obtain ⟨hN2, hr2⟩ := set4 hN hBw hr (.int .u8 0) (.int .i64 0) (.string ⟨#[]⟩) (.bool false)
    obtain ⟨W2, hW2⟩ : ∃ W2, ((((W.setCell ⟨B, 0, none⟩ (.int .u8 0)).setCell ⟨B, 1, none⟩ (.int .i64 0)).setCell ⟨B, 2, none⟩ (.string ⟨#[]⟩)).setCell ⟨B, 3, none⟩ (.bool false)) = W2 := ⟨_, rfl⟩
    rw [hW2] at hN2 hr2 ⊢
    exact read_end (by kernel_rfl) rfl rfl rfl hr2 ⟨rfl, hN2⟩
set_option maxHeartbeats 4000000 in
set_option maxRecDepth 100000 in
theorem quoted_read (s : ByteArray) (w : World) (hs : s.size ≤ 1000000) (h0 : 0 < s.size) :
    Calls Tryz.prog 211 #[.string s] w (ReadP (Bare.quoted [] ((bl s).drop 1)) w) := by
  obtain ⟨r, hr'⟩ : ∃ r, Bare.quoted [] ((bl s).drop 1) = r := ⟨_, rfl⟩
  have HR := Lib.hid hr'
  rw [hr']
  clear hr'
  obtain ⟨hN, hr⟩ := no_row w
  go_enter Tryz.func211, Tryz.ntmps211
  go_upto_region 1 with fail
  obtain ⟨W, hW⟩ : ∃ W, w.alloc (.cells #[.int .u8 0, .int .i64 0, .string ⟨#[]⟩, .bool false] 66) = W := ⟨_, rfl⟩
  rw [hW] at hN hr ⊢
  obtain ⟨B, hB⟩ : ∃ B, w.heap.size = B := ⟨_, rfl⟩
  have hBw : w.heap.size ≤ B := by omega
  rw [hB] at hr ⊢
  clear hW hB
  obtain ⟨⟨c0, c1, c2, c3⟩, f0, f1, f2, f3⟩ := row_facts hr
  clear c0 c1 c2 c3 f0 f1 f2 f3
  refine wp_scope_loop 0 (QJ s w B r) (Qμ s) rfl ?pass ?first
  case first =>
    intro hp
    go_wp2_with fail
    refine wp_label ?_
    rename_i K hK
    refine hK _ _ (wp_mono (quoted_X s w B r hs hBw _ _ ⟨1, [], .slice none 0 0, ⟨rfl, rfl, rfl, rfl, rfl, rfl⟩, by omega, by simp, World.ownsRow_nil _ _ _ _, hr, hN, HR⟩) ?_)
    intro e a' w' hq
    cases e with
    | goto l' => exact ⟨hq.1, hq.2.1⟩
    | _ => exact hq
  case pass =>
    intro a W' hJ
    refine wp_seq (wp_skip ?_)
    exact quoted_X s w B r hs hBw a W' hJ
end Go.Proofs.YtkiiameibdhdfaaGreatDoor
