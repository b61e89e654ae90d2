/- UrgentOf, walked. -/
import Derived.Test.YtkiiameibdhdfaaGreatDoorM21
set_option linter.unusedSimpArgs false
set_option linter.unusedVariables false
namespace Go.Proofs.YtkiiameibdhdfaaGreatDoor
open Go.RowKit Go.Shelf Go.Cs
attribute [local go_sem] Oper.semAt_some
set_option linter.unusedVariables false
set_option linter.unusedSimpArgs false
theorem mem_getD' {α : Type} {l : List α} {a d : α} (h : a ∈ l) : ∃ i, i < l.length ∧ l.getD i d = a := by
  obtain ⟨i, hi⟩ := List.getElem?_of_mem h
  exact ⟨i, (List.getElem?_eq_some_iff.1 hi).1, by rw [List.getD_eq_getElem?_getD, hi]; rfl⟩
set_option maxHeartbeats 8000000 in
set_option maxRecDepth 100000 in
theorem of_law (v : Value) (d : List Bare.Mem) (w : World) (hd : RdD false w v d) (hf : ∀ m ∈ d, Fits m) (hb : ∀ m ∈ d, ∀ x ∈ m.items, ItI x.bare) (hT : Tab w) :
    Calls Tryz.prog 11 #[v] w fun e w' => e = .returned (.bool true) ∧ New w w' := by
  have HWk := Lib.hid (fun W (hN : New w W) => wakes_u W (hT.new hN))
  have HGr := great14 v d w hd
  have hItI : ∀ b, Bare.heard d [117] = some b → ItI b := fun b hh => by
    unfold Bare.heard at hh
    split at hh
    · rename_i m hm
      split at hh
      · rename_i hc
        cases hh
        refine hb m (List.mem_of_find?_eq_some hm) _ ?_
        cases hl : m.items with
        | nil => rw [hl] at hc; exact absurd hc.2 (by decide)
        | cons x r => simp
      · cases hh
    · cases hh
  have HO := Lib.hid (fun W (hN : New w W) => of_any v d W (hd.new hN) hf hItI)
  have hIL : ∀ b, Bare.heard (leftD d) [117] = some b → ItI b := fun b hh => hItI b (by rw [← heard_left d _ (.inl rfl)]; exact hh)
  obtain ⟨hr0, hr7⟩ := urg_range d
  have hun := @urg_nil d
  have hul := urg_left d
  obtain ⟨u, hu⟩ : ∃ u : Nat, Bare.urgOf d = (u : Int) := ⟨(Bare.urgOf d).toNat, by omega⟩
  obtain ⟨I, hI⟩ : ∃ y, Bare.incOf d = y := ⟨_, rfl⟩
  rw [hu] at HO hr7 hun hul
  rw [hI] at HO hun hul
  have hu7 : u ≤ 7 := by omega
  clear hr0 hr7 hu hI hT
  unfold prV at HO
  have HD := Lib.hid hd
  obtain ⟨ao, cap, rfl⟩ := hd.slice
  clear hd hf hb hItI
  have HIL := Lib.hid hIL
  have HUN := Lib.hid hun
  have HUL := Lib.hid hul
  clear hIL hun hul
  have hN0 : New w w := Mods.refl _ _
  go_enter Tryz.func11, Tryz.ntmps11
  go_wp2_with fail
  refine HGr.mono ?_
  rintro e w1 ⟨g, rfl, hN1, hg⟩
  cases g with
  | true =>
    clear hg
    go_wp2_with fail
    refine (HWk.out _ hN1).mono ?_
    rintro e w2 ⟨rfl, hN2⟩
    go_wp2_with fail
    go_ret
    exact ⟨rfl, hN1.trans hN2⟩
  | false =>
    obtain ⟨hn40, hi40⟩ := hg rfl
    clear hg HGr
    have HI40 := Lib.hid hi40
    clear hi40
    obtain ⟨n, hn⟩ : ∃ n, d.length = n := ⟨_, rfl⟩
    have Hn := Lib.hid hn
    rw [hn] at hn40 HD HO ⊢
    clear hn
    go_wp2_with fail
    go_loopw [3, 4] (fun s t wr => ∃ (i : Nat) (la : Option Addr) (lc : Nat), i ≤ n ∧ s = .slice la (leftD (d.take i)).length lc ∧ t = .int .i64 i ∧ OwL w.heap.size wr (.slice la (leftD (d.take i)).length lc) (leftD (d.take i)) ∧ New w wr) (fun _ t _ => n - (intOf t).toNat)
    case atStart => exact ⟨0, none, 0, Nat.zero_le _, rfl, rfl, OwL.nil _ _, hN1⟩
    case round =>
      clear hN1 hN0
      obtain ⟨i, la, lc, hi, rfl, rfl, hol, hN⟩ := hrel
      by_cases hlt : i < n
      · have hkd : decide ((i : Int) < (n : Int)) = true := decide_eq_true (by omega)
        have hld : i < d.length := by rw [Hn.out]; exact hlt
        have hd := HD.out.new hN
        obtain ⟨iv, pv, h1, -, h3⟩ := hd
        obtain ⟨b1, o1, rfl, hrow⟩ := h1.at.2.2 i hlt
        obtain ⟨hi', hp⟩ := h3 i hld
        obtain ⟨ia, ic, hie⟩ := hi'.slice
        obtain ⟨pa, pc, hpe⟩ := hp.slice
        rw [hie] at hrow hi'
        rw [hpe] at hrow
        have HX := Lib.hid hi'
        have htk := leftD_take hld
        have HT := Lib.hid htk
        have hi40 := HI40.out i hld
        have HRow := Lib.hid hrow
        obtain ⟨m, hm⟩ : ∃ m, d.getD i noM = m := ⟨_, rfl⟩
        rw [hm] at HX HT hi40 HRow hrow
        have hb1 : b1 < wr.heap.size := by
          obtain ⟨ob, ho, -⟩ := cells_of_cell (hrow 0 _ rfl)
          exact (Array.getElem?_eq_some_iff.1 ho).1
        clear htk h1 h3 hi' hp hie hpe hm
        obtain ⟨c0, -, -, -⟩ := cells4 hrow
        have he1 := eq_tx (tx m.key) ⟨#[117]⟩
        have he2 := eq_tx (tx m.key) ⟨#[105]⟩
        rw [bl_tx, show bl ⟨#[117]⟩ = [117] from rfl, show (⟨#[117]⟩ : ByteArray).toList = [117] from by rw [Lib.toList_data]] at he1
        rw [bl_tx, show bl ⟨#[105]⟩ = [105] from rfl, show (⟨#[105]⟩ : ByteArray).toList = [105] from by rw [Lib.toList_data]] at he2
        obtain ⟨K, hK⟩ : ∃ K, tx m.key = K := ⟨_, rfl⟩
        have HK := Lib.hid hK
        rw [hK] at c0 he1 he2
        have HRow2 : Hid (wr.rangeAt b1 (o1 + i * 4) [.string K, .bool m.inner, .slice ia m.items.length ic, .slice pa m.params.length pc]) := Lib.hid (by have := HRow.out; unfold mcs at this; rw [hK] at this; exact this)
        clear hK hrow HRow
        by_cases huk : uiB m = true
        · rw [if_pos huk] at HT
          have hor : m.key = [117] ∨ m.key = [105] := by unfold uiB at huk; simpa using huk
          have htest : decide (m.key = [117]) = true ∨ (decide (m.key = [117]) = false ∧ decide (m.key = [105]) = true) := by
            rcases hor with h | h
            · exact .inl (decide_eq_true h)
            · exact .inr ⟨decide_eq_false (by rw [h]; decide), decide_eq_true h⟩
          clear hor huk
          rcases htest with t1 | ⟨t1, t2⟩
          · rw [t1] at he1
            go_upto_region 8 with fail
            clear he1 he2 c0
            go_upto_region 9 with (refine op_value rfl (run_load_mid 64 (.tmp 33) rfl b1 (o1 + i * 4) rfl [.string K, .bool m.inner, .slice ia m.items.length ic, .slice pa m.params.length pc] _ HRow2.out Tryz.underlying64 rfl sizeM) ?_)
            have hA : New wr (wr.alloc (.cells #[.string K, .bool m.inner, .slice ia m.items.length ic, .slice pa m.params.length pc] 64)) := (Mods.refl _ _).alloc _
            have r5 := World.alloc_heap_new wr (.cells #[.string K, .bool m.inner, .slice ia m.items.length ic, .slice pa m.params.length pc] 64)
            have HHs := Lib.hid (rfl : wr.heap.size = wr.heap.size)
            obtain ⟨V, hV⟩ : ∃ V, wr.alloc (.cells #[.string K, .bool m.inner, .slice ia m.items.length ic, .slice pa m.params.length pc] 64) = V := ⟨_, rfl⟩
            obtain ⟨B, hB⟩ : ∃ b, wr.heap.size = b := ⟨_, rfl⟩
            rw [hV] at hA r5 ⊢
            rw [hB] at r5 hb1 ⊢
            have HB := Lib.hid hB
            clear hV hB HHs
            have p2 := cell_of_row _ _ 2 _ _ _ r5
            have p3 := cell_of_row _ _ 3 _ _ _ r5
            simp only [List.getElem?_toArray, List.getElem?_cons_succ, List.getElem?_cons_zero] at p2 p3
            have f2 := frozen_row (i := 2) r5
            have f3 := frozen_row (i := 3) r5
            go_upto_region 10 with fail
            have hm3 := setMods V B 3 (.slice none 0 0)
            have r5b := setCell_heap (i := 3) r5 (.slice none 0 0)
            obtain ⟨V1, hV⟩ : ∃ V', V.setCell ⟨B, 3, none⟩ (.slice none 0 0) = V' := ⟨_, rfl⟩
            rw [hV] at hm3 r5b ⊢
            have r5b : V1.heap[B]? = some (.cells #[.string K, .bool m.inner, .slice ia m.items.length ic, .slice none 0 0] 64 (0, 0)) := r5b
            clear hV p2 p3 f2 f3
            have p2 := cell_of_row _ _ 2 _ _ _ r5b
            simp only [List.getElem?_toArray, List.getElem?_cons_succ, List.getElem?_cons_zero] at p2
            have f2 := frozen_row (i := 2) r5b
            go_upto_region 11 with fail
            have hm2 := setMods V1 B 2 (.slice none 0 0)
            have r5c := setCell_heap (i := 2) r5b (.slice none 0 0)
            obtain ⟨V2, hV⟩ : ∃ V', V1.setCell ⟨B, 2, none⟩ (.slice none 0 0) = V' := ⟨_, rfl⟩
            rw [hV] at hm2 r5c ⊢
            have r5c : V2.heap[B]? = some (.cells #[.string K, .bool m.inner, .slice none 0 0, .slice none 0 0] 64 (0, 0)) := r5c
            have hN2 : New wr V2 := (((Mods.ofNew hA).trans hm3).trans hm2).new (fun g hg => by have := HB.out; omega)
            clear hV p2 f2 r5 r5b hm3 hm2 hA
            go_wp2_with fail
            obtain ⟨wo, hwo⟩ : ∃ x, x = wr := ⟨_, rfl⟩
            subst hwo
            have HRow3 := HRow2
            have HOL := Lib.hid hol
            have HN := Lib.hid hN
            have HBl := Lib.hid hb1
            clear hol hN hb1 HRow2
            obtain ⟨ni, hni⟩ : ∃ x, m.items.length = x := ⟨_, rfl⟩
            have HNi := Lib.hid hni
            rw [hni] at HRow3 HX hi40
            clear hni
            go_loopw [6] (fun t wr => ∃ (k : Nat) (ja : Option Addr) (jc : Nat), k ≤ ni ∧ t = .int .i64 k ∧ wr.heap[B]? = some (.cells #[.string K, .bool m.inner, .slice ja k jc, .slice none 0 0] 64 (0, 0)) ∧ OwX B wr (.slice ja k jc) k (fun j => ics ⟨(m.items.getD j Bare.noI).bare, []⟩ (.slice none 0 0)) ∧ New wo wr) (fun t _ => ni - (intOf t).toNat)
            case atStart => exact ⟨0, none, 0, Nat.zero_le _, rfl, r5c, OwX.nil _ _ _ (fun _ => rfl), hN2⟩
            case round =>
              clear r5c hN2
              obtain ⟨k, ja, jc, hk, rfl, rB, hox, hNk⟩ := hrel
              have hd2 : wr.cell? ⟨b1, o1 + i * 4 + 2, none⟩ = some (.slice ia ni ic) := hNk.cell (HRow3.out 2 _ rfl) id
              by_cases hkl : k < ni
              · have hkd2 : decide ((k : Int) < (ni : Int)) = true := decide_eq_true (by omega)
                obtain ⟨ip, q1, -, -⟩ := HX.out.new hNk
                obtain ⟨b2, o2, rfl, hrw⟩ := q1.at.2.2 k hkl
                obtain ⟨g0, g1, g2, g3, -⟩ := cells5 hrw
                have hb2 : b2 < B := by
                  obtain ⟨ip', q1', -, -⟩ := HX.out
                  obtain ⟨b2', o2', e, hrw'⟩ := q1'.at.2.2 k hkl
                  cases e
                  obtain ⟨ob, ho, -⟩ := cells_of_cell (hrw' 0 _ rfl)
                  have hsz : b2 < wo.heap.size := (Array.getElem?_eq_some_iff.1 ho).1
                  have := HB.out
                  omega
                have hbw : B ≤ wr.heap.size := by have := hNk.size; have := HB.out; omega
                have HG := Lib.hid (And.intro g0 (And.intro g1 (And.intro g2 g3)))
                have HOX := Lib.hid hox
                have HRB := Lib.hid rB
                clear q1 hrw g0 g1 g2 g3 hox rB
                go_upto_region 14 with fail
                refine piece (fun _ => _) (of14 _ rfl wr rfl rfl rfl rfl HRB.out HOX.out hbw (Nat.le_refl _) (by have := HBl.out; omega) (by omega) hd2 hlt hkl hi40 HG.out.1 HG.out.2.1 HG.out.2.2.1 HG.out.2.2.2) ?_
                rintro a' W2 ⟨z, ra, rc, rfl, rB2, hox2, hm2⟩
                simp only [List.setIfInBounds_toArray, List.set_cons_succ, List.set_cons_zero]
                have hNk2 : New wo W2 := ((Mods.ofNew hNk).trans hm2).new (fun g hg => by have hg : B ≤ g := hg; have := HB.out; omega)
                clear hd2 HG HOX HRB hm2 hNk
                go_wp2_with fail
                go_roundw
                case rel => exact ⟨k + 1, ra, rc, by omega, by go_num, rB2, hox2.congr (fun _ => rfl) (fun j hj => by
                  by_cases e : j = k
                  · rw [if_pos e, e]; rfl
                  · rw [if_neg e]), hNk2⟩
                case measure => simp [intOf]; omega
              · obtain rfl : k = ni := by omega
                have hkd2 : decide ((k : Int) < (k : Int)) = false := decide_eq_false (by omega)
                obtain ⟨f, hom, hel⟩ := HOL.out
                have hom2 := hom.new hNk
                have hls : (leftD (d.take i)).length ≤ 2000000 := by
                  have := leftD_len (d.take i)
                  rw [List.length_take] at this
                  omega
                have hbs : w.heap.size ≤ wr.heap.size := by have := HN.out.size; have := hNk.size; omega
                have hone := mcs_one K m.inner ja none k jc 0 0
                have HEl := Lib.hid hel
                have HOM := Lib.hid hom2
                have HOX := Lib.hid hox
                clear hel hom hom2 hox
                obtain ⟨L, hL⟩ : ∃ L, leftD (d.take i) = L := ⟨_, rfl⟩
                rw [hL] at HEl HOM hls HT ⊢
                clear hL HOL
                go_wp2_with (first | (refine op_value rfl (run_load_row 64 (.tmp 5) rfl B rfl 64 _ (0, 0) _ rB Tryz.underlying64 rfl sizeM) ?_) | (at_builtin; refine wpList_append_M (w := wr) (c := [.string K, .bool m.inner, .slice ja k jc, .slice none 0 0]) _ _ rfl rfl rfl rfl rfl rfl hone HOM.out hls hbs ?_; intro v4 W4 ho4 hm4; obtain ⟨la4, lc4, rfl⟩ := ho4.slice))
                go_roundw
                case rel =>
                  have hmm := hm4 wr (fun b => (Value.slice la L.length lc).ownBlock = some b) (Mods.refl _ _) (fun g hg => .inr hg)
                  have hsl : (strip m).items.length = k := by show (m.items.map _).length = k; rw [List.length_map]; exact HNi.out
                  have hmc : ([.string K, .bool m.inner, .slice ja k jc, .slice none 0 0] : List Value) = mcs (strip m) (.slice ja (strip m).items.length jc) (.slice none 0 0) := by
                    rw [hsl]
                    unfold mcs
                    rw [← HK.out]; rfl
                  refine ⟨i + 1, la4, lc4, by omega, by rw [HT.out, List.length_append]; rfl, by go_num, ?_, hm4 w (fun _ => False) (HN.out.trans hNk) (fun g hg => .inl (HOM.out.lt hg).1)⟩
                  rw [HT.out, List.length_append]
                  refine OwL.snoc (v := .slice none 0 0) (W := wr) (f := f) (ja := ja) (jc := jc) (m := strip m) (fun j hj => ?_) ?_ rfl (fun x hx => ?_) (by rw [← hmc]; exact ho4) hmm (fun g cs fr hg hc => ?_)
                  · obtain ⟨a1, a2, e1, e2, e3⟩ := HEl.out j hj
                    exact ⟨a1, a2, e1, e2.new hNk, e3⟩
                  · rw [hsl]
                    refine (HOX.out.mono (by have := HB.out; have := HN.out.size; omega)).congr (fun _ => rfl) (fun j hj => ?_)
                    have e : (strip m).items.getD j Bare.noI = ⟨(m.items.getD j Bare.noI).bare, []⟩ := by
                      show (m.items.map fun x => (⟨x.bare, []⟩ : Bare.Itm)).getD j Bare.noI = _
                      have : j < m.items.length := by rw [HNi.out]; exact hj
                      simp [List.getD, this]
                    rw [e]
                  · obtain ⟨y, -, rfl⟩ := List.mem_map.1 hx
                    rfl
                  · obtain ⟨cs', fr', h'⟩ := HOM.out.tag g hg
                    rw [h'] at hc
                    cases hc
                case measure => simp [intOf]; omega
          · rw [t1] at he1
            rw [t2] at he2
            go_upto_region 8 with fail
            clear he1 he2 c0
            go_upto_region 9 with (refine op_value rfl (run_load_mid 64 (.tmp 33) rfl b1 (o1 + i * 4) rfl [.string K, .bool m.inner, .slice ia m.items.length ic, .slice pa m.params.length pc] _ HRow2.out Tryz.underlying64 rfl sizeM) ?_)
            have hA : New wr (wr.alloc (.cells #[.string K, .bool m.inner, .slice ia m.items.length ic, .slice pa m.params.length pc] 64)) := (Mods.refl _ _).alloc _
            have r5 := World.alloc_heap_new wr (.cells #[.string K, .bool m.inner, .slice ia m.items.length ic, .slice pa m.params.length pc] 64)
            have HHs := Lib.hid (rfl : wr.heap.size = wr.heap.size)
            obtain ⟨V, hV⟩ : ∃ V, wr.alloc (.cells #[.string K, .bool m.inner, .slice ia m.items.length ic, .slice pa m.params.length pc] 64) = V := ⟨_, rfl⟩
            obtain ⟨B, hB⟩ : ∃ b, wr.heap.size = b := ⟨_, rfl⟩
            rw [hV] at hA r5 ⊢
            rw [hB] at r5 hb1 ⊢
            have HB := Lib.hid hB
            clear hV hB HHs
            have p2 := cell_of_row _ _ 2 _ _ _ r5
            have p3 := cell_of_row _ _ 3 _ _ _ r5
            simp only [List.getElem?_toArray, List.getElem?_cons_succ, List.getElem?_cons_zero] at p2 p3
            have f2 := frozen_row (i := 2) r5
            have f3 := frozen_row (i := 3) r5
            go_upto_region 10 with fail
            have hm3 := setMods V B 3 (.slice none 0 0)
            have r5b := setCell_heap (i := 3) r5 (.slice none 0 0)
            obtain ⟨V1, hV⟩ : ∃ V', V.setCell ⟨B, 3, none⟩ (.slice none 0 0) = V' := ⟨_, rfl⟩
            rw [hV] at hm3 r5b ⊢
            have r5b : V1.heap[B]? = some (.cells #[.string K, .bool m.inner, .slice ia m.items.length ic, .slice none 0 0] 64 (0, 0)) := r5b
            clear hV p2 p3 f2 f3
            have p2 := cell_of_row _ _ 2 _ _ _ r5b
            simp only [List.getElem?_toArray, List.getElem?_cons_succ, List.getElem?_cons_zero] at p2
            have f2 := frozen_row (i := 2) r5b
            go_upto_region 11 with fail
            have hm2 := setMods V1 B 2 (.slice none 0 0)
            have r5c := setCell_heap (i := 2) r5b (.slice none 0 0)
            obtain ⟨V2, hV⟩ : ∃ V', V1.setCell ⟨B, 2, none⟩ (.slice none 0 0) = V' := ⟨_, rfl⟩
            rw [hV] at hm2 r5c ⊢
            have r5c : V2.heap[B]? = some (.cells #[.string K, .bool m.inner, .slice none 0 0, .slice none 0 0] 64 (0, 0)) := r5c
            have hN2 : New wr V2 := (((Mods.ofNew hA).trans hm3).trans hm2).new (fun g hg => by have := HB.out; omega)
            clear hV p2 f2 r5 r5b hm3 hm2 hA
            go_wp2_with fail
            obtain ⟨wo, hwo⟩ : ∃ x, x = wr := ⟨_, rfl⟩
            subst hwo
            have HRow3 := HRow2
            have HOL := Lib.hid hol
            have HN := Lib.hid hN
            have HBl := Lib.hid hb1
            clear hol hN hb1 HRow2
            obtain ⟨ni, hni⟩ : ∃ x, m.items.length = x := ⟨_, rfl⟩
            have HNi := Lib.hid hni
            rw [hni] at HRow3 HX hi40
            clear hni
            go_loopw [6] (fun t wr => ∃ (k : Nat) (ja : Option Addr) (jc : Nat), k ≤ ni ∧ t = .int .i64 k ∧ wr.heap[B]? = some (.cells #[.string K, .bool m.inner, .slice ja k jc, .slice none 0 0] 64 (0, 0)) ∧ OwX B wr (.slice ja k jc) k (fun j => ics ⟨(m.items.getD j Bare.noI).bare, []⟩ (.slice none 0 0)) ∧ New wo wr) (fun t _ => ni - (intOf t).toNat)
            case atStart => exact ⟨0, none, 0, Nat.zero_le _, rfl, r5c, OwX.nil _ _ _ (fun _ => rfl), hN2⟩
            case round =>
              clear r5c hN2
              obtain ⟨k, ja, jc, hk, rfl, rB, hox, hNk⟩ := hrel
              have hd2 : wr.cell? ⟨b1, o1 + i * 4 + 2, none⟩ = some (.slice ia ni ic) := hNk.cell (HRow3.out 2 _ rfl) id
              by_cases hkl : k < ni
              · have hkd2 : decide ((k : Int) < (ni : Int)) = true := decide_eq_true (by omega)
                obtain ⟨ip, q1, -, -⟩ := HX.out.new hNk
                obtain ⟨b2, o2, rfl, hrw⟩ := q1.at.2.2 k hkl
                obtain ⟨g0, g1, g2, g3, -⟩ := cells5 hrw
                have hb2 : b2 < B := by
                  obtain ⟨ip', q1', -, -⟩ := HX.out
                  obtain ⟨b2', o2', e, hrw'⟩ := q1'.at.2.2 k hkl
                  cases e
                  obtain ⟨ob, ho, -⟩ := cells_of_cell (hrw' 0 _ rfl)
                  have hsz : b2 < wo.heap.size := (Array.getElem?_eq_some_iff.1 ho).1
                  have := HB.out
                  omega
                have hbw : B ≤ wr.heap.size := by have := hNk.size; have := HB.out; omega
                have HG := Lib.hid (And.intro g0 (And.intro g1 (And.intro g2 g3)))
                have HOX := Lib.hid hox
                have HRB := Lib.hid rB
                clear q1 hrw g0 g1 g2 g3 hox rB
                go_upto_region 14 with fail
                refine piece (fun _ => _) (of14 _ rfl wr rfl rfl rfl rfl HRB.out HOX.out hbw (Nat.le_refl _) (by have := HBl.out; omega) (by omega) hd2 hlt hkl hi40 HG.out.1 HG.out.2.1 HG.out.2.2.1 HG.out.2.2.2) ?_
                rintro a' W2 ⟨z, ra, rc, rfl, rB2, hox2, hm2⟩
                simp only [List.setIfInBounds_toArray, List.set_cons_succ, List.set_cons_zero]
                have hNk2 : New wo W2 := ((Mods.ofNew hNk).trans hm2).new (fun g hg => by have hg : B ≤ g := hg; have := HB.out; omega)
                clear hd2 HG HOX HRB hm2 hNk
                go_wp2_with fail
                go_roundw
                case rel => exact ⟨k + 1, ra, rc, by omega, by go_num, rB2, hox2.congr (fun _ => rfl) (fun j hj => by
                  by_cases e : j = k
                  · rw [if_pos e, e]; rfl
                  · rw [if_neg e]), hNk2⟩
                case measure => simp [intOf]; omega
              · obtain rfl : k = ni := by omega
                have hkd2 : decide ((k : Int) < (k : Int)) = false := decide_eq_false (by omega)
                obtain ⟨f, hom, hel⟩ := HOL.out
                have hom2 := hom.new hNk
                have hls : (leftD (d.take i)).length ≤ 2000000 := by
                  have := leftD_len (d.take i)
                  rw [List.length_take] at this
                  omega
                have hbs : w.heap.size ≤ wr.heap.size := by have := HN.out.size; have := hNk.size; omega
                have hone := mcs_one K m.inner ja none k jc 0 0
                have HEl := Lib.hid hel
                have HOM := Lib.hid hom2
                have HOX := Lib.hid hox
                clear hel hom hom2 hox
                obtain ⟨L, hL⟩ : ∃ L, leftD (d.take i) = L := ⟨_, rfl⟩
                rw [hL] at HEl HOM hls HT ⊢
                clear hL HOL
                go_wp2_with (first | (refine op_value rfl (run_load_row 64 (.tmp 5) rfl B rfl 64 _ (0, 0) _ rB Tryz.underlying64 rfl sizeM) ?_) | (at_builtin; refine wpList_append_M (w := wr) (c := [.string K, .bool m.inner, .slice ja k jc, .slice none 0 0]) _ _ rfl rfl rfl rfl rfl rfl hone HOM.out hls hbs ?_; intro v4 W4 ho4 hm4; obtain ⟨la4, lc4, rfl⟩ := ho4.slice))
                go_roundw
                case rel =>
                  have hmm := hm4 wr (fun b => (Value.slice la L.length lc).ownBlock = some b) (Mods.refl _ _) (fun g hg => .inr hg)
                  have hsl : (strip m).items.length = k := by show (m.items.map _).length = k; rw [List.length_map]; exact HNi.out
                  have hmc : ([.string K, .bool m.inner, .slice ja k jc, .slice none 0 0] : List Value) = mcs (strip m) (.slice ja (strip m).items.length jc) (.slice none 0 0) := by
                    rw [hsl]
                    unfold mcs
                    rw [← HK.out]; rfl
                  refine ⟨i + 1, la4, lc4, by omega, by rw [HT.out, List.length_append]; rfl, by go_num, ?_, hm4 w (fun _ => False) (HN.out.trans hNk) (fun g hg => .inl (HOM.out.lt hg).1)⟩
                  rw [HT.out, List.length_append]
                  refine OwL.snoc (v := .slice none 0 0) (W := wr) (f := f) (ja := ja) (jc := jc) (m := strip m) (fun j hj => ?_) ?_ rfl (fun x hx => ?_) (by rw [← hmc]; exact ho4) hmm (fun g cs fr hg hc => ?_)
                  · obtain ⟨a1, a2, e1, e2, e3⟩ := HEl.out j hj
                    exact ⟨a1, a2, e1, e2.new hNk, e3⟩
                  · rw [hsl]
                    refine (HOX.out.mono (by have := HB.out; have := HN.out.size; omega)).congr (fun _ => rfl) (fun j hj => ?_)
                    have e : (strip m).items.getD j Bare.noI = ⟨(m.items.getD j Bare.noI).bare, []⟩ := by
                      show (m.items.map fun x => (⟨x.bare, []⟩ : Bare.Itm)).getD j Bare.noI = _
                      have : j < m.items.length := by rw [HNi.out]; exact hj
                      simp [List.getD, this]
                    rw [e]
                  · obtain ⟨y, -, rfl⟩ := List.mem_map.1 hx
                    rfl
                  · obtain ⟨cs', fr', h'⟩ := HOM.out.tag g hg
                    rw [h'] at hc
                    cases hc
                case measure => simp [intOf]; omega
        · rw [if_neg huk, List.append_nil] at HT
          have hno : decide (m.key = [117]) = false ∧ decide (m.key = [105]) = false := by unfold uiB at huk; simpa using huk
          rw [hno.1] at he1
          rw [hno.2] at he2
          clear hno huk HX HI40 HRow2
          go_wp2_with fail
          go_roundw
          case rel => exact ⟨i + 1, la, lc, by omega, by rw [HT.out], by go_num, by rw [HT.out]; exact hol, hN⟩
          case measure => simp [intOf]; omega
      · have hkd : decide ((i : Int) < (n : Int)) = false := decide_eq_false (by omega)
        obtain rfl : i = n := by omega
        have htd : d.take i = d := List.take_of_length_le (by rw [Hn.out]; omega)
        rw [htd] at hol ⊢
        have hrl := hol.reads (by have := leftD_len d; have := Hn.out; omega) (fun j hj => by
          have hm := getD_mem (d := noM) hj
          unfold leftD at hm
          obtain ⟨m, hm1, hm2⟩ := List.mem_map.1 hm
          rw [show (leftD d).getD j noM = strip m from hm2.symm]
          show (m.items.map _).length ≤ 40
          rw [List.length_map]
          obtain ⟨q, hq, rfl⟩ := mem_getD' (d := noM) (List.mem_filter.1 hm1).1
          exact HI40.out q hq)
        have hfl : ∀ m ∈ leftD d, Fits m := fun m hm => by
          unfold leftD at hm
          obtain ⟨m', hm1, rfl⟩ := List.mem_map.1 hm
          obtain ⟨q, hq, rfl⟩ := mem_getD' (d := noM) (List.mem_filter.1 hm1).1
          have := HI40.out q hq
          refine ⟨by show (List.map _ _).length ≤ _; rw [List.length_map]; omega, by show 0 ≤ _; omega, fun j hj => ?_⟩
          obtain ⟨y, -, hy⟩ := List.mem_map.1 (getD_mem (d := Bare.noI) hj)
          have hy' : (strip (d.getD q noM)).items.getD j Bare.noI = _ := hy.symm
          rw [hy']
          exact Nat.zero_le _
        have HOl := Lib.hid (fun W (hW : New wr W) => (of_any _ (leftD d) W (hrl.new hW) hfl HIL.out).mono (R' := fun e w' => e = .returned (.agg #[.int .u8 u, .bool I]) ∧ New W w') (by
          rintro e w' ⟨rfl, h⟩
          refine ⟨?_, h⟩
          unfold prV
          rw [HUL.out.1, HUL.out.2]))
        have HUN' : Hid ((leftD d).length = 0 → (u : Int) = 3 ∧ I = false) := Lib.hid (fun h => HUN.out (List.length_eq_zero_iff.1 h))
        obtain ⟨q, hq⟩ : ∃ q, (leftD d).length = q := ⟨_, rfl⟩
        rw [hq] at HOl HUN' ⊢
        clear hq hrl hfl hol
        go_wp2_with fail
        refine (HO.out _ hN).mono ?_
        rintro e w2 ⟨rfl, hN2⟩
        have hN3 := hN.trans hN2
        go_upto_region 17 with fail
        have hA : New w2 (w2.alloc (.cells #[.int .u8 u, .bool I] 31)) := (Mods.refl _ _).alloc _
        have r7 := World.alloc_heap_new w2 (.cells #[.int .u8 u, .bool I] 31)
        obtain ⟨w3, hw3⟩ : ∃ V, w2.alloc (.cells #[.int .u8 u, .bool I] 31) = V := ⟨_, rfl⟩
        obtain ⟨P, hP⟩ : ∃ b, w2.heap.size = b := ⟨_, rfl⟩
        rw [hw3] at hA r7 ⊢
        rw [hP] at r7 ⊢
        obtain ⟨⟨p0, p1⟩, -⟩ := pr_facts r7
        have hN4 := hN3.trans hA
        have HO3 := Lib.hid (fun W (hW : New w3 W) => HOl.out W ((hN2.trans hA).trans hW))
        have HW3 := Lib.hid (fun W (hW : New w3 W) => HWk.out W (hN4.trans hW))
        clear hw3 hP hA r7 HOl HWk HO
        cases q with
        | zero =>
          obtain ⟨h3, rfl⟩ := HUN'.out rfl
          rw [h3] at p0 HO3 ⊢
          refine piece (fun _ => _) (of17b _ rfl w3 rfl rfl p0 p1 HO3 HW3) ?_
          rintro ⟨z, dfs⟩ w17 ⟨⟨hs, hd, hq2⟩, hN17⟩
          simp only at hs hd hq2
          subst hd
          obtain ⟨u, rfl⟩ := lit94 z hs
          have hp2 : u 2 = .bool true := hq2
          rw [hp2]
          clear hp2 hq2 hs
          have hN5 := hN4.trans hN17
          go_wp2_with fail
          go_ret
          exact ⟨rfl, hN5⟩
        | succ q =>
          refine piece (fun _ => _) (of17a _ rfl w3 rfl rfl p0 p1 hu7 HO3 HW3) ?_
          rintro ⟨z, dfs⟩ w17 ⟨⟨hs, hd, hq2⟩, hN17⟩
          simp only at hs hd hq2
          subst hd
          obtain ⟨u, rfl⟩ := lit94 z hs
          have hp2 : u 2 = .bool true := hq2
          rw [hp2]
          clear hp2 hq2 hs
          have hN5 := hN4.trans hN17
          go_wp2_with fail
          go_ret
          exact ⟨rfl, hN5⟩
end Go.Proofs.YtkiiameibdhdfaaGreatDoor
