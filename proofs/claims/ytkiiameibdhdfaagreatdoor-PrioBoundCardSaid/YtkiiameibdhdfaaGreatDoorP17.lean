/- Texts joined. -/
import Derived.Test.YtkiiameibdhdfaaGreatDoorP15
import Derived.Test.YtkiiameibdhdfaaGreatDoorP16
set_option linter.unusedSimpArgs false
set_option linter.unusedVariables false
/- Update (the program). -/
namespace Go.Proofs.YtkiiameibdhdfaaGreatDoor
open Go.RowKit Go.Shelf Go.Cs
attribute [local go_sem] Oper.semAt_some
set_option linter.unusedVariables false
set_option linter.unusedSimpArgs false
/-- The priority that was read is laid. -/
theorem UpR.qset {W : World} {B : Nat} {l s : Int} {v : Value} {o p : List Value} {a b a' b' : Value} {f : List Value} (h : UpR W B l s v o p [a, b] f) :
    UpR ((W.setCell ⟨B + 5, 0, none⟩ a').setCell ⟨B + 5, 1, none⟩ b') B l s v o p [a', b'] f ∧ Mods (fun x => x = B + 5) W ((W.setCell ⟨B + 5, 0, none⟩ a').setCell ⟨B + 5, 1, none⟩ b') := by
  have hM := (setMods W (B + 5) 0 a').trans (setMods _ (B + 5) 1 b')
  have r := setCell_heap (i := 1) (setCell_heap (i := 0) h.hq a') b'
  simp only [List.setIfInBounds_toArray, List.set_cons_succ, List.set_cons_zero] at r
  exact ⟨⟨hM.heap h.hp (by omega), hM.boxed h.hs (by omega), hM.heap h.ho (by omega), hM.heap h.hr (by omega), hM.heap h.hf (by omega), r⟩, hM⟩
/-- o's row is laid anew. -/
theorem RdW.dropN {W : World} {g cap m k : Nat} {F : List WP} (h : RdW W (.slice (some ⟨g, 0, none⟩) m cap) F) (hm : F.length = m) (hk : k ≤ m) (c' : Nat) : RdW W (.slice (some ⟨g, 0 + k * 3, none⟩) (m - k) c') (F.drop k) := by
  obtain ⟨hl, ao, cp, e, hc⟩ := h
  cases e
  refine ⟨by simp; omega, _, _, by rw [List.length_drop, hm], fun i hi => ?_⟩
  rw [List.length_drop] at hi
  obtain ⟨b, o, e, h⟩ := hc (k + i) (by omega)
  cases e
  refine ⟨_, _, rfl, ?_⟩
  have e1 : (F.drop k).getD i noW = F.getD (k + i) noW := by simp [List.getD]
  dsimp only
  rw [e1, show 0 + k * 3 + i * 3 = 0 + (k + i) * 3 by omega]
  exact h
set_option maxHeartbeats 4000000 in
set_option maxRecDepth 100000 in
theorem update_p (l s : Int) (v : Value) (d : List WP) (T : ByteArray) (w : World) (h : RdW w v d) (hu : ∀ x ∈ d, x.u < 256) (hd : d.length ≤ 1000) (hs : T.size ≤ 1000000) (hT : Tab w) :
    Calls Tryz.prog 15 #[.agg #[.int .i64 l, v], .int .i64 s, .string T] w fun e w' => ∃ v', e = updE l v' (updP l d s (readP T)) ∧ RdW w' v' (updP l d s (readP T)).1 ∧ New w w' := by
  have HO := Lib.hid (fun W (hN : New w W) => own_p l v d W (h.new hN) (by omega))
  have HR := Lib.hid (fun W (hN : New w W) => right_p l v d W (h.new hN) hu)
  have HRd := Lib.hid (fun W (hN : New w W) => read_p T W hs (hT.new hN))
  have HD := Lib.hid h
  have hU := UpR.made w l s v [.int .i64 0, .slice none 0 0] [.int .u8 0, .bool false] [.int .u8 0, .bool false] (faV false 0)
  unfold faV at hU
  obtain ⟨ao, cap, rfl⟩ := h.slice
  obtain ⟨rp, hrp⟩ : ∃ r, readP T = r := ⟨_, rfl⟩
  rw [hrp] at HRd ⊢
  obtain ⟨n, hn⟩ : ∃ n, d.length = n := ⟨_, rfl⟩
  have HN := Lib.hid hn
  rw [hn] at h HO HR hU hd HD ⊢
  clear hn h hrp hs hT
  obtain ⟨Post, hPost⟩ : ∃ Post : Ending → World → Prop, (fun e w' => ∃ v', e = updE l v' (updP l d s rp) ∧ RdW w' v' (updP l d s rp).1 ∧ New w w') = Post := ⟨_, rfl⟩
  have HPost := Lib.hid hPost
  rw [hPost]
  clear hPost
  go_enter Tryz.func15, Tryz.ntmps15
  go_upto_region 3 with fail
  refine wp_scope_fwd 0 (fun a W => ∃ (R6 R8 R9 oc : Nat) (oa : Option Addr) (wh : Bool) (code : Nat), (a.tmps.size = 77 ∧ a.defers = []) ∧ (a.tmps.getD 6 undef = .pointer (some ⟨R6, 0, none⟩) ∧ a.tmps.getD 8 undef = .pointer (some ⟨R8, 0, none⟩) ∧ a.tmps.getD 9 undef = .pointer (some ⟨R9, 0, none⟩)) ∧ (W.heap[R6]? = some (.cells #[.int .i64 l, .slice oa n oc] 26 (0, 0)) ∧ W.heap[R8]? = some (.cells #[.int .u8 3, .bool false] 31 (0, 0)) ∧ W.heap[R9]? = some (.cells #[.bool wh, .int .i64 0, .int .u32 code] 34 (0, 0))) ∧ (R6 < R8 ∧ R8 < R9 ∧ w.heap.size ≤ R6) ∧ (∀ g, (Value.slice oa n oc).ownBlock = some g → R9 < g) ∧ OwW w.heap.size W (.slice oa n oc) n (wf d) ∧ Hid (updP l d s rp = (d, 0, (3, false), (wh, code))) ∧ New w W) rfl ?first ?pass
  case pass =>
    rintro ⟨t, dfs⟩ W ⟨R6, R8, R9, oc, oa, wh, code, ⟨hs, hdf⟩, ⟨q6, q8, q9⟩, ⟨r6, r8, r9⟩, ⟨h1, h2, h3⟩, hg, hO, hE, hN⟩
    simp only at hs hdf q6 q8 q9
    subst hdf
    obtain ⟨u, rfl⟩ := lit77 t hs
    have p6 : u 6 = .pointer (some ⟨R6, 0, none⟩) := q6
    have p8 : u 8 = .pointer (some ⟨R8, 0, none⟩) := q8
    have p9 : u 9 = .pointer (some ⟨R9, 0, none⟩) := q9
    rw [p6, p8, p9]
    clear p6 p8 p9 q6 q8 q9 hs HO HR HRd hU HD
    go_upto_region 14 with fail
    refine piece (fun _ => _) (upd14 _ rfl W rfl rfl rfl r6 r8 r9 (by intro x hx; simp only [List.mem_cons, List.not_mem_nil, or_false] at hx; rcases hx with rfl | rfl | rfl <;> rfl) h1 h2) ?_
    rintro a' W2 ⟨z, rfl, s6, s8, s9, hM⟩
    simp only [List.setIfInBounds_toArray, List.set_cons_succ, List.set_cons_zero]
    go_wp2_with fail
    rw [Exit.noGoto_ret]
    have hres := fun tmps h6 h7 h8 h9 => results_upd (fn := Tryz.f15) rfl tmps W2 R6 R8 R9 [.int .i64 l, .slice oa n oc] [.int .u8 3, .bool false] [.bool wh, .int .i64 0, .int .u32 code] (.int .u8 0) h6 h7 h8 h9 s6 s8 s9 rfl rfl rfl
    refine bodyPost_ret (hres _ rfl rfl rfl rfl) rfl ?_
    rw [← HPost.out, hE.out]
    refine ⟨.slice oa n oc, rfl, ?_, ((Mods.ofNew hN).trans hM).new (fun g hg => by omega)⟩
    have hO2 := hO.mods hM (fun g hg' e => by have := hg g hg'; omega)
    rw [← HN.out] at hO2
    have hO3 := hO2.reads (by rw [HN.out]; omega)
    rw [HN.out] at hO3
    exact hO3
  case first =>
  have hN : New w ((((((w.alloc (.cells #[.int .i64 l, .slice ao n cap] 26)).alloc (.cells #[.int .i64 s] 3)).alloc (.cells #[.int .i64 0, .slice none 0 0] 26)).alloc (.cells #[.int .u8 0, .bool false] 31)).alloc (.cells #[.bool false, .int .i64 0, .int .u32 0] 34)).alloc (.cells #[.int .u8 0, .bool false] 31)) := ((((((Mods.refl _ _).alloc _).alloc _).alloc _).alloc _).alloc _).alloc _
  go_upto_region 3 with fail
  obtain ⟨W0, hW0⟩ : ∃ V, ((((((w.alloc (.cells #[.int .i64 l, .slice ao n cap] 26)).alloc (.cells #[.int .i64 s] 3)).alloc (.cells #[.int .i64 0, .slice none 0 0] 26)).alloc (.cells #[.int .u8 0, .bool false] 31)).alloc (.cells #[.bool false, .int .i64 0, .int .u32 0] 34)).alloc (.cells #[.int .u8 0, .bool false] 31)) = V := ⟨_, rfl⟩
  rw [hW0] at hN
  have hU : UpR W0 w.heap.size l s (.slice ao n cap) [.int .i64 0, .slice none 0 0] [.int .u8 0, .bool false] [.int .u8 0, .bool false] [.bool false, .int .i64 0, .int .u32 0] := by rw [← hW0]; exact hU
  simp only [hW0]
  clear hW0
  obtain ⟨⟨p0, p1⟩, -⟩ := pc_facts hU.hp
  obtain ⟨B, hB⟩ : ∃ B, w.heap.size = B := ⟨_, rfl⟩
  rw [hB] at hU p0 p1
  have hwB : w.heap.size ≤ B := by omega
  have hBs : B + 5 < W0.heap.size := (Array.getElem?_eq_some_iff.1 hU.hq).1
  simp only [hB, show B + 1 + 1 = B + 2 from rfl, show B + 2 + 1 = B + 3 from rfl, show B + 3 + 1 = B + 4 from rfl, show B + 4 + 1 = B + 5 from rfl]
  clear hB
  go_wp2_with fail
  refine (HO.out _ hN).mono ?_
  rintro e w1 ⟨v', rfl, hOw, hk⟩
  replace hN := hN.trans hk
  replace hU := hU.new hk
  clear hk p0 p1
  obtain ⟨oa, oc, rfl⟩ := hOw.slice
  go_wp2_with fail
  refine (first_u _).mono ?_
  rintro e w2 ⟨rfl, hk⟩
  unfold prV
  replace hN := hN.trans hk
  replace hU := hU.new hk
  replace hOw := hOw.new hk
  clear hk
  have hOg : ∀ g, (Value.slice oa n oc).ownBlock = some g → B + 5 < g := fun g hg => by have := (hOw.lt hg).1; omega
  replace hOw := hOw.mono (base' := w.heap.size) (by omega)
  obtain ⟨⟨p0, p1⟩, p2, p3⟩ := pc_facts hU.ho
  obtain ⟨⟨q0, q1⟩, q2, q3⟩ := pr_facts hU.hr
  go_upto_region 4 with fail
  obtain ⟨hU2, hM2⟩ := hU.first (a' := .int .i64 l) (b' := .slice oa n oc) (c' := .int .u8 3) (d' := .bool false)
  replace hOw := hOw.mods hM2 (by intro g hg e; have := hOg g hg; omega)
  have hN3 : New w _ := ((Mods.ofNew hN).trans hM2).new (by rintro b (rfl | rfl) <;> omega)
  obtain ⟨w3, hw3⟩ : ∃ V, ((((w2.setCell ⟨B + 2, 0, none⟩ (.int .i64 l)).setCell ⟨B + 2, 1, none⟩ (.slice oa n oc)).setCell ⟨B + 3, 0, none⟩ (.int .u8 3)).setCell ⟨B + 3, 1, none⟩ (.bool false)) = V := ⟨_, rfl⟩
  rw [hw3] at hU2 hM2 hOw hN3 ⊢
  clear hU hN hM2 hw3 p0 p1 p2 p3 q0 q1 q2 q3
  obtain ⟨⟨p0, p1⟩, -⟩ := pc_facts hU2.hp
  go_wp2_with fail
  refine (HR.out _ hN3).mono ?_
  rintro e w4 ⟨rfl, hk⟩
  replace hN3 := hN3.trans hk
  replace hU2 := hU2.new hk
  replace hOw := hOw.new hk
  clear hk p0 p1 HR
  cases hr : rightP l d with
  | false =>
    have hE : Hid (updP l d s rp = (d, 0, (3, false), (false, 0))) := Lib.hid (by unfold updP; rw [if_pos hr])
    clear hr
    go_wp2_with fail
    exact wp_goto (And.intro rfl ⟨B + 2, B + 3, B + 4, oc, oa, false, 0, ⟨rfl, rfl⟩, ⟨rfl, rfl, rfl⟩, ⟨hU2.ho, hU2.hr, hU2.hf⟩, ⟨by omega, by omega, by omega⟩, (fun g hg => by have := hOg g hg; omega), hOw, hE, hN3⟩)
  | true =>
    obtain ⟨h0, h1, h4, h5, h6⟩ := right_facts hr
    have HRt := Lib.hid hr
    have HF := Lib.hid h6
    clear h5 h6 hr
    obtain ⟨cs, -⟩ := hU2.hs.both
    have ha := and_one s
    have hbad : ∀ w5, New w4 w5 → (s < 1 ∨ s % 2 = 0) → True := fun _ _ _ => trivial
    by_cases hs1 : s < 1
    · have hE : Hid (updP l d s rp = (d, 0, (3, false), (true, 1))) := Lib.hid (by unfold updP; rw [if_neg (by rw [HRt.out]; decide), if_pos (.inl hs1)])
      have hd1 : decide (s < 1) = true := decide_eq_true hs1
      clear ha HRd HF HD
      have rf := hU2.hf
      go_wp2_with (refine op_skip rfl (run_store_row 34 (.tmp 9) (.tmp 25) rfl (B + 4) rfl 34 [.bool false, .int .i64 0, .int .u32 0] [.bool true, .int .i64 0, .int .u32 1] rfl rf sizeFl rfl (by intro x hx; simp only [List.mem_cons, List.not_mem_nil, or_false] at hx; rcases hx with rfl | rfl | rfl <;> rfl)) ?_)
      have hmR := mods_setRow rf #[.bool true, .int .i64 0, .int .u32 1]
      have rf2 := setRow_heap w4 (B + 4) _ #[.bool true, .int .i64 0, .int .u32 1] _ _ rf
      exact wp_goto (And.intro rfl ⟨B + 2, B + 3, B + 4, oc, oa, true, 1, ⟨rfl, rfl⟩, ⟨rfl, rfl, rfl⟩, ⟨hmR.heap hU2.ho (by omega), hmR.heap hU2.hr (by omega), rf2⟩, ⟨by omega, by omega, by omega⟩, (fun g hg => by have := hOg g hg; omega), hOw.mods hmR (fun g hg e => by have := hOg g hg; omega), hE, hN3.setRow (by omega) _⟩)
    · by_cases hs2 : s % 2 = 0
      · have hE : Hid (updP l d s rp = (d, 0, (3, false), (true, 1))) := Lib.hid (by unfold updP; rw [if_neg (by rw [HRt.out]; decide), if_pos (.inr hs2)])
        have hd1 : decide (s < 1) = false := decide_eq_false hs1
        rw [hs2] at ha
        clear HRd HF HD
        have rf := hU2.hf
        go_wp2_with (refine op_skip rfl (run_store_row 34 (.tmp 9) (.tmp 25) rfl (B + 4) rfl 34 [.bool false, .int .i64 0, .int .u32 0] [.bool true, .int .i64 0, .int .u32 1] rfl rf sizeFl rfl (by intro x hx; simp only [List.mem_cons, List.not_mem_nil, or_false] at hx; rcases hx with rfl | rfl | rfl <;> rfl)) ?_)
        have hmR := mods_setRow rf #[.bool true, .int .i64 0, .int .u32 1]
        have rf2 := setRow_heap w4 (B + 4) _ #[.bool true, .int .i64 0, .int .u32 1] _ _ rf
        exact wp_goto (And.intro rfl ⟨B + 2, B + 3, B + 4, oc, oa, true, 1, ⟨rfl, rfl⟩, ⟨rfl, rfl, rfl⟩, ⟨hmR.heap hU2.ho (by omega), hmR.heap hU2.hr (by omega), rf2⟩, ⟨by omega, by omega, by omega⟩, (fun g hg => by have := hOg g hg; omega), hOw.mods hmR (fun g hg e => by have := hOg g hg; omega), hE, hN3.setRow (by omega) _⟩)
      · have hs3 : s % 2 = 1 := by omega
        have hd1 : decide (s < 1) = false := decide_eq_false hs1
        have hnb : ¬ (s < 1 ∨ s % 2 = 0) := by omega
        rw [hs3] at ha
        go_upto_region 7 with fail
        clear cs ha
        go_wp2_with fail
        refine (HRd.out _ hN3).mono ?_
        rintro e w5 ⟨rfl, hk⟩
        replace hN3 := hN3.trans hk
        replace hU2 := hU2.new hk
        replace hOw := hOw.new hk
        clear hk HRd
        obtain ⟨cs, -⟩ := hU2.hs.both
        obtain ⟨⟨p0, p1⟩, -⟩ := pc_facts hU2.hp
        obtain ⟨⟨q0, q1⟩, q2, q3⟩ := pr_facts hU2.hq
        cases rp with
        | none =>
          have hE : Hid (updP l d s none = (d, 0, (3, false), (false, 0))) := Lib.hid (by unfold updP; rw [if_neg (by rw [HRt.out]; decide), if_neg hnb])
          obtain ⟨hU3, hM3⟩ := hU2.qset (a' := .int .u8 3) (b' := .bool false)
          go_wp2_with fail
          replace hOw := hOw.mods hM3 (fun g hg e => by have := hOg g hg; omega)
          replace hN3 := ((Mods.ofNew hN3).trans hM3).new (fun g hg => by omega)
          replace hU2 := hU3
          exact wp_goto (And.intro rfl ⟨B + 2, B + 3, B + 4, oc, oa, false, 0, ⟨rfl, rfl⟩, ⟨rfl, rfl, rfl⟩, ⟨hU2.ho, hU2.hr, hU2.hf⟩, ⟨by omega, by omega, by omega⟩, (fun g hg => by have := hOg g hg; omega), hOw, hE, hN3⟩)
        | some q =>
          obtain ⟨qu, qi⟩ := q
          obtain ⟨hU3, hM3⟩ := hU2.qset (a' := .int .u8 qu) (b' := .bool qi)
          simp only [Option.getD_some, Option.isSome_some]
          go_upto_region 8 with fail
          replace hOw := hOw.mods hM3 (fun g hg e => by have := hOg g hg; omega)
          replace hN3 := ((Mods.ofNew hN3).trans hM3).new (fun g hg => by omega)
          replace hU2 := hU3
          obtain ⟨w6, hw6⟩ : ∃ V, ((w5.setCell ⟨B + 5, 0, none⟩ (.int .u8 qu)).setCell ⟨B + 5, 1, none⟩ (.bool qi)) = V := ⟨_, rfl⟩
          rw [hw6] at hU2 hM3 hOw hN3 ⊢
          clear hU3 hM3 hw6 cs p0 p1 q0 q1 q2 q3
          obtain ⟨cs, -⟩ := hU2.hs.both
          obtain ⟨⟨p0, p1⟩, -⟩ := pc_facts hU2.hp
          by_cases hsl : l < s
          · have HW := Lib.hid (fun W => within_p l s (.slice ao n cap) W h0 h1)
            have hd2 : decide (l < s) = true := decide_eq_true hsl
            have hd3 : decide (s ≤ l) = false := decide_eq_false (by omega)
            cases hwi : withinP l s with
            | false =>
              have hE : Hid (updP l d s (some (qu, qi)) = (d, 0, (3, false), (false, 0))) := Lib.hid (by unfold updP; rw [if_neg (by rw [HRt.out]; decide), if_neg hnb]; simp only; rw [if_pos ⟨hsl, hwi⟩])
              rw [hwi] at HW
              clear hwi
              go_wp2_with fail
              refine (HW.out _).mono ?_
              rintro e w7 ⟨rfl, hk⟩
              replace hN3 := hN3.trans hk
              replace hU2 := hU2.new hk
              replace hOw := hOw.new hk
              go_wp2_with fail
              exact wp_goto (And.intro rfl ⟨B + 2, B + 3, B + 4, oc, oa, false, 0, ⟨rfl, rfl⟩, ⟨rfl, rfl, rfl⟩, ⟨hU2.ho, hU2.hr, hU2.hf⟩, ⟨by omega, by omega, by omega⟩, (fun g hg => by have := hOg g hg; omega), hOw, hE, hN3⟩)
            | true =>
              have HE : Hid (updP l d s (some (qu, qi)) = (lastN ((d.filter fun x => !decide (x.s = s)) ++ [⟨s, qu, qi⟩]), 1, (qu, qi), (false, 0))) := Lib.hid (by unfold updP; rw [if_neg (by rw [HRt.out]; decide), if_neg hnb]; simp only; rw [if_neg (fun h => by rw [hwi] at h; cases h.2), if_neg (by omega)])
              rw [hwi] at HW
              clear hwi
              go_wp2_with fail
              refine (HW.out _).mono ?_
              rintro e w7 ⟨rfl, hk⟩
              replace hN3 := hN3.trans hk
              replace hU2 := hU2.new hk
              replace hOw := hOw.new hk
              clear cs p0 p1 hk
              obtain ⟨cs, -⟩ := hU2.hs.both
              obtain ⟨⟨p0, p1⟩, -⟩ := pc_facts hU2.hp
              go_upto_region 11 with fail
              obtain ⟨L, hL⟩ : ∃ L, d.filter (fun x => !decide (x.s = s)) = L := ⟨_, rfl⟩
              have hLl : L.length ≤ n := by rw [← hL, ← HN.out]; exact List.length_filter_le _ _
              have hsz7 : B + 5 < w7.heap.size := (Array.getElem?_eq_some_iff.1 hU2.hq).1
              rw [hL] at HE
              have HT : Hid (∀ W, New w7 W → Calls Tryz.prog 48 #[.slice ao n cap, .func (.func 49) #[] #[.pointer (some ⟨B + 1, 0, none⟩)]] W fun e w' => ∃ v', e = .returned v' ∧ OwW W.heap.size w' v' L.length (wf L) ∧ New W w') := Lib.hid (fun W hW => by
                have := those_p (.slice ao n cap) d 49 #[.pointer (some ⟨B + 1, 0, none⟩)] (fun t => !decide (t = s)) W (HD.out.new (hN3.trans hW)) (by have := HN.out; omega) (enters_of Tryz.func49 (by kernel_rfl) rfl) (fun W' S hS hm => so_ne (B + 1) s W' (hm.boxed (hW.boxed hU2.hs id) (fun hb => by have := hS _ hb; have := hW.size; omega)))
                have e : (d.filter fun x => (fun t => !decide (t = s)) x.s) = L := hL
                rw [e] at this
                exact this)
              have hd4 : n ≤ 4 := by have := HN.out; omega
              clear cs p0 p1 hL
              refine piece (fun _ => _) (upd11 _ rfl w7 rfl rfl rfl rfl hU2.hp hU2.hs hU2.ho hU2.hq (by omega) HT (by omega) (by omega) (by omega)) ?_
              rintro a' W8 ⟨z, v8, rfl, s6, hO8, hM8⟩
              simp only [List.setIfInBounds_toArray, List.set_cons_succ, List.set_cons_zero]
              have s8 := hM8.heap hU2.hr (by omega)
              have s9 := hM8.heap hU2.hf (by omega)
              have s10 := hM8.heap hU2.hq (by omega)
              have hN8 : New w W8 := ((Mods.ofNew hN3).trans hM8).new (fun g hg => by omega)
              obtain ⟨F, hF⟩ : ∃ F, L ++ ([⟨s, qu, qi⟩] : List WP) = F := ⟨_, rfl⟩
              rw [hF] at HE hO8
              have hFl : F.length = L.length + 1 := by rw [← hF]; simp
              obtain ⟨m, hm⟩ : ∃ m, F.length = m := ⟨_, rfl⟩
              have hRW := hO8.reads (by omega)
              rw [hm] at hO8
              obtain ⟨g, oc8, rfl, hcap⟩ : ∃ g c, v8 = .slice (some ⟨g, 0, none⟩) m c ∧ m ≤ c := by
                rcases hO8.2.2.2 with ⟨e, e'⟩ | ⟨b', cap', cur, e, _, _, hc, _⟩
                · omega
                · exact ⟨b', cap', e, hc⟩
              have hgl := hO8.lt rfl
              clear hU hU2 hM8 HT hF hOw
              obtain ⟨⟨p0, p1⟩, p2, p3⟩ := pc_facts s6
              by_cases hm4 : m ≤ 4
              · have hmx : max (0 : Int) ((m : Int) - 4) = 0 := by omega
                go_upto_region 13 with fail
                have hMs := setMods W8 (B + 2) 1 (.slice (some ⟨g, 0, none⟩) m oc8)
                have s6b := setCell_heap (i := 1) s6 (.slice (some ⟨g, 0, none⟩) m oc8)
                simp only [List.setIfInBounds_toArray, List.set_cons_succ, List.set_cons_zero] at s6b
                have s8b := hMs.heap s8 (by omega)
                have s9b := hMs.heap s9 (by omega)
                have s10b := hMs.heap s10 (by omega)
                have hNb : New w _ := ((Mods.ofNew hN8).trans hMs).new (fun g hg => by omega)
                obtain ⟨V, hV⟩ : ∃ V, W8.setCell ⟨B + 2, 1, none⟩ (.slice (some ⟨g, 0, none⟩) m oc8) = V := ⟨_, rfl⟩
                rw [hV] at hMs s6b s8b s9b s10b hNb ⊢
                refine piece (fun _ => _) (upd13 _ rfl V rfl rfl rfl rfl s6b s8b s9b s10b (by intro x hx; simp only [List.mem_cons, List.not_mem_nil, or_false] at hx; rcases hx with rfl | rfl | rfl <;> rfl) (by omega) (by omega) (by omega)) ?_
                rintro a' W9 ⟨z, rfl, t6, t8, t9, hM9⟩
                simp only [List.setIfInBounds_toArray, List.set_cons_succ, List.set_cons_zero]
                go_wp2_with fail
                have hres := fun tmps h6 h7 h8 h9 => results_upd (fn := Tryz.f15) rfl tmps W9 (B + 2) (B + 3) (B + 4) [.int .i64 l, .slice (some ⟨g, 0, none⟩) m oc8] [.int .u8 qu, .bool qi] [.bool false, .int .i64 0, .int .u32 0] (.int .u8 1) h6 h7 h8 h9 t6 t8 t9 rfl rfl rfl
                refine bodyPost_ret (hres _ rfl rfl rfl rfl) rfl ?_
                rw [← HPost.out, HE.out]
                refine ⟨.slice (some ⟨g, 0, none⟩) m oc8, rfl, ?_, ((Mods.ofNew hNb).trans hM9).new (fun g hg => by omega)⟩
                have hl : lastN F = F := by unfold lastN; rw [hm]; rw [show m - 4 = 0 by omega]; rfl
                rw [hl]
                exact RowR.kept (RowR.kept (hRW) hMs (fun _ g' hg' e => by obtain rfl : g = g' := Option.some.inj hg'; have e : g = B + 2 := e; omega)) hM9 (fun _ g' hg' e => by obtain rfl : g = g' := Option.some.inj hg'; have e : g = B + 2 ∨ g = B + 3 ∨ g = B + 4 := e; omega)
              · obtain rfl : m = 5 := by omega
                have hmx : max (0 : Int) 1 = 1 := rfl
                have hoc1 : ¬ oc8 = 1 := by omega
                go_upto_region 13 with fail
                have hMs := setMods W8 (B + 2) 1 (.slice (some ⟨g, 3, none⟩) 4 (oc8 - 1))
                have s6b := setCell_heap (i := 1) s6 (.slice (some ⟨g, 3, none⟩) 4 (oc8 - 1))
                simp only [List.setIfInBounds_toArray, List.set_cons_succ, List.set_cons_zero] at s6b
                have s8b := hMs.heap s8 (by omega)
                have s9b := hMs.heap s9 (by omega)
                have s10b := hMs.heap s10 (by omega)
                have hNb : New w _ := ((Mods.ofNew hN8).trans hMs).new (fun g hg => by omega)
                obtain ⟨V, hV⟩ : ∃ V, W8.setCell ⟨B + 2, 1, none⟩ (.slice (some ⟨g, 3, none⟩) 4 (oc8 - 1)) = V := ⟨_, rfl⟩
                rw [hV] at hMs s6b s8b s9b s10b hNb ⊢
                refine piece (fun _ => _) (upd13 _ rfl V rfl rfl rfl rfl s6b s8b s9b s10b (by intro x hx; simp only [List.mem_cons, List.not_mem_nil, or_false] at hx; rcases hx with rfl | rfl | rfl <;> rfl) (by omega) (by omega) (by omega)) ?_
                rintro a' W9 ⟨z, rfl, t6, t8, t9, hM9⟩
                simp only [List.setIfInBounds_toArray, List.set_cons_succ, List.set_cons_zero]
                go_wp2_with fail
                have hres := fun tmps h6 h7 h8 h9 => results_upd (fn := Tryz.f15) rfl tmps W9 (B + 2) (B + 3) (B + 4) [.int .i64 l, .slice (some ⟨g, 3, none⟩) 4 (oc8 - 1)] [.int .u8 qu, .bool qi] [.bool false, .int .i64 0, .int .u32 0] (.int .u8 1) h6 h7 h8 h9 t6 t8 t9 rfl rfl rfl
                refine bodyPost_ret (hres _ rfl rfl rfl rfl) rfl ?_
                rw [← HPost.out, HE.out]
                refine ⟨.slice (some ⟨g, 3, none⟩) 4 (oc8 - 1), rfl, ?_, ((Mods.ofNew hNb).trans hM9).new (fun g hg => by omega)⟩
                have hl : lastN F = F.drop 1 := by unfold lastN; rw [hm]; skip
                rw [hl]
                exact RowR.kept (RowR.kept (hRW.dropN hm (k := 1) (by omega) (oc8 - 1)) hMs (fun _ g' hg' e => by obtain rfl : g = g' := Option.some.inj hg'; have e : g = B + 2 := e; omega)) hM9 (fun _ g' hg' e => by obtain rfl : g = g' := Option.some.inj hg'; have e : g = B + 2 ∨ g = B + 3 ∨ g = B + 4 := e; omega)
          · have hd2 : decide (l < s) = false := decide_eq_false hsl
            have hd3 : decide (s ≤ l) = true := decide_eq_true (by omega)
            have HE : Hid (updP l d s (some (qu, qi)) = (d, 2, (qu, qi), (false, 0))) := Lib.hid (by unfold updP; rw [if_neg (by rw [HRt.out]; decide), if_neg hnb]; simp only; rw [if_neg (fun h => hsl h.1), if_pos (by omega)])
            go_upto_region 10 with fail
            refine piece (fun _ => _) (upd10 _ rfl w6 rfl rfl rfl rfl hU2.ho hU2.hr hU2.hf hU2.hq (by intro x hx; simp only [List.mem_cons, List.not_mem_nil, or_false] at hx; rcases hx with rfl | rfl | rfl <;> rfl) (by omega) (by omega) (by omega)) ?_
            rintro a' W2 ⟨z, rfl, s6, s8, s9, hM⟩
            simp only [List.setIfInBounds_toArray, List.set_cons_succ, List.set_cons_zero]
            go_wp2_with fail
            have hres := fun tmps h6 h7 h8 h9 => results_upd (fn := Tryz.f15) rfl tmps W2 (B + 2) (B + 3) (B + 4) [.int .i64 l, .slice oa n oc] [.int .u8 qu, .bool qi] [.bool false, .int .i64 0, .int .u32 0] (.int .u8 2) h6 h7 h8 h9 s6 s8 s9 rfl rfl rfl
            refine bodyPost_ret (hres _ rfl rfl rfl rfl) rfl ?_
            rw [← HPost.out, HE.out]
            refine ⟨.slice oa n oc, rfl, ?_, ((Mods.ofNew hN3).trans hM).new (fun g hg => by omega)⟩
            have hO2 := hOw.mods hM (fun g hg' e => by have := hOg g hg'; omega)
            rw [← HN.out] at hO2
            have hO3 := hO2.reads (by rw [HN.out]; omega)
            rw [HN.out] at hO3
            exact hO3
end Go.Proofs.YtkiiameibdhdfaaGreatDoor
/- Open: regions (the program). -/
namespace Go.Proofs.YtkiiameibdhdfaaGreatDoor
open Go.RowKit Go.Shelf Go.Cs
attribute [local go_sem] Oper.semAt_some
set_option linter.unusedVariables false
set_option linter.unusedSimpArgs false
theorem lit57 (t : Array Value) (h : t.size = 57) : ∃ u : Nat → Value, t = (u 0 :: u 1 :: u 2 :: u 3 :: u 4 :: u 5 :: u 6 :: u 7 :: u 8 :: u 9 :: u 10 :: u 11 :: u 12 :: u 13 :: u 14 :: u 15 :: u 16 :: u 17 :: u 18 :: u 19 :: u 20 :: u 21 :: u 22 :: u 23 :: u 24 :: u 25 :: u 26 :: u 27 :: u 28 :: u 29 :: u 30 :: u 31 :: u 32 :: u 33 :: u 34 :: u 35 :: u 36 :: u 37 :: u 38 :: u 39 :: u 40 :: u 41 :: u 42 :: u 43 :: u 44 :: u 45 :: u 46 :: u 47 :: u 48 :: u 49 :: u 50 :: u 51 :: u 52 :: u 53 :: u 54 :: u 55 :: u 56 :: ([] : List Value)).toArray := ⟨fun i => t.getD i undef, range_lit t 57 h⟩
noncomputable def reg_prio_Open_3 : Code := ((Tryz.f18.body.bind (regionOf 3)).getD .skip)
set_option maxHeartbeats 4000000 in
set_option maxRecDepth 100000 in
theorem open3 (t : Array Value) (hs : t.size = 57) (w : World) {R8 R9 R11 n cap : Nat} {l : Int} {va : Option Addr}
    (hq8 : t.getD 8 undef = .pointer (some ⟨R8, 0, none⟩))
    (hq9 : t.getD 9 undef = .pointer (some ⟨R9, 0, none⟩))
    (hq11 : t.getD 11 undef = .pointer (some ⟨R11, 0, none⟩))
    (r8 : w.heap[R8]? = some (.cells #[.int .i64 0, .slice none 0 0] 26 (0, 0))) (r9 : w.heap[R9]? = some (.cells #[.int .u8 0, .bool false] 31 (0, 0))) (r11 : w.heap[R11]? = some (.cells #[.int .i64 l, .slice va n cap] 26 (0, 0)))
    (h1 : R8 < R9) (h2 : R9 < R11) :
    reg_prio_Open_3.wp Tryz.prog (Only fun a' W' => ∃ z : Nat → Value, a' = ⟨(((t).setIfInBounds 30 (z 30)).setIfInBounds 31 (z 31)).setIfInBounds 10 (.bool false), []⟩ ∧ W'.heap[R8]? = some (.cells #[.int .i64 l, .slice va n cap] 26 (0, 0)) ∧ W'.heap[R9]? = some (.cells #[.int .u8 3, .bool false] 31 (0, 0)) ∧ Mods (fun b => b = R8 ∨ b = R9) w W') ⟨t, []⟩ w := by
  conv => arg 2; whnf
  obtain ⟨u, rfl⟩ := lit57 t hs
  have hq8 : u 8 = .pointer (some ⟨R8, 0, none⟩) := hq8
  have hq9 : u 9 = .pointer (some ⟨R9, 0, none⟩) := hq9
  have hq11 : u 11 = .pointer (some ⟨R11, 0, none⟩) := hq11
  rw [hq8, hq9, hq11]
  clear hq8 hq9 hq11 hs
  refine wp_region_held (S := fun W => W.heap[R11]? = some (.cells #[.int .i64 l, .slice va n cap] 26 (0, 0))) (by kernel_rfl) ?_
  show wpAnyH _ _ _ _ _ 5 _ _ w.drew
  have hN : New w w.drew := (Mods.refl _ _).drew
  have r8 := hN.heap r8 id
  have r9 := hN.heap r9 id
  have r11 := hN.heap r11 id
  have hM : Mods (fun b => b = R8 ∨ b = R9) w w.drew := Mods.ofNew hN
  obtain ⟨W0, hW0⟩ : ∃ W, w.drew = W := ⟨_, rfl⟩
  rw [hW0] at r8 r9 r11 hM ⊢
  clear hW0 hN
  refine anyH_take 0 (some 30) (.agg #[.int .i64 l, .slice va n cap]) rfl rfl (by kernel_rfl) (by kernel_rfl) (by kernel_rfl) (fun _ _ _ h => h.elim) (.inl ⟨by rfl, fun W hW => by obtain ⟨⟨c0, c1⟩, -⟩ := pc_facts hW; go_simp⟩) r11 ?_
  simp only [Act.put, List.setIfInBounds_toArray, List.set_cons_succ, List.set_cons_zero]
  refine wpAnyH_all (rs := [1]) (by kernel_rfl) (by simp) ?_
  simp only [List.mem_cons, List.not_mem_nil, or_false, forall_eq]
  refine opH_call (some 31) rfl (by rfl) rfl 46 #[] (by go_simp) ((first_u _).mono ?_)
  rintro e w1 ⟨rfl, hk⟩
  unfold prV
  have r8 := hk.heap r8 id
  have r9 := hk.heap r9 id
  have r11 := hk.heap r11 id
  have hM := hM.trans (Mods.ofNew hk)
  clear hk
  refine ⟨_, rfl, r11, ?_⟩
  simp only [Act.put, List.setIfInBounds_toArray, List.set_cons_succ, List.set_cons_zero]
  refine wpAnyH_all (rs := [2]) (by kernel_rfl) (by simp) ?_
  simp only [List.mem_cons, List.not_mem_nil, or_false, forall_eq]
  refine opH_skip none rfl (by rfl) rfl (run_store_row 26 (.tmp 8) (.tmp 30) rfl R8 rfl 26 [.int .i64 0, .slice none 0 0] [.int .i64 l, .slice va n cap] rfl r8 sizeRp rfl (by intro x hx; simp only [List.mem_cons, List.not_mem_nil, or_false] at hx; rcases hx with rfl | rfl <;> rfl)) ?_
  have hmW2 := mods_setRow r8 #[.int .i64 l, .slice va n cap]
  have t8 := setRow_heap w1 R8 _ #[.int .i64 l, .slice va n cap] _ _ r8
  replace r9 := hmW2.heap r9 (by omega)
  replace r11 := hmW2.heap r11 (by omega)
  replace hM := hM.trans (hmW2.mono fun b hb => by omega)
  obtain ⟨W2, hvW2⟩ : ∃ V, w1.setRow R8 #[.int .i64 l, .slice va n cap] = V := ⟨_, rfl⟩
  rw [hvW2] at r9 r11 hM t8 ⊢
  clear hvW2 hmW2
  refine ⟨r11, ?_⟩
  simp only [Act.put, List.setIfInBounds_toArray, List.set_cons_succ, List.set_cons_zero]
  refine wpAnyH_all (rs := [3]) (by kernel_rfl) (by simp) ?_
  simp only [List.mem_cons, List.not_mem_nil, or_false, forall_eq]
  refine opH_skip none rfl (by rfl) rfl (run_store_row 31 (.tmp 9) (.tmp 31) rfl R9 rfl 31 [.int .u8 0, .bool false] [.int .u8 3, .bool false] rfl r9 sizePr rfl (by intro x hx; simp only [List.mem_cons, List.not_mem_nil, or_false] at hx; rcases hx with rfl | rfl <;> rfl)) ?_
  have hmW3 := mods_setRow r9 #[.int .u8 3, .bool false]
  have t9 := setRow_heap W2 R9 _ #[.int .u8 3, .bool false] _ _ r9
  replace t8 := hmW3.heap t8 (by omega)
  replace r11 := hmW3.heap r11 (by omega)
  replace hM := hM.trans (hmW3.mono fun b hb => by omega)
  obtain ⟨W3, hvW3⟩ : ∃ V, W2.setRow R9 #[.int .u8 3, .bool false] = V := ⟨_, rfl⟩
  rw [hvW3] at t8 r11 hM t9 ⊢
  clear hvW3 hmW3
  refine ⟨r11, ?_⟩
  simp only [Act.put, List.setIfInBounds_toArray, List.set_cons_succ, List.set_cons_zero]
  refine wpAnyH_all (rs := [4]) (by kernel_rfl) (by simp) ?_
  simp only [List.mem_cons, List.not_mem_nil, or_false, forall_eq]
  refine opH_value (some 10) rfl (by rfl) rfl (v := .bool false) (w' := W3) (by go_simp) ?_
  refine ⟨r11, ?_⟩
  simp only [Act.put, List.setIfInBounds_toArray, List.set_cons_succ, List.set_cons_zero]
  refine wpAnyH_done (by kernel_rfl) ?_ _
  exact ⟨(fun zz => ([.agg #[.int .i64 l, .slice va n cap], .agg #[.int .u8 3, .bool false]] : List Value).getD (cond (Nat.beq zz 30) 0 (cond (Nat.beq zz 31) 1 (0))) undef), rfl, t8, t9, hM⟩
noncomputable def reg_prio_Open_8 : Code := ((Tryz.f18.body.bind (regionOf 8)).getD .skip)
set_option maxHeartbeats 4000000 in
set_option maxRecDepth 100000 in
theorem open8 (t : Array Value) (hs : t.size = 57) (w : World) {R8 R9 R11 R12 n cap : Nat} {l q : Int} {y : Bool} {va : Option Addr}
    (hq8 : t.getD 8 undef = .pointer (some ⟨R8, 0, none⟩))
    (hq9 : t.getD 9 undef = .pointer (some ⟨R9, 0, none⟩))
    (hq11 : t.getD 11 undef = .pointer (some ⟨R11, 0, none⟩))
    (hq12 : t.getD 12 undef = .pointer (some ⟨R12, 0, none⟩))
    (r8 : w.heap[R8]? = some (.cells #[.int .i64 0, .slice none 0 0] 26 (0, 0))) (r9 : w.heap[R9]? = some (.cells #[.int .u8 0, .bool false] 31 (0, 0))) (r11 : w.heap[R11]? = some (.cells #[.int .i64 l, .slice va n cap] 26 (0, 0))) (r12 : w.heap[R12]? = some (.cells #[.int .u8 q, .bool y] 31 (0, 0)))
    (h1 : R8 < R9) (h2 : R9 < R11) (h3 : R11 < R12) :
    reg_prio_Open_8.wp Tryz.prog (Only fun a' W' => ∃ z : Nat → Value, a' = ⟨(((t).setIfInBounds 55 (z 55)).setIfInBounds 56 (z 56)).setIfInBounds 10 (.bool true), []⟩ ∧ W'.heap[R8]? = some (.cells #[.int .i64 l, .slice va n cap] 26 (0, 0)) ∧ W'.heap[R9]? = some (.cells #[.int .u8 q, .bool y] 31 (0, 0)) ∧ Mods (fun b => b = R8 ∨ b = R9) w W') ⟨t, []⟩ w := by
  conv => arg 2; whnf
  obtain ⟨u, rfl⟩ := lit57 t hs
  have hq8 : u 8 = .pointer (some ⟨R8, 0, none⟩) := hq8
  have hq9 : u 9 = .pointer (some ⟨R9, 0, none⟩) := hq9
  have hq11 : u 11 = .pointer (some ⟨R11, 0, none⟩) := hq11
  have hq12 : u 12 = .pointer (some ⟨R12, 0, none⟩) := hq12
  rw [hq8, hq9, hq11, hq12]
  clear hq8 hq9 hq11 hq12 hs
  refine wp_region_held (S := fun W => (W.heap[R11]? = some (.cells #[.int .i64 l, .slice va n cap] 26 (0, 0))) ∧ W.heap[R12]? = some (.cells #[.int .u8 q, .bool y] 31 (0, 0))) (by kernel_rfl) ?_
  show wpAnyH _ _ _ _ _ 5 _ _ w.drew
  have hN : New w w.drew := (Mods.refl _ _).drew
  have r8 := hN.heap r8 id
  have r9 := hN.heap r9 id
  have r11 := hN.heap r11 id
  have r12 := hN.heap r12 id
  have hM : Mods (fun b => b = R8 ∨ b = R9) w w.drew := Mods.ofNew hN
  obtain ⟨W0, hW0⟩ : ∃ W, w.drew = W := ⟨_, rfl⟩
  rw [hW0] at r8 r9 r11 r12 hM ⊢
  clear hW0 hN
  refine anyH_take 0 (some 55) (.agg #[.int .i64 l, .slice va n cap]) rfl rfl (by kernel_rfl) (by kernel_rfl) (by kernel_rfl) (fun _ _ _ h => h.elim) (.inl ⟨by rfl, fun W hW => by obtain ⟨⟨c0, c1⟩, -⟩ := pc_facts hW.1; go_simp⟩) ⟨r11, r12⟩ ?_
  simp only [Act.put, List.setIfInBounds_toArray, List.set_cons_succ, List.set_cons_zero]
  refine anyH_take 1 (some 56) (.agg #[.int .u8 q, .bool y]) rfl rfl (by kernel_rfl) (by kernel_rfl) (by kernel_rfl) (fun _ _ _ h => h.elim) (.inl ⟨by rfl, fun W hW => by obtain ⟨⟨c0, c1⟩, -⟩ := pr_facts hW.2; go_simp⟩) ⟨r11, r12⟩ ?_
  simp only [Act.put, List.setIfInBounds_toArray, List.set_cons_succ, List.set_cons_zero]
  refine wpAnyH_all (rs := [2]) (by kernel_rfl) (by simp) ?_
  simp only [List.mem_cons, List.not_mem_nil, or_false, forall_eq]
  refine opH_skip none rfl (by rfl) rfl (run_store_row 26 (.tmp 8) (.tmp 55) rfl R8 rfl 26 [.int .i64 0, .slice none 0 0] [.int .i64 l, .slice va n cap] rfl r8 sizeRp rfl (by intro x hx; simp only [List.mem_cons, List.not_mem_nil, or_false] at hx; rcases hx with rfl | rfl <;> rfl)) ?_
  have hmW2 := mods_setRow r8 #[.int .i64 l, .slice va n cap]
  have t8 := setRow_heap W0 R8 _ #[.int .i64 l, .slice va n cap] _ _ r8
  replace r9 := hmW2.heap r9 (by omega)
  replace r11 := hmW2.heap r11 (by omega)
  replace r12 := hmW2.heap r12 (by omega)
  replace hM := hM.trans (hmW2.mono fun b hb => by omega)
  obtain ⟨W2, hvW2⟩ : ∃ V, W0.setRow R8 #[.int .i64 l, .slice va n cap] = V := ⟨_, rfl⟩
  rw [hvW2] at r9 r11 r12 hM t8 ⊢
  clear hvW2 hmW2
  refine ⟨⟨r11, r12⟩, ?_⟩
  simp only [Act.put, List.setIfInBounds_toArray, List.set_cons_succ, List.set_cons_zero]
  refine wpAnyH_all (rs := [3]) (by kernel_rfl) (by simp) ?_
  simp only [List.mem_cons, List.not_mem_nil, or_false, forall_eq]
  refine opH_skip none rfl (by rfl) rfl (run_store_row 31 (.tmp 9) (.tmp 56) rfl R9 rfl 31 [.int .u8 0, .bool false] [.int .u8 q, .bool y] rfl r9 sizePr rfl (by intro x hx; simp only [List.mem_cons, List.not_mem_nil, or_false] at hx; rcases hx with rfl | rfl <;> rfl)) ?_
  have hmW3 := mods_setRow r9 #[.int .u8 q, .bool y]
  have t9 := setRow_heap W2 R9 _ #[.int .u8 q, .bool y] _ _ r9
  replace t8 := hmW3.heap t8 (by omega)
  replace r11 := hmW3.heap r11 (by omega)
  replace r12 := hmW3.heap r12 (by omega)
  replace hM := hM.trans (hmW3.mono fun b hb => by omega)
  obtain ⟨W3, hvW3⟩ : ∃ V, W2.setRow R9 #[.int .u8 q, .bool y] = V := ⟨_, rfl⟩
  rw [hvW3] at t8 r11 r12 hM t9 ⊢
  clear hvW3 hmW3
  refine ⟨⟨r11, r12⟩, ?_⟩
  simp only [Act.put, List.setIfInBounds_toArray, List.set_cons_succ, List.set_cons_zero]
  refine wpAnyH_all (rs := [4]) (by kernel_rfl) (by simp) ?_
  simp only [List.mem_cons, List.not_mem_nil, or_false, forall_eq]
  refine opH_value (some 10) rfl (by rfl) rfl (v := .bool true) (w' := W3) (by go_simp) ?_
  refine ⟨⟨r11, r12⟩, ?_⟩
  simp only [Act.put, List.setIfInBounds_toArray, List.set_cons_succ, List.set_cons_zero]
  refine wpAnyH_done (by kernel_rfl) ?_ _
  exact ⟨(fun zz => ([.agg #[.int .i64 l, .slice va n cap], .agg #[.int .u8 q, .bool y]] : List Value).getD (cond (Nat.beq zz 55) 0 (cond (Nat.beq zz 56) 1 (0))) undef), rfl, t8, t9, hM⟩
noncomputable def reg_prio_Open_7 : Code := ((Tryz.f18.body.bind (regionOf 7)).getD .skip)
set_option maxHeartbeats 4000000 in
set_option maxRecDepth 100000 in
theorem open7 (t : Array Value) (hs : t.size = 57) (w : World) {R4 R5 R11 n cap : Nat} {l s l0 : Int} {va : Option Addr} {x1 : Value} {L : List WP}
    (hq4 : t.getD 4 undef = .pointer (some ⟨R4, 0, none⟩))
    (hq5 : t.getD 5 undef = .pointer (some ⟨R5, 0, none⟩))
    (hq11 : t.getD 11 undef = .pointer (some ⟨R11, 0, none⟩))
    (r4 : w.heap[R4]? = some (.cells #[.int .i64 l, .slice va n cap] 26 (0, 0))) (r5 : Boxed w R5 3 (.int .i64 s)) (r11 : w.heap[R11]? = some (.cells #[.int .i64 l0, x1] 26 (0, 0)))
    (HT : Hid (∀ W, New w W → Calls Tryz.prog 48 #[.slice va n cap, .func (.func 52) #[] #[.pointer (some ⟨R5, 0, none⟩)]] W fun e w' => ∃ v', e = .returned v' ∧ OwW W.heap.size w' v' L.length (wf L) ∧ New W w')) (h1 : ¬ R4 = R11) (h2 : ¬ R5 = R11) :
    reg_prio_Open_7.wp Tryz.prog (Only fun a' W' => ∃ z : Nat → Value, ∃ v', a' = ⟨(((((((t).setIfInBounds 48 (z 48)).setIfInBounds 49 (z 49)).setIfInBounds 50 (z 50)).setIfInBounds 51 (z 51)).setIfInBounds 52 (z 52)).setIfInBounds 53 (z 53)).setIfInBounds 54 (z 54), []⟩ ∧ W'.heap[R11]? = some (.cells #[.int .i64 s, v'] 26 (0, 0)) ∧ OwW w.heap.size W' v' L.length (wf L) ∧ Mods (fun b => b = R11) w W') ⟨t, []⟩ w := by
  conv => arg 2; whnf
  obtain ⟨u, rfl⟩ := lit57 t hs
  have hq4 : u 4 = .pointer (some ⟨R4, 0, none⟩) := hq4
  have hq5 : u 5 = .pointer (some ⟨R5, 0, none⟩) := hq5
  have hq11 : u 11 = .pointer (some ⟨R11, 0, none⟩) := hq11
  rw [hq4, hq5, hq11]
  clear hq4 hq5 hq11 hs
  have hN : New w w.drew := (Mods.refl _ _).drew
  refine wp_region_held (S := fun W => Mods (fun b => b = R11) w W) (by kernel_rfl) ?_
  show wpAnyH _ _ _ _ _ 9 _ _ w.drew
  have hS : Mods (fun b => b = R11) w w.drew := Mods.ofNew hN
  obtain ⟨⟨a0, a1⟩, -⟩ := pc_facts r4
  obtain ⟨c0, -⟩ := r5.both
  have hl11 : R11 < w.heap.size := (Array.getElem?_eq_some_iff.1 r11).1
  refine anyH_take 0 (some 48) (.int .i64 s) rfl rfl (by kernel_rfl) (by kernel_rfl) (by kernel_rfl) (fun _ _ _ h => h.elim) (.inl ⟨by rfl, fun W hW => by have q := hW.cell c0 h2; go_simp⟩) hS ?_
  simp only [Act.put, List.setIfInBounds_toArray, List.set_cons_succ, List.set_cons_zero]
  refine anyH_take 1 (some 49) (.pointer (some ⟨R4, 1, none⟩)) rfl rfl (by kernel_rfl) (by kernel_rfl) (by kernel_rfl) (fun _ _ _ h => h.elim) (.inl ⟨by rfl, fun W hW => by go_simp⟩) hS ?_
  simp only [Act.put, List.setIfInBounds_toArray, List.set_cons_succ, List.set_cons_zero]
  refine anyH_take 2 (some 50) (.slice va n cap) rfl rfl (by kernel_rfl) (by kernel_rfl) (by kernel_rfl) (fun _ _ _ h => h.elim) (.inl ⟨by rfl, fun W hW => by have q := hW.cell a1 h1; go_simp⟩) hS ?_
  simp only [Act.put, List.setIfInBounds_toArray, List.set_cons_succ, List.set_cons_zero]
  refine anyH_take 3 (some 51) (.func (.func 52) #[] #[.pointer (some ⟨R5, 0, none⟩)]) rfl rfl (by kernel_rfl) (by kernel_rfl) (by kernel_rfl) (fun _ _ _ h => h.elim) (.inl ⟨by rfl, fun W hW => by go_simp⟩) hS ?_
  simp only [Act.put, List.setIfInBounds_toArray, List.set_cons_succ, List.set_cons_zero]
  refine anyH_take 5 (some 53) (.pointer (some ⟨R11, 0, none⟩)) rfl rfl (by kernel_rfl) (by kernel_rfl) (by kernel_rfl) (fun _ _ _ h => h.elim) (.inl ⟨by rfl, fun W hW => by go_simp⟩) hS ?_
  simp only [Act.put, List.setIfInBounds_toArray, List.set_cons_succ, List.set_cons_zero]
  refine wpAnyH_all (rs := [4]) (by kernel_rfl) (by simp) ?_
  simp only [List.mem_cons, List.not_mem_nil, or_false, forall_eq]
  refine opH_call (some 52) rfl (by rfl) rfl 48 #[.slice va n cap, .func (.func 52) #[] #[.pointer (some ⟨R5, 0, none⟩)]] (by go_simp) ((HT.out _ hN).mono ?_)
  have hNb := hN.size
  rintro e w1 ⟨v1, rfl, hO, hk⟩
  have hN := hN.trans hk
  have hS := hS.trans (Mods.ofNew hk)
  have r11 := hN.heap r11 id
  obtain ⟨⟨d0, d1⟩, d2, d3⟩ := pc_facts r11
  obtain ⟨oa, oc, rfl⟩ := hO.slice
  have hO := hO.mono (base' := w.heap.size) (by have := hNb; omega)
  clear hk
  refine ⟨_, rfl, hS, ?_⟩
  simp only [Act.put, List.setIfInBounds_toArray, List.set_cons_succ, List.set_cons_zero]
  refine wpAnyH_all (rs := [6]) (by kernel_rfl) (by simp) ?_
  simp only [List.mem_cons, List.not_mem_nil, or_false, forall_eq]
  refine opH_skip none rfl (by rfl) rfl (w' := w1.setCell ⟨R11, 0, none⟩ (.int .i64 s)) (by go_simp) ?_
  have s11 := setCell_heap (i := 0) r11 (.int .i64 s)
  simp only [List.setIfInBounds_toArray, List.set_cons_succ, List.set_cons_zero] at s11
  have hm := setMods w1 R11 0 (.int .i64 s)
  have hS := hS.trans hm
  have hO := hO.mods hm (fun g hg e => by have := (hO.lt hg).1; omega)
  obtain ⟨W2, hW2⟩ : ∃ V, w1.setCell ⟨R11, 0, none⟩ (.int .i64 s) = V := ⟨_, rfl⟩
  rw [hW2] at s11 hS hO ⊢
  clear hm hW2 d0 d1 d2 d3
  refine ⟨hS, ?_⟩
  simp only [Act.put, List.setIfInBounds_toArray, List.set_cons_succ, List.set_cons_zero]
  refine anyH_take 7 (some 54) (.pointer (some ⟨R11, 1, none⟩)) rfl rfl (by kernel_rfl) (by kernel_rfl) (by kernel_rfl) (fun _ _ _ h => h.elim) (.inl ⟨by rfl, fun W hW => by go_simp⟩) hS ?_
  simp only [Act.put, List.setIfInBounds_toArray, List.set_cons_succ, List.set_cons_zero]
  refine wpAnyH_all (rs := [8]) (by kernel_rfl) (by simp) ?_
  simp only [List.mem_cons, List.not_mem_nil, or_false, forall_eq]
  obtain ⟨⟨d0, d1⟩, d2, d3⟩ := pc_facts s11
  refine opH_skip none rfl (by rfl) rfl (w' := W2.setCell ⟨R11, 1, none⟩ (.slice oa L.length oc)) (by go_simp) ?_
  have s12 := setCell_heap (i := 1) s11 (.slice oa L.length oc)
  simp only [List.setIfInBounds_toArray, List.set_cons_succ, List.set_cons_zero] at s12
  have hm := setMods W2 R11 1 (.slice oa L.length oc)
  have hS := hS.trans hm
  have hO := hO.mods hm (fun g hg e => by have := (hO.lt hg).1; omega)
  refine ⟨hS, ?_⟩
  simp only [Act.put, List.setIfInBounds_toArray, List.set_cons_succ, List.set_cons_zero]
  refine wpAnyH_done (by kernel_rfl) ?_ _
  exact ⟨(fun zz => ([.int .i64 s, .pointer (some ⟨R4, 1, none⟩), .slice va n cap, .func (.func 52) #[] #[.pointer (some ⟨R5, 0, none⟩)], .slice oa L.length oc, .pointer (some ⟨R11, 0, none⟩), .pointer (some ⟨R11, 1, none⟩)] : List Value).getD (cond (Nat.beq zz 48) 0 (cond (Nat.beq zz 49) 1 (cond (Nat.beq zz 50) 2 (cond (Nat.beq zz 51) 3 (cond (Nat.beq zz 52) 4 (cond (Nat.beq zz 53) 5 (cond (Nat.beq zz 54) 6 (0)))))))) undef), _, rfl, s12, hO, hS⟩
end Go.Proofs.YtkiiameibdhdfaaGreatDoor
/- Open (the program). -/
namespace Go.Proofs.YtkiiameibdhdfaaGreatDoor
open Go.RowKit Go.Shelf Go.Cs
attribute [local go_sem] Oper.semAt_some
set_option linter.unusedVariables false
set_option linter.unusedSimpArgs false
/-- The boxes of Open. -/
structure OpR (W : World) (B : Nat) (l s : Int) (v : Value) : Prop where
  hp : W.heap[B]? = some (.cells #[.int .i64 l, v] 26 (0, 0))
  hs : Boxed W (B + 1) 3 (.int .i64 s)
  ho : W.heap[B + 2]? = some (.cells #[.int .i64 0, .slice none 0 0] 26 (0, 0))
  hq : W.heap[B + 3]? = some (.cells #[.int .u8 0, .bool false] 31 (0, 0))
theorem OpR.new {W W' : World} {B : Nat} {l s : Int} {v : Value} (h : OpR W B l s v) (hN : New W W') : OpR W' B l s v :=
  ⟨hN.heap h.hp id, hN.boxed h.hs id, hN.heap h.ho id, hN.heap h.hq id⟩
theorem OpR.made (w : World) (l s : Int) (v : Value) :
    OpR ((((w.alloc (.cells #[.int .i64 l, v] 26)).alloc (.cells #[.int .i64 s] 3)).alloc (.cells #[.int .i64 0, .slice none 0 0] 26)).alloc (.cells #[.int .u8 0, .bool false] 31)) w.heap.size l s v := by
  have a := fun (W : World) (ob : Obj) => (Mods.refl (fun _ => False) W).alloc ob
  obtain ⟨w1, e1⟩ : ∃ V, w.alloc (.cells #[.int .i64 l, v] 26) = V := ⟨_, rfl⟩
  have r1 := World.alloc_heap_new w (.cells #[.int .i64 l, v] 26)
  have s1 : w1.heap.size = w.heap.size + 1 := by rw [← e1]; simp
  rw [e1] at r1 ⊢
  obtain ⟨w2, e2⟩ : ∃ V, w1.alloc (.cells #[.int .i64 s] 3) = V := ⟨_, rfl⟩
  have r2 := World.alloc_heap_new w1 (.cells #[.int .i64 s] 3)
  have s2 : w2.heap.size = w.heap.size + 2 := by rw [← e2]; simp; omega
  have n2 := a w1 (.cells #[.int .i64 s] 3)
  rw [e2] at r2 n2 ⊢
  obtain ⟨w3, e3⟩ : ∃ V, w2.alloc (.cells #[.int .i64 0, .slice none 0 0] 26) = V := ⟨_, rfl⟩
  have r3 := World.alloc_heap_new w2 (.cells #[.int .i64 0, .slice none 0 0] 26)
  have s3 : w3.heap.size = w.heap.size + 3 := by rw [← e3]; simp; omega
  have n3 := a w2 (.cells #[.int .i64 0, .slice none 0 0] 26)
  rw [e3] at r3 n3 ⊢
  have r4 := World.alloc_heap_new w3 (.cells #[.int .u8 0, .bool false] 31)
  have n4 := a w3 (.cells #[.int .u8 0, .bool false] 31)
  rw [s1] at r2
  rw [s2] at r3
  rw [s3] at r4
  exact ⟨n4.heap (n3.heap (n2.heap r1 id) id) id, n4.boxed (n3.boxed r2 id) id, n4.heap r3 id, r4⟩
/-- What comes of a stream that opens: the last one, what waits, the priority, does it open. -/
def openP (l : Int) (d : List WP) (s : Int) (has : Bool) (r : Option (Nat × Bool)) : Int × List WP × (Nat × Bool) × Bool :=
  if rightP l d && (oddP s && decide (l < s)) then (s, d.filter (fun x => decide (s < x.s)), (match waitP l d s with | some x => (x.u, x.i) | none => if has then r.getD (3, false) else (3, false)), true)
  else (l, d, (3, false), false)
def openE (v : Value) (o : Int × List WP × (Nat × Bool) × Bool) : Ending := .returned (.tuple #[.agg #[.int .i64 o.1, v], .agg #[.int .u8 o.2.2.1.1, .bool o.2.2.1.2], .bool o.2.2.2])
set_option maxHeartbeats 4000000 in
set_option maxRecDepth 100000 in
theorem open_p (l s : Int) (v : Value) (d : List WP) (T : ByteArray) (has : Bool) (w : World) (h : RdW w v d) (hu : ∀ x ∈ d, x.u < 256) (hd : d.length ≤ 1000) (hs : T.size ≤ 1000000) (hT : Tab w) :
    Calls Tryz.prog 18 #[.agg #[.int .i64 l, v], .int .i64 s, .string T, .bool has] w fun e w' => ∃ v', e = openE v' (openP l d s has (readP T)) ∧ RdW w' v' (openP l d s has (readP T)).2.1 ∧ New w w' := by
  have HO := Lib.hid (fun W (hN : New w W) => own_p l v d W (h.new hN) (by omega))
  have HR := Lib.hid (fun W (hN : New w W) => right_p l v d W (h.new hN) hu)
  have HRd := Lib.hid (fun W (hN : New w W) => read_p T W hs (hT.new hN))
  have HWt := Lib.hid (fun W (hN : New w W) => waiting_p l v d s W (h.new hN) hu)
  have HD := Lib.hid h
  have hU := OpR.made w l s v
  obtain ⟨ao, cap, rfl⟩ := h.slice
  obtain ⟨rp, hrp⟩ : ∃ r, readP T = r := ⟨_, rfl⟩
  rw [hrp] at HRd ⊢
  obtain ⟨n, hn⟩ : ∃ n, d.length = n := ⟨_, rfl⟩
  have HN := Lib.hid hn
  rw [hn] at h HO HR hU hd HD HWt ⊢
  clear hn h hrp hs hT
  obtain ⟨Post, hPost⟩ : ∃ Post : Ending → World → Prop, (fun e w' => ∃ v', e = openE v' (openP l d s has rp) ∧ RdW w' v' (openP l d s has rp).2.1 ∧ New w w') = Post := ⟨_, rfl⟩
  have HPost := Lib.hid hPost
  rw [hPost]
  clear hPost
  have hN : New w ((((w.alloc (.cells #[.int .i64 l, .slice ao n cap] 26)).alloc (.cells #[.int .i64 s] 3)).alloc (.cells #[.int .i64 0, .slice none 0 0] 26)).alloc (.cells #[.int .u8 0, .bool false] 31)) := ((((Mods.refl _ _).alloc _).alloc _).alloc _).alloc _
  go_enter Tryz.func18, Tryz.ntmps18
  go_upto_region 1 with fail
  obtain ⟨W0, hW0⟩ : ∃ V, ((((w.alloc (.cells #[.int .i64 l, .slice ao n cap] 26)).alloc (.cells #[.int .i64 s] 3)).alloc (.cells #[.int .i64 0, .slice none 0 0] 26)).alloc (.cells #[.int .u8 0, .bool false] 31)) = V := ⟨_, rfl⟩
  rw [hW0] at hN hU
  simp only [hW0]
  clear hW0
  obtain ⟨⟨p0, p1⟩, -⟩ := pc_facts hU.hp
  obtain ⟨B, hB⟩ : ∃ B, w.heap.size = B := ⟨_, rfl⟩
  rw [hB] at hU p0 p1
  have hwB : w.heap.size ≤ B := by omega
  have hBs : B + 3 < W0.heap.size := (Array.getElem?_eq_some_iff.1 hU.hq).1
  simp only [hB, show B + 1 + 1 = B + 2 from rfl, show B + 2 + 1 = B + 3 from rfl]
  clear hB
  go_wp2_with fail
  refine (HO.out _ hN).mono ?_
  rintro e w1 ⟨v', rfl, hOw, hk⟩
  replace hN := hN.trans hk
  replace hU := hU.new hk
  obtain ⟨oa, oc, rfl⟩ := hOw.slice
  have hOg : ∀ g, (Value.slice oa n oc).ownBlock = some g → B + 3 < g ∧ g < w1.heap.size := fun g hg => by have := hOw.lt hg; omega
  replace hOw := hOw.mono (base' := w.heap.size) (by have := hN.size; have := hk.size; omega)
  have hBs1 : B + 3 < w1.heap.size := by have := hk.size; omega
  clear hk p0 p1 hBs HO
  go_upto_region 2 with fail
  have hA : New w1 (w1.alloc (.cells #[.int .i64 l, .slice oa n oc] 26)) := (Mods.refl _ _).alloc _
  have r11 := World.alloc_heap_new w1 (.cells #[.int .i64 l, .slice oa n oc] 26)
  obtain ⟨w2, hw2⟩ : ∃ V, w1.alloc (.cells #[.int .i64 l, .slice oa n oc] 26) = V := ⟨_, rfl⟩
  obtain ⟨X, hX⟩ : ∃ X, w1.heap.size = X := ⟨_, rfl⟩
  rw [hw2] at hA r11 ⊢
  rw [hX] at r11 hOg hBs1 ⊢
  replace hN := hN.trans hA
  replace hU := hU.new hA
  replace hOw := hOw.new hA
  clear hw2 hX hA
  obtain ⟨⟨p0, p1⟩, -⟩ := pc_facts hU.hp
  go_wp2_with fail
  refine (HR.out _ hN).mono ?_
  rintro e w3 ⟨rfl, hk⟩
  replace hN := hN.trans hk
  replace hU := hU.new hk
  replace hOw := hOw.new hk
  replace r11 := hk.heap r11 id
  clear hk p0 p1 HR
  obtain ⟨cs, -⟩ := hU.hs.both
  obtain ⟨⟨p0, p1⟩, -⟩ := pc_facts hU.hp
  have HOd := Lib.hid (fun W => odd_p s W)
  cases hr : rightP l d with
  | false =>
    have hE : Hid (openP l d s has rp = (l, d, (3, false), false)) := Lib.hid (by unfold openP; rw [hr]; rfl)
    clear hr HRd HWt HD HOd
    go_upto_region 3 with fail
    refine piece (fun _ => _) (open3 _ rfl w3 rfl rfl rfl hU.ho hU.hq r11 (by omega) (by omega)) ?_
    rintro a' W2 ⟨z, rfl, s8, s9, hM⟩
    simp only [List.setIfInBounds_toArray, List.set_cons_succ, List.set_cons_zero]
    go_wp2_with fail
    have hres := fun tmps h8 h9 h10 => results_open (fn := Tryz.f18) rfl tmps W2 (B + 2) (B + 3) [.int .i64 l, .slice oa n oc] [.int .u8 3, .bool false] (.bool false) h8 h9 h10 s8 s9 rfl rfl
    refine bodyPost_ret (hres _ rfl rfl rfl) rfl ?_
    rw [← HPost.out, hE.out]
    refine ⟨.slice oa n oc, rfl, ?_, ((Mods.ofNew hN).trans hM).new (fun g hg => by omega)⟩
    have hO2 := hOw.mods hM (fun g hg' e => by have := hOg g hg'; omega)
    rw [← HN.out] at hO2
    have hO3 := hO2.reads (by rw [HN.out]; omega)
    rw [HN.out] at hO3
    exact hO3
  | true =>
    obtain ⟨h0, h1, h4, h5, h6⟩ := right_facts hr
    have HRt := Lib.hid hr
    clear h5 h6 hr
    cases ho : oddP s with
    | false =>
      have hE : Hid (openP l d s has rp = (l, d, (3, false), false)) := Lib.hid (by unfold openP; rw [HRt.out, ho]; rfl)
      rw [ho] at HOd
      clear ho HRd HWt HD
      go_wp2_with fail
      refine (HOd.out _).mono ?_
      rintro e w3' ⟨rfl, rfl⟩
      go_upto_region 3 with fail
      refine piece (fun _ => _) (open3 _ rfl w3' rfl rfl rfl hU.ho hU.hq r11 (by omega) (by omega)) ?_
      rintro a' W2 ⟨z, rfl, s8, s9, hM⟩
      simp only [List.setIfInBounds_toArray, List.set_cons_succ, List.set_cons_zero]
      go_wp2_with fail
      have hres := fun tmps h8 h9 h10 => results_open (fn := Tryz.f18) rfl tmps W2 (B + 2) (B + 3) [.int .i64 l, .slice oa n oc] [.int .u8 3, .bool false] (.bool false) h8 h9 h10 s8 s9 rfl rfl
      refine bodyPost_ret (hres _ rfl rfl rfl) rfl ?_
      rw [← HPost.out, hE.out]
      refine ⟨.slice oa n oc, rfl, ?_, ((Mods.ofNew hN).trans hM).new (fun g hg => by omega)⟩
      have hO2 := hOw.mods hM (fun g hg' e => by have := hOg g hg'; omega)
      rw [← HN.out] at hO2
      have hO3 := hO2.reads (by rw [HN.out]; omega)
      rw [HN.out] at hO3
      exact hO3
    | true =>
      have HOt := Lib.hid ho
      rw [ho] at HOd
      by_cases hsl : l < s
      · have hd3 : decide (s ≤ l) = false := decide_eq_false (by omega)
        have hE : Hid (openP l d s has rp = (s, d.filter (fun x => decide (s < x.s)), (match waitP l d s with | some x => (x.u, x.i) | none => if has then rp.getD (3, false) else (3, false)), true)) := Lib.hid (by unfold openP; rw [HRt.out, HOt.out, decide_eq_true hsl]; rfl)
        clear ho
        go_wp2_with fail
        refine (HOd.out _).mono ?_
        rintro e w3' ⟨rfl, rfl⟩
        go_wp2_with fail
        refine (HWt.out _ hN).mono ?_
        rintro e w4 ⟨rfl, hk⟩
        replace hN := hN.trans hk
        replace hU := hU.new hk
        replace hOw := hOw.new hk
        replace r11 := hk.heap r11 id
        have hXs : X < w4.heap.size := (Array.getElem?_eq_some_iff.1 r11).1
        clear hk p0 p1 cs HWt HOd HOt
        cases hwt : waitP l d s with
        | some x =>
          rw [hwt] at hE
          obtain ⟨xs, xu, xi⟩ := x
          have hV : waitV (some ⟨xs, xu, xi⟩) = .tuple #[.agg #[.int .u8 xu, .bool xi], .bool true] := rfl
          rw [hV]
          clear hwt hV HRd
          go_upto_region 7 with fail
          have hA : New w4 (w4.alloc (.cells #[.int .u8 xu, .bool xi] 31)) := (Mods.refl _ _).alloc _
          have r12 := World.alloc_heap_new w4 (.cells #[.int .u8 xu, .bool xi] 31)
          obtain ⟨w5, hw5⟩ : ∃ V, w4.alloc (.cells #[.int .u8 xu, .bool xi] 31) = V := ⟨_, rfl⟩
          obtain ⟨Y, hY⟩ : ∃ Y, w4.heap.size = Y := ⟨_, rfl⟩
          rw [hw5] at hA r12 ⊢
          rw [hY] at r12 hXs ⊢
          replace hN := hN.trans hA
          replace hU := hU.new hA
          replace hOw := hOw.new hA
          replace r11 := hA.heap r11 id
          clear hA hw5 hY
          obtain ⟨L, hL⟩ : ∃ L, d.filter (fun x => decide (s < x.s)) = L := ⟨_, rfl⟩
          have hLl : L.length ≤ n := by rw [← hL, ← HN.out]; exact List.length_filter_le _ _
          have hsz : B + 3 < w5.heap.size := (Array.getElem?_eq_some_iff.1 hU.hq).1
          rw [hL] at hE
          have HT : Hid (∀ W, New w5 W → Calls Tryz.prog 48 #[.slice ao n cap, .func (.func 52) #[] #[.pointer (some ⟨B + 1, 0, none⟩)]] W fun e w' => ∃ v', e = .returned v' ∧ OwW W.heap.size w' v' L.length (wf L) ∧ New W w') := Lib.hid (fun W hW => by
            have := those_p (.slice ao n cap) d 52 #[.pointer (some ⟨B + 1, 0, none⟩)] (fun t => decide (s < t)) W (HD.out.new (hN.trans hW)) (by have := HN.out; omega) (enters_of Tryz.func52 (by kernel_rfl) rfl) (fun W' S hS hm => so_gt (B + 1) s W' (hm.boxed (hW.boxed hU.hs id) (fun hb => by have := hS _ hb; have := hW.size; omega)))
            have e : (d.filter fun x => (fun t => decide (s < t)) x.s) = L := hL
            rw [e] at this
            exact this)
          clear hL
          refine piece (fun _ => _) (open7 _ rfl w5 rfl rfl rfl hU.hp hU.hs r11 HT (by omega) (by omega)) ?_
          rintro a' W8 ⟨z, v8, rfl, s11, hO8, hM8⟩
          simp only [List.setIfInBounds_toArray, List.set_cons_succ, List.set_cons_zero]
          have hRW := hO8.reads (by omega)
          obtain ⟨va8, c8, rfl⟩ := hO8.slice
          have hN8 : New w W8 := ((Mods.ofNew hN).trans hM8).new (fun g hg => by omega)
          go_upto_region 8 with fail
          refine piece (fun _ => _) (open8 _ rfl W8 rfl rfl rfl rfl (hM8.heap hU.ho (by omega)) (hM8.heap hU.hq (by omega)) s11 (hM8.heap r12 (by omega)) (by omega) (by omega) (by omega)) ?_
          rintro a' W9 ⟨z', rfl, s8, s9, hM9⟩
          simp only [List.setIfInBounds_toArray, List.set_cons_succ, List.set_cons_zero]
          go_wp2_with fail
          have hres := fun tmps h8 h9 h10 => results_open (fn := Tryz.f18) rfl tmps W9 (B + 2) (B + 3) [.int .i64 s, .slice va8 L.length c8] [.int .u8 xu, .bool xi] (.bool true) h8 h9 h10 s8 s9 rfl rfl
          refine bodyPost_ret (hres _ rfl rfl rfl) rfl ?_
          rw [← HPost.out, hE.out]
          refine ⟨.slice va8 L.length c8, rfl, ?_, ((Mods.ofNew hN8).trans hM9).new (fun g hg => by omega)⟩
          exact RowR.kept hRW hM9 (fun _ g hg' e => by have := hO8.lt hg'; have e : g = B + 2 ∨ g = B + 3 := e; omega)
        | none =>
          rw [hwt] at hE
          have hV : waitV none = .tuple #[.agg #[.int .u8 3, .bool false], .bool false] := rfl
          rw [hV]
          clear hwt hV
          cases has with
          | false =>
            clear HRd
            go_upto_region 7 with fail
            have hA : New w4 (w4.alloc (.cells #[.int .u8 3, .bool false] 31)) := (Mods.refl _ _).alloc _
            have r12 := World.alloc_heap_new w4 (.cells #[.int .u8 3, .bool false] 31)
            obtain ⟨w5, hw5⟩ : ∃ V, w4.alloc (.cells #[.int .u8 3, .bool false] 31) = V := ⟨_, rfl⟩
            obtain ⟨Y, hY⟩ : ∃ Y, w4.heap.size = Y := ⟨_, rfl⟩
            rw [hw5] at hA r12 ⊢
            rw [hY] at r12 hXs ⊢
            replace hN := hN.trans hA
            replace hU := hU.new hA
            replace hOw := hOw.new hA
            replace r11 := hA.heap r11 id
            clear hA hw5 hY
            obtain ⟨L, hL⟩ : ∃ L, d.filter (fun x => decide (s < x.s)) = L := ⟨_, rfl⟩
            have hLl : L.length ≤ n := by rw [← hL, ← HN.out]; exact List.length_filter_le _ _
            have hsz : B + 3 < w5.heap.size := (Array.getElem?_eq_some_iff.1 hU.hq).1
            rw [hL] at hE
            have HT : Hid (∀ W, New w5 W → Calls Tryz.prog 48 #[.slice ao n cap, .func (.func 52) #[] #[.pointer (some ⟨B + 1, 0, none⟩)]] W fun e w' => ∃ v', e = .returned v' ∧ OwW W.heap.size w' v' L.length (wf L) ∧ New W w') := Lib.hid (fun W hW => by
              have := those_p (.slice ao n cap) d 52 #[.pointer (some ⟨B + 1, 0, none⟩)] (fun t => decide (s < t)) W (HD.out.new (hN.trans hW)) (by have := HN.out; omega) (enters_of Tryz.func52 (by kernel_rfl) rfl) (fun W' S hS hm => so_gt (B + 1) s W' (hm.boxed (hW.boxed hU.hs id) (fun hb => by have := hS _ hb; have := hW.size; omega)))
              have e : (d.filter fun x => (fun t => decide (s < t)) x.s) = L := hL
              rw [e] at this
              exact this)
            clear hL
            refine piece (fun _ => _) (open7 _ rfl w5 rfl rfl rfl hU.hp hU.hs r11 HT (by omega) (by omega)) ?_
            rintro a' W8 ⟨z, v8, rfl, s11, hO8, hM8⟩
            simp only [List.setIfInBounds_toArray, List.set_cons_succ, List.set_cons_zero]
            have hRW := hO8.reads (by omega)
            obtain ⟨va8, c8, rfl⟩ := hO8.slice
            have hN8 : New w W8 := ((Mods.ofNew hN).trans hM8).new (fun g hg => by omega)
            go_upto_region 8 with fail
            refine piece (fun _ => _) (open8 _ rfl W8 rfl rfl rfl rfl (hM8.heap hU.ho (by omega)) (hM8.heap hU.hq (by omega)) s11 (hM8.heap r12 (by omega)) (by omega) (by omega) (by omega)) ?_
            rintro a' W9 ⟨z', rfl, s8, s9, hM9⟩
            simp only [List.setIfInBounds_toArray, List.set_cons_succ, List.set_cons_zero]
            go_wp2_with fail
            have hres := fun tmps h8 h9 h10 => results_open (fn := Tryz.f18) rfl tmps W9 (B + 2) (B + 3) [.int .i64 s, .slice va8 L.length c8] [.int .u8 3, .bool false] (.bool true) h8 h9 h10 s8 s9 rfl rfl
            refine bodyPost_ret (hres _ rfl rfl rfl) rfl ?_
            rw [← HPost.out, hE.out]
            refine ⟨.slice va8 L.length c8, rfl, ?_, ((Mods.ofNew hN8).trans hM9).new (fun g hg => by omega)⟩
            exact RowR.kept hRW hM9 (fun _ g hg' e => by have := hO8.lt hg'; have e : g = B + 2 ∨ g = B + 3 := e; omega)
          | true =>
            obtain ⟨⟨qu, qi⟩, hq⟩ : ∃ q, rp.getD (3, false) = q := ⟨_, rfl⟩
            rw [hq] at HRd
            have hE2 : Hid (openP l d s true rp = (s, d.filter (fun x => decide (s < x.s)), (qu, qi), true)) := Lib.hid (by rw [hE.out, ← hq]; rfl)
            clear hq hE
            have hE := hE2
            clear hE2
            have hA : New w4 (w4.alloc (.cells #[.int .u8 3, .bool false] 31)) := (Mods.refl _ _).alloc _
            have r12 := World.alloc_heap_new w4 (.cells #[.int .u8 3, .bool false] 31)
            go_upto_region 6 with fail
            obtain ⟨w5, hw5⟩ : ∃ V, w4.alloc (.cells #[.int .u8 3, .bool false] 31) = V := ⟨_, rfl⟩
            obtain ⟨Y, hY⟩ : ∃ Y, w4.heap.size = Y := ⟨_, rfl⟩
            rw [hw5] at hA r12 ⊢
            rw [hY] at r12 hXs ⊢
            replace hN := hN.trans hA
            replace hU := hU.new hA
            replace hOw := hOw.new hA
            replace r11 := hA.heap r11 id
            clear hA hw5 hY
            go_wp2_with fail
            refine (HRd.out _ hN).mono ?_
            rintro e w6 ⟨rfl, hk⟩
            replace hN := hN.trans hk
            replace hU := hU.new hk
            replace hOw := hOw.new hk
            replace r11 := hk.heap r11 id
            replace r12 := hk.heap r12 id
            clear hk HRd
            obtain ⟨⟨q0, q1⟩, q2, q3⟩ := pr_facts r12
            go_upto_region 7 with fail
            have hM := (setMods w6 Y 0 (.int .u8 qu)).trans (setMods _ Y 1 (.bool qi))
            have s12 := setCell_heap (i := 1) (setCell_heap (i := 0) r12 (.int .u8 qu)) (.bool qi)
            simp only [List.setIfInBounds_toArray, List.set_cons_succ, List.set_cons_zero] at s12
            replace hOw := hOw.mods hM (fun g hg e => by have := hOg g hg; omega)
            replace hU : OpR _ B l s _ := ⟨hM.heap hU.hp (by omega), hM.boxed hU.hs (by omega), hM.heap hU.ho (by omega), hM.heap hU.hq (by omega)⟩
            replace r11 := hM.heap r11 (by omega)
            replace hN := ((Mods.ofNew hN).trans hM).new (fun g hg => by have := hN.size; omega)
            obtain ⟨w7, hw7⟩ : ∃ V, ((w6.setCell ⟨Y, 0, none⟩ (.int .u8 qu)).setCell ⟨Y, 1, none⟩ (.bool qi)) = V := ⟨_, rfl⟩
            rw [hw7] at hU r11 s12 hOw hN ⊢
            have r12 := s12
            clear hM hw7 q0 q1 q2 q3
            obtain ⟨L, hL⟩ : ∃ L, d.filter (fun x => decide (s < x.s)) = L := ⟨_, rfl⟩
            have hLl : L.length ≤ n := by rw [← hL, ← HN.out]; exact List.length_filter_le _ _
            have hsz : B + 3 < w7.heap.size := (Array.getElem?_eq_some_iff.1 hU.hq).1
            rw [hL] at hE
            have HT : Hid (∀ W, New w7 W → Calls Tryz.prog 48 #[.slice ao n cap, .func (.func 52) #[] #[.pointer (some ⟨B + 1, 0, none⟩)]] W fun e w' => ∃ v', e = .returned v' ∧ OwW W.heap.size w' v' L.length (wf L) ∧ New W w') := Lib.hid (fun W hW => by
              have := those_p (.slice ao n cap) d 52 #[.pointer (some ⟨B + 1, 0, none⟩)] (fun t => decide (s < t)) W (HD.out.new (hN.trans hW)) (by have := HN.out; omega) (enters_of Tryz.func52 (by kernel_rfl) rfl) (fun W' S hS hm => so_gt (B + 1) s W' (hm.boxed (hW.boxed hU.hs id) (fun hb => by have := hS _ hb; have := hW.size; omega)))
              have e : (d.filter fun x => (fun t => decide (s < t)) x.s) = L := hL
              rw [e] at this
              exact this)
            clear hL
            refine piece (fun _ => _) (open7 _ rfl w7 rfl rfl rfl hU.hp hU.hs r11 HT (by omega) (by omega)) ?_
            rintro a' W8 ⟨z, v8, rfl, s11, hO8, hM8⟩
            simp only [List.setIfInBounds_toArray, List.set_cons_succ, List.set_cons_zero]
            have hRW := hO8.reads (by omega)
            obtain ⟨va8, c8, rfl⟩ := hO8.slice
            have hN8 : New w W8 := ((Mods.ofNew hN).trans hM8).new (fun g hg => by omega)
            go_upto_region 8 with fail
            refine piece (fun _ => _) (open8 _ rfl W8 rfl rfl rfl rfl (hM8.heap hU.ho (by omega)) (hM8.heap hU.hq (by omega)) s11 (hM8.heap r12 (by omega)) (by omega) (by omega) (by omega)) ?_
            rintro a' W9 ⟨z', rfl, s8, s9, hM9⟩
            simp only [List.setIfInBounds_toArray, List.set_cons_succ, List.set_cons_zero]
            go_wp2_with fail
            have hres := fun tmps h8 h9 h10 => results_open (fn := Tryz.f18) rfl tmps W9 (B + 2) (B + 3) [.int .i64 s, .slice va8 L.length c8] [.int .u8 qu, .bool qi] (.bool true) h8 h9 h10 s8 s9 rfl rfl
            refine bodyPost_ret (hres _ rfl rfl rfl) rfl ?_
            rw [← HPost.out, hE.out]
            refine ⟨.slice va8 L.length c8, rfl, ?_, ((Mods.ofNew hN8).trans hM9).new (fun g hg => by omega)⟩
            exact RowR.kept hRW hM9 (fun _ g hg' e => by have := hO8.lt hg'; have e : g = B + 2 ∨ g = B + 3 := e; omega)
      · have hd3 : decide (s ≤ l) = true := decide_eq_true (by omega)
        have hE : Hid (openP l d s has rp = (l, d, (3, false), false)) := Lib.hid (by unfold openP; rw [decide_eq_false hsl]; simp)
        clear ho HRd HWt HD
        go_wp2_with fail
        refine (HOd.out _).mono ?_
        rintro e w3' ⟨rfl, rfl⟩
        go_upto_region 3 with fail
        refine piece (fun _ => _) (open3 _ rfl w3' rfl rfl rfl hU.ho hU.hq r11 (by omega) (by omega)) ?_
        rintro a' W2 ⟨z, rfl, s8, s9, hM⟩
        simp only [List.setIfInBounds_toArray, List.set_cons_succ, List.set_cons_zero]
        go_wp2_with fail
        have hres := fun tmps h8 h9 h10 => results_open (fn := Tryz.f18) rfl tmps W2 (B + 2) (B + 3) [.int .i64 l, .slice oa n oc] [.int .u8 3, .bool false] (.bool false) h8 h9 h10 s8 s9 rfl rfl
        refine bodyPost_ret (hres _ rfl rfl rfl) rfl ?_
        rw [← HPost.out, hE.out]
        refine ⟨.slice oa n oc, rfl, ?_, ((Mods.ofNew hN).trans hM).new (fun g hg => by omega)⟩
        have hO2 := hOw.mods hM (fun g hg' e => by have := hOg g hg'; omega)
        rw [← HN.out] at hO2
        have hO3 := hO2.reads (by rw [HN.out]; omega)
        rw [HN.out] at hO3
        exact hO3
end Go.Proofs.YtkiiameibdhdfaaGreatDoor
/- What may be known, the same (the document). -/
namespace Go.Proofs.YtkiiameibdhdfaaGreatDoor
open Go.RowKit Go.Shelf Go.Cs
attribute [local go_sem] Oper.semAt_some
set_option linter.unusedVariables false
set_option linter.unusedSimpArgs false
set_option maxHeartbeats 4000000 in
set_option maxRecDepth 100000 in
theorem same_r24 (l1 l2 : Int) (v1 v2 : Value) (a b : List WP) (w : World) (h1 : RdW w v1 a) (h2 : RdW w v2 b) :
    Calls Tryz.prog 17 #[.agg #[.int .i64 l1, v1], .agg #[.int .i64 l2, v2]] w fun e w' => e = .returned (.bool (decide (l1 = l2) && decide (a = b))) ∧ New w w' := by
  have hA : New w ((w.alloc (.cells #[.int .i64 l1, v1] 26)).alloc (.cells #[.int .i64 l2, v2] 26)) := ((Mods.refl _ _).alloc _).alloc _
  have H1 := Lib.hid h1
  have H2 := Lib.hid h2
  have hn1 : a.length ≤ 281474976710656 := h1.1
  have hn2 : b.length ≤ 281474976710656 := h2.1
  have r2' := World.alloc_heap_new (w.alloc (.cells #[.int .i64 l1, v1] 26)) (.cells #[.int .i64 l2, v2] 26)
  have r1' := ((Mods.refl (fun _ => False) (w.alloc (.cells #[.int .i64 l1, v1] 26))).alloc (.cells #[.int .i64 l2, v2] 26)).heap (World.alloc_heap_new w (.cells #[.int .i64 l1, v1] 26)) id
  obtain ⟨ao1, m1, rfl⟩ := h1.slice
  obtain ⟨ao2, m2, rfl⟩ := h2.slice
  clear h1 h2
  obtain ⟨n, hn⟩ : ∃ n, a.length = n := ⟨_, rfl⟩
  obtain ⟨n2, hn2'⟩ : ∃ n, b.length = n := ⟨_, rfl⟩
  have Hn := Lib.hid hn
  have HE : Hid (n = n2 → (∀ i, i < n → a.getD i noW = b.getD i noW) → a = b) := Lib.hid (fun h hh => list_same noW (by rw [hn, hn2', h]) (fun i hi => hh i (by rw [← hn]; exact hi)))
  obtain ⟨y, hy⟩ : ∃ y, decide (a = b) = y := ⟨_, rfl⟩
  have HY := Lib.hid hy
  have hlen : n ≠ n2 → y = false := fun h => by rw [← hy]; exact decide_eq_false (fun e => h (by rw [← hn, ← hn2', e]))
  rw [hy]
  rw [hn] at H1 hn1 r1' hA r2'
  rw [hn2'] at H2 hn2 r1' hA r2'
  obtain ⟨z, hz⟩ : ∃ z, (decide (l1 = l2) && y) = z := ⟨_, rfl⟩
  have HZ := Lib.hid hz
  rw [hz]
  rw [hn, hn2']
  clear hy hn hn2' hz
  obtain ⟨W1, hW1⟩ : ∃ V, ((w.alloc (.cells #[.int .i64 l1, .slice ao1 n m1] 26)).alloc (.cells #[.int .i64 l2, .slice ao2 n2 m2] 26)) = V := ⟨_, rfl⟩
  have hs1 : (w.alloc (.cells #[.int .i64 l1, .slice ao1 n m1] 26)).heap.size = w.heap.size + 1 := by simp
  rw [hs1] at r2'
  rw [hW1] at hA r1' r2'
  obtain ⟨B, hB⟩ : ∃ B, w.heap.size = B := ⟨_, rfl⟩
  rw [hB] at r1' r2' hs1
  obtain ⟨⟨p0, p1⟩, -⟩ := pc_facts r1'
  obtain ⟨⟨q0, q1⟩, -⟩ := pc_facts r2'
  go_enter Tryz.func17, Tryz.ntmps17
  go_upto_region 1 with fail
  clear hW1 hB hs1
  by_cases hl : l1 = l2
  · subst hl
    by_cases hnn : n = n2
    · subst hnn
      replace HE : Hid ((∀ i, i < n → a.getD i noW = b.getD i noW) → a = b) := Lib.hid (HE.out rfl)
      clear hlen
      have HR1 := Lib.hid r1'
      have HR2 := Lib.hid r2'
      clear r1' r2'
      go_wp2_with fail
      clear p0 p1 q0 q1
      go_loopw [5] (fun t wr => ∃ k : Nat, k ≤ n ∧ t = .int .i64 k ∧ Hid (∀ j, j < k → a.getD j noW = b.getD j noW) ∧ New W1 wr) (fun t _ => n - (intOf t).toNat)
      case atStart => exact ⟨0, Nat.zero_le _, rfl, Lib.hid fun i hi => by omega, Mods.refl _ _⟩
      case round =>
        obtain ⟨k, hk, rfl, hbef, hN⟩ := hrel
        have r1 := hN.heap HR1.out id
        have r2 := hN.heap HR2.out id
        obtain ⟨⟨p0, p1⟩, -⟩ := pc_facts r1
        obtain ⟨⟨q0, q1⟩, -⟩ := pc_facts r2
        clear r1 r2
        by_cases hlt : k < n
        · have hkd : decide ((k : Int) < (n : Int)) = true := decide_eq_true (by omega)
          obtain ⟨b1, o1, rfl, hrow⟩ := (H1.out.new (hA.trans hN)).at.2.2 k hlt
          obtain ⟨b2, o2, rfl, hrow2⟩ := (H2.out.new (hA.trans hN)).at.2.2 k hlt
          obtain ⟨k0, k1, k2⟩ := cells3w hrow
          obtain ⟨j0, j1, j2⟩ := cells3w hrow2
          have hq := fun w => nbinop_wait (a.getD k noW) (b.getD k noW) w
          unfold wcs at hq
          have HC := Lib.hid (And.intro k0 (And.intro k1 (And.intro k2 (And.intro j0 (And.intro j1 j2)))))
          have HQ := Lib.hid hq
          clear hrow hrow2 k0 k1 k2 j0 j1 j2 hq
          cases hp : decide (a.getD k noW = b.getD k noW) with
          | true =>
            have hh : Hid (∀ j, j < k + 1 → a.getD j noW = b.getD j noW) := Lib.hid fun i hi => by
              by_cases hik : i < k
              · exact hbef.out i hik
              · obtain rfl : i = k := by omega
                exact of_decide_eq_true hp
            rw [hp] at HQ
            clear hp hbef
            go_upto_region 6 with fail
            refine piece (fun _ => _) (same24r _ rfl wr rfl rfl rfl p1 q1 HC.out.1 HC.out.2.2.2.1 HC.out.2.1 HC.out.2.2.2.2.1 HC.out.2.2.1 HC.out.2.2.2.2.2 hlt HQ.out) ?_
            rintro a' w2 ⟨zf, rfl, hN2⟩
            simp only [List.setIfInBounds_toArray, List.set_cons_succ, List.set_cons_zero]
            clear p0 p1 q0 q1 HC HQ
            go_wp2_with fail
            go_roundw
            case rel => exact ⟨k + 1, by omega, by go_num, hh, hN.trans hN2⟩
            case measure => simp [intOf]; omega
          | false =>
            obtain rfl : z = false := by
              rw [← HZ.out, ← HY.out, decide_eq_false (p := a = b) (fun e => by subst e; exact absurd rfl (of_decide_eq_false hp)), Bool.and_false]
            rw [hp] at HQ
            clear hp hbef
            go_upto_region 6 with fail
            refine piece (fun _ => _) (same24r _ rfl wr rfl rfl rfl p1 q1 HC.out.1 HC.out.2.2.2.1 HC.out.2.1 HC.out.2.2.2.2.1 HC.out.2.2.1 HC.out.2.2.2.2.2 hlt HQ.out) ?_
            rintro a' w2 ⟨zf, rfl, hN2⟩
            simp only [List.setIfInBounds_toArray, List.set_cons_succ, List.set_cons_zero]
            clear p0 p1 q0 q1 HC HQ
            go_wp2_with fail
            go_ret
            exact ⟨rfl, (hA.trans hN).trans hN2⟩
        · obtain rfl : k = n := by omega
          have hkd : decide ((k : Int) < (k : Int)) = false := decide_eq_false (by omega)
          have hab : a = b := HE.out (fun j hj => hbef.out j hj)
          obtain rfl : z = true := by
            rw [← HZ.out, ← HY.out]
            simp [hab]
          clear hbef
          go_wp2_with fail
          go_ret
          exact ⟨rfl, hA.trans hN⟩
    · obtain rfl : z = false := by rw [← HZ.out, hlen hnn, Bool.and_false]
      have hd2 : ((n : Int) != (n2 : Int)) = true := by simp; omega
      clear HE hlen H1 H2
      go_wp2_with fail
      go_ret
      exact ⟨rfl, hA⟩
  · obtain rfl : z = false := by rw [← HZ.out, decide_eq_false hl, Bool.false_and]
    clear HE hlen H1 H2
    go_wp2_with fail
    go_ret
    exact ⟨rfl, hA⟩
theorem nodup_of {d : List WP} (h : ∀ j, j < d.length → ∀ i, i < j → (d.getD i noW).s ≠ (d.getD j noW).s) : (d.map (·.s)).Nodup := by
  refine List.pairwise_iff_getElem.2 fun i j hi hj hij => ?_
  rw [List.length_map] at hi hj
  have := h j hj i hij
  rw [List.getD_eq_getElem?_getD, List.getD_eq_getElem?_getD, List.getElem?_eq_getElem hi, List.getElem?_eq_getElem hj] at this
  simpa using this
theorem right_mk {l : Int} {d : List WP} (h1 : l = 0 ∨ oddP l = true) (h2 : d.length ≤ 4) (h3 : (d.map (·.s)).Nodup) (h4 : ∀ j, j < d.length → okW l (d.getD j noW) = true) : rightP l d = true := by
  have hk := (kN_all d d.length (Nat.le_refl _)).2 (by rw [List.take_length]; exact h3)
  unfold rightP
  simp only [Bool.and_eq_true, Bool.or_eq_true, decide_eq_true_eq, List.all_eq_true]
  refine ⟨h1, h2, hk, fun x hx => ?_⟩
  obtain ⟨j, hj, e⟩ := List.mem_iff_getElem.1 hx
  have := h4 j hj
  rw [List.getD_eq_getElem?_getD, List.getElem?_eq_getElem hj] at this
  rw [← e]
  exact this
theorem right_no1 {l : Int} {d : List WP} (h : l ≠ 0) (h1 : oddP l = false) : rightP l d = false := by
  unfold rightP
  rw [h1, decide_eq_false h]; rfl
theorem right_no2 {l : Int} {d : List WP} (h : ¬ d.length ≤ 4) : rightP l d = false := by
  unfold rightP
  rw [decide_eq_false h]; simp
theorem right_no3 {l : Int} {d : List WP} {j : Nat} (hj : j < d.length) (h : okW l (d.getD j noW) = false) : rightP l d = false := by
  have : d.all (okW l) = false := by
    refine Bool.eq_false_iff.2 fun h2 => ?_
    have := List.all_eq_true.1 h2 _ (getD_mem (d := noW) hj)
    rw [h] at this
    cases this
  unfold rightP
  rw [this]; simp
theorem right_no4 {l : Int} {d : List WP} {i j : Nat} (hj : j < d.length) (hi : i < j) (h : (d.getD i noW).s = (d.getD j noW).s) : rightP l d = false := by
  refine Bool.eq_false_iff.2 fun h2 => ?_
  obtain ⟨-, -, -, hn, -⟩ := right_facts h2
  have := List.pairwise_iff_getElem.1 hn i j (by rw [List.length_map]; omega) (by rw [List.length_map]; exact hj) hi
  rw [List.getD_eq_getElem?_getD, List.getD_eq_getElem?_getD, List.getElem?_eq_getElem (by omega), List.getElem?_eq_getElem hj] at h
  exact this (by simpa using h)
end Go.Proofs.YtkiiameibdhdfaaGreatDoor
