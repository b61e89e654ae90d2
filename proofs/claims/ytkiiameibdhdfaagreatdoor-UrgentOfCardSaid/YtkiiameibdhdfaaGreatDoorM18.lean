/- Dictionaries' texts (the program). -/
import Derived.Test.YtkiiameibdhdfaaGreatDoorM17
import Derived.Test.YtkiiameibdhdfaaGreatDoorM12
set_option linter.unusedSimpArgs false
set_option linter.unusedVariables false
namespace Go.Proofs.YtkiiameibdhdfaaGreatDoor
open Go.RowKit Go.Shelf Go.Cs
attribute [local go_sem] Oper.semAt_some
set_option linter.unusedVariables false
set_option linter.unusedSimpArgs false
def PrX (x : Bare.Itm) : Prop := SmX x ∧ x.params.length ≤ 500
def PrM (m : Bare.Mem) : Prop := SmM m ∧ m.items.length ≤ 500 ∧ m.params.length ≤ 500 ∧ ∀ x ∈ m.items, PrX x
def PrD (d : List Bare.Mem) : Prop := d.length ≤ 500 ∧ ∀ m ∈ d, PrM m
theorem toldP_len {L : List Bare.Par} (h : L.length ≤ 500) (hs : ∀ p ∈ L, SmP p) : (Bare.told L).length ≤ 100000000 := by
  have := told_len L hs
  have := Nat.mul_le_mul_right 200000 h
  omega
theorem toldI_len {x : Bare.Itm} (h : PrX x) : (Bare.toldI x).length ≤ 100050000 := by
  have h1 := toldP_len h.2 h.1.2.2.2
  have h2 := text_len x.bare
  have h3 := h.1.2.1
  unfold Bare.toldI
  rw [List.length_append]
  omega
theorem joinI_len {L : List Bare.Itm} (h : L.length ≤ 500) (hs : ∀ x ∈ L, PrX x) : (Bare.joinW [32] (L.map Bare.toldI)).length ≤ 50030000000 := by
  have := joinW_len [32] 100050001 (L.map Bare.toldI) (fun l hl => by
    obtain ⟨x, hx, rfl⟩ := List.mem_map.1 hl
    have := toldI_len (hs x hx)
    simp; omega)
  rw [List.length_map] at this
  have := Nat.mul_le_mul_right 100050001 h
  omega
theorem toldM_len {m : Bare.Mem} (h : PrM m) (hm : m.inner = true ∨ m.items.length = 1) : (Bare.toldM m).length ≤ 50200000000 := by
  obtain ⟨h1, h2, h3, h4⟩ := h
  have hk := h1.1
  unfold Bare.toldM
  split
  · have := joinI_len h2 h4
    have := toldP_len h3 h1.2.2.2.2
    simp; omega
  · rename_i hi
    have hl : m.items.length = 1 := hm.resolve_left hi
    obtain ⟨x, hx⟩ : ∃ x, m.items = [x] := List.length_eq_one_iff.1 hl
    have hx' := h4 x (by rw [hx]; simp)
    have e : m.items.headD Bare.noI = x := by rw [hx]; rfl
    rw [e]
    have := toldP_len hx'.2 hx'.1.2.2.2
    have := valued_len x.bare
    have := hx'.1.2.1
    simp; omega
theorem joinD_len {d : List Bare.Mem} (h : d.length ≤ 500) (hs : ∀ m ∈ d, (Bare.toldM m).length ≤ 50200000000) : (Bare.joinW [44, 32] (d.map Bare.toldM)).length ≤ 140737488355328 := by
  have := joinW_len [44, 32] 50200000002 (d.map Bare.toldM) (fun l hl => by
    obtain ⟨x, hx, rfl⟩ := List.mem_map.1 hl
    have := hs x hx
    simp; omega)
  rw [List.length_map] at this
  have := Nat.mul_le_mul_right 50200000002 h
  omega
theorem take_map_snoc {α : Type} (d : List α) (z : α) (f : α → Bare.Bs) (k : Nat) (hk : k < d.length) : (d.map f).take (k + 1) = (d.map f).take k ++ [f (d.getD k z)] := by
  have e : d.getD k z = d[k] := by simp [List.getD, hk]
  rw [List.take_add_one, List.getElem?_map, List.getElem?_eq_getElem hk, e]
  rfl
set_option maxHeartbeats 8000000 in
set_option maxRecDepth 100000 in
theorem print_d {τ : Bool} (v : Value) (d : List Bare.Mem) (w : World) (h : RdD τ w v d) (hs : PrD d) (hT : Tab w) :
    Calls Tryz.prog 26 #[v] w fun e w' => e = .returned (printV (Bare.printD d)) ∧ New w w' := by
  have HR := Lib.hid (right_d v d w h (fun m hm => (hs.2 m hm).1))
  have HV := Lib.hid h
  have HS := Lib.hid hs.2
  have HT := Lib.hid hT
  have hl := hs.1
  obtain ⟨ao, cap, rfl⟩ := h.slice
  obtain ⟨n, hn⟩ : ∃ n, d.length = n := ⟨_, rfl⟩
  have Hn := Lib.hid hn
  rw [hn] at hl HV HR ⊢
  have hN0 : New w w := Mods.refl _ _
  cases hr : Bare.rightD d with
  | false =>
    rw [hr] at HR
    have e : Bare.printD d = none := by unfold Bare.printD; rw [hr]; rfl
    rw [e]
    unfold printV
    clear h hs hT hn hr e
    go_enter Tryz.func26, Tryz.ntmps26
    go_wp2_with fail
    refine HR.out.mono ?_
    rintro e w1 ⟨rfl, hN1⟩
    go_wp2_with fail
    go_ret2
    exact ⟨rfl, hN1⟩
  | true =>
    rw [hr] at HR
    have e : Bare.printD d = some (Bare.joinW [44, 32] (d.map Bare.toldM)) := by unfold Bare.printD; rw [hr]; rfl
    have HM : Hid (∀ i, i < n → Bare.memB (d.getD i noM) = true) := Lib.hid (by
      have : d.all Bare.memB = true := by unfold Bare.rightD at hr; rw [Bool.and_eq_true] at hr; exact hr.2
      rw [← hn]; exact (all_upto d noM _).1 this)
    have hlen : ∀ m ∈ d, (Bare.toldM m).length ≤ 50200000000 := fun m hm => toldM_len (hs.2 m hm) (by
      have : d.all Bare.memB = true := by unfold Bare.rightD at hr; rw [Bool.and_eq_true] at hr; exact hr.2
      have := List.all_eq_true.1 this m hm
      rcases (Bare.mem_parts this).1 with h | h
      · exact .inl h
      · exact .inr h.1)
    have HJ : Hid ((Bare.joinW [44, 32] (d.map Bare.toldM)).length ≤ 140737488355328) := Lib.hid (joinD_len hs.1 hlen)
    rw [e]
    unfold printV
    simp only
    clear h hs hT hn hr e hlen
    go_enter Tryz.func26, Tryz.ntmps26
    go_wp2_with fail
    refine HR.out.mono ?_
    rintro e w1 ⟨rfl, hN1⟩
    clear HR
    go_wp2_with fail
    go_loopw [4, 17] (fun a t wr => ∃ k : Nat, k ≤ n ∧ t = .int .i64 k ∧ OwS w.heap.size wr a ((d.map Bare.toldM).take k) ∧ New w wr) (fun _ t _ => n - (intOf t).toNat)
    case atStart => exact ⟨0, Nat.zero_le _, rfl, .nil _ _, hN1⟩
    case round =>
      clear hN1 hN0
      obtain ⟨k, hk, rfl, hown, hN⟩ := hrel
      by_cases hlt : k < n
      · have hkd : decide ((k : Int) < (n : Int)) = true := decide_eq_true (by omega)
        have hlt' : k < d.length := by rw [Hn.out]; exact hlt
        obtain ⟨iv, pv, h1, -, h3⟩ := HV.out
        obtain ⟨b, o, rfl, hrow⟩ := (h1.new hN).at.2.2 k hlt
        obtain ⟨hi, hp⟩ := h3 k hlt'
        have hsm := HS.out _ (getD_mem (d := noM) hlt')
        have hmB := HM.out k hlt
        have Hnx := Lib.hid (take_map_snoc d noM Bare.toldM k hlt')
        have hln : ((d.map Bare.toldM).take k).length ≤ 2000000 := by rw [List.length_take]; omega
        obtain ⟨⟨key, y, its, ps⟩, hme⟩ : ∃ m, d.getD k noM = m := ⟨_, rfl⟩
        rw [hme] at hrow hi hp hsm hmB Hnx
        obtain ⟨c0, c1, c2, c3⟩ := cells4 hrow
        have HTd := Lib.hid (fun W (hW : New wr W) => told_any (pv k) ps W (hp.new (hN.trans hW)) hsm.1.2.2.2.2 (by have := hsm.2.2.1; simp only at this; omega) (HT.out.new (hN.trans hW)))
        have htl : (Bare.told ps).length ≤ 100000000 := toldP_len hsm.2.2.1 hsm.1.2.2.2.2
        obtain ⟨ia, ic, hie⟩ := hi.slice
        obtain ⟨pa, pc, hpe⟩ := hp.slice
        simp only at c0 c1 c2 c3 hie hpe hsm
        rw [hie] at c2
        rw [hpe] at c3 HTd
        have HI := Lib.hid hi
        rw [hie] at HI
        obtain ⟨pl, hpl⟩ : ∃ x, ps.length = x := ⟨_, rfl⟩
        obtain ⟨td, htd⟩ : ∃ x, tx (Bare.told ps) = x := ⟨_, rfl⟩
        have Htd := Lib.hid htd
        have hts : td.size ≤ 400000000000 := by rw [← htd, tx_size]; omega
        obtain ⟨q, hq⟩ : ∃ x, tx key = x := ⟨_, rfl⟩
        have Hq := Lib.hid hq
        have hqs : q.size ≤ 100000 := by rw [← hq, tx_size]; exact hsm.1.1
        rw [hpl] at HTd c3
        rw [htd] at HTd
        rw [hq] at c0
        have HSM := Lib.hid hsm
        have HMB := Lib.hid hmB
        clear hrow hi hp h1 h3 hie hpe iv pv hme hpl htd hq htl hsm hmB HM HS HV HJ
        obtain ⟨il, hil⟩ : ∃ x, its.length = x := ⟨_, rfl⟩
        have Hil := Lib.hid hil
        rw [hil] at c2 HI
        clear hil
        go_upto_region 7 with fail
        obtain ⟨W1, hW1⟩ : ∃ W1, wr.alloc (.cells #[.string q, .bool y, .slice ia il ic, .slice pa pl pc] 64) = W1 := ⟨_, rfl⟩
        have hr1 : W1.heap[wr.heap.size]? = some (.cells #[.string q, .bool y, .slice ia il ic, .slice pa pl pc] 64 (0, 0)) := by rw [← hW1]; exact World.alloc_heap_new _ _
        have hA : New wr W1 := by rw [← hW1]; exact (Mods.refl _ _).alloc _
        have hsz : W1.heap.size = wr.heap.size + 1 := by rw [← hW1]; simp
        rw [hW1]
        obtain ⟨avl, hav⟩ : ∃ z, (u4 : Value) = z := ⟨_, rfl⟩
        rw [hav] at hown ⊢
        have hBv : avl.ownBlock ≠ some wr.heap.size := fun e => by have := (World.ownsRow.lt hown _ e).2; omega
        have hbase : w.heap.size ≤ wr.heap.size := hN.size
        have hown1 := OwS.new hown hA
        obtain ⟨B, hB⟩ : ∃ B, wr.heap.size = B := ⟨_, rfl⟩
        rw [hB] at hr1 hBv hsz hbase ⊢
        have k0 := cell_of_row _ _ 0 _ _ _ hr1
        have k1 := cell_of_row _ _ 1 _ _ _ hr1
        have k2 := cell_of_row _ _ 2 _ _ _ hr1
        have k3 := cell_of_row _ _ 3 _ _ _ hr1
        simp only [List.getElem?_toArray, List.getElem?_cons_succ, List.getElem?_cons_zero] at k0 k1 k2 k3
        clear hW1 c0 c1 c2 c3 hav hown
        cases y with
        | false =>
          have hl1 : its.length = 1 := by
            rcases (Bare.mem_parts HMB.out).1 with h | h
            · cases h
            · exact h.1
          obtain ⟨x, rfl⟩ : ∃ x, its = [x] := List.length_eq_one_iff.1 hl1
          obtain rfl : il = 1 := by rw [← Hil.out]; rfl
          obtain ⟨xv, r1, -, r3⟩ := HI.out
          obtain ⟨ib, io, rfl, hxr0⟩ := r1.at.2.2 0 (by decide)
          have hibl : ib < w.heap.size := by
            obtain ⟨ob, ho, _⟩ := cells_of_cell (hxr0 0 _ rfl)
            exact (Array.getElem?_eq_some_iff.1 ho).1
          have hxr : W1.rangeAt ib (io + 0 * 5) (ics ([x].getD 0 Bare.noI) (xv 0)) := fun j u hj => (hN.trans hA).cell (hxr0 j u hj) id
          have hxp := (r3 0 (Nat.zero_lt_one)).new (hN.trans hA)
          have hxs := HSM.out.2.2.2 x (by simp)
          simp only [List.getD_cons_zero, Nat.zero_mul, Nat.add_zero] at hxr hxp
          have HVal := Lib.hid (fun W (hW : New W1 W) => valued_any x.bare ⟨hxs.1.1, hxs.1.2.1⟩ W (HT.out.new ((hN.trans hA).trans hW)))
          have HTx := Lib.hid (fun W (hW : New W1 W) => told_any (xv 0) x.params W (hxp.new hW) hxs.1.2.2.2 (by have := hxs.2; omega) (HT.out.new ((hN.trans hA).trans hW)))
          have htl : (Bare.told x.params).length ≤ 100000000 := toldP_len hxs.2 hxs.1.2.2.2
          have hvl := valued_len x.bare
          have hxt := hxs.1.2.1
          obtain ⟨xa, xc, hxe⟩ := hxp.slice
          rw [hxe] at hxr HTx
          have hmt : Bare.toldM ⟨key, false, [x], ps⟩ = key ++ (Bare.valued x.bare ++ Bare.told x.params) := rfl
          rw [hmt] at Hnx
          obtain ⟨⟨kk, nn, tt, yy⟩, xps⟩ := x
          obtain ⟨i0, i1, i2, i3, i4⟩ := cells5 hxr
          unfold bv bcs at HVal
          simp only at i0 i1 i2 i3 i4 HVal HTx htl hvl hxt Hnx
          obtain ⟨s, hse⟩ : ∃ x, tx tt = x := ⟨_, rfl⟩
          obtain ⟨vl, hve⟩ : ∃ x, tx (Bare.valued ⟨kk, nn, tt, yy⟩) = x := ⟨_, rfl⟩
          obtain ⟨tx', hte⟩ : ∃ x, tx (Bare.told xps) = x := ⟨_, rfl⟩
          have hvs : vl.size ≤ 50000 := by rw [← hve, tx_size]; omega
          have hxs' : tx'.size ≤ 400000000000 := by rw [← hte, tx_size]; omega
          have Hx : Hid (q ++ vl ++ tx' = tx (key ++ (Bare.valued ⟨kk, nn, tt, yy⟩ ++ Bare.told xps))) := Lib.hid (by rw [← Hq.out, ← hve, ← hte, cat_bl, cat_bl, bl_tx, bl_tx, bl_tx, bl_tx, List.append_assoc])
          rw [hse] at i2 HVal
          rw [hve] at HVal
          rw [hte] at HTx
          have hIv : avl.ownBlock ≠ some ib := fun e => by
            have h1 := (World.ownsRow.lt hown1 _ e).1
            omega
          clear hse hve hte htl hvl hxt hxr hxr0 hxp hxs r1 r3 hxe hmt hl1
          go_upto_region 8 with fail
          refine piece (fun _ => _) (print8 _ rfl W1 rfl rfl rfl rfl rfl rfl rfl rfl rfl rfl rfl rfl rfl rfl rfl rfl k0 k2 i0 i1 i2 i3 i4 hBv hIv HVal HTx Hx hown1 hln (by rw [hsz]; omega) hqs hvs hxs') ?_
          rintro ⟨z, dfs⟩ W2 ⟨v2, ⟨hs, hd, hq4, hq6, hq0, hq1, hq2, hq3, hq5, hq8, hq12, hq13, hq14, hq15, hq16, hq17, hq80, hq81⟩, hown2, hnew⟩
          simp only at hs hd hq4 hq6 hq0 hq1 hq2 hq3 hq5 hq8 hq12 hq13 hq14 hq15 hq16 hq17 hq80 hq81
          subst hd
          obtain ⟨u, rfl⟩ := lit82 z hs
          have hp4 : u 4 = v2 := hq4
          have hp6 : u 6 = .pointer (some ⟨B, 0, none⟩) := hq6
          have hp0 : u 0 = .slice (some ⟨b, o, none⟩) n cap := hq0
          have hp1 : u 1 = undef := hq1
          have hp2 : u 2 = .string ⟨#[]⟩ := hq2
          have hp3 : u 3 = .int .i64 0 := hq3
          have hp5 : u 5 = undef := hq5
          have hp8 : u 8 = undef := hq8
          have hp12 : u 12 = .slice (some ⟨b, o, none⟩) n cap := hq12
          have hp13 : u 13 = .bool true := hq13
          have hp14 : u 14 = .bool false := hq14
          have hp15 : u 15 = .slice (some ⟨b, o, none⟩) n cap := hq15
          have hp16 : u 16 = .int .i64 n := hq16
          have hp17 : u 17 = .int .i64 k := hq17
          have hp80 : u 80 = undef := hq80
          have hp81 : u 81 = undef := hq81
          rw [hp4, hp6, hp0, hp1, hp2, hp3, hp5, hp8, hp12, hp13, hp14, hp15, hp16, hp17, hp80, hp81]
          clear hp4 hq4 hp6 hq6 hp0 hq0 hp1 hq1 hp2 hq2 hp3 hq3 hp5 hq5 hp8 hq8 hp12 hq12 hp13 hq13 hp14 hq14 hp15 hq15 hp16 hq16 hp17 hq17 hp80 hq80 hp81 hq81 hs
          have hown3 : OwS w.heap.size W2 v2 ((d.map Bare.toldM).take (k + 1)) := by rw [Hnx.out]; exact hown2
          have hN3 := hnew w (hN.trans hA) (Nat.le_refl _)
          go_wp2_with fail
          go_roundw
          case rel => exact ⟨k + 1, by omega, by go_num, hown3, hN3⟩
          case measure => simp [intOf]; omega
        | true =>
          have hNA : New w W1 := hN.trans hA
          have HTd' : Hid (∀ W, New W1 W → Calls Tryz.prog 60 #[.slice pa pl pc] W fun e w' => e = .returned (.string td) ∧ New W w') := Lib.hid fun W hW => HTd.out W (hA.trans hW)
          have HIx : Hid (∀ x ∈ its, PrX x) := Lib.hid HSM.out.2.2.2
          have hil : il ≤ 500 := by have := HSM.out.2.1; simp only at this; rw [← Hil.out]; exact this
          have HTW := Lib.hid (HT.out.new hNA)
          have hmt : Bare.toldM ⟨key, true, its, ps⟩ = key ++ (61 :: 40 :: (Bare.joinW [32] (its.map Bare.toldI) ++ (41 :: Bare.told ps))) := rfl
          rw [hmt] at Hnx
          have hbW : w.heap.size ≤ W1.heap.size := hNA.size
          clear HTd HSM HMB hmt hN hA hbase HT hB hsz
          go_wp2_with fail
          go_loopw [7, 46] (fun a t wi => ∃ j : Nat, j ≤ il ∧ t = .int .i64 j ∧ OwS W1.heap.size wi a ((its.map Bare.toldI).take j) ∧ New W1 wi) (fun _ t _ => il - (intOf t).toNat)
          case atStart => exact ⟨0, Nat.zero_le _, rfl, .nil _ _, Mods.refl _ _⟩
          case round =>
            obtain ⟨j, hj, rfl, hui, hNi⟩ := hrel
            by_cases hjl : j < il
            · have hjd : decide ((j : Int) < (il : Int)) = true := decide_eq_true (by omega)
              have hjl' : j < its.length := by rw [Hil.out]; exact hjl
              obtain ⟨xv, r1, -, r3⟩ := HI.out
              obtain ⟨ib, io, rfl, hxr0⟩ := r1.at.2.2 j hjl
              have hxr : wr.rangeAt ib (io + j * 5) (ics (its.getD j Bare.noI) (xv j)) := fun i u hj => (hNA.trans hNi).cell (hxr0 i u hj) id
              have hxp := (r3 j hjl').new (hNA.trans hNi)
              have hxs := HIx.out _ (getD_mem (d := Bare.noI) hjl')
              have Hnj := Lib.hid (take_map_snoc its Bare.noI Bare.toldI j hjl')
              have hlj : ((its.map Bare.toldI).take j).length ≤ 2000000 := by rw [List.length_take]; omega
              obtain ⟨x, hxx⟩ : ∃ x, its.getD j Bare.noI = x := ⟨_, rfl⟩
              rw [hxx] at hxr hxp hxs Hnj
              have HPr := Lib.hid (fun W (hW : New wr W) => print_any x.bare hxs.1.1 hxs.1.2.1 W (HTW.out.new (hNi.trans hW)))
              have HTx := Lib.hid (fun W (hW : New wr W) => told_any (xv j) x.params W (hxp.new hW) hxs.1.2.2.2 (by have := hxs.2; omega) (HTW.out.new (hNi.trans hW)))
              obtain ⟨zc, hpv⟩ := printV_text x.bare
              rw [hpv] at HPr
              have htl : (Bare.told x.params).length ≤ 100000000 := toldP_len hxs.2 hxs.1.2.2.2
              have hvl := text_len x.bare
              have hxt := hxs.1.2.1
              obtain ⟨xa, xc, hxe⟩ := hxp.slice
              rw [hxe] at hxr HTx
              obtain ⟨⟨kk, nn, tt, yy⟩, xps⟩ := x
              obtain ⟨i0, i1, i2, i3, i4⟩ := cells5 hxr
              unfold bv bcs at HPr
              simp only at i0 i1 i2 i3 i4 HPr HTx htl hvl hxt Hnj
              obtain ⟨s, hse⟩ : ∃ x, tx tt = x := ⟨_, rfl⟩
              obtain ⟨vl, hve⟩ : ∃ x, tx (Bare.textI ⟨kk, nn, tt, yy⟩) = x := ⟨_, rfl⟩
              obtain ⟨tx', hte⟩ : ∃ x, tx (Bare.told xps) = x := ⟨_, rfl⟩
              have hvs : vl.size ≤ 50000 := by rw [← hve, tx_size]; omega
              have hxs' : tx'.size ≤ 400000000000 := by rw [← hte, tx_size]; omega
              have Hx : Hid (vl ++ tx' = tx (Bare.toldI ⟨⟨kk, nn, tt, yy⟩, xps⟩)) := Lib.hid (by rw [← hve, ← hte, cat_bl, bl_tx, bl_tx]; rfl)
              obtain ⟨xpl, hxpl⟩ : ∃ x, xps.length = x := ⟨_, rfl⟩
              rw [hse] at i2 HPr
              rw [hve] at HPr
              rw [hte] at HTx
              rw [hxpl] at i4 HTx
              clear hse hve hte htl hvl hxt hxr hxr0 hxp hxs r1 r3 hxe hpv hxpl hxx
              go_upto_region 13 with fail
              obtain ⟨W3, hW3⟩ : ∃ W3, wr.alloc (.cells #[.int .u8 kk, .int .i64 nn, .string s, .bool yy, .slice xa xpl xc] 71) = W3 := ⟨_, rfl⟩
              have hr3 : W3.heap[wr.heap.size]? = some (.cells #[.int .u8 kk, .int .i64 nn, .string s, .bool yy, .slice xa xpl xc] 71 (0, 0)) := by rw [← hW3]; exact World.alloc_heap_new _ _
              have hA3 : New wr W3 := by rw [← hW3]; exact (Mods.refl _ _).alloc _
              rw [hW3]
              obtain ⟨B3, hB3⟩ : ∃ B3, wr.heap.size = B3 := ⟨_, rfl⟩
              rw [hB3] at hr3 ⊢
              have m0 := cell_of_row _ _ 0 _ _ _ hr3
              have m1 := cell_of_row _ _ 1 _ _ _ hr3
              have m2 := cell_of_row _ _ 2 _ _ _ hr3
              have m3 := cell_of_row _ _ 3 _ _ _ hr3
              have m4 := cell_of_row _ _ 4 _ _ _ hr3
              simp only [List.getElem?_toArray, List.getElem?_cons_succ, List.getElem?_cons_zero] at m0 m1 m2 m3 m4
              clear hW3 hr3 hB3 i0 i1 i2 i3 i4
              go_wp2_with fail
              refine (HPr.out _ hA3).mono ?_
              rintro e W4 ⟨rfl, hN4⟩
              have m5 := hN4.cell m4 id
              clear m0 m1 m2 m3 m4
              go_wp2_with fail
              refine (HTx.out _ (hA3.trans hN4)).mono ?_
              rintro e W5 ⟨rfl, hN5⟩
              have hN5' := (hA3.trans hN4).trans hN5
              have hu5 := hui.new hN5'
              have hb5 : W1.heap.size ≤ W5.heap.size := (hNi.trans hN5').size
              have z1 : ¬ 9223372036854775807 < vl.size + tx'.size := by omega
              go_wp2_with (at_builtin; refine wpList_append_S (w := W5) (l := Bare.toldI ⟨⟨kk, nn, tt, yy⟩, xps⟩) _ _ rfl rfl rfl rfl (by rw [← Hx.out]) hu5 hlj hb5 ?_)
              intro v' W6 hu6 hnew
              have hN6 := hnew W1 _ (hNi.trans hN5') (fun g hg => .inl (World.ownsRow.lt hu5 g hg).1)
              have hu7 : OwS W1.heap.size W6 v' ((its.map Bare.toldI).take (j + 1)) := by rw [Hnj.out]; exact hu6
              clear hu5 hu6 hui hnew m5
              go_wp2_with fail
              go_roundw
              case rel => exact ⟨j + 1, by omega, by go_num, hu7, hN6⟩
              case measure => simp [intOf]; omega
            · obtain rfl : j = il := by omega
              have hjd : decide ((j : Int) < (j : Int)) = false := decide_eq_false (by omega)
              have hall : (its.map Bare.toldI).take j = its.map Bare.toldI := by rw [List.take_of_length_le (by rw [List.length_map, Hil.out]; exact Nat.le_refl _)]
              rw [hall] at hui
              have hji := joinI_len (L := its) (by rw [Hil.out]; exact hil) HIx.out
              have HJn := Lib.hid (fun W (hW : New wr W) => join_any _ _ [32] W (hui.new hW) (by rw [List.length_map, Hil.out]; omega) (by omega))
              obtain ⟨jn, hjn⟩ : ∃ x, tx (Bare.joinW [32] (its.map Bare.toldI)) = x := ⟨_, rfl⟩
              have hjs : jn.size ≤ 140737488355328 := by rw [← hjn, tx_size]; omega
              have Hx : Hid (q ++ ⟨#[61, 40]⟩ ++ jn ++ ⟨#[41]⟩ ++ td = tx (key ++ (61 :: 40 :: (Bare.joinW [32] (its.map Bare.toldI) ++ (41 :: Bare.told ps))))) := Lib.hid (by
                rw [← Hq.out, ← hjn, ← Htd.out, cat_bl, cat_bl, cat_bl, cat_bl]
                show tx (((key ++ [61, 40]) ++ Bare.joinW [32] (its.map Bare.toldI) ++ [41]) ++ Bare.told ps) = _
                simp)
              rw [hjn] at HJn
              have HTd2 : Hid (∀ W, New wr W → Calls Tryz.prog 60 #[.slice pa pl pc] W fun e w' => e = .returned (.string td) ∧ New W w') := Lib.hid fun W hW => HTd'.out W (hNi.trans hW)
              have q0 := hNi.cell k0 id
              have q3 := hNi.cell k3 id
              have hown2 := hown1.new hNi
              clear hall hui hji hjn k0 k1 k2 k3
              go_upto_region 16 with fail
              refine piece (fun _ => _) (print16 _ rfl wr rfl rfl rfl rfl rfl rfl rfl rfl rfl rfl rfl rfl rfl rfl rfl rfl rfl q0 q3 hBv HJn HTd2 Hx hown2 hln (Nat.le_trans hbW hNi.size) hqs hjs hts) ?_
              rintro ⟨z, dfs⟩ W2 ⟨v2, ⟨hs, hd, hq4, hq6, hq0, hq1, hq2, hq3, hq5, hq8, hq12, hq13, hq14, hq15, hq16, hq17, hq80, hq81⟩, hown3, hnew⟩
              simp only at hs hd hq4 hq6 hq0 hq1 hq2 hq3 hq5 hq8 hq12 hq13 hq14 hq15 hq16 hq17 hq80 hq81
              subst hd
              obtain ⟨u, rfl⟩ := lit82 z hs
              have hp4 : u 4 = v2 := hq4
              have hp6 : u 6 = .pointer (some ⟨B, 0, none⟩) := hq6
              have hp0 : u 0 = .slice (some ⟨b, o, none⟩) n cap := hq0
              have hp1 : u 1 = undef := hq1
              have hp2 : u 2 = .string ⟨#[]⟩ := hq2
              have hp3 : u 3 = .int .i64 0 := hq3
              have hp5 : u 5 = undef := hq5
              have hp8 : u 8 = undef := hq8
              have hp12 : u 12 = .slice (some ⟨b, o, none⟩) n cap := hq12
              have hp13 : u 13 = .bool true := hq13
              have hp14 : u 14 = .bool false := hq14
              have hp15 : u 15 = .slice (some ⟨b, o, none⟩) n cap := hq15
              have hp16 : u 16 = .int .i64 n := hq16
              have hp17 : u 17 = .int .i64 k := hq17
              have hp80 : u 80 = undef := hq80
              have hp81 : u 81 = undef := hq81
              rw [hp4, hp6, hp0, hp1, hp2, hp3, hp5, hp8, hp12, hp13, hp14, hp15, hp16, hp17, hp80, hp81]
              clear hp4 hq4 hp6 hq6 hp0 hq0 hp1 hq1 hp2 hq2 hp3 hq3 hp5 hq5 hp8 hq8 hp12 hq12 hp13 hq13 hp14 hq14 hp15 hq15 hp16 hq16 hp17 hq17 hp80 hq80 hp81 hq81 hs
              have hown4 : OwS w.heap.size W2 v2 ((d.map Bare.toldM).take (k + 1)) := by rw [Hnx.out]; exact hown3
              have hN3 := hnew w (hNA.trans hNi) (Nat.le_refl _)
              go_wp2_with fail
              go_roundw
              case rel => exact ⟨k + 1, by omega, by go_num, hown4, hN3⟩
              case measure => simp [intOf]; omega
      · obtain rfl : k = n := by omega
        have hkd : decide ((k : Int) < (k : Int)) = false := decide_eq_false (by omega)
        have hall : (d.map Bare.toldM).take k = d.map Bare.toldM := by rw [List.take_of_length_le (by rw [List.length_map, Hn.out]; exact Nat.le_refl _)]
        rw [hall] at hown
        have HJn := Lib.hid (join_any _ _ [44, 32] wr hown (by rw [List.length_map, Hn.out]; omega) HJ.out)
        clear HM HS HV HT Hn hown hall
        go_wp2_with fail
        refine HJn.out.mono ?_
        rintro e w2 ⟨rfl, hN2⟩
        go_wp2_with fail
        go_ret2
        exact ⟨rfl, hN.trans hN2⟩
end Go.Proofs.YtkiiameibdhdfaaGreatDoor
/- A priority's text (the program). -/
namespace Go.Proofs.YtkiiameibdhdfaaGreatDoor
open Go.RowKit Go.Shelf Go.Cs
attribute [local go_sem] Oper.semAt_some
set_option linter.unusedVariables false
set_option linter.unusedSimpArgs false
def noS : Value := .slice none 0 0
/-- Members of one bare item each, added one by one. -/
def AddW (w0 W : World) (Bx : Nat) (L : List Bare.Mem) : Prop := New w0 W ∧ w0.heap.size ≤ Bx ∧ ∃ v f, Boxed W Bx 51 v ∧ OwM w0.heap.size W v L.length f ∧
  ∀ j, j < L.length → ∃ k b g, L.getD j noM = ⟨k, false, [⟨b, []⟩], []⟩ ∧ f j = mcs ⟨k, false, [⟨b, []⟩], []⟩ (.slice (some ⟨g, 0, none⟩) 1 1) noS ∧ W.heap[g]? = some (.cells (ics ⟨b, []⟩ noS).toArray 71 (0, 0))
theorem AddW.reads {w0 W : World} {Bx : Nat} {L : List Bare.Mem} (h : AddW w0 W Bx L) (hl : L.length ≤ 100) : ∃ v, Boxed W Bx 51 v ∧ RdD false W v L := by
  obtain ⟨-, -, v, f, hb, ho, hf⟩ := h
  refine ⟨v, hb, fun j => (f j).getD 2 undef, fun _ => noS, (ho.row (by omega)).congr fun j hj => ?_, tag_none, fun j hj => ?_⟩
  · obtain ⟨k, b, g, h1, h2, -⟩ := hf j hj
    dsimp only
    rw [h1, h2]; rfl
  · obtain ⟨k, b, g, h1, h2, h3⟩ := hf j hj
    dsimp only
    rw [h1, h2]
    refine ⟨⟨fun _ => noS, ⟨by simp, some ⟨g, 0, none⟩, 1, rfl, fun i hi => ?_⟩, tag_none, fun i hi => ?_⟩, RdP.nil _ _ _⟩
    · obtain rfl : i = 0 := by simp at hi; omega
      refine ⟨g, 0, rfl, fun j' u hu => ?_⟩
      have := cell_of_row (W) g (0 + 0 * 5 + j') _ _ _ h3
      rw [this]
      simpa using hu
    · obtain rfl : i = 0 := by simp at hi; omega
      exact RdP.nil _ _ _
set_option maxHeartbeats 2000000 in
set_option maxRecDepth 100000 in
theorem add_u (w0 W : World) (Bx : Nat) (L : List Bare.Mem) (h : AddW w0 W Bx L) (hl : L.length ≤ 100) (key : Bare.Bs) (b : Bare.It) :
    Calls Tryz.prog 82 #[.string (tx key), bv b, .pointer (some ⟨Bx, 0, none⟩)] W fun e (W' : World) => (∃ v, e = .returned v) ∧ AddW w0 W' Bx (L ++ [⟨key, false, [⟨b, []⟩], []⟩]) ∧ ∀ (g : Nat) cs fr, W.heap[g]? = some (Obj.cells cs 31 fr) → W'.heap[g]? = some (Obj.cells cs 31 fr) := by
  obtain ⟨hN, hBx, v, f, hb, ho, hf⟩ := h
  have HF := Lib.hid hf
  clear hf
  obtain ⟨q, n, t, y⟩ := b
  unfold bv bcs
  simp only
  obtain ⟨s, hs⟩ : ∃ s, tx t = s := ⟨_, rfl⟩
  have Hs := Lib.hid hs
  obtain ⟨K, hK⟩ : ∃ s, tx key = s := ⟨_, rfl⟩
  have HK := Lib.hid hK
  rw [hs, hK]
  clear hs hK
  have hA : New W (W.alloc (.cells #[.int .u8 q, .int .i64 n, .string s, .bool y] 66)) := (Mods.refl _ _).alloc _
  have r4 := World.alloc_heap_new W (.cells #[.int .u8 q, .int .i64 n, .string s, .bool y] 66)
  obtain ⟨ao, cap, rfl⟩ := ho.slice
  go_enter Tryz.func82, Tryz.ntmps82
  go_upto_region 1 with fail
  obtain ⟨W1, hW1⟩ : ∃ V, W.alloc (.cells #[.int .u8 q, .int .i64 n, .string s, .bool y] 66) = V := ⟨_, rfl⟩
  obtain ⟨D, hD⟩ : ∃ b, W.heap.size = b := ⟨_, rfl⟩
  rw [hW1] at hA r4 ⊢
  rw [hD] at r4 ⊢
  have hb1 := hA.boxed hb id
  obtain ⟨c2, f2⟩ := hb1.both
  have k0 := cell_of_row _ _ 0 _ _ _ r4
  have k1 := cell_of_row _ _ 1 _ _ _ r4
  have k2 := cell_of_row _ _ 2 _ _ _ r4
  have k3 := cell_of_row _ _ 3 _ _ _ r4
  simp only [List.getElem?_toArray, List.getElem?_cons_succ, List.getElem?_cons_zero] at k0 k1 k2 k3
  have hA2 : New W1 (W1.alloc (.cells #[.int .u8 q, .int .i64 n, .string s, .bool y, .slice none 0 0] 71)) := (Mods.refl _ _).alloc _
  have r5 := World.alloc_heap_new W1 (.cells #[.int .u8 q, .int .i64 n, .string s, .bool y, .slice none 0 0] 71)
  have ho1 := ho.new hA
  have ho2 := ho1.new hA2
  have hN2 := (hN.trans hA).trans hA2
  have hln : L.length ≤ 2000000 := by omega
  have hone := mcs_one K false (some ⟨W1.heap.size, 0, none⟩) none 1 1 0 0
  have hxx : ∀ o, Value.slice (some ⟨W1.heap.size + 1, 0, none⟩) 1 1 = .slice (some ⟨(W1.alloc o).heap.size, 0, none⟩) 1 1 := fun o => by rw [World.size_alloc]
  have HX := Lib.hid hxx
  have HO := Lib.hid ho2
  have HN2 := Lib.hid hN2
  have hb2 := hA2.boxed hb1 id
  have hne : ∀ g, (Value.slice ao L.length cap).ownBlock = some g → ¬ g = Bx := fun g hg e => by
    obtain ⟨cs, fr, hc⟩ := ho2.tag g hg
    subst e
    rw [show (W1.alloc _).heap[g]? = _ from hb2] at hc
    cases hc
  have HB2 := Lib.hid hb2
  have HNE := Lib.hid hne
  have HN1 := Lib.hid (hN.trans hA)
  have HO0 := Lib.hid ho
  have HA := Lib.hid (hA.trans hA2)
  have R5 := Lib.hid r5
  clear hxx ho ho1 ho2 hN hA hA2 hW1 hD hN2 hb hb1 hb2 hne r4 r5
  go_wp2_with (at_builtin; refine wpList_append_M (w := W1.alloc (.cells #[.int .u8 q, .int .i64 n, .string s, .bool y, .slice none 0 0] 71)) (c := [.string K, .bool false, .slice (some ⟨W1.heap.size, 0, none⟩) 1 1, .slice none 0 0]) _ _ rfl rfl rfl (HX.out _) rfl rfl hone HO.out hln HN2.out.size ?_; intro v2 W4 ho4 hm4; obtain ⟨a2, cp2, rfl⟩ := ho4.slice; have hmm := hm4 (W1.alloc (.cells #[.int .u8 q, .int .i64 n, .string s, .bool y, .slice none 0 0] 71)) (fun b => (Value.slice ao L.length cap).ownBlock = some b) (Mods.refl _ _) (fun g hg => .inr hg); have hb4 := hmm.boxed HB2.out (fun h => HNE.out _ h rfl); obtain ⟨c4, f4⟩ := hb4.both)
  go_end0
  have hbx : ∀ g, (Value.slice a2 (L.length + 1) cp2).ownBlock = some g → ¬ g = Bx := fun g hg e => by
    obtain ⟨cs, fr, hc⟩ := ho4.tag g hg
    subst e
    rw [show W4.heap[g]? = _ from hb4] at hc
    cases hc
  have hms := setMods W4 Bx 0 (.slice a2 (L.length + 1) cp2)
  have hit : ∀ g c, W4.heap[g]? = some (Obj.cells c 71 (0, 0)) → (W4.setCell ⟨Bx, 0, none⟩ (.slice a2 (L.length + 1) cp2)).heap[g]? = some (Obj.cells c 71 (0, 0)) := fun g c hg => hms.heap hg (fun e => by
    subst e
    rw [show W4.heap[g]? = _ from hb4] at hg
    cases hg)
  have hpr : ∀ g cs fr, W.heap[g]? = some (Obj.cells cs 31 fr) → (W4.setCell ⟨Bx, 0, none⟩ (.slice a2 (L.length + 1) cp2)).heap[g]? = some (Obj.cells cs 31 fr) := fun g cs fr hg => by
    have h2 := HA.out.heap hg id
    have h4 := hmm.heap h2 (fun h => by
      obtain ⟨cs', fr', hc⟩ := HO.out.tag _ h
      rw [h2] at hc
      cases hc)
    exact hms.heap h4 (fun e => by
      subst e
      rw [show W4.heap[g]? = _ from hb4] at h4
      cases h4)
  refine ⟨⟨_, rfl⟩, ⟨(hm4 w0 (fun _ => False) HN2.out (fun g hg => .inl (HO0.out.lt hg).1)).setCell (p := ⟨Bx, 0, none⟩) (.inl hBx) _, hBx, _, _, setCell_heap hb4 _, by rw [List.length_append]; exact ho4.mods hms hbx, fun j hj => ?_⟩, hpr⟩
  rw [List.length_append] at hj
  rw [getD_snoc]
  by_cases e : j = L.length
  · rw [if_neg (by omega), if_pos e, if_pos e]
    refine ⟨key, ⟨q, n, t, y⟩, W1.heap.size, rfl, ?_, hit _ _ ?_⟩
    · rw [← HK.out]; rfl
    · refine hmm.heap ?_ (fun h => ?_)
      · rw [R5.out, ← Hs.out]; rfl
      · obtain ⟨cs, fr, hc⟩ := HO.out.tag _ h
        rw [R5.out] at hc
        cases hc
  · have hjl : j < L.length := by simp at hj; omega
    rw [if_pos hjl, if_neg e]
    obtain ⟨k, b, g, h1, h2, h3⟩ := HF.out j hjl
    refine ⟨k, b, g, h1, h2, hit _ _ ?_⟩
    have h4 := HA.out.heap h3 id
    refine hmm.heap h4 (fun h => ?_)
    obtain ⟨cs, fr, hc⟩ := HO.out.tag _ h
    rw [h4] at hc
    cases hc
theorem AddW.start {w0 W : World} {Bx : Nat} (hN : New w0 W) (hB : w0.heap.size ≤ Bx) (hb : Boxed W Bx 51 (.slice none 0 0)) : AddW w0 W Bx [] :=
  ⟨hN, hB, _, fun _ => [undef, undef, undef, undef], hb, OwM.nil _ _ _ (fun _ => rfl), fun j hj => by simp at hj⟩
theorem AddW.keep {w0 W W' : World} {Bx : Nat} {L : List Bare.Mem} (h : AddW w0 W Bx L) (hN : New W W') : AddW w0 W' Bx L := by
  obtain ⟨h1, h2, v, f, h3, h4, h5⟩ := h
  refine ⟨h1.trans hN, h2, v, f, hN.boxed h3 id, h4.new hN, fun j hj => ?_⟩
  obtain ⟨k, b, g, a1, a2, a3⟩ := h5 j hj
  exact ⟨k, b, g, a1, a2, hN.heap a3 id⟩
end Go.Proofs.YtkiiameibdhdfaaGreatDoor
/- A priority's text: Print (the program). -/
namespace Go.Proofs.YtkiiameibdhdfaaGreatDoor
open Go.RowKit Go.Shelf Go.Cs
attribute [local go_sem] Oper.semAt_some
set_option linter.unusedVariables false
set_option linter.unusedSimpArgs false
theorem lit30 (t : Array Value) (h : t.size = 30) : ∃ u : Nat → Value, t = (u 0 :: u 1 :: u 2 :: u 3 :: u 4 :: u 5 :: u 6 :: u 7 :: u 8 :: u 9 :: u 10 :: u 11 :: u 12 :: u 13 :: u 14 :: u 15 :: u 16 :: u 17 :: u 18 :: u 19 :: u 20 :: u 21 :: u 22 :: u 23 :: u 24 :: u 25 :: u 26 :: u 27 :: u 28 :: u 29 :: ([] : List Value)).toArray := ⟨fun i => t.getD i undef, range_lit t 30 h⟩
noncomputable def reg_urgent_Print_5 : Code := ((Tryz.f37.body.bind (regionOf 5)).getD .skip)
set_option maxHeartbeats 4000000 in
set_option maxRecDepth 100000 in
theorem print5 (t : Array Value) (hs : t.size = 30) (w : World) {P : Nat} {n : Int} {z : Bool} {x2 x3 x4 x5 : Value}
    (hq1 : t.getD 1 undef = .pointer (some ⟨P, 0, none⟩))
    (hq2 : t.getD 2 undef = x2)
    (hq3 : t.getD 3 undef = x3)
    (hq4 : t.getD 4 undef = x4)
    (hq5 : t.getD 5 undef = x5)
    (c0 : w.cell? ⟨P, 0, none⟩ = some (.int .u8 n)) (hz : (n != 3) = z) :
    reg_urgent_Print_5.wp Tryz.prog (Only fun a' W' => (a'.tmps.size = 30 ∧ a'.defers = [] ∧ a'.tmps.getD 1 undef = .pointer (some ⟨P, 0, none⟩) ∧ a'.tmps.getD 2 undef = x2 ∧ a'.tmps.getD 3 undef = x3 ∧ a'.tmps.getD 4 undef = x4 ∧ a'.tmps.getD 5 undef = x5 ∧ a'.tmps.getD 14 undef = .bool z) ∧ New w W') ⟨t, []⟩ w := by
  conv => arg 2; whnf
  obtain ⟨u, rfl⟩ := lit30 t hs
  have hq1 : u 1 = .pointer (some ⟨P, 0, none⟩) := hq1
  have hq2 : u 2 = x2 := hq2
  have hq3 : u 3 = x3 := hq3
  have hq4 : u 4 = x4 := hq4
  have hq5 : u 5 = x5 := hq5
  rw [hq1, hq2, hq3, hq4, hq5]
  clear hq1 hq2 hq3 hq4 hq5 hs
  refine wp_region_held (S := fun W => New w W) (by kernel_rfl) ?_
  show wpAnyH _ _ _ _ _ 5 _ _ w.drew
  have hN : New w w.drew := (Mods.refl _ _).drew
  have hS : New w w.drew := (Mods.refl _ _).drew
  refine anyH_take 0 (some 10) (.pointer (some ⟨P, 0, none⟩)) rfl rfl (by kernel_rfl) (by kernel_rfl) (by kernel_rfl) (fun _ _ _ h => h.elim) (.inl ⟨by rfl, fun W hW => by go_simp⟩) hS ?_
  simp only [Act.put, List.setIfInBounds_toArray, List.set_cons_succ, List.set_cons_zero]
  refine anyH_take 1 (some 11) (.int .u8 n) rfl rfl (by kernel_rfl) (by kernel_rfl) (by kernel_rfl) (fun _ _ _ h => h.elim) (.inl ⟨by rfl, fun W hW => by have hh : New w W := hW; have q := hh.cell c0 id; go_simp⟩) hS ?_
  simp only [Act.put, List.setIfInBounds_toArray, List.set_cons_succ, List.set_cons_zero]
  refine wpAnyH_all (rs := [2]) (by kernel_rfl) (by simp) ?_
  simp only [List.mem_cons, List.not_mem_nil, or_false, forall_eq]
  refine opH_call (some 12) rfl (by rfl) rfl 46 #[] (by go_simp) ((first_u _).mono ?_)
  rintro e w2 ⟨rfl, hk⟩
  have hS := hS.trans hk
  have hN := hN.trans hk
  clear hk
  refine ⟨_, rfl, hS, ?_⟩
  simp only [Act.put, List.setIfInBounds_toArray, List.set_cons_succ, List.set_cons_zero]
  refine anyH_take 3 (some 13) (.int .u8 3) rfl rfl (by kernel_rfl) (by kernel_rfl) (by kernel_rfl) (fun _ _ _ h => h.elim) (.inl ⟨by rfl, fun W hW => by unfold prV; have hp := fun w => partAt 5 _ Tryz.underlying5 rfl #[.int .u8 3, .bool false] 0 (.int .u8 3) w rfl; go_simp; simp [Instr.field, asAgg, Sem.run_bind, run_underlying Tryz.underlying31, hp]⟩) hS ?_
  simp only [Act.put, List.setIfInBounds_toArray, List.set_cons_succ, List.set_cons_zero]
  refine anyH_take 4 (some 14) (.bool z) rfl rfl (by kernel_rfl) (by kernel_rfl) (by kernel_rfl) (fun _ _ _ h => h.elim) (.inl ⟨by rfl, fun W hW => by go_simp⟩) hS ?_
  simp only [Act.put, List.setIfInBounds_toArray, List.set_cons_succ, List.set_cons_zero]
  refine wpAnyH_done (by kernel_rfl) ?_ _
  exact ⟨⟨rfl, rfl, rfl, rfl, rfl, rfl, rfl, rfl⟩, hN⟩
def prioT (u : Nat) (i : Bool) : Option Bare.Bs := if u ≤ 7 then Bare.printD (Bare.prioD u i) else none
theorem prioD_print {u : Nat} {i : Bool} (hu : u ≤ 7) : PrD (Bare.prioD u i) := by
  have hx : ∀ (k : Bare.Bs) (b : Bare.It), k.length = 1 → 0 ≤ b.kind → b.text = [] → PrM ⟨k, false, [⟨b, []⟩], []⟩ := fun k b hk hb ht => by
    refine ⟨⟨by show k.length ≤ _; omega, by simp, by simp, fun x hx => ?_, fun p hp => by cases hp⟩, by simp, by simp, fun x hx => ?_⟩
    · rw [List.mem_singleton] at hx
      subst hx
      exact ⟨hb, by simp [ht], by simp, fun p hp => by cases hp⟩
    · rw [List.mem_singleton] at hx
      subst hx
      exact ⟨⟨hb, by simp [ht], by simp, fun p hp => by cases hp⟩, by simp⟩
  unfold Bare.prioD
  refine ⟨by split <;> split <;> simp, fun m hm => ?_⟩
  rw [List.mem_append] at hm
  rcases hm with hm | hm
  · split at hm
    · cases hm
    · rw [List.mem_singleton] at hm
      subst hm
      exact hx _ _ rfl (by show (0:Int) ≤ 1; decide) rfl
  · split at hm
    · rw [List.mem_singleton] at hm
      subst hm
      exact hx _ _ rfl (by show (0:Int) ≤ 6; decide) rfl
    · cases hm
set_option maxHeartbeats 2000000 in
set_option maxRecDepth 100000 in
theorem print_u (n : Nat) (i : Bool) (hu : n < 256) (w : World) (hT : Tab w) :
    Calls Tryz.prog 37 #[prV n i] w fun e w' => e = .returned (printV (prioT n i)) ∧ New w w' := by
  unfold prV
  obtain ⟨T, hTT⟩ : ∃ T, printV (prioT n i) = T := ⟨_, rfl⟩
  have HT := Lib.hid hTT
  rw [hTT]
  clear hTT
  have HR := Lib.hid (fun W => right_pr n i hu W)
  unfold prV at HR
  have hA : New w (w.alloc (.cells #[.int .u8 n, .bool i] 31)) := (Mods.refl _ _).alloc _
  have rP := World.alloc_heap_new w (.cells #[.int .u8 n, .bool i] 31)
  go_enter Tryz.func37, Tryz.ntmps37
  go_upto_region 1 with fail
  obtain ⟨w1, hw1⟩ : ∃ V, w.alloc (.cells #[.int .u8 n, .bool i] 31) = V := ⟨_, rfl⟩
  obtain ⟨P, hP⟩ : ∃ b, w.heap.size = b := ⟨_, rfl⟩
  rw [hw1] at hA rP ⊢
  rw [hP] at rP ⊢
  have hA2 : New w1 (w1.alloc (.cells #[.slice none 0 0] 51)) := (Mods.refl _ _).alloc _
  have rX : Boxed (w1.alloc (.cells #[.slice none 0 0] 51)) w1.heap.size 51 (.slice none 0 0) := Boxed.new w1 _ _
  have hwX : w.heap.size ≤ w1.heap.size := hA.size
  go_upto_region 3 with fail
  obtain ⟨w2, hw2⟩ : ∃ V, w1.alloc (.cells #[.slice none 0 0] 51) = V := ⟨_, rfl⟩
  obtain ⟨X, hX⟩ : ∃ b, w1.heap.size = b := ⟨_, rfl⟩
  rw [hw2] at hA2 rX ⊢
  rw [hX] at rX hwX ⊢
  replace rP := hA2.heap rP id
  have hAd := AddW.start (hA.trans hA2) hwX rX
  clear hw1 hP hw2 hX hA hA2 rX hwX
  obtain ⟨⟨c0, c1⟩, -⟩ := pr_facts rP
  by_cases h7 : n ≤ 7
  · have HT' : Hid (printV (Bare.printD (Bare.prioD n i)) = T) := Lib.hid (by have := HT.out; unfold prioT at this; rw [if_pos h7] at this; exact this)
    rw [decide_eq_true h7] at HR
    obtain ⟨z, hz⟩ : ∃ z, ((n : Int) != 3) = z := ⟨_, rfl⟩
    have HPD := Lib.hid (prioD_print (i := i) h7)
    clear HT h7
    go_upto_region 5 with (go_at_call 42; refine (HR.out _).mono ?_; rintro e w3 ⟨rfl, hN3⟩)
    replace rP := hN3.heap rP id
    replace hAd := hAd.keep hN3
    have hT3 := hT.new hAd.1
    obtain ⟨⟨c0, c1⟩, -⟩ := pr_facts rP
    refine piece (fun _ => _) (print5 _ rfl w3 rfl rfl rfl rfl rfl c0 hz) ?_
    rintro ⟨z, dfs⟩ w5 ⟨⟨hs, hd, hq1, hq2, hq3, hq4, hq5, hq14⟩, hN5⟩
    simp only at hs hd hq1 hq2 hq3 hq4 hq5 hq14
    subst hd
    obtain ⟨u, rfl⟩ := lit30 z hs
    have hp1 : u 1 = .pointer (some ⟨P, 0, none⟩) := hq1
    have hp2 : u 2 = .string ⟨#[]⟩ := hq2
    have hp3 : u 3 = .int .i64 0 := hq3
    have hp4 : u 4 = .pointer (some ⟨X, 0, none⟩) := hq4
    have hp5 : u 5 = .func (.func 82) #[] #[.pointer (some ⟨X, 0, none⟩)] := hq5
    have hp14 : u 14 = .bool z := hq14
    rw [hp1, hp2, hp3, hp4, hp5, hp14]
    clear hp1 hq1 hp2 hq2 hp3 hq3 hp4 hq4 hp5 hq5 hp14 hq14 hs

    replace hAd := hAd.keep hN5
    replace rP := hN5.heap rP id
    have hent := enters_of (P := Tryz.prog) Tryz.func82 (by kernel_rfl) rfl
    clear hN3 hN5 c0 c1
    obtain ⟨⟨c0, c1⟩, -⟩ := pr_facts rP
    have HP := Lib.hid (fun (W : World) (d : List Bare.Mem) (hd : d = Bare.prioD n i) (v : Value) (hv : RdD false W v d) (hT : Tab W) => by have := print_d v d W hv (by rw [hd]; exact HPD.out) hT; rw [hd, HT'.out] at this; exact this)
    have hlast : ∀ (W : World) (d : List Bare.Mem), d = Bare.prioD n i → AddW w W X d → d.length ≤ 100 → ∃ v, W.cell? ⟨X, 0, none⟩ = some v ∧ Calls Tryz.prog 26 #[v] W fun e w' => e = .returned T ∧ New W w' := fun W d hd had hl => by
      obtain ⟨v, hb, hr⟩ := had.reads hl
      exact ⟨v, hb.cell, HP.out W d hd v hr (hT.new had.1)⟩
    have HLast := Lib.hid hlast
    clear hlast HP HPD
    obtain ⟨t, k, rfl⟩ : ∃ t k, T = .tuple #[.string t, .int .i64 k] := by
      have h := HT'.out
      cases hh : Bare.printD (Bare.prioD n i) with
      | none => rw [hh] at h; exact ⟨_, _, h.symm⟩
      | some l => rw [hh] at h; exact ⟨_, _, h.symm⟩
    clear HT'
    have hw8 : IntKind.i64.wrap (n : Int) = n := by rw [IntKind.wrap_i64]; omega
    cases z with
    | true =>
      have h3 : ¬ n = 3 := by intro e; subst e; simp at hz
      go_wp2_with fail
      refine (add_u w w5 X _ hAd (by simp) [117] ⟨1, n, [], false⟩).mono ?_
      rintro e w6 ⟨⟨vv, rfl⟩, hAd, hPP⟩
      have rP6 := hPP _ _ _ rP
      obtain ⟨⟨c0, c1⟩, -⟩ := pr_facts rP6
      cases i with
      | true =>
        go_wp2_with fail
        refine (add_u w w6 X _ hAd (by simp) [105] Bare.yesI).mono ?_
        rintro e w7 ⟨⟨vv, rfl⟩, hAd, hPP⟩
        obtain ⟨v, hv, hcl⟩ := HLast.out w7 _ (by unfold Bare.prioD; rw [if_neg (by omega), if_pos rfl]; rfl) hAd (by simp)
        have hNw := hAd.1
        have HCL := Lib.hid hcl
        clear hcl
        go_wp2_with fail
        refine (HCL.out).mono ?_
        rintro e w9 ⟨rfl, hN9⟩
        go_wp2_with fail
        go_ret2
        exact ⟨rfl, hNw.trans hN9⟩
      | false =>
        obtain ⟨v, hv, hcl⟩ := HLast.out w6 _ (by unfold Bare.prioD; rw [if_neg (by omega), if_neg (by decide)]; rfl) hAd (by simp)
        have hNw := hAd.1
        have HCL := Lib.hid hcl
        clear hcl
        go_wp2_with fail
        refine (HCL.out).mono ?_
        rintro e w9 ⟨rfl, hN9⟩
        go_wp2_with fail
        go_ret2
        exact ⟨rfl, hNw.trans hN9⟩
    | false =>
      have h3 : n = 3 := by simp at hz; omega
      cases i with
      | true =>
        go_wp2_with fail
        refine (add_u w w5 X _ hAd (by simp) [105] Bare.yesI).mono ?_
        rintro e w7 ⟨⟨vv, rfl⟩, hAd, hPP⟩
        obtain ⟨v, hv, hcl⟩ := HLast.out w7 _ (by unfold Bare.prioD; rw [if_pos (by omega), if_pos rfl]; first | done | rfl) hAd (by simp)
        have hNw := hAd.1
        have HCL := Lib.hid hcl
        clear hcl
        go_wp2_with fail
        refine (HCL.out).mono ?_
        rintro e w9 ⟨rfl, hN9⟩
        go_wp2_with fail
        go_ret2
        exact ⟨rfl, hNw.trans hN9⟩
      | false =>
        obtain ⟨v, hv, hcl⟩ := HLast.out w5 _ (by unfold Bare.prioD; rw [if_pos (by omega), if_neg (by decide)]; rfl) hAd (by simp)
        have hNw := hAd.1
        have HCL := Lib.hid hcl
        clear hcl
        go_wp2_with fail
        refine (HCL.out).mono ?_
        rintro e w9 ⟨rfl, hN9⟩
        go_wp2_with fail
        go_ret2
        exact ⟨rfl, hNw.trans hN9⟩
  · have hT' : T = .tuple #[.string ⟨#[]⟩, .int .i64 2] := by have := HT.out; unfold prioT at this; rw [if_neg h7] at this; exact this.symm
    subst hT'
    rw [decide_eq_false h7] at HR
    clear HT h7
    go_wp2_with (go_at_call 42; refine (HR.out _).mono ?_; rintro e w3 ⟨rfl, hN3⟩)
    go_ret2
    exact ⟨rfl, hAd.1.trans hN3⟩
end Go.Proofs.YtkiiameibdhdfaaGreatDoor
