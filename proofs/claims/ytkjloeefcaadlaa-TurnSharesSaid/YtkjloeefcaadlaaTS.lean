/- TurnShares, walked. -/
import Derived.Test.YtkjloeefcaadlaaTW
import Derived.Test.YtkjloeefcaadlaaTP5
import Derived.Test.YtkjloeefcaadlaaTX
import Derived.Test.YtkjloeefcaadlaaTU8
import Derived.Test.YtkjloeefcaadlaaTEQ
namespace Go.Proofs.Ytkjloeefcaadlaa
open Go.RowKit Go.Shelf Go.Cs
attribute [local go_sem] Oper.semAt_some
attribute [local irreducible] enc
/-- How often each slot had its turn. -/
def TAt (W : World) (B : Nat) (tm : Nat → Int) : Prop := W.heap[B]? = some (.cells (hc tm).toArray 49 (0, 0))
theorem TAt.at {W : World} {B : Nat} {tm : Nat → Int} (h : TAt W B tm) {u : Nat} (hu : u < 8) : W.cell? ⟨B, u, none⟩ = some (.int .i64 (tm u)) := by
  rw [cell_of_row W B _ _ 49 _ h, List.getElem?_toArray]
  exact hc_at tm u hu
theorem TAt.frozen {W : World} {B : Nat} {tm : Nat → Int} (h : TAt W B tm) (u : Nat) : W.frozen? ⟨B, u, none⟩ = false := by
  unfold World.frozen?
  rw [h]
  rfl
theorem TAt.set {W : World} {B : Nat} {tm : Nat → Int} (h : TAt W B tm) {u : Nat} (hu : u < 8) (v : Int) : TAt (W.setCell ⟨B, u, none⟩ (.int .i64 v)) B (upd tm u v) := by
  unfold TAt
  rw [heap_setCell_same W B u _ 49 _ h, List.setIfInBounds_toArray, hc_upd tm u hu]
theorem mods_row' {W : World} {B x : Nat} {h : Nat → Int} (hB : RAt W B x h) (cs : Array Value) : Mods (fun b => b = B) W (W.setRow B cs) :=
  ⟨rfl, rfl, rfl, by simp [World.setRow], fun k o hk ho => by
    by_cases e : k = B
    · subst e
      rcases ho with ho | ho
      · exact absurd rfl ho
      · rw [show W.heap[k]? = _ from hB] at hk
        cases hk
        cases ho
    · rw [← hk]
      simp [World.setRow, Array.getElem?_modify, Ne.symm e]⟩
theorem nodup_at {R : List Nat} (h : R.Nodup) {i j : Nat} (hi : i < R.length) (hj : j < R.length) (e : R[i] = R[j]) : i = j := by
  rcases Nat.lt_trichotomy i j with h1 | h1 | h1
  · exact absurd e (List.pairwise_iff_getElem.1 h i j hi hj h1)
  · exact h1
  · exact absurd e.symm (List.pairwise_iff_getElem.1 h j i hj hi h1)
set_option maxRecDepth 100000 in
set_option maxHeartbeats 2000000 in
theorem shares_no (x : Nat) (n : Int) (hx : x < 18446744073709551616) (w : World) (hno : rightB x = false ∨ n < 0 ∨ 60 < n ∨ x = 0) :
    Calls Try.prog 6 #[.int .u64 x, .int .i64 n] w fun e w' => e = .returned (.bool true) ∧ New w w' := by
  have HR := Lib.hid (right_gen x hx)
  obtain ⟨b, hb⟩ : ∃ b, rightB x = b := ⟨_, rfl⟩
  rw [hb] at HR hno
  clear hb
  go_enter Try.func6, Try.ntmps6
  go_wp2_with fail
  refine (HR.out _).mono ?_
  rintro e w1 ⟨rfl, hN1⟩
  cases b with
  | false =>
    clear hno
    go_wp2_with fail
    refine (wakes_t _).mono ?_
    rintro e wz ⟨rfl, hNz⟩
    go_wp2_with fail
    go_ret
    exact ⟨rfl, hN1.trans hNz⟩
  | true =>
    have hno2 := hno.resolve_left (by simp)
    clear hno
    by_cases h0 : n < 0
    · have d1 : decide (n < 0) = true := decide_eq_true h0
      clear h0 hno2
      go_wp2_with fail
      refine (wakes_t _).mono ?_
      rintro e wz ⟨rfl, hNz⟩
      go_wp2_with fail
      go_ret
      exact ⟨rfl, hN1.trans hNz⟩
    · have d1 : decide (n < 0) = false := decide_eq_false h0
      by_cases h6 : 60 < n
      · have d2 : decide (60 < n) = true := decide_eq_true h6
        clear h0 hno2 h6
        go_wp2_with fail
        refine (wakes_t _).mono ?_
        rintro e wz ⟨rfl, hNz⟩
        go_wp2_with fail
        go_ret
        exact ⟨rfl, hN1.trans hNz⟩
      · have d2 : decide (60 < n) = false := decide_eq_false h6
        obtain rfl : x = 0 := (hno2.resolve_left h0).resolve_left h6
        clear h0 hno2 h6
        go_wp2_with fail
        refine (wakes_t _).mono ?_
        rintro e wz ⟨rfl, hNz⟩
        go_wp2_with fail
        go_ret
        exact ⟨rfl, hN1.trans hNz⟩
set_option maxRecDepth 100000 in
set_option maxHeartbeats 4000000 in
theorem shares_yes (p : Nat × Nat) (t : List (Nat × Nat)) (hl : OkL (p :: t)) (n : Int) (h0 : 0 ≤ n) (h60 : n ≤ 60) (w : World) :
    Calls Try.prog 6 #[.int .u64 (enc (p :: t)), .int .i64 n] w fun e w' => e = .returned (.bool true) ∧ New w w' := by
  obtain ⟨n, rfl⟩ := Int.eq_ofNat_of_zero_le h0
  have hp := hl.inn p (by simp)
  obtain ⟨R, T, hsp, hT, hR0, hrow⟩ := best_split hl
  have hOk0 : OkL ((rotR R 0).map (fun s => (s, p.2)) ++ T) := by rw [rotR_zero, ← hsp]; exact hl
  have hnd := nodup_row (R := R) (b := p.2) (T := T) (by rw [← hsp]; exact hl)
  have HR := Lib.hid (right_gen (enc (p :: t)) (enc_lt hl))
  rw [right_enc hl] at HR
  have HX := Lib.hid (next_t (enc (p :: t)) nobody (enc_lt hl) (fun _ _ => ⟨by simp [nobody], by simp [nobody]⟩))
  have hnx : nextT (enc (p :: t)) nobody = some ((p.1 : Int), p.2) := next_nobody (s := p.1) (u := p.2) (l := t) hl
  rw [hnx] at HX
  unfold tripT at HX
  simp only [Option.map_some, Option.getD_some, Option.isSome_some] at HX
  have HRo := Lib.hid (fun w => rows_ref hl w)
  have hxne : enc (p :: t) ≠ 0 := fun e => by
    have := enc_div hl.inn hl.len
    rw [e] at this
    simp at this
  have hex : enc (p :: t) = enc ((rotR R 0).map (fun s => (s, p.2)) ++ T) := by rw [rotR_zero, ← hsp]
  obtain ⟨x, hx⟩ : ∃ x, enc (p :: t) = x := ⟨_, rfl⟩
  rw [hx] at HR HX HRo hxne hex ⊢
  obtain ⟨X, hX⟩ : ∃ X, rowL (p :: t) = X := ⟨_, rfl⟩
  rw [hX] at hrow HRo
  obtain ⟨s0, b⟩ := p
  dsimp only at hp hT hOk0 hrow HX hex
  obtain ⟨m, hm⟩ : ∃ m, R.length = m := ⟨_, rfl⟩
  have Hm := Lib.hid hm
  have hb8 := hp.2
  have d1 : decide ((n : Int) < 0) = false := decide_eq_false (by omega)
  have d2 : decide ((60 : Int) < (n : Int)) = false := decide_eq_false (by omega)
  have d3 : decide (60 < n) = false := decide_eq_false (by omega)
  have d4 : ((x : Int) == 0) = false := by simpa using hxne
  have d4' : (x == 0) = false := by simpa using hxne
  have hmb : m ≤ 8 := by
    have := nodup_le 8 R hnd.1 hnd.2
    omega
  have hm0 : 0 < m := by omega
  have Hnd := Lib.hid hnd
  have HT := Lib.hid hT
  have Hex := Lib.hid hex
  have HOk0 := Lib.hid hOk0
  have Hrow := Lib.hid hrow
  clear hxne hX hx hnx hsp hl hp hnd hm hT hR0 hex hOk0 hrow
  go_enter Try.func6, Try.ntmps6
  go_wp2_with fail
  refine (HR.out _).mono ?_
  rintro e w1 ⟨rfl, hN1⟩
  go_wp2_with fail
  refine (new_t _).mono ?_
  rintro e w2 ⟨rfl, hN2⟩
  obtain ⟨hB, hNB⟩ := ratN (hN1.trans hN2) 0 nobody
  have hB5 := (hN1.trans hN2).size
  go_upto_region 4 with (refine op_skip rfl (run_store_new 51 (.tmp 5) (.tmp 35) rfl 51 (rc 0 zeroH) (rc 0 nobody) rfl rfl (infoL _ _) rfl (rc_one _ _)) ?_)
  obtain ⟨W3, hW3⟩ : ∃ W3, w2.alloc (.cells (rc 0 nobody).toArray 51) = W3 := ⟨_, rfl⟩
  have hs3 : w2.heap.size + 1 ≤ W3.heap.size := by rw [← hW3]; simp
  obtain ⟨B5, hBB⟩ : ∃ B, w2.heap.size = B := ⟨_, rfl⟩
  rw [hW3] at hB hNB ⊢
  rw [hBB] at hB hB5 hs3 ⊢
  clear hW3 hBB hN1 hN2 HR
  have c5 := hB.cell
  have f5 := hB.frozen 0
  have hB' := hB.word x
  have hNB' := hNB.setCell (p := ⟨B5, 0, none⟩) (.inl hB5) (.int .u64 (x : Nat))
  go_upto_region 5 with fail
  obtain ⟨W4, hW4⟩ : ∃ W4, W3.setCell ⟨B5, 0, none⟩ (.int .u64 (x : Nat)) = W4 := ⟨_, rfl⟩
  have hs4 : B5 + 1 ≤ W4.heap.size := by rw [← hW4]; simp [World.setCell]; exact hs3
  rw [hW4] at hB' hNB' ⊢
  clear hW4 c5 f5 hB hNB hs3
  go_wp2_with (refine op_value rfl (run_load_row 51 (.tmp 5) rfl B5 rfl 51 (rc x nobody).toArray (0, 0) _ hB' Try.underlying51 rfl (infoR _ _)) ?_)
  refine (HX.out _).mono ?_
  rintro e w5 ⟨rfl, hN5⟩
  have hB5r := hB'.new hN5
  have hNr := hNB'.trans hN5
  have hs5 : B5 + 1 ≤ w5.heap.size := by have := hN5.size; omega
  clear hB' hNB' hN5 HX hs4
  go_wp2_with fail
  refine (HRo.out _).mono ?_
  rintro e w6 ⟨va, rfl, ⟨vs, rfl, hvl, hown⟩, hN6⟩
  have hB6 := hB5r.new hN6
  have hN6' := hNr.trans hN6
  have hs6 : w5.heap.size ≤ w6.heap.size := hN6.size
  have hi' : (Try.prog.info? 62).map (·.size) = some vs.length := by rw [hvl]; exact info62'
  have hone : ∀ v ∈ vs, v.oneCell' = true := fun v hv => by
    obtain ⟨i, hi, rfl⟩ := List.mem_iff_getElem.1 hv
    have := hown i (by omega)
    have e : vs.getD i undef = vs[i] := by simp [List.getD, hi]
    rw [e] at this
    rcases this.2 with ⟨h, _⟩ | ⟨g, cap, cur, h, _⟩ <;> rw [h] <;> rfl
  have hlt := fun g => (hown b hb8).lt g
  have hrd := ReadsI.ofOwns (hown b hb8)
  rw [Hrow.out] at hrd
  obtain ⟨hlen, ao, cap, hva, hcl⟩ := hrd
  rw [List.length_map, Hm.out] at hva hlen hcl
  obtain ⟨bb, oo, rfl, _⟩ := hcl 0 hm0
  have hbb := hlt bb (by rw [hva]; rfl)
  have hel : ∀ k, k < m → w6.cell? ⟨bb, oo + k, none⟩ = some (.int .i64 (R.getD k 0 : Nat)) := fun k hk => by
    obtain ⟨b', o', he, hc'⟩ := hcl k hk
    simp only [Option.some.injEq, Addr.mk.injEq, and_true] at he
    obtain ⟨rfl, rfl⟩ := he
    rw [hc']
    have : k < R.length := by rw [Hm.out]; exact hk
    simp [List.getD, this]
  have hrb : (w6.alloc (.cells vs.toArray 62)).cell? ⟨w6.heap.size, b, none⟩ = some (.slice (some ⟨bb, oo, none⟩) m cap) := by
    rw [cell_of_row _ _ _ vs.toArray 62 (0, 0) (World.alloc_heap_new w6 _), List.getElem?_toArray, ← hva]
    simp [List.getD, show b < vs.length by omega]
  have Hel := Lib.hid hel
  clear hel hcl hva hlt hown hlen Hrow HRo hB5r hNr
  go_upto_region 7 with (refine op_skip rfl (run_store_new 62 (.tmp 9) (.tmp 45) rfl 62 [.slice none 0 0, .slice none 0 0, .slice none 0 0, .slice none 0 0, .slice none 0 0, .slice none 0 0, .slice none 0 0, .slice none 0 0] vs rfl rfl hi' hvl hone) ?_)
  obtain ⟨W7, hW7⟩ : ∃ W7, w6.alloc (.cells vs.toArray 62) = W7 := ⟨_, rfl⟩
  have hN67 : New w6 W7 := by rw [← hW7]; exact (Mods.refl _ _).alloc _
  have hs7 : w6.heap.size + 1 ≤ W7.heap.size := by rw [← hW7]; simp
  obtain ⟨R9, hR9⟩ : ∃ B, w6.heap.size = B := ⟨_, rfl⟩
  rw [hW7] at hrb ⊢
  rw [hR9] at hrb hs7 hs6 hbb ⊢
  have hB7 := hB6.new hN67
  have hN7 := hN6'.trans hN67
  have Hel7 : Hid (∀ k, k < m → W7.cell? ⟨bb, oo + k, none⟩ = some (.int .i64 (R.getD k 0 : Nat))) := Lib.hid (fun k hk => hN67.cell (Hel.out k hk) id)
  clear hW7 hR9 hi' hone hvl hN6 hN6' hB6 Hel hN67
  have d5 : decide ((8 : Int) ≤ (b : Int)) = false := decide_eq_false (by omega)
  have d6 : decide (8 ≤ b) = false := decide_eq_false (by omega)
  have d7 : ((m : Int) == 0) = false := by simp; omega
  have d7' : (m == 0) = false := by simp; omega
  have hbn : ¬ bb = B5 := by omega
  go_upto_region 10 with fail
  obtain ⟨Wb, hWb⟩ : ∃ W, W7.alloc (.cells #[.int .i64 0, .int .i64 0, .int .i64 0, .int .i64 0, .int .i64 0, .int .i64 0, .int .i64 0, .int .i64 0] 49) = W := ⟨_, rfl⟩
  have hN7b : New W7 Wb := by rw [← hWb]; exact (Mods.refl _ _).alloc _
  have hT10 : TAt Wb W7.heap.size (fun _ => 0) := by rw [← hWb]; exact World.alloc_heap_new W7 _
  have hs8 : W7.heap.size + 1 ≤ Wb.heap.size := by rw [← hWb]; simp
  obtain ⟨T10, hT10e⟩ : ∃ B, W7.heap.size = B := ⟨_, rfl⟩
  rw [hWb]
  rw [hT10e] at hT10 hs7 hs8 ⊢
  have hBb := hB7.new hN7b
  have hNb := Lib.hid (hN7.trans hN7b)
  have Hrb : Hid (Wb.cell? ⟨R9, b, none⟩ = some (.slice (some ⟨bb, oo, none⟩) m cap)) := Lib.hid (hN7b.cell hrb id)
  have Helb : Hid (∀ k, k < m → Wb.cell? ⟨bb, oo + k, none⟩ = some (.int .i64 (R.getD k 0 : Nat))) := Lib.hid (fun k hk => hN7b.cell (Hel7.out k hk) id)
  have n1 : R9 ≠ B5 := by omega
  have n2 : R9 ≠ T10 := by omega
  have n3 : bb ≠ T10 := by omega
  have n4 : bb ≠ B5 := hbn
  have n5 : T10 ≠ B5 := by omega
  have hsw : w.heap.size ≤ T10 := by omega
  clear hWb hT10e hN7b hB7 hN7 hrb Hel7 hs7 hs6 hbb hbn hs5
  rw [Hex.out] at hBb
  go_wp2_with fail
  go_loopw [11, 12, 13, 14, 15, 16, 17, 18] (fun c _ _ _ _ _ _ _ wr => ∃ (i : Nat) (tm : Nat → Int), i ≤ n ∧ c = .int .i64 i ∧ RAt wr B5 (enc ((rotR R (i % m)).map (fun s => (s, b)) ++ T)) nobody ∧ TAt wr T10 tm ∧ Hid (OkL ((rotR R (i % m)).map (fun s => (s, b)) ++ T) ∧ ∀ k, k < m → tm (R.getD k 0) = (cntR m i k : Nat)) ∧ Mods (fun q => q = B5 ∨ q = T10) Wb wr) (fun c _ _ _ _ _ _ _ _ => n - (intOf c).toNat)
  case atStart =>
    refine ⟨0, fun _ => 0, Nat.zero_le _, rfl, ?_, hT10, Lib.hid ⟨?_, fun k hk => by rw [cntR_zero]; rfl⟩, Mods.refl _ _⟩
    · rw [Nat.zero_mod]; exact hBb
    · rw [Nat.zero_mod]; exact HOk0.out
  case round =>
    clear hBb hT10
    obtain ⟨i, tm, hi, rfl, hRr, hTr, hok, hM⟩ := hrel
    by_cases hin : i < n
    · have hjm : i % m < m := Nat.mod_lt _ hm0
      have hrem : ((i : Int).tmod (m : Int)) = ((i % m : Nat) : Int) := (Int.ofNat_tmod i m).symm
      have hnj : (i % m + 1) % m = (i + 1) % m := by rw [Nat.mod_add_mod]
      have hcn := fun k hk => cntR_next (m := m) (i := i) (k := k) hm0 hk
      obtain ⟨j, hj⟩ : ∃ j, i % m = j := ⟨_, rfl⟩
      rw [hj] at hjm hrem hnj hRr hok hcn
      have hjR : j < R.length := by rw [Hm.out]; exact hjm
      obtain ⟨hokl, htm⟩ := hok.out
      rw [rotR_head hjR] at hokl hRr
      have hnx := rotR_next hjR
      rw [Hm.out, hnj] at hnx
      have hs8' : R.getD j 0 < 8 := Hnd.out.2 _ (by simp [List.getD, hjR])
      obtain ⟨sj, hsj⟩ : ∃ s, R.getD j 0 = s := ⟨_, rfl⟩
      have Hsj := Lib.hid hsj
      have htj := htm j hjm
      rw [hsj] at hokl hRr hnx hs8' htj
      obtain ⟨R', hR'⟩ : ∃ R', R.drop (j + 1) ++ R.take j = R' := ⟨_, rfl⟩
      rw [hR'] at hokl hRr hnx
      have hbeg := share_a (s := sj) (b := b) (t := R'.map (fun s => (s, b)) ++ T) hokl
      obtain ⟨hov, hokn⟩ := share_step (s := sj) (b := b) (R := R') (T := T) hokl HT.out
      rw [hnx] at hov hokn
      have HB := Lib.hid (begin_t (enc ((sj, b) :: (R'.map (fun s => (s, b)) ++ T))) nobody (enc_lt hokl) (fun _ _ => ⟨by simp [nobody], by simp [nobody]⟩))
      have HO := Lib.hid (over_t (enc (R'.map (fun s => (s, b)) ++ T)) nobody (sj : Int) (b : Int) true true (enc_lt (ok_tail hokl)) (fun _ _ => ⟨by simp [nobody], by simp [nobody]⟩) (by omega) (by omega) (by omega) (by omega))
      rw [hbeg] at HB
      rw [hov] at HO
      unfold RetRT at HO
      dsimp only at HB HO
      have HOkn := Lib.hid hokn
      have hRr : RAt wr B5 (enc ((sj, b) :: (R'.map (fun s => (s, b)) ++ T))) nobody := hRr
      obtain ⟨y, hy⟩ : ∃ y, enc ((sj, b) :: (R'.map (fun s => (s, b)) ++ T)) = y := ⟨_, rfl⟩
      obtain ⟨y1, hy1⟩ : ∃ y, enc (R'.map (fun s => (s, b)) ++ T) = y := ⟨_, rfl⟩
      obtain ⟨y2, hy2⟩ : ∃ y, enc ((rotR R ((i + 1) % m)).map (fun s => (s, b)) ++ T) = y := ⟨_, rfl⟩
      have Hy2 := Lib.hid hy2
      rw [hy] at hRr HB
      rw [hy1] at HB HO
      rw [hy2] at HO
      have hcb : cntR m i j ≤ 61 := by have := cntR_le (m := m) i j; omega
      have hupd : Hid (∀ k, k < m → upd tm sj ((cntR m i j : Nat) + 1 : Int) (R.getD k 0) = (cntR m (i + 1) k : Nat)) := Lib.hid (fun k hk => by
        rw [hcn k hk]
        unfold upd
        have hkR : k < R.length := by rw [Hm.out]; exact hk
        by_cases e : k = j
        · subst e
          rw [if_pos Hsj.out, if_pos rfl]
          rfl
        · have hne : R.getD k 0 ≠ sj := fun h2 => by
            rw [← Hsj.out] at h2
            simp only [List.getD, List.getElem?_eq_getElem hkR, List.getElem?_eq_getElem hjR, Option.getD_some] at h2
            exact e (nodup_at Hnd.out.1 hkR hjR h2)
          rw [if_neg hne, if_neg e, htm k hk]
          rfl)
      obtain ⟨c, hc'⟩ : ∃ c, cntR m i j = c := ⟨_, rfl⟩
      rw [hc'] at htj hcb hupd
      have hNw : Hid (New w wr) := Lib.hid (((Mods.ofNew hNb.out).trans hM).new (fun k hk => by rcases hk with h | h <;> omega))
      clear hokl hbeg hov hokn hy hy1 hy2 hc' htm hok hnx hR' hsj hjR hj hnj
      go_wp2_with (refine op_value rfl (run_load_row 51 (.tmp 5) rfl B5 rfl 51 (rc y nobody).toArray (0, 0) _ hRr Try.underlying51 rfl (infoR _ _)) ?_)
      refine (HB.out _).mono ?_
      rintro e w3 ⟨rfl, hN3⟩
      obtain ⟨hS, hNS⟩ := ratN (hNw.out.trans hN3) y1 nobody
      have hNq : New wr (w3.alloc (.cells (rc y1 nobody).toArray 51)) := hN3.alloc _
      go_upto_region 14 with (refine op_skip rfl (run_store_new 51 (.tmp 12) (.tmp 71) rfl 51 (rc 0 zeroH) (rc y1 nobody) rfl rfl (infoL _ _) rfl (rc_one _ _)) ?_)
      obtain ⟨W4, hW4⟩ : ∃ W4, w3.alloc (.cells (rc y1 nobody).toArray 51) = W4 := ⟨_, rfl⟩
      obtain ⟨S, hSB⟩ : ∃ B, w3.heap.size = B := ⟨_, rfl⟩
      rw [hW4] at hS hNq ⊢
      rw [hSB] at hS ⊢
      have hS5 : Wb.heap.size ≤ S := by have := hM.size; have := hN3.size; omega
      clear hW4 hSB hNS hN3
      have hR4 := hRr.new hNq
      have hT4 : TAt W4 T10 tm := hNq.heap hTr id
      have hM4 := hM.trans (Mods.ofNew hNq)
      have g1 : W4.cell? ⟨R9, b, none⟩ = some (.slice (some ⟨bb, oo, none⟩) m cap) := hM4.cell Hrb.out (by rintro (h | h); exact n1 h; exact n2 h)
      have g2 : W4.cell? ⟨bb, oo + j, none⟩ = some (.int .i64 (sj : Nat)) := by
        have := hM4.cell (Helb.out j hjm) (by rintro (h | h); exact n4 h; exact n3 h)
        rw [this, Hsj.out]
      clear hRr hTr hM hNq hNw
      go_quiet (fail)
      obtain ⟨Wd, hWd⟩ : ∃ W, W4.drewN nq = W := ⟨_, rfl⟩
      have hNd : New W4 Wd := by rw [← hWd]; exact (Mods.refl _ _).drewN _
      rw [hWd]
      have hTd : TAt Wd T10 tm := hNd.heap hT4 id
      have hRd := hR4.new hNd
      have hSd := hS.new hNd
      have hMd := hM4.trans (Mods.ofNew hNd)
      have ct := hTd.at hs8'
      rw [htj] at ct
      have ft := hTd.frozen sj
      have hT5 := hTd.set hs8' ((c : Int) + 1)
      have hR5 : RAt (Wd.setCell ⟨T10, sj, none⟩ (.int .i64 ((c : Int) + 1))) B5 y nobody := hRd.other (Ne.symm n5) _
      have hS5' : RAt (Wd.setCell ⟨T10, sj, none⟩ (.int .i64 ((c : Int) + 1))) S y1 nobody := hSd.other (by omega) _
      have hM5 := hMd.setCell (p := ⟨T10, sj, none⟩) (.inr (.inr rfl)) (.int .i64 ((c : Int) + 1))
      clear hWd hNd hT4 hR4 hS hM4 g1 g2 hTd hRd hSd hMd htj hrem
      go_upto_region 17 with fail
      obtain ⟨W5, hW5⟩ : ∃ W, Wd.setCell ⟨T10, sj, none⟩ (.int .i64 ((c : Int) + 1)) = W := ⟨_, rfl⟩
      rw [hW5] at hT5 hR5 hS5' hM5 ⊢
      clear hW5 ct ft
      go_wp2_with (refine op_value rfl (run_load_row 51 (.tmp 12) rfl S rfl 51 (rc y1 nobody).toArray (0, 0) _ hS5' Try.underlying51 rfl (infoR _ _)) ?_)
      refine (HO.out _).mono ?_
      rintro e w6 ⟨rfl, hN6⟩
      have hR6 := hR5.new hN6
      have hT6 : TAt w6 T10 (upd tm sj ((c : Int) + 1)) := hN6.heap hT5 id
      have hR7 := hR6.row y2 nobody
      have hM7 := (hM5.trans (Mods.ofNew hN6)).trans ((mods_row' hR6 (rc y2 nobody).toArray).mono fun k hk => .inl hk)
      have hT7 : TAt (w6.setRow B5 (rc y2 nobody).toArray) T10 (upd tm sj ((c : Int) + 1)) := (mods_row' hR6 (rc y2 nobody).toArray).heap hT6 n5
      go_upto_region 18 with (refine op_skip rfl (run_store_row 51 (.tmp 5) (.tmp 107) rfl B5 rfl 51 (rc y nobody) (rc y2 nobody) rfl hR6 (infoL _ _) rfl (rc_one _ _)) ?_)
      obtain ⟨W8, hW8⟩ : ∃ W, w6.setRow B5 (rc y2 nobody).toArray = W := ⟨_, rfl⟩
      rw [hW8] at hR7 hM7 hT7 ⊢
      clear hW8 hR6 hT6 hM5 hR5 hS5' hT5 hN6 HB HO
      have g1 : W8.cell? ⟨R9, b, none⟩ = some (.slice (some ⟨bb, oo, none⟩) m cap) := hM7.cell Hrb.out (by rintro (h | h); exact n1 h; exact n2 h)
      have Hel8 : Hid (∀ k, k < m → W8.cell? ⟨bb, oo + k, none⟩ = some (.int .i64 (R.getD k 0 : Nat))) := Lib.hid (fun k hk => hM7.cell (Helb.out k hk) (by rintro (h | h); exact n4 h; exact n3 h))
      have Ht8 : Hid (∀ k, k < m → W8.cell? ⟨T10, R.getD k 0, none⟩ = some (.int .i64 (cntR m (i + 1) k : Nat)) ∧ R.getD k 0 < 8) := Lib.hid (fun k hk => by
        have hkR : k < R.length := by rw [Hm.out]; exact hk
        have h8 : R.getD k 0 < 8 := Hnd.out.2 _ (by simp [List.getD, hkR])
        refine ⟨?_, h8⟩
        rw [hT7.at h8, hupd.out k hk])
      have hk0 := Hel8.out 0 hm0
      rw [Nat.add_zero] at hk0
      obtain ⟨ht0, h80⟩ := Ht8.out 0 hm0
      obtain ⟨r0, hr0⟩ : ∃ r, R.getD 0 0 = r := ⟨_, rfl⟩
      rw [hr0] at hk0 ht0 h80
      obtain ⟨c0, hc0, q1, q2⟩ : ∃ c0, cntR m (i + 1) 0 = c0 ∧ (i + 1) / m ≤ c0 ∧ c0 ≤ (i + 1) / m + 1 := ⟨_, rfl, (cntR_near m (i + 1) 0).1, (cntR_near m (i + 1) 0).2⟩
      rw [hc0] at ht0
      have hq60 : (i + 1) / m ≤ 60 := by have := Nat.div_le_self (i + 1) m; omega
      obtain ⟨q, hq⟩ : ∃ q, (i + 1) / m = q := ⟨_, rfl⟩
      rw [hq] at q1 q2 hq60
      have x1 : ((r0 : Int) < 8) := by omega
      have x2 : decide ((r0 : Int) < 8) = true := decide_eq_true x1
      have x3 : ¬ ((8 : Int) ≤ (r0 : Int)) := by omega
      have x4 : ¬ (8 ≤ r0) := by omega
      clear hr0 hc0
      go_quiet (fail)
      obtain ⟨W9, hW9⟩ : ∃ W, W8.drewN nq = W := ⟨_, rfl⟩
      have hN9 : New W8 W9 := by rw [← hW9]; exact (Mods.refl _ _).drewN _
      rw [hW9]
      have HN9 := Lib.hid hN9
      clear hW9 hN9 g1 hk0 ht0
      go_wp2_with fail
      go_loopw [16, 17, 18] (fun c16 c17 c18 wi => ∃ (k a e : Nat), k ≤ m ∧ c18 = .int .i64 k ∧ c16 = .int .i64 a ∧ c17 = .int .i64 e ∧ (q ≤ a ∧ a ≤ q + 1 ∧ q ≤ e ∧ e ≤ q + 1) ∧ New W9 wi) (fun _ _ c18 _ => m - (intOf c18).toNat)
      case atStart => exact ⟨0, c0, c0, Nat.zero_le _, rfl, rfl, rfl, ⟨q1, q2, q1, q2⟩, Mods.refl _ _⟩
      case round =>
        obtain ⟨k, a, e, hk, rfl, rfl, rfl, ⟨a1, a2, e1, e2⟩, hNi⟩ := hrel
        have hN8i := HN9.out.trans hNi
        have g1 : wr.cell? ⟨R9, b, none⟩ = some (.slice (some ⟨bb, oo, none⟩) m cap) := (hM7.trans (Mods.ofNew hN8i)).cell Hrb.out (by rintro (h | h); exact n1 h; exact n2 h)
        by_cases hkm : k < m
        · have hkd : decide ((k : Int) < (m : Int)) = true := decide_eq_true (by omega)
          have gk := hN8i.cell (Hel8.out k hkm) id
          have gt := hN8i.cell (Ht8.out k hkm).1 id
          have g8 := (Ht8.out k hkm).2
          obtain ⟨rk, hrk⟩ : ∃ r, R.getD k 0 = r := ⟨_, rfl⟩
          rw [hrk] at gk gt g8
          obtain ⟨ck, hck, u1, u2⟩ : ∃ c0, cntR m (i + 1) k = c0 ∧ (i + 1) / m ≤ c0 ∧ c0 ≤ (i + 1) / m + 1 := ⟨_, rfl, (cntR_near m (i + 1) k).1, (cntR_near m (i + 1) k).2⟩
          rw [hck] at gt
          rw [hq] at u1 u2
          clear hrk hck hN8i
          go_wp2_with fail
          go_quiet (fail)
          rw [show (if ck < a then (ck : Int) else (a : Int)) = ((if ck < a then ck else a : Nat) : Int) by split <;> rfl, show (if e < ck then (ck : Int) else (e : Int)) = ((if e < ck then ck else e : Nat) : Int) by split <;> rfl]
          obtain ⟨a', ha', l1, l2⟩ : ∃ z, (if ck < a then ck else a) = z ∧ q ≤ z ∧ z ≤ q + 1 := ⟨_, rfl, by split <;> omega, by split <;> omega⟩
          obtain ⟨e', he', l3, l4⟩ : ∃ z, (if e < ck then ck else e) = z ∧ q ≤ z ∧ z ≤ q + 1 := ⟨_, rfl, by split <;> omega, by split <;> omega⟩
          rw [ha', he']
          clear ha' he' g1 gk gt u1 u2 a1 a2 e1 e2
          go_wp2_with fail
          go_roundw
          case rel => exact ⟨k + 1, a', e', by omega, by go_num, rfl, rfl, ⟨l1, l2, l3, l4⟩, hNi.drewN _⟩
          case measure => simp [intOf]; omega
        · obtain rfl : k = m := by omega
          have hkd : decide ((k : Int) < (k : Int)) = false := decide_eq_false (by omega)
          go_wp2_with fail
          go_roundw
          case rel => exact ⟨i + 1, upd tm sj ((c : Int) + 1), by omega, by go_num, by rw [Hy2.out]; exact hR7.new hN8i, hN8i.heap hT7 id, Lib.hid ⟨HOkn.out, hupd.out⟩, hM7.trans (Mods.ofNew hN8i)⟩
          case measure => simp [intOf]; omega
    · obtain rfl : i = n := by omega
      go_wp2_with fail
      refine (wakes_t _).mono ?_
      rintro e wz ⟨rfl, hNz⟩
      go_wp2_with fail
      go_ret
      exact ⟨rfl, (((Mods.ofNew hNb.out).trans hM).new (fun k hk => by rcases hk with h | h <;> omega)).trans hNz⟩
end Go.Proofs.Ytkjloeefcaadlaa
