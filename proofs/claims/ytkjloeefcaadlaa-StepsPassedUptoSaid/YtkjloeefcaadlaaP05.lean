/- Who is ready, as a value: its cells; all of them, one by one. -/
import Derived.Test.YtkjloeefcaadlaaP04
import Derived.Deep.MidRow
set_option linter.unusedSimpArgs false
set_option linter.unusedVariables false
namespace Go.Proofs.Ytkjloeefcaadlaa
open Go.RowKit Go.Shelf Go.Cs
attribute [local go_sem] Oper.semAt_some
def hc (h : Nat → Int) : List Value := [.int .i64 (h 0), .int .i64 (h 1), .int .i64 (h 2), .int .i64 (h 3), .int .i64 (h 4), .int .i64 (h 5), .int .i64 (h 6), .int .i64 (h 7)]
def rc (x : Nat) (h : Nat → Int) : List Value := .int .u64 x :: hc h
theorem info51 : (Try.prog.info? 51).map (·.size) = some 9 := by kernel_rfl
theorem info49 : (Try.prog.info? 49).map (·.size) = some 8 := by kernel_rfl
theorem info62 : (Try.prog.info? 62).map (·.size) = some 8 := by kernel_rfl
theorem info3' : (Try.prog.info? 3).map (·.size) = some 1 := by kernel_rfl
def RAt (W : World) (B x : Nat) (h : Nat → Int) : Prop := W.heap[B]? = some (.cells (rc x h).toArray 51 (0, 0))
theorem hc_at (h : Nat → Int) (u : Nat) (hu : u < 8) : (hc h)[u]? = some (.int .i64 (h u)) := by
  match u, hu with
  | 0, _ => rfl
  | 1, _ => rfl
  | 2, _ => rfl
  | 3, _ => rfl
  | 4, _ => rfl
  | 5, _ => rfl
  | 6, _ => rfl
  | 7, _ => rfl
theorem hc_len (h : Nat → Int) : (hc h).length = 8 := rfl
theorem RAt.cell {W : World} {B x : Nat} {h : Nat → Int} (hB : RAt W B x h) : W.cell? ⟨B, 0, none⟩ = some (.int .u64 x) := cell_of_row W B 0 _ 51 _ hB
theorem RAt.at {W : World} {B x : Nat} {h : Nat → Int} (hB : RAt W B x h) {u : Nat} (hu : u < 8) : W.cell? ⟨B, 1 + u, none⟩ = some (.int .i64 (h u)) := by
  rw [cell_of_row W B _ _ 51 _ hB, List.getElem?_toArray, rc, Nat.add_comm, List.getElem?_cons_succ]
  exact hc_at h u hu
theorem RAt.held {W : World} {B x : Nat} {h : Nat → Int} (hB : RAt W B x h) : W.rangeAt B 1 (hc h) := by
  intro j v hv
  have hj : j < 8 := by have := (List.getElem?_eq_some_iff.1 hv).1; rwa [hc_len] at this
  rw [hB.at hj]
  rw [hc_at h j hj] at hv
  exact hv
theorem RAt.mods {S : Nat → Prop} {W W' : World} {B x : Nat} {h : Nat → Int} (hB : RAt W B x h) (hm : Mods S W W') (hS : ¬ S B) : RAt W' B x h := hm.heap hB hS
theorem run_held {W : World} {B x : Nat} {h : Nat → Int} (hB : RAt W B x h) : (Instr.loadAt 49 (.pointer (some ⟨B, 1, none⟩))).run Try.prog W = .ok (.agg (hc h).toArray) W :=
  run_loadAt_mid W B 1 49 (hc h) _ hB.held Try.underlying49 rfl info49
theorem hc_idx (h : Nat → Int) (u : Nat) (hu : u < 8) (w : World) : (Instr.index 49 (.agg (hc h).toArray) (.int .i64 (u : Int))).run Try.prog w = .ok (.int .i64 (h u)) w :=
  run_index_arr Try.underlying49 Try.underlying3 rfl info3' hu (by rw [List.getElem?_toArray]; exact hc_at h u hu) w
theorem all_any (x : Nat) (h : Nat → Int) (w : World) :
    Calls Try.prog 138 #[.agg (rc x h).toArray] w fun e w' => e = .returned (.func (.func 163) #[] #[.pointer (some ⟨w.heap.size, 0, none⟩)]) ∧ w.alloc (.cells (rc x h).toArray 51) = w' := by
  go_enter Try.func138, Try.ntmps138
  go_wp2
  go_ret
  exact ⟨rfl, rfl⟩
def encA (p : Int × Nat) : Array Value := #[.int .i64 p.1, .int .i64 p.2]
theorem allTo_split (X : Nat → List Int) (h : Nat → Int) (u : Nat) : ∀ v, u ≤ v → ∃ t, allTo X h v = allTo X h u ++ t
  | 0, hv => ⟨[], by obtain rfl : u = 0 := by omega
                     rfl⟩
  | v + 1, hv => by
    by_cases e : u = v + 1
    · exact ⟨[], by rw [e]; simp⟩
    · obtain ⟨t, ht⟩ := allTo_split X h u v (by omega)
      exact ⟨t ++ (heldAt h v ++ (X v).map fun s => (s, v)), by rw [allTo, ht, List.append_assoc]⟩
theorem allTo_len (X : Nat → List Int) (h : Nat → Int) (u : Nat) : (allTo X h (u + 1)).length = (allTo X h u).length + (heldAt h u).length + (X u).length := by simp [allTo]; omega
theorem allTo_le (X : Nat → List Int) (h : Nat → Int) {u v : Nat} (hv : u ≤ v) : (allTo X h u).length ≤ (allTo X h v).length := by
  obtain ⟨t, ht⟩ := allTo_split X h u v hv
  rw [ht]; simp
theorem allT_held (x : Nat) (h : Nat → Int) {u : Nat} (hu : u < 8) (h0 : 0 ≤ h u) : (allT x h)[(allTo (rowsF x) h u).length]? = some (h u, u) := by
  obtain ⟨t, ht⟩ := allTo_split (rowsF x) h (u + 1) 8 (by omega)
  unfold allT
  rw [ht, allTo, List.append_assoc, List.getElem?_append_right (by omega)]
  simp [heldAt, h0]
theorem allT_row (x : Nat) (h : Nat → Int) {u k : Nat} (hu : u < 8) (hk : k < (rowsF x u).length) : (allT x h)[(allTo (rowsF x) h u).length + (heldAt h u).length + k]? = some ((rowsF x u).getD k 0, u) := by
  obtain ⟨t, ht⟩ := allTo_split (rowsF x) h (u + 1) 8 (by omega)
  unfold allT
  rw [ht, allTo, List.append_assoc, List.append_assoc, List.getElem?_append_right (by omega), List.getElem?_append_right (by omega), List.getElem?_append_left (by simp; omega)]
  rw [show (allTo (rowsF x) h u).length + (heldAt h u).length + k - (allTo (rowsF x) h u).length - (heldAt h u).length = k by omega]
  simp [List.getD, hk]
theorem run_load_mid {o : Oper} {a : Act} {w : World} (ty : TypeId) (x : Operand) (ho : o.op = .load ty x) (b off : Nat) (hx : a.eval x = .pointer (some ⟨b, off, none⟩)) (cs : List Value) (d : TypeDesc) (hc : w.rangeAt b off cs)
    (hu : Try.prog.underlying ty = some d) (hd : d.isRow = true) (hi : (Try.prog.info? ty).map (·.size) = some cs.length) : (execOp a.eval o).run Try.prog w = .ok (.value (.agg cs.toArray)) w := by
  unfold execOp
  simp only [ho, hx, Sem.run_bind, Sem.run_pure, Result.andThen_ok, run_loadAt_mid w b off ty cs d hc hu hd hi]
theorem opIn_value1 {r : Option Nat} {ops : Array Oper} {Q : Exit → Act → World → Prop} {rest : List Oper} {o : Oper} {a : Act} {w w' : World} {v : Value} (hp : plainOp o = true) (hg : o.guard = none) (hr : (execOp a.eval o).run Try.prog w = .ok (.value v) w') (h : wpListIn (Fr r) 0 Try.prog ops Q rest (a.put o.dst v) w') : wpListIn (Fr r) 0 Try.prog ops Q (o :: rest) a w := by
  simp only [wpListIn, Region.wanted, hg, if_true, Oper.wpIn, semAt_plain hp, hr]
  exact ⟨fun _ _ => trivial, h⟩
theorem opIn_skip1 {r : Option Nat} {ops : Array Oper} {Q : Exit → Act → World → Prop} {rest : List Oper} {o : Oper} {a : Act} {w w' : World} (hp : plainOp o = true) (hg : o.guard = none) (hr : (execOp a.eval o).run Try.prog w = .ok .skip w') (h : wpListIn (Fr r) 0 Try.prog ops Q rest (a.put o.dst undef) w') : wpListIn (Fr r) 0 Try.prog ops Q (o :: rest) a w := by
  simp only [wpListIn, Region.wanted, hg, if_true, Oper.wpIn, semAt_plain hp, hr]
  exact ⟨fun _ _ => trivial, h⟩
set_option maxHeartbeats 1000000 in
set_option maxRecDepth 100000 in
theorem all1_iter (B x : Nat) (h : Nat → Int) (hx : x < 18446744073709551616) (S : Nat → Prop) (W : World) (hS : ∀ b, S b → b < W.heap.size) (hSB : ¬ S B) (hB : RAt W B x h) :
    IterAt Try.prog 163 [.pointer (some ⟨B, 0, none⟩)].toArray ((allT x h).map encA) S W := by
  intro l J Jx hJ hJx hY h0
  have HRo := Lib.hid (rows_any x hx W)
  refine (callsIn_wide (n := 0)).1 (callsIn_of_wp Try.func163 rfl trivial ?_ rfl)
  simp only [Try.ntmps163, List.size_toArray, List.length_cons, List.length_nil, Nat.reduceAdd, Nat.reduceSub, Array.replicate_succ, Array.replicate_zero, List.push_toArray, List.append_toArray, List.nil_append, List.cons_append]
  have c0 := hB.cell
  gi_wp2_with fail
  refine at_round HRo.out ?_
  rintro e W1 ⟨v, rfl, ⟨vs, rfl, hl, hown⟩, hN1⟩
  have hi' : (Try.prog.info? 62).map (·.size) = some vs.length := by rw [hl]; exact info62
  have hone : ∀ v ∈ vs, v.oneCell' = true := fun v hv => by
    obtain ⟨i, hi, rfl⟩ := List.mem_iff_getElem.1 hv
    have := hown i (by omega)
    have e : vs.getD i undef = vs[i] := by simp [List.getD, hi]
    rw [e] at this
    rcases this.2 with ⟨h, _⟩ | ⟨g, cap, cur, h, _⟩ <;> rw [h] <;> rfl
  have hB1 : RAt (W1.alloc (.cells vs.toArray 62)) B x h := (hB.mods hN1 id).mods ((Mods.refl (fun _ => False) _).alloc _) id
  have hH := hB1.held
  gi_wp2_with (first | (refine opIn_skip1 rfl rfl (run_store_new 62 (.tmp 3) (.tmp 10) rfl 62 [.slice none 0 0, .slice none 0 0, .slice none 0 0, .slice none 0 0, .slice none 0 0, .slice none 0 0, .slice none 0 0, .slice none 0 0] vs rfl rfl hi' hl hone) ?_) | (refine opIn_value1 rfl rfl (run_load_mid 49 (.tmp 11) rfl B 1 rfl (hc h) _ hH Try.underlying49 rfl info49) ?_))
  obtain ⟨W2, hW2⟩ : ∃ W2, W1.alloc (.cells vs.toArray 62) = W2 := ⟨_, rfl⟩
  have hN2 : New W W2 := by rw [← hW2]; exact hN1.alloc _
  have hR2 : W2.heap[W1.heap.size]? = some (.cells vs.toArray 62 (0, 0)) := by rw [← hW2]; exact World.alloc_heap_new W1 _
  have hown2 : ∀ u, u < 8 → W2.ownsRow W.heap.size 3 1 (vs.getD u undef) (rowsF x u).length ((rowsF x u).map (Value.int .i64)) := fun u hu => by rw [← hW2]; exact (hown u hu).alloc _
  have hsz1 := hN1.size
  obtain ⟨R, hR⟩ : ∃ R, W1.heap.size = R := ⟨_, rfl⟩
  rw [hW2] at hB1 ⊢
  rw [hR] at hR2 hsz1 ⊢
  have hJ2 : J 0 W2 := hJ 0 W W2 h0 hN2
  have HM2 : Mods S W W2 := .ofNew hN2
  have hSR : ¬ S R := fun hs => by have := hS R hs; omega
  clear hW2 hR hown hH c0 HRo h0 hone hi' hN1 hB
  gi_loopw [13] (fun c wr => ∃ u : Nat, u ≤ 8 ∧ c = .int .i64 u ∧ J (allTo (rowsF x) h u).length wr ∧ Mods S W2 wr) (fun c _ => 8 - (intOf c).toNat)
  case atStart => exact ⟨0, by omega, rfl, hJ2, Mods.refl _ _⟩
  case round =>
    clear hJ2
    obtain ⟨u, hu, rfl, hJu, hM⟩ := hrel
    by_cases hu8 : u < 8
    · have hi := hc_idx h u hu8
      have hud : decide ((u : Int) < 8) = true := by simp; omega
      have hrow : wr.cell? ⟨R, u, none⟩ = some (vs.getD u undef) := by
        rw [cell_of_row wr R u _ 62 _ (hM.heap hR2 hSR), List.getElem?_toArray]
        simp [List.getD, show u < vs.length by omega]
      have hown := ReadsI.ofOwns (hown2 u hu8)
      have hbl : Hid (∀ g, (vs.getD u undef).ownBlock = some g → ¬ S g) := Lib.hid (fun g hg hs => by
        have := (hown2 u hu8).lt g hg
        have := hS g hs
        omega)
      obtain ⟨hlen, ao, cap, hv, hcl⟩ := hown
      rw [hv] at hrow hbl
      have Hat := Lib.hid (fun k (hk : k < (rowsF x u).length) => allT_row x h hu8 hk)
      have Hah := Lib.hid (fun (h0 : 0 ≤ h u) => allT_held x h hu8 h0)
      have Hln := Lib.hid (allTo_len (rowsF x) h u)
      have Hle := Lib.hid (allTo_le (rowsF x) h (show u + 1 ≤ 8 by omega))
      have Hhl : Hid (heldAt h u = if 0 ≤ h u then [(h u, u)] else []) := Lib.hid rfl
      obtain ⟨n, hn⟩ : ∃ n, (rowsF x u).length = n := ⟨_, rfl⟩
      rw [hn] at hlen hcl Hat Hln hv hrow hbl
      have Hc := Lib.hid hcl
      have HM := Lib.hid hM
      have HM2 := Lib.hid HM2
      have Hn := Lib.hid hn
      clear hn hcl hv hM hown2
      obtain ⟨z, hz⟩ : ∃ z, h u = z := ⟨_, rfl⟩
      rw [hz] at hi Hah Hhl
      clear hz
      obtain ⟨p, hp⟩ : ∃ p, (allTo (rowsF x) h u).length = p := ⟨_, rfl⟩
      rw [hp] at hJu Hat Hah Hln
      obtain ⟨q, hq⟩ : ∃ q, (heldAt h u).length = q := ⟨_, rfl⟩
      rw [hq] at Hat Hln
      have Hq : Hid (q = if 0 ≤ z then 1 else 0) := Lib.hid (by rw [← hq, Hhl.out]; split <;> rfl)
      clear hp hq Hhl
      by_cases h0 : 0 ≤ z
      · have hz0 : decide (0 ≤ z) = true := decide_eq_true h0
        obtain rfl : q = 1 := by rw [Hq.out, if_pos h0]
        obtain ⟨fn, tmps, assign, body, hy, hR⟩ := hY _ _ wr (by rw [List.getElem?_map, Hah.out h0]; rfl) hJu (HM2.out.trans HM.out)
        dsimp only [encA] at hy
        have HY := Lib.hid hY
        clear hY
        gi_wp2
        refine ⟨rfl, hR.mono ?_⟩
        rintro e W3 (⟨rfl, hJ3, hm3⟩ | ⟨rfl, hJx3⟩)
        · have hMM := HM.out.trans hm3
          replace hrow := hm3.cell hrow hSR
          clear hy hR HM hm3 hJu
          obtain ⟨wo, hwo⟩ : ∃ wo, W3 = wo := ⟨_, rfl⟩
          rw [hwo] at hJ3 hMM hrow ⊢
          clear hwo W3 wr
          have HMM := Lib.hid hMM
          clear hMM
          gi_wp2_with fail
          gi_loopw [30] (fun c wi => ∃ k : Nat, k ≤ n ∧ c = .int .i64 k ∧ J (p + 1 + k) wi ∧ Mods S wo wi) (fun c _ => n - (intOf c).toNat)
          case atStart => exact ⟨0, by omega, rfl, hJ3, Mods.refl _ _⟩
          case round =>
            clear hJ3
            obtain ⟨k, hk, rfl, hJk, hMk⟩ := hrel
            by_cases hkn : k < n
            · obtain ⟨b1, o1, rfl, h1⟩ := Hc.out k hkn
              have hMM := HMM.out.trans hMk
              have h1 := hMM.cell h1 (hbl.out b1 rfl)
              obtain ⟨fn, tmps, assign, body, hy, hR⟩ := HY.out _ _ wr (by rw [List.getElem?_map, Hat.out k hkn]; rfl) hJk (HM2.out.trans hMM)
              dsimp only [encA] at hy
              obtain ⟨y, hy2⟩ : ∃ z, (rowsF x u).getD k 0 = z := ⟨_, rfl⟩
              rw [hy2] at h1 hy
              clear hy2 hMM
              gi_wp2
              refine ⟨rfl, hR.mono ?_⟩
              rintro e W3 (⟨rfl, hJ3, hm3⟩ | ⟨rfl, hJx3⟩)
              · gi_wp2
                go_roundw
                case rel => exact ⟨k + 1, by omega, by go_num, by rw [← Nat.add_assoc]; exact hJ3, hMk.trans hm3⟩
                case measure => simp [intOf]; omega
              · gi_wp2
                refine bodyPost_ret (results_none rfl _ _ _) rfl ?_
                exact ⟨⟨_, rfl⟩, .inr ⟨p + 1 + k + 1, by rw [List.length_map]; have := Hle.out; rw [Hln.out] at this; show _ ≤ (allTo (rowsF x) h 8).length; omega, hJx3⟩⟩
            · obtain rfl : k = n := by omega
              gi_wp2_with fail
              go_roundw
              case rel => exact ⟨u + 1, by omega, by go_num, by rw [Hln.out]; exact hJk, HMM.out.trans hMk⟩
              case measure => simp [intOf]; omega
        · gi_wp2
          refine bodyPost_ret (results_none rfl _ _ _) rfl ?_
          exact ⟨⟨_, rfl⟩, .inr ⟨p + 1, by rw [List.length_map]; have := Hle.out; rw [Hln.out] at this; show _ ≤ (allTo (rowsF x) h 8).length; omega, hJx3⟩⟩
      · have hz0 : decide (0 ≤ z) = false := decide_eq_false h0
        obtain rfl : q = 0 := by rw [Hq.out, if_neg h0]
        have HY := Lib.hid hY
        clear hY
        have hMM := HM.out
        have hJ3 := hJu
        obtain ⟨wo, hwo⟩ : ∃ wo, wr = wo := ⟨_, rfl⟩
        rw [hwo] at hJ3 hMM hrow ⊢
        clear HM hJu hwo wr
        have HMM := Lib.hid hMM
        clear hMM
        gi_wp2_with (with_reducible refine ⟨fun f hf => (by cases hf), ?_⟩)
        gi_loopw [30] (fun c wi => ∃ k : Nat, k ≤ n ∧ c = .int .i64 k ∧ J (p + 0 + k) wi ∧ Mods S wo wi) (fun c _ => n - (intOf c).toNat)
        case atStart => exact ⟨0, by omega, rfl, hJ3, Mods.refl _ _⟩
        case round =>
          clear hJ3
          obtain ⟨k, hk, rfl, hJk, hMk⟩ := hrel
          by_cases hkn : k < n
          · obtain ⟨b1, o1, rfl, h1⟩ := Hc.out k hkn
            have hMM := HMM.out.trans hMk
            have h1 := hMM.cell h1 (hbl.out b1 rfl)
            obtain ⟨fn, tmps, assign, body, hy, hR⟩ := HY.out _ _ wr (by rw [List.getElem?_map, Hat.out k hkn]; rfl) hJk (HM2.out.trans hMM)
            dsimp only [encA] at hy
            obtain ⟨y, hy2⟩ : ∃ z, (rowsF x u).getD k 0 = z := ⟨_, rfl⟩
            rw [hy2] at h1 hy
            clear hy2 hMM
            gi_wp2
            refine ⟨rfl, hR.mono ?_⟩
            rintro e W3 (⟨rfl, hJ3, hm3⟩ | ⟨rfl, hJx3⟩)
            · gi_wp2
              go_roundw
              case rel => exact ⟨k + 1, by omega, by go_num, by rw [← Nat.add_assoc]; exact hJ3, hMk.trans hm3⟩
              case measure => simp [intOf]; omega
            · gi_wp2
              refine bodyPost_ret (results_none rfl _ _ _) rfl ?_
              exact ⟨⟨_, rfl⟩, .inr ⟨p + 0 + k + 1, by rw [List.length_map]; have := Hle.out; rw [Hln.out] at this; show _ ≤ (allTo (rowsF x) h 8).length; omega, hJx3⟩⟩
          · obtain rfl : k = n := by omega
            gi_wp2_with fail
            go_roundw
            case rel => exact ⟨u + 1, by omega, by go_num, by rw [Hln.out]; exact hJk, HMM.out.trans hMk⟩
            case measure => simp [intOf]; omega
    · gi_wp2_with fail
      go_end0
      obtain rfl : u = 8 := by omega
      exact ⟨⟨_, rfl⟩, .inl (by rw [List.length_map]; exact hJu)⟩
end Go.Proofs.Ytkjloeefcaadlaa
