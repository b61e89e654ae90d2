/- Rows as arguments: who is in them, one by one; which rows may be. -/
import Derived.Test.YtcelhdlppimfbaaProg
import Derived.Test.YtcelhdlppimfbaaArr
import Derived.Test.YtcelhdlppimfbaaReg
import Derived.Shelf.Abstract
import Derived.Shelf.RegionOpen
import Derived.OwnWalkIn
import Derived.TacticsInMore
import Derived.LoopNIn
import Derived.LoopIn
import Derived.WalkSpells
import Derived.Lib.Hide
import Derived.WalkLawsBesides
import Derived.Test.YtcelhdlppimfbaaNum
namespace Go.Proofs.Ytcelhdlppimfbaa
open Go.RowKit Go.Shelf Go.Cs
attribute [local go_sem] Oper.semAt_some
theorem info23 : (Try.prog.info? 23).map (·.size) = some 8 := by kernel_rfl
theorem info3 : (Try.prog.info? 3).map (fun i => (i.zero, i.size, i.bytes)) = some (some (.int .i64 0), 1, 8) := by kernel_rfl
theorem mset {W0 W : World} {B o : Nat} (h : Mods (fun b => b = B) W0 W) (v : Value) : Mods (fun b => b = B) W0 (W.setCell ⟨B, o, none⟩ v) := h.setCell (p := ⟨B, o, none⟩) (.inr rfl) v
/-- Eight slices that read as rows of numbers. -/
def Rd (W : World) (vs : List Value) (X : Nat → List Int) : Prop := ∀ u, u < 8 → ReadsI .i64 W (vs.getD u undef) (X u)
theorem Rd.new {W W' : World} {vs : List Value} {X : Nat → List Int} (h : Rd W vs X) (hN : New W W') : Rd W' vs X := fun u hu => (h u hu).new hN
theorem readsI_kept {k : IntKind} {W W' : World} {v : Value} {xs : List Int} (h : ReadsI k W v xs) {S : Nat → Prop} (hm : Mods S W W') (hS : xs ≠ [] → ∀ g, v.ownBlock = some g → ¬ S g) : ReadsI k W' v xs := by
  obtain ⟨hl, ao, cap, rfl, hc⟩ := h
  refine ⟨hl, ao, cap, rfl, fun i hi => ?_⟩
  obtain ⟨b, o, rfl, h⟩ := hc i hi
  exact ⟨b, o, rfl, hm.cell h (hS (by rintro rfl; simp at hi) b rfl)⟩
theorem Rd.kept {W W' : World} {vs : List Value} {X : Nat → List Int} {S : Nat → Prop} (h : Rd W vs X) (hm : Mods S W W') (hS : ∀ u, u < 8 → X u ≠ [] → ∀ g, (vs.getD u undef).ownBlock = some g → ¬ S g) : Rd W' vs X := fun u hu => readsI_kept (h u hu) hm (hS u hu)
theorem readsI_block {k : IntKind} {W : World} {v : Value} {xs : List Int} (h : ReadsI k W v xs) (hx : xs ≠ []) {g : Nat} (hg : v.ownBlock = some g) : g < W.heap.size := by
  obtain ⟨_, ao, cap, rfl, hc⟩ := h
  obtain ⟨b, o, rfl, hcell⟩ := hc 0 (List.length_pos_iff.2 hx)
  simp only [Value.ownBlock, Option.some.injEq] at hg
  subst hg
  obtain ⟨o, ho, _⟩ := cells_of_cell hcell
  exact (Array.getElem?_eq_some_iff.1 ho).1
theorem Rd.block {W : World} {vs : List Value} {X : Nat → List Int} (h : Rd W vs X) {u : Nat} (hu : u < 8) (hx : X u ≠ []) {g : Nat} (hg : (vs.getD u undef).ownBlock = some g) : g < W.heap.size := readsI_block (h u hu) hx hg
/-- All slots, row by row, with their urgencies; those of the first rows. -/
def flatTo (X : Nat → List Int) : Nat → List (Nat × Int)
  | 0 => []
  | u + 1 => flatTo X u ++ (X u).map fun n => (u, n)
def flat (X : Nat → List Int) : List (Nat × Int) := flatTo X 8
theorem flatTo_split (X : Nat → List Int) (u : Nat) : ∀ v, u ≤ v → ∃ t, flatTo X v = flatTo X u ++ t
  | 0, h => ⟨[], by obtain rfl : u = 0 := by omega
                    rfl⟩
  | v + 1, h => by
    by_cases e : u = v + 1
    · exact ⟨[], by rw [e]; simp⟩
    · obtain ⟨t, ht⟩ := flatTo_split X u v (by omega)
      exact ⟨t ++ (X v).map fun n => (v, n), by rw [flatTo, ht, List.append_assoc]⟩
theorem flat_at (X : Nat → List Int) {u k : Nat} (hu : u < 8) (hk : k < (X u).length) : (flat X)[(flatTo X u).length + k]? = some (u, (X u).getD k 0) := by
  obtain ⟨t, ht⟩ := flatTo_split X (u + 1) 8 (by omega)
  unfold flat
  rw [ht, flatTo, List.append_assoc, List.getElem?_append_right (by omega), List.getElem?_append_left (by simp; omega)]
  simp [List.getD, hk]
theorem flatTo_len (X : Nat → List Int) (u : Nat) : (flatTo X (u + 1)).length = (flatTo X u).length + (X u).length := by simp [flatTo]
theorem flatTo_le (X : Nat → List Int) {u v : Nat} (h : u ≤ v) : (flatTo X u).length ≤ (flatTo X v).length := by
  obtain ⟨t, ht⟩ := flatTo_split X u v h
  rw [ht]; simp
def encR (p : Nat × Int) : Array Value := #[.int .i64 p.1, .int .i64 p.2]
theorem idx23 (vs : List Value) (hl : vs.length = 8) (u : Nat) (hu : u < 8) (w : World) : (Instr.index 23 (.agg vs.toArray) (.int .i64 (u : Int))).run Try.prog w = .ok (vs.getD u undef) w :=
  run_index_arr Try.underlying23 Try.underlying22 rfl (by kernel_rfl) hu (by simp [List.getD, show u < vs.length by omega]) w
theorem eight8 {l : List Value} (h : l.length = 8) : ∃ v0 v1 v2 v3 v4 v5 v6 v7, l = [v0, v1, v2, v3, v4, v5, v6, v7] := by
  match l, h with
  | [v0, v1, v2, v3, v4, v5, v6, v7], _ => exact ⟨v0, v1, v2, v3, v4, v5, v6, v7, rfl⟩
theorem opIn_value1 {r : Option Nat} {ops : Array Oper} {Q : Exit → Act → World → Prop} {rest : List Oper} {o : Oper} {a : Act} {w w' : World} {v : Value} (hp : plainOp o = true) (hg : o.guard = none) (hr : (execOp a.eval o).run Try.prog w = .ok (.value v) w') (h : wpListIn (Fr r) 0 Try.prog ops Q rest (a.put o.dst v) w') : wpListIn (Fr r) 0 Try.prog ops Q (o :: rest) a w := by
  simp only [wpListIn, Region.wanted, hg, if_true, Oper.wpIn, semAt_plain hp, hr]
  exact ⟨fun _ _ => trivial, h⟩
set_option maxHeartbeats 1000000 in
theorem each1_iter (B : Nat) (vs : List Value) (hl : vs.length = 8) (X : Nat → List Int) (S : Nat → Prop) (hS : ∀ u, u < 8 → X u ≠ [] → ∀ g, (vs.getD u undef).ownBlock = some g → ¬ S g) (W : World) (hB : W.heap[B]? = some (.cells vs.toArray 23 (0, 0))) (hr : Rd W vs X) :
    IterAt Try.prog 30 [.pointer (some ⟨B, 0, none⟩)].toArray ((flat X).map encR) S W := by
  intro l J Jx hJ hJx hY h0
  refine (callsIn_wide (n := 0)).1 (callsIn_of_wp Try.func30 rfl trivial ?_ rfl)
  simp only [Try.ntmps30, List.size_toArray, List.length_cons, List.length_nil, Nat.reduceAdd, Nat.reduceSub, Array.replicate_succ, Array.replicate_zero, List.push_toArray, List.append_toArray, List.nil_append, List.cons_append]
  have hi' : (Try.prog.info? 23).map (·.size) = some vs.toArray.size := by rw [List.size_toArray, hl]; exact info23
  gi_wp2_with (refine opIn_value1 rfl rfl (run_load_row 23 (.tmp 1) rfl B rfl 23 vs.toArray (0, 0) _ hB Try.underlying23 rfl hi') ?_)
  clear hi'
  gi_loopw [8] (fun c wr => ∃ u : Nat, u ≤ 8 ∧ c = .int .i64 u ∧ J (flatTo X u).length wr ∧ Mods S W wr) (fun c _ => 8 - (intOf c).toNat)
  case atStart => exact ⟨0, by omega, rfl, h0, Mods.refl _ _⟩
  case round =>
    obtain ⟨u, hu, rfl, hJu, hM⟩ := hrel
    by_cases hu8 : u < 8
    · have hi := idx23 vs hl u hu8
      obtain ⟨hlen, ao, cap, hv, hc⟩ := hr u hu8
      rw [hv] at hi
      have hSu := hS u hu8
      rw [hv] at hSu
      have Hat := Lib.hid (fun k (hk : k < (X u).length) => flat_at X hu8 hk)
      have Hln := Lib.hid (flatTo_len X u)
      have Hle := Lib.hid (flatTo_le X (show u + 1 ≤ 8 by omega))
      obtain ⟨n, hn⟩ : ∃ n, (X u).length = n := ⟨_, rfl⟩
      rw [hn] at hlen hi hc Hat Hln hv
      have Hc := Lib.hid hc
      have Hn := Lib.hid hn
      have HSu := Lib.hid hSu
      have HM := Lib.hid hM
      have hud : decide ((u : Int) < 8) = true := by simp; omega
      clear hn hc hv hSu hM
      gi_wp2_with fail
      obtain ⟨wo, hwo⟩ : ∃ wo, wr = wo := ⟨_, rfl⟩
      rw [hwo] at hJu HM ⊢
      clear hwo wr
      gi_loopw [14] (fun c wi => ∃ k : Nat, k ≤ n ∧ c = .int .i64 k ∧ J ((flatTo X u).length + k) wi ∧ Mods S wo wi) (fun c _ => n - (intOf c).toNat)
      case atStart => exact ⟨0, by omega, rfl, hJu, Mods.refl _ _⟩
      case round =>
        obtain ⟨k, hk, rfl, hJk, hMk⟩ := hrel
        by_cases hkn : k < n
        · obtain ⟨b1, o1, rfl, h1⟩ := Hc.out k hkn
          have hMM := HM.out.trans hMk
          have h1 := hMM.cell h1 (HSu.out (by intro e; rw [e] at Hn; have := Hn.out; simp at this; omega) b1 rfl)
          obtain ⟨fn, tmps, assign, body, hy, hR⟩ := hY _ _ wr (by rw [List.getElem?_map, Hat.out k hkn]; rfl) hJk hMM
          clear hY
          dsimp only [encR] at hy
          obtain ⟨z, hz⟩ : ∃ z, (X u).getD k 0 = z := ⟨_, rfl⟩
          rw [hz] at h1 hy
          clear hz hMM
          gi_wp2
          refine ⟨rfl, hR.mono ?_⟩
          rintro e W3 (⟨rfl, hJ3, hm3⟩ | ⟨rfl, hJx3⟩)
          · gi_wp2
            go_roundw
            case rel => exact ⟨k + 1, by omega, by go_num, by rw [← Nat.add_assoc]; exact hJ3, hMk.trans hm3⟩
            case measure => simp [intOf]; omega
          · gi_wp2
            refine bodyPost_ret (results_none rfl _ _ _) rfl ?_
            exact ⟨⟨_, rfl⟩, .inr ⟨(flatTo X u).length + k + 1, by rw [List.length_map]; have := Hle.out; rw [Hln.out] at this; show _ ≤ (flatTo X 8).length; omega, hJx3⟩⟩
        · obtain rfl : k = n := by omega
          gi_wp2_with fail
          go_roundw
          case rel => exact ⟨u + 1, by omega, by go_num, by rw [Hln.out]; exact hJk, HM.out.trans hMk⟩
          case measure => simp [intOf]; omega
    · gi_wp2_with fail
      go_end0
      obtain rfl : u = 8 := by omega
      exact ⟨⟨_, rfl⟩, .inl (by rw [List.length_map]; exact hJu)⟩
end Go.Proofs.Ytcelhdlppimfbaa
