/- The document's rows of a word. -/
import Derived.Test.YtkjloeefcaadlaaV3
import Derived.Test.YtkjloeefcaadlaaTP1
import Derived.Test.YtkjloeefcaadlaaTU5
import Derived.Deep.CutRange
namespace Go.Proofs.Ytkjloeefcaadlaa
open Go.RowKit Go.Shelf Go.Cs
attribute [local go_sem] Oper.semAt_some
/-- An append to a row of the call's own, at a plain region's operation. -/
theorem op_append {P : Program} {ops : Array Oper} {Q : Exit → Act → World → Prop} {rest : List Oper} {base : Nat} {s x : Operand} {t e : TypeId} {i : TypeInfo} {z : Value} {size bytes : Nat} {o : Oper} {a : Act} {w : World} (hgd : o.guard = none)
    (hop : o.op = .call { callee := .builtin .append, args := #[s, x], argTypes := #[t, t] })
    (ht : P.underlying t = some (.slice e)) (hi : P.info? e = some i) (hz : i.zero = some z) (hsize : i.size = size) (hby : i.bytes = bytes) (hzs : z.cells.size = size) (hsz : 0 < size)
    (v : Value) (n : Nat) (xs : List Value) (hs : a.eval s = v) (hown : w.ownsRow base e size v n xs)
    (ad : Addr) (m c : Nat) (news : List Value) (hx : a.eval x = .slice (some ad) m c) (hl : news.length = m * size) (hnews : ∀ j u, news[j]? = some u → w.cell? (ad.add j) = some u) (h1 : ∀ u ∈ news, u.oneCell' = true)
    (h63 : n + m ≤ maxLen) (hbytes : (n + m) * bytes ≤ 140737488355328) (hbase : base ≤ w.heap.size) (hm : m ≠ 0)
    (hK : ∀ v' w', w'.ownsRow base e size v' (n + m) (xs ++ news) → w.grownBy w' v.ownBlock → (v'.ownBlock = v.ownBlock ∨ v'.ownBlock = some w.heap.size) → wpList P ops Q rest (a.put o.dst v') w') : wpList P ops Q (o :: rest) a w := by
  obtain ⟨v', w', hr, h2, h3, h4⟩ := run_append (P := P) hop ht hi hz hsize hby hzs hsz v n xs hs hown ad m c news hx hl hnews h1 h63 hbytes hbase hm
  exact op_value hgd hr (hK v' w' h2 h3 h4)
theorem rowL_succ {l : List (Nat × Nat)} {k : Nat} (hk : k < l.length) : rowL (l.take (k + 1)) = fun u => if u = (l.getD k (0, 0)).2 then rowL (l.take k) (l.getD k (0, 0)).2 ++ [((l.getD k (0, 0)).1 : Int)] else rowL (l.take k) u := by
  have e : l.getD k (0, 0) = l[k] := by simp [List.getD, hk]
  rw [e, List.take_succ_eq_append_getElem hk]
  funext u
  unfold rowL
  rw [List.filter_append]
  split
  · rename_i h; subst h; simp
  · rename_i h; simp [Ne.symm h]
theorem rowL_len (l : List (Nat × Nat)) (u : Nat) : (rowL l u).length ≤ l.length := by
  unfold rowL
  rw [List.length_map]
  exact List.length_filter_le _ _
theorem info62' : (Try.prog.info? 62).map (·.size) = some 8 := by kernel_rfl
set_option maxRecDepth 100000 in
set_option maxHeartbeats 2000000 in
theorem rows_ref {l : List (Nat × Nat)} (h : OkL l) (w : World) : Calls Try.prog 41 #[.int .u64 (enc l)] w (Ret8 w 3 (rowL l)) := by
  have HM := Lib.hid (fun w => many_ref h w)
  have HA := Lib.hid (fun k w => at_ref h k w)
  have h8 := h.len
  have Hin := Lib.hid h.inn
  obtain ⟨x, hx⟩ : ∃ x, enc l = x := ⟨_, rfl⟩
  rw [hx] at HM HA ⊢
  obtain ⟨n, hn⟩ : ∃ n, l.length = n := ⟨_, rfl⟩
  have Hn := Lib.hid hn
  rw [hn] at HM h8
  clear h hx hn
  obtain ⟨i0, hi, hz0, hz1, hz2⟩ := info_parts info3
  go_enter Try.func41, Try.ntmps41
  go_upto_region 2 with fail
  obtain ⟨W0, hW0⟩ : ∃ W0, (w.alloc (.cells #[.slice none 0 0, .slice none 0 0, .slice none 0 0, .slice none 0 0, .slice none 0 0, .slice none 0 0, .slice none 0 0, .slice none 0 0] 62)).alloc (.cells #[.slice none 0 0, .slice none 0 0, .slice none 0 0, .slice none 0 0, .slice none 0 0, .slice none 0 0, .slice none 0 0, .slice none 0 0] 62) = W0 := ⟨_, rfl⟩
  have hN0 : New w W0 := by rw [← hW0]; exact ((Mods.refl _ _).alloc _).alloc _
  have hsz : w.heap.size + 2 ≤ W0.heap.size := by rw [← hW0]; simp
  have hR0 : W0.heap[w.heap.size]? = some (.cells #[.slice none 0 0, .slice none 0 0, .slice none 0 0, .slice none 0 0, .slice none 0 0, .slice none 0 0, .slice none 0 0, .slice none 0 0] 62 (0, 0)) := by rw [← hW0]; exact ((Mods.refl (fun _ => False) _).alloc _).heap (World.alloc_heap_new w _) id
  have hO0 : W0.heap[w.heap.size + 1]? = some (.cells #[.slice none 0 0, .slice none 0 0, .slice none 0 0, .slice none 0 0, .slice none 0 0, .slice none 0 0, .slice none 0 0, .slice none 0 0] 62 (0, 0)) := by
    rw [← hW0]
    have := World.alloc_heap_new (w.alloc (.cells #[.slice none 0 0, .slice none 0 0, .slice none 0 0, .slice none 0 0, .slice none 0 0, .slice none 0 0, .slice none 0 0, .slice none 0 0] 62)) (.cells #[.slice none 0 0, .slice none 0 0, .slice none 0 0, .slice none 0 0, .slice none 0 0, .slice none 0 0, .slice none 0 0, .slice none 0 0] 62)
    rw [World.size_alloc] at this
    exact this
  rw [hW0]
  clear hW0
  have hOw : Own8 W0.heap.size (w.heap.size + 1) 62 3 (rowL (l.take 0)) W0 := Own8.nil _ _ _ _ _ hO0
  clear hO0
  go_wp2_with fail
  go_loopw [4, 5, 6, 7] (fun c _ _ _ wr => ∃ k : Nat, k ≤ n ∧ c = .int .i64 k ∧ Own8 W0.heap.size (w.heap.size + 1) 62 3 (rowL (l.take k)) wr ∧ Mods (fun b => b = w.heap.size + 1 ∨ W0.heap.size ≤ b) W0 wr) (fun c _ _ _ _ => n - (intOf c).toNat)
  case atStart => exact ⟨0, Nat.zero_le _, rfl, hOw, Mods.refl _ _⟩
  case round =>
    clear hOw
    obtain ⟨k, hk, rfl, hO, hM⟩ := hrel
    by_cases hlt : k < n
    · have hkl : k < l.length := by rw [Hn.out]; exact hlt
      have hat : atR l k = .tuple #[.int .i64 (l.getD k (0, 0)).1, .int .i64 (l.getD k (0, 0)).2, .bool true] := by unfold atR; rw [if_pos ⟨by omega, by omega⟩]; rfl
      have HAk := HA.out k
      rw [hat] at HAk
      have hin := Hin.out (l.getD k (0, 0)) (by simp [List.getD, hkl])
      have hX := rowL_succ hkl
      have hlen := Nat.le_trans (rowL_len (l.take k) (l.getD k (0, 0)).2) (List.length_take_le k l)
      obtain ⟨⟨s, u⟩, hp⟩ : ∃ p, l.getD k (0, 0) = p := ⟨_, rfl⟩
      rw [hp] at HAk hin hX hlen
      dsimp only at HAk hin hX hlen
      obtain ⟨hs8, hu8⟩ := hin
      have HAk := Lib.hid HAk
      clear hat hp hkl
      have hkd : decide ((k : Int) < (n : Int)) = true := decide_eq_true (by omega)
      go_wp2_with fail
      refine (HM.out _).mono ?_
      rintro e w1 ⟨rfl, hN1⟩
      go_wp2_with fail
      refine (HAk.out _).mono ?_
      rintro e w2 ⟨rfl, hN2⟩
      have hN12 := hN1.trans hN2
      have hO2 := hO.kept hN12 id (fun _ _ => id)
      have hM2 := hM.trans (Mods.ofNew hN12)
      have hszW := hM2.size
      obtain ⟨v, hv, hf, hown, hstep⟩ := hO2.row u hu8
      clear hO hM hN1 hN2 hN12
      go_wp2_with (refine op_append (base := W0.heap.size) (e := 3) rfl rfl Try.underlying44 hi hz0 hz1 hz2 rfl (by decide) v _ _ rfl (hown.alloc _) ⟨w2.heap.size, 0, none⟩ 1 1 [.int .i64 s] rfl rfl (cell_one_new _ _ _) (by simp [Value.oneCell']) (by unfold maxLen; omega) (by omega) (by simp; omega) (by decide) ?_)
      intro v' W2 hown2 hg2 hblk
      obtain ⟨hO3, hc3, hf3⟩ := hstep (w2.alloc (.cells #[.int .i64 s] 3)) W2 v' s (by simp) (fun k hk => Below.heap_alloc _ _ k hk) hg2 (by rw [World.size_alloc]; exact hblk) hown2 (by decide) (by omega)
      have hrow : ∀ b, v.ownBlock = some b → W0.heap.size ≤ b ∧ b < w2.heap.size := fun b hb => hown.lt b hb
      have hM3 : Mods (fun b => b = w.heap.size + 1 ∨ W0.heap.size ≤ b) w2 W2 := ((Mods.refl _ _).alloc _).grown hg2 (fun b hb => .inr ⟨.inr (hrow b hb).1, fun o ho => by
        rcases hown.2 with ⟨rfl, _⟩ | ⟨g, cap, cur, rfl, _, hh, _⟩
        · cases hb
        · cases hb
          rw [Below.heap_alloc _ _ _ (hrow _ rfl).2, hh] at ho
          cases ho; rfl⟩)
      obtain ⟨g', cap', rfl⟩ := ownsRow_succ hown2
      clear hown hown2 hg2 hblk hstep hv hf
      have HO3 : Hid (Own8 W0.heap.size (w.heap.size + 1) 62 3 (rowL (l.take (k + 1))) (W2.setCell ⟨w.heap.size + 1, u, none⟩ (.slice (some ⟨g', 0, none⟩) ((rowL (l.take k) u).length + 1) cap'))) := Lib.hid (by rw [hX]; exact hO3)
      have HMf := Lib.hid ((hM2.trans hM3).setCell (p := ⟨w.heap.size + 1, u, none⟩) (.inr (.inl rfl)) (.slice (some ⟨g', 0, none⟩) ((rowL (l.take k) u).length + 1) cap'))
      clear hO3 hM2 hM3 hX
      go_wp2_with fail
      go_roundw
      case rel => exact ⟨k + 1, by omega, by go_num, HO3.out, HMf.out⟩
      case measure => simp [intOf]; omega
    · obtain rfl : k = n := by omega
      have hkd : decide ((k : Int) < (k : Int)) = false := decide_eq_false (by omega)
      go_wp2_with fail
      refine (HM.out _).mono ?_
      rintro e w1 ⟨rfl, hN1⟩
      have hO1 := hO.kept hN1 id (fun _ _ => id)
      rw [List.take_of_length_le (by rw [Hn.out]; exact Nat.le_refl _)] at hO1
      obtain ⟨vs, hh, hvl, htold, hone⟩ := hO1.told
      have hi' : (Try.prog.info? 62).map (·.size) = some vs.length := by rw [hvl]; exact info62'
      have hi2 : (Try.prog.info? 62).map (·.size) = some vs.toArray.size := hi'
      have hM1 := hM.trans (Mods.ofNew hN1)
      have hR1 : w1.heap[w.heap.size]? = some (.cells #[.slice none 0 0, .slice none 0 0, .slice none 0 0, .slice none 0 0, .slice none 0 0, .slice none 0 0, .slice none 0 0, .slice none 0 0] 62 (0, 0)) := hM1.heap hR0 (by omega)
      have hres := setRow_heap w1 w.heap.size _ vs.toArray 62 (0, 0) hR1
      have hNf := ((Mods.ofNew hN0).trans hM1).new (fun b hb => by have := hN0.size; omega) |>.setRow (Nat.le_refl _) vs.toArray
      have HT : Hid (Told8 w.heap.size 3 (rowL l) (.agg vs.toArray) (w1.setRow w.heap.size vs.toArray)) := Lib.hid (by
        obtain ⟨vs', hv', hl', ho'⟩ := htold
        refine ⟨vs', hv', hl', fun u hu => ?_⟩
        have hm : Mods (fun b => b = w.heap.size) w1 (w1.setRow w.heap.size vs.toArray) := ⟨rfl, rfl, rfl, by simp [World.setRow], fun j o hj ho => by
          by_cases e : j = w.heap.size
          · subst e
            rcases ho with ho | ho
            · exact absurd rfl ho
            · rw [hR1] at hj; cases hj; cases ho
          · rw [← hj]; simp [World.setRow, Array.getElem?_modify, Ne.symm e]⟩
        have hlt := ho' u hu
        have := hm.ownsRow hlt (fun g hg e => by have := hlt.lt g hg; have := hN0.size; omega)
        exact ⟨this.1, this.2.imp id fun ⟨g, cap, cur, h1, h2, r⟩ => ⟨g, cap, cur, h1, by have := hN0.size; omega, r⟩⟩)
      clear hO hO1 htold hM hM1 hN1 hN0 hR0
      go_wp2_with (first | (refine op_value rfl (run_load_row 62 (.tmp 3) rfl (w.heap.size + 1) rfl 62 vs.toArray (0, 0) _ hh Try.underlying62 rfl hi2) ?_) | (refine op_skip rfl (run_store_row 62 (.tmp 2) (.tmp 29) rfl w.heap.size rfl 62 [.slice none 0 0, .slice none 0 0, .slice none 0 0, .slice none 0 0, .slice none 0 0, .slice none 0 0, .slice none 0 0, .slice none 0 0] vs rfl hR1 hi' hvl hone) ?_))
      refine bodyPost_ret (v := .agg vs.toArray) ?_ rfl ⟨_, rfl, HT.out, hNf⟩
      exact results_cell_row rfl _ _ w.heap.size 62 _ (0, 0) _ rfl hres Try.underlying62 rfl hi2
end Go.Proofs.Ytkjloeefcaadlaa
