/- A queue, drained. -/
import Derived.Test.YtkjloeefcaadlaaQ2
import Derived.Test.YtkjloeefcaadlaaQB
import Derived.Test.YtkjloeefcaadlaaE4
namespace Go.Proofs.Ytkjloeefcaadlaa
open Go.RowKit Go.Shelf Go.Cs
attribute [local go_sem] Oper.semAt_some
def enc1 (p : Nat × Nat) : Array Value := #[.int .i64 (p.1 : Nat)]
theorem okL_tail {p : Nat × Nat} {l : List (Nat × Nat)} (h : OkL (p :: l)) : OkL l := ⟨fun q hq => h.inn q (by simp [hq]), (List.pairwise_cons.1 h.pair).2⟩
/-- How many a queue's word tells. -/
def left (Q : Nat) (W : World) : Nat := match W.cell? ⟨Q, 0, none⟩ with
  | some (.int _ z) => z.toNat / 2 ^ 60
  | _ => 0
theorem left_enc {Q : Nat} {W : World} {l : List (Nat × Nat)} (h : OkL l) (hQ : Boxed W Q 121 (.int .u64 (enc l))) : left Q W = l.length := by
  unfold left
  rw [hQ.cell]
  dsimp only
  rw [Int.toNat_natCast, enc_div h.inn h.len]
theorem taken_iter (B Q : Nat) (S : Nat → Prop) (hSQ : ¬ S Q) (hSB : ¬ S B) (hBQ : B ≠ Q) (l : List (Nat × Nat)) (hok : OkL l) (W : World) (hB : Boxed W B 25 (.pointer (some ⟨Q, 0, none⟩))) (hQ : Boxed W Q 121 (.int .u64 (enc l))) :
    IterAtT Try.prog 137 [.pointer (some ⟨B, 0, none⟩)].toArray (l.map enc1) S (fun b => b = Q) (fun W' => Boxed W' Q 121 (.int .u64 (enc []))) W := by
  intro lp J Jx hJ hJx hY h0
  refine (callsIn_wide (n := 0)).1 (callsIn_of_wp Try.func137 rfl trivial ?_ rfl)
  simp only [Try.ntmps137, List.size_toArray, List.length_cons, List.length_nil, Nat.reduceAdd, Nat.reduceSub, Array.replicate_succ, Array.replicate_zero, List.push_toArray, List.append_toArray, List.nil_append, List.cons_append]
  have Hok := Lib.hid hok
  have HB := Lib.hid hB
  have HQ := Lib.hid hQ
  clear hok hB hQ
  gi_wp2_with fail
  gi_loopw [3] (fun _ wr => ∃ k : Nat, k ≤ l.length ∧ J k wr ∧ Hid (Boxed wr B 25 (.pointer (some ⟨Q, 0, none⟩))) ∧ Hid (Boxed wr Q 121 (.int .u64 (enc (l.drop k)))) ∧ Mods (fun b => S b ∨ b = Q) W wr) (fun _ wr => left Q wr)
  case atStart => exact ⟨0, by omega, h0, HB.out, HQ.out, Mods.refl _ _⟩
  case round =>
    obtain ⟨k, hk, hJk, hBb, hQb, hM⟩ := hrel
    have cB := hBb.out.cell
    have hdok : OkL (l.drop k) := ⟨fun p hp => Hok.out.inn p (List.mem_of_mem_drop hp), Hok.out.pair.sublist (List.drop_sublist k l)⟩
    have hlt := enc_lt hdok
    have HBest := Lib.hid (best_q Q (enc (l.drop k)) wr hQb.out hlt)
    cases hd : l.drop k with
    | nil =>
      have hkl : k = l.length := by have := List.drop_eq_nil_iff.1 hd; omega
      rw [hd, best_enc_nil] at HBest
      rw [hd] at hQb
      clear hdok hlt hd
      gi_wp2_with fail
      refine at_round HBest.out ?_
      rintro e w1 ⟨rfl, hM1, hQ1⟩
      have hJ1 := hJ _ _ _ hJk hM1
      have HE := Lib.hid hQ1
      clear hJ hJx hY hM1 hQ1
      gi_wp2_with fail
      refine ⟨fun f hf => (by cases hf), ?_⟩
      gi_wp2_with fail
      refine bodyPost_ret (results_none rfl _ _ _) rfl ?_
      exact ⟨⟨_, rfl⟩, .inl ⟨by rw [List.length_map, ← hkl]; exact hJ1, HE.out⟩⟩
    | cons p t =>
      have hkl : k < l.length := by rcases Nat.lt_or_ge k l.length with h | h; exact h; rw [List.drop_eq_nil_of_le h] at hd; cases hd
      have hp : l[k]? = some p := by have := List.getElem?_drop (xs := l) (i := k) (j := 0); rw [hd] at this; simpa using this.symm
      have ht : l.drop (k + 1) = t := by rw [← List.drop_drop, hd]; rfl
      rw [hd] at hdok HBest hQb
      rw [best_enc_cons hdok] at HBest
      have hp8 := (hdok.inn p (by simp)).1
      have hmeas := Lib.hid (left_enc hdok hQb.out)
      have hot := Lib.hid (okL_tail hdok)
      have hQlt := boxed_lt hQb.out
      have hBlt := boxed_lt hBb.out
      clear hlt hd
      gi_wp2_with fail
      refine at_round HBest.out ?_
      rintro e w1 ⟨rfl, hM1, hQ1⟩
      have hJ1 := hJ _ _ _ hJk hM1
      have hB1 := Lib.hid (hM1.boxed hBb.out hBQ)
      have hMM := hM.trans (hM1.mono fun _ h => .inr h)
      obtain ⟨fn, tmps, assign, body, hy, hR⟩ := hY k _ w1 (by rw [List.getElem?_map, hp]; rfl) hJ1 hMM
      have hQ1' := Lib.hid hQ1
      have HMM := Lib.hid hMM
      clear hY hM1 hQ1 hMM hM hBb hQb
      dsimp only [enc1] at hy
      gi_wp2
      refine ⟨rfl, hR.mono ?_⟩
      rintro e W3 (⟨rfl, hJ3, hm3⟩ | ⟨rfl, hJx3⟩)
      · gi_wp2
        go_roundw
        case rel => exact ⟨k + 1, by omega, hJ3, hm3.boxed hB1.out hSB, by rw [ht]; exact hm3.boxed hQ1'.out hSQ, HMM.out.trans (hm3.mono fun _ h => .inl h)⟩
        case measure =>
          have h1 := left_enc hot.out (hm3.boxed hQ1'.out hSQ)
          have h2 := hmeas.out
          rw [h1, h2]
          simp
      · gi_wp2
        refine bodyPost_ret (results_none rfl _ _ _) rfl ?_
        exact ⟨⟨_, rfl⟩, .inr ⟨k + 1, by rw [List.length_map]; omega, hJx3⟩⟩
end Go.Proofs.Ytkjloeefcaadlaa
