/- The document's own drain. -/
import Derived.Test.YtkjloeefcaadlaaV8
namespace Go.Proofs.Ytkjloeefcaadlaa
open Go.RowKit Go.Shelf Go.Cs
attribute [local go_sem] Oper.semAt_some
theorem drop_ok {l : List (Nat × Nat)} (h : OkL l) (k : Nat) : OkL (l.drop k) := ⟨fun p hp => h.inn p (List.mem_of_mem_drop hp), h.pair.sublist (List.drop_sublist k l)⟩
set_option maxHeartbeats 1000000 in
theorem drain_ref {l : List (Nat × Nat)} (h : OkL l) (w : World) :
    Calls Try.prog 33 #[.int .u64 (enc l)] w fun e w' => ∃ v, e = .returned v ∧ w'.ownsRow w.heap.size 3 1 v (slots l).length ((slots l).map (Value.int .i64)) ∧ New w w' := by
  obtain ⟨i0, hi, hz0, hz1, hz2⟩ := info_parts info3
  have Hok := Lib.hid h
  have hlen := h.len
  obtain ⟨x0, hx0⟩ : ∃ x, enc l = x := ⟨_, rfl⟩
  have Hx0 := Lib.hid hx0
  rw [hx0]
  clear h hx0
  go_enter Try.func33, Try.ntmps33
  go_wp2_with fail
  go_loopw [0, 3] (fun x v wr => ∃ k : Nat, k ≤ l.length ∧ x = .int .u64 (enc (l.drop k)) ∧ wr.ownsRow w.heap.size 3 1 v k ((slots (l.take k)).map (Value.int .i64)) ∧ New w wr) (fun x _ _ => (intOf x).toNat / 2 ^ 60)
  case atStart => exact ⟨0, Nat.zero_le _, by rw [List.drop_zero, Hx0.out], World.ownsRow_nil _ _ _ _, Mods.refl _ _⟩
  case round =>
    obtain ⟨k, hk, rfl, hown, hN⟩ := hrel
    have hd := drop_ok Hok.out k
    have HB := Lib.hid (fun w => best_ref hd w)
    have hm := Lib.hid (enc_div hd.inn hd.len)
    cases hdk : l.drop k with
    | nil =>
      have hkl : k = l.length := by have := List.drop_eq_nil_iff.1 hdk; omega
      rw [hdk, best_enc_nil] at HB
      unfold trip' at HB
      obtain ⟨x, hx⟩ : ∃ x, enc [] = x := ⟨_, rfl⟩
      rw [hx] at HB ⊢
      have HO := Lib.hid hown
      obtain ⟨ao, cap, rfl⟩ := owns_slice hown
      have Hkl := Lib.hid hkl
      clear hd hm hdk hx hown hkl
      go_wp2_with fail
      refine (HB.out _).mono ?_
      rintro e w1 ⟨rfl, hN1⟩
      have HO1 := Lib.hid (hN1.ownsRow HO.out (fun _ _ f => f))
      go_wp2_with fail
      go_ret
      refine ⟨_, rfl, ?_, hN.trans hN1⟩
      have hkl := Hkl.out
      have e : (slots l).length = k := by rw [hkl]; simp [slots]
      have e2 : l.take k = l := by rw [hkl, List.take_length]
      have := HO1.out
      rw [e2] at this
      rw [e]; exact this
    | cons p t =>
      have hkl : k < l.length := by rcases Nat.lt_or_ge k l.length with h | h; exact h; rw [List.drop_eq_nil_of_le h] at hdk; cases hdk
      have ht : l.drop (k + 1) = t := by rw [← List.drop_drop, hdk]; rfl
      have htk : slots (l.take (k + 1)) = slots (l.take k) ++ [(p.1 : Int)] := by
        have hp : l[k]? = some p := by have := List.getElem?_drop (xs := l) (i := k) (j := 0); rw [hdk] at this; simpa using this.symm
        obtain ⟨_, e⟩ := List.getElem?_eq_some_iff.1 hp
        unfold slots
        rw [List.take_succ_eq_append_getElem hkl, List.map_append, e]; rfl
      rw [hdk] at hd HB hm
      rw [best_enc_cons hd] at HB
      have hot := okL_tail hd
      have hmt := Lib.hid (enc_div hot.inn hot.len)
      unfold trip' at HB
      obtain ⟨x, hx⟩ : ∃ x, enc (p :: t) = x := ⟨_, rfl⟩
      obtain ⟨y, hy⟩ : ∃ x, enc t = x := ⟨_, rfl⟩
      obtain ⟨s, hs⟩ : ∃ s : Nat, p.1 = s := ⟨_, rfl⟩
      rw [hx, hy] at HB
      dsimp only at HB
      rw [hs] at HB htk
      rw [hx] at hm ⊢
      rw [hy] at hmt
      have Hy := Lib.hid hy
      have Ht := Lib.hid ht
      have Htk := Lib.hid htk
      clear hd hdk hx hy hs ht htk hot
      go_wp2_with fail
      refine (HB.out _).mono ?_
      rintro e w1 ⟨rfl, hN1⟩
      have hown1 := hN1.ownsRow hown (fun _ _ f => f)
      obtain ⟨M, hMm⟩ : ∃ M, (slots (l.take k)).map (Value.int .i64) = M := ⟨_, rfl⟩
      rw [hMm] at hown1
      have HMm := Lib.hid hMm
      have hNN := hN.trans hN1
      clear hown hMm hN hN1
      go_wp2_with (at_builtin; refine wpList_append_own _ rfl _ _ 44 rfl w.heap.size 3 i0 _ 1 8 Try.underlying44 hi hz0 hz1 hz2 rfl (by decide) _ _ _ rfl (hown1.alloc _) ⟨w1.heap.size, 0, none⟩ 1 1 [.int .i64 s] rfl rfl ?c1 ?c2 ?c3 ?c4 ?c5 ?_)
      case c1 =>
        intro j u hj
        match j, hj with
        | 0, hj => simp at hj; subst hj; simp [Addr.add]
      case c2 => intro u hu; simp at hu; subst hu; rfl
      case c3 => unfold maxLen; omega
      case c4 => omega
      case c5 => have := hNN.size; simp; omega
      intro v' w2 hown' hgrow _
      have hN2 := (hNN.alloc (.cells #[.int .i64 s] 3)).grown hgrow (by intro g hg; have := (hown1.alloc (.cells #[.int .i64 s] 3)).lt g hg; omega)
      rw [← HMm.out, ← List.map_singleton (f := Value.int .i64), ← List.map_append, ← Htk.out] at hown'
      clear hgrow hown1 hNN
      go_wp2_with fail
      go_roundw
      case rel => exact ⟨k + 1, by omega, by rw [Ht.out, Hy.out], hown', hN2⟩
      case measure =>
        have h1 := hm.out
        have h2 := hmt.out
        simp only [intOf, Int.toNat_natCast]
        rw [h1, h2]
        simp
end Go.Proofs.Ytkjloeefcaadlaa
