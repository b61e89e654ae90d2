/- What a queue's law asks at each call: wakes. -/
import Derived.Test.YtkjloeefcaadlaaQ5
namespace Go.Proofs.Ytkjloeefcaadlaa
open Go.RowKit Go.Shelf Go.Cs
attribute [local go_sem] Oper.semAt_some
theorem k1 : pushF (enc []) 3 5 = (enc [(3, 5)], true) := by decide +kernel
theorem k2 : pushF (enc [(3, 5)]) 1 2 = (enc [(1, 2), (3, 5)], true) := by decide +kernel
theorem k3 : pushF (enc [(1, 2), (3, 5)]) 3 0 = (enc [(1, 2), (3, 5)], false) := by decide +kernel
theorem k4 : manyN (enc [(1, 2), (3, 5)]) = 2 := by decide +kernel
theorem k5 : rightB 1152921504606847066 = true := by decide +kernel
theorem k6 : rightB 1 = false := by decide +kernel
theorem k7 : (1152921504606847066 : Nat) = enc [(2, 3)] := by decide +kernel
theorem k8 : bestF (enc [(2, 3)]) = (enc [], 2, true) := by decide +kernel
theorem k9 : turnF (enc []) 1 1 = (enc [], false) := by decide +kernel
theorem k10 : outF (enc []) 1 = (enc [], false) := by decide +kernel
theorem k11 : enc [] = 0 := by decide +kernel
theorem enc_okL : OkL [(1, 2), (3, 5)] := ⟨fun p hp => by simp at hp; rcases hp with rfl | rfl <;> decide, by simp⟩
theorem reads_made (W : World) (l : List Int) (h : l.length ≤ 100) : ReadsI .i64 (W.alloc (.cells (l.map (Value.int .i64)).toArray 3)) (.slice (some ⟨W.heap.size, 0, none⟩) l.length l.length) l :=
  ⟨by omega, _, _, rfl, fun i hi => ⟨_, _, rfl, by rw [World.cell?_alloc_at _ _ _ _ rfl]; simp [List.getD, hi]⟩⟩
/-- The queue in block Q, of that word. -/
structure Qu (w0 : World) (Q x : Nat) (W : World) : Prop where
  word : Boxed W Q 121 (.int .u64 x)
  old : w0.heap.size ≤ Q
  new : New w0 W
theorem Qu.step {w0 W W' : World} {Q x z : Nat} (h : Qu w0 Q x W) (hM : Mods (fun b => b = Q) W W') (hb : Boxed W' Q 121 (.int .u64 z)) : Qu w0 Q z W' :=
  ⟨hb, h.old, ((Mods.ofNew h.new).trans hM).new (fun k hk => by have := h.old; omega)⟩
theorem Qu.neW {w0 W W' : World} {Q x : Nat} (h : Qu w0 Q x W) (hN : New W W') : Qu w0 Q x W' := ⟨hN.boxed h.word id, h.old, h.new.trans hN⟩
set_option maxRecDepth 100000 in
set_option maxHeartbeats 2000000 in
theorem wakes_any (w : World) : Calls Try.prog 17 #[] w fun e w' => e = .returned (.bool true) ∧ New w w' := by
  go_enter Try.func17, Try.ntmps17
  go_wp2_with fail
  refine (new_any _).mono ?_
  rintro e w1 ⟨rfl, hw⟩
  have q1 : Qu w w.heap.size (enc []) w1 := ⟨by rw [k11, ← hw]; exact Boxed.new w _ _, Nat.le_refl _, by rw [← hw]; exact (Mods.refl _ _).alloc _⟩
  obtain ⟨Q, hQ⟩ : ∃ Q, w.heap.size = Q := ⟨_, rfl⟩
  rw [hQ] at q1 ⊢
  clear hw hQ
  have H1 := push_q Q _ 3 5 w1 q1.word (by decide) (by decide) (by decide) (by decide) (by decide)
  rw [k1] at H1
  have H1 := Lib.hid H1
  go_wp2_with fail
  refine H1.out.mono ?_
  rintro e w2 ⟨rfl, hM, hb⟩
  have q2 : Qu w Q (enc [(3, 5)]) w2 := q1.step hM hb
  have H2 := push_q Q _ 1 2 w2 q2.word (by decide) (by decide) (by decide) (by decide) (by decide)
  rw [k2] at H2
  have H2 := Lib.hid H2
  clear hM hb q1 H1
  go_wp2_with fail
  refine H2.out.mono ?_
  rintro e w3 ⟨rfl, hM, hb⟩
  have q3 : Qu w Q (enc [(1, 2), (3, 5)]) w3 := q2.step hM hb
  have H3 := push_q Q _ 3 0 w3 q3.word (by decide) (by decide) (by decide) (by decide) (by decide)
  rw [k3] at H3
  have H3 := Lib.hid H3
  clear hM hb q2 H2
  go_wp2_with fail
  refine H3.out.mono ?_
  rintro e w4 ⟨rfl, hM, hb⟩
  have q4 : Qu w Q (enc [(1, 2), (3, 5)]) w4 := q3.step hM hb
  have H4 := many_q Q _ (by decide) w4 q4.word
  rw [k4] at H4
  have H4 := Lib.hid H4
  clear hM hb q3 H3
  go_wp2_with fail
  refine H4.out.mono ?_
  rintro e w5 ⟨rfl, hN⟩
  have q5 := q4.neW hN
  have H5 := Lib.hid (drain_q Q _ enc_okL w5 q5.word)
  clear hN q4 H4
  go_wp2_with fail
  refine H5.out.mono ?_
  rintro e w6 ⟨v, rfl, hown, hM, hb⟩
  have q6 : Qu w Q (enc []) w6 := q5.step hM hb
  have hv := ReadsI.ofOwns (xs := [1, 3]) (k := .i64) (e := 3) hown
  have hvb : Hid (∀ g, v.ownBlock = some g → w5.heap.size ≤ g ∧ g < w6.heap.size) := Lib.hid (fun g hg => hown.lt g hg)
  have H6 := best_q Q _ w6 q6.word (by decide)
  rw [best_enc_nil] at H6
  have H6 := Lib.hid H6
  have Hv := Lib.hid hv
  have hQ5 := boxed_lt q5.word
  obtain ⟨ao, cap, rfl⟩ := owns_slice hown
  rw [show (slots [(1, 2), (3, 5)]).length = 2 from rfl] at Hv hvb ⊢
  clear hM hb q5 H5 hown hv
  go_wp2_with fail
  refine H6.out.mono ?_
  rintro e w7 ⟨rfl, hM, hb⟩
  have q7 : Qu w Q (enc []) w7 := q6.step hM hb
  have h67 := hM.size
  have Hv7 := Lib.hid (Hv.out.kept hM (fun g hg e => by have := hvb.out g hg; omega))
  have H7 := Lib.hid (from_yes 1152921504606847066 (by decide) k5 w7)
  clear hM hb q6 H6 Hv
  go_wp2_with fail
  refine H7.out.mono ?_
  rintro e w8 ⟨Q2, rfl, hb2, hQ2, hN⟩
  have q8 := q7.neW hN
  have q7s := Lib.hid q7.new.size
  have Hv8 := Lib.hid (Hv7.out.new hN)
  have hQ28 := boxed_lt q7.word
  rw [k7] at hb2
  have Hb2 := Lib.hid hb2
  have H8 := Lib.hid (from_no 1 (by decide) k6 w8)
  clear hN q7 H7 Hv7 hb2
  go_wp2_with fail
  refine H8.out.mono ?_
  rintro e w9 ⟨rfl, hN⟩
  have q9 := q8.neW hN
  have Hv9 := Lib.hid (Hv8.out.new hN)
  have H9 := best_q Q2 _ w9 (hN.boxed Hb2.out id) (by decide)
  rw [k8] at H9
  rw [show ((2 : Nat) : Int) = 2 from rfl] at H9
  have H9 := Lib.hid H9
  clear hN q8 H8 Hv8 Hb2
  go_wp2_with fail
  refine H9.out.mono ?_
  rintro e w10 ⟨rfl, hM, hb⟩
  have hQ22 := q9.old
  have hNs := q9.new.size
  have q10 : Qu w Q (enc []) w10 := ⟨hM.boxed q9.word (show ¬ (Q = Q2) by omega), q9.old, ((Mods.ofNew q9.new).trans hM).new (fun k (hk : k = Q2) => by have := q7s.out; omega)⟩
  have Hv10 := Lib.hid (Hv9.out.kept hM (fun g hg e => by have := hvb.out g hg; omega))
  clear hM hb q9 H9 Hv9
  obtain ⟨wl, hwl⟩ : ∃ W, w10.alloc (.cells ([1, 3].map (Value.int .i64)).toArray 3) = W := ⟨_, rfl⟩
  have hNl : New w10 wl := by rw [← hwl]; exact (Mods.refl _ _).alloc _
  have q11 := q10.neW hNl
  have HI := Lib.hid (by have := ints_any _ _ _ _ wl (Hv10.out.new hNl) (by rw [← hwl]; exact reads_made w10 [1, 3] (by decide)); rw [← hwl] at this; exact this)
  clear hNl Hv10 q10
  rw [show decide (([1, 3] : List Int) = [1, 3]) = true from rfl] at HI
  go_wp2_with fail
  refine HI.out.mono ?_
  rintro e w12 ⟨rfl, hN⟩
  rw [hwl] at hN
  have q12 := q11.neW hN
  have HW := Lib.hid (word_q Q _ w12 q12.word)
  rw [k11] at HW
  clear hN q11 HI hwl
  go_wp2_with fail
  refine HW.out.mono ?_
  rintro e w13 ⟨rfl, rfl⟩
  have HT := turn_q Q _ 1 1 w12 q12.word (by decide) (by decide) (by decide) (by decide) (by decide)
  rw [k9] at HT
  have HT := Lib.hid HT
  clear HW
  go_wp2_with fail
  refine HT.out.mono ?_
  rintro e w14 ⟨rfl, hM, hb⟩
  have q14 : Qu w Q (enc []) w14 := q12.step hM hb
  have HO := out_q Q _ 1 w14 q14.word (by decide)
  rw [k10] at HO
  have HO := Lib.hid HO
  clear hM hb q12 HT
  go_wp2_with fail
  refine HO.out.mono ?_
  rintro e w15 ⟨rfl, hM, hb⟩
  have q15 : Qu w Q (enc []) w15 := q14.step hM hb
  have hN := Lib.hid q15.new
  clear hM hb q14 HO q15
  go_wp2_with fail
  go_ret
  exact ⟨rfl, hN.out⟩
end Go.Proofs.Ytkjloeefcaadlaa
