/- A queue, drained: what is collected. -/
import Derived.Test.YtkjloeefcaadlaaQ3
namespace Go.Proofs.Ytkjloeefcaadlaa
open Go.RowKit Go.Shelf Go.Cs
attribute [local go_sem] Oper.semAt_some
theorem owns_slice {W : World} {base e size n : Nat} {v : Value} {xs : List Value} (h : W.ownsRow base e size v n xs) : ∃ ao cap, v = .slice ao n cap := by
  rcases h.2 with ⟨rfl, rfl⟩ | ⟨g, cap, cur, rfl, _⟩
  · exact ⟨_, _, rfl⟩
  · exact ⟨_, _, rfl⟩
theorem owns_base {W : World} {base base' e size n : Nat} {v : Value} {xs : List Value} (h : W.ownsRow base e size v n xs) (hb : base' ≤ base) : W.ownsRow base' e size v n xs :=
  ⟨h.1, h.2.imp id fun ⟨g, cap, cur, h1, h2, r⟩ => ⟨g, cap, cur, h1, by omega, r⟩⟩
def slots (l : List (Nat × Nat)) : List Int := l.map fun p => (p.1 : Int)
/-- What a drain leaves. -/
def DR (w : World) (Q : Nat) (L : List Int) (e : Ending) (w' : World) : Prop := ∃ v, e = .returned v ∧ w'.ownsRow w.heap.size 3 1 v L.length (L.map (Value.int .i64)) ∧ Mods (fun b => b = Q) w w' ∧ Boxed w' Q 121 (.int .u64 (enc []))
set_option maxHeartbeats 1000000 in
theorem append_seq (B Q : Nat) (hBQ : B ≠ Q) (l : List (Nat × Nat)) (hok : OkL l) (w : World) (hB : Boxed w B 25 (.pointer (some ⟨Q, 0, none⟩))) (hQ : Boxed w Q 121 (.int .u64 (enc l))) :
    Calls Try.prog 136 #[.slice none 0 0, .func (.func 137) #[] #[.pointer (some ⟨B, 0, none⟩)]] w (DR w Q (slots l)) := by
  obtain ⟨i0, hi, hz0, hz1, hz2⟩ := info_parts info3
  have Hok := Lib.hid hok
  have hQlt := boxed_lt hQ
  have hBlt := boxed_lt hB
  have hlen := hok.len
  clear hok
  refine calls_of_marks Try.func136 rfl ?_
  simp only [Try.ntmps136, List.size_toArray, List.length_cons, List.length_nil, Nat.reduceAdd, Nat.reduceSub, Array.replicate_succ, Array.replicate_zero, List.push_toArray, List.append_toArray, List.nil_append, List.cons_append]
  go_wp2_with fail
  obtain ⟨W0, hW0⟩ : ∃ W0, w.alloc (.cells #[.slice none 0 0] 44) = W0 := ⟨_, rfl⟩
  have hN0 : New w W0 := by rw [← hW0]; exact (Mods.refl _ _).alloc _
  have hsz : W0.heap.size = w.heap.size + 1 := by rw [← hW0]; simp
  have hb1 : Boxed W0 w.heap.size 44 (.slice none 0 0) := by rw [← hW0]; exact Boxed.new w _ _
  have hB0 := hN0.boxed hB id
  have hQ0 := hN0.boxed hQ id
  rw [hW0]
  clear hW0 hB hQ
  refine wp_rangeListT (gf := 137) (lb := #[.pointer (some ⟨B, 0, none⟩)]) rfl (enters_of Try.func137 (by kernel_rfl) rfl) l enc1 (fun b => w.heap.size ≤ b) (fun b => b = Q) (fun W => Boxed W Q 121 (.int .u64 (enc []))) (.boxed _ _ _)
    (fun W hW => taken_iter B Q _ (by omega) (by omega) hBQ l Hok.out W (hW.boxed hB0 id) (hW.boxed hQ0 id)) (fun _ => rfl)
    (fun k W => ∃ v, Boxed W w.heap.size 44 v ∧ W.ownsRow (w.heap.size + 1) 3 1 v k ((slots (l.take k)).map (Value.int .i64)) ∧ Mods (fun b => w.heap.size ≤ b ∨ b = Q) W0 W)
    (fun c k W => False)
    (fun k A A' ⟨v, h1, h2, h3⟩ hm => ⟨v, hm.boxed h1 (by omega), hm.ownsRow h2 (fun g hg e => by have := h2.lt g hg; omega), h3.trans (hm.mono fun _ h => .inr h)⟩)
    (fun c k A A' h _ => h.elim)
    (fun k => .ex fun v => .and (.boxed _ _ _) (.and (.ownsRow _ _ _ _ _ _) (.mods (Nat.le_refl _))))
    (fun c k => .pure _)
    ⟨_, hb1, World.ownsRow_nil _ _ _ _, Mods.refl _ _⟩
    (fun p t => (t.setIfInBounds 7 (.int .i64 (p.1 : Nat))).setIfInBounds 5 (.int .i64 (p.1 : Nat))) ?assign ?body ?done ?stop
  case assign =>
    rintro lp p W K hK
    simp only [enc1] at hK ⊢
    gi_wp2
    exact hK
  case body =>
    rintro lp k p W hp hl _ ⟨v, hbv, hown, hM⟩
    have hk : k < l.length := (List.getElem?_eq_some_iff.1 hp).1
    have ht : slots (l.take (k + 1)) = slots (l.take k) ++ [(p.1 : Int)] := by
      obtain ⟨_, e⟩ := List.getElem?_eq_some_iff.1 hp
      unfold slots
      rw [List.take_succ_eq_append_getElem hk, List.map_append, e]; rfl
    have Ht := Lib.hid ht
    obtain ⟨c1, f1⟩ := hbv.both
    have hszW := hM.size
    obtain ⟨M, hMm⟩ : ∃ M, (slots (l.take k)).map (Value.int .i64) = M := ⟨_, rfl⟩
    rw [hMm] at hown
    have HMm := Lib.hid hMm
    obtain ⟨n, hn⟩ : ∃ n : Nat, p.1 = n := ⟨_, rfl⟩
    rw [hn] at Ht ⊢
    clear ht hp hMm hn hb1 hB0 hQ0
    gi_wp2_with (gi_at_builtin; refine wpListIn_append_own _ rfl _ _ 44 rfl (w.heap.size + 1) 3 i0 _ 1 8 Try.underlying44 hi hz0 hz1 hz2 rfl (by decide) _ _ _ rfl (hown.alloc _) ⟨W.heap.size, 0, none⟩ 1 1 [.int .i64 n] rfl rfl ?c1 ?c2 ?c3 ?c4 ?c5 ?_)
    case c1 => exact cell_one_new _ _ _
    case c2 => simp [Value.oneCell']
    case c3 => unfold maxLen; omega
    case c4 => omega
    case c5 => simp; omega
    intro v' W2 hown' hgrow _
    have hrow : ∀ b, v.ownBlock = some b → w.heap.size + 1 ≤ b ∧ b < W.heap.size := fun b hb => hown.lt b hb
    have hM3 : Mods (fun b => w.heap.size + 1 ≤ b) W W2 := ((Mods.refl _ _).alloc _).grown hgrow (fun b hb => .inr ⟨(hrow b hb).1, fun o ho => by
      rcases hown.2 with ⟨rfl, _⟩ | ⟨g, cap, cur, rfl, _, hh, _⟩
      · cases hb
      · cases hb
        rw [Below.heap_alloc _ _ _ (hrow _ rfl).2, hh] at ho
        cases ho; rfl⟩)
    have hb3 := hM3.boxed hbv (by omega)
    obtain ⟨c3, f3⟩ := hb3.both
    have hlt := hown'.lt
    obtain ⟨g', cap', rfl⟩ := ownsRow_succ hown'
    clear c1 f1 hbv hown hgrow hrow
    gi_wp2
    have hM4 : Mods (fun b => w.heap.size ≤ b) W W2 := hM3.mono (fun b hb => by omega)
    refine ⟨hM4.setCell (p := ⟨w.heap.size, 0, none⟩) (.inr (Nat.le_refl _)) _, _, hb3.set _, ?_, (hM.trans (hM4.mono fun _ h => .inl h)).setCell (p := ⟨w.heap.size, 0, none⟩) (.inr (.inl (Nat.le_refl _))) _⟩
    rw [Ht.out, List.map_append, HMm.out]
    exact (Mods.setCell (S := fun b => b = w.heap.size) (Mods.refl _ W2) (p := ⟨w.heap.size, 0, none⟩) (.inr rfl) _).ownsRow hown' (fun g hg e => by have := hlt g hg; omega)
  case done =>
    rintro W ⟨v, hbv, hown, hM⟩ hE hD
    rw [List.take_length] at hown
    obtain ⟨c1, f1⟩ := hbv.both
    obtain ⟨ao, cap, rfl⟩ := owns_slice hown
    have HO := Lib.hid hown
    have HE := Lib.hid hE
    clear hown hE
    go_wp2_with fail
    have hMM : Mods (fun b => w.heap.size ≤ b ∨ b = Q) w W := (Mods.ofNew hN0).trans hM
    refine marks_one rfl hD (v := .slice ao l.length cap) (by simp [results, Try.f136, go_sem]) ⟨_, rfl, ?_, ((hMM.only (T := fun b => b = Q) (fun k hk => hk)).putObj ?_ _), ?_⟩
    · have h2 := Stab.ownsRow (B := 0) _ _ _ _ _ _ _ _ HO.out (Quiet.putObj (.deferred none) hD rfl (Nat.zero_le _))
      have e : (slots l).length = l.length := by simp [slots]
      rw [e]
      exact owns_base h2 (by omega)
    · omega
    · exact Stab.boxed (B := 0) _ _ _ _ _ HE.out (Quiet.putObj (.deferred none) hD rfl (Nat.zero_le _))
  case stop =>
    rintro c k W hk h
    exact h.elim
theorem DR.base {w0 w w' : World} {Q : Nat} {L : List Int} {e : Ending} (h : DR w Q L e w') (h0 : New w0 w) : DR w0 Q L e w' := by
  obtain ⟨v, rfl, ho, hM, hQ⟩ := h
  exact ⟨v, rfl, owns_base ho h0.size, (Mods.ofNew h0).trans hM, hQ⟩
theorem taken_any (Q : Nat) (w : World) : Calls Try.prog 82 #[.pointer (some ⟨Q, 0, none⟩)] w fun e w' => e = .returned (.func (.func 137) #[] #[.pointer (some ⟨w.heap.size, 0, none⟩)]) ∧ w.alloc (.cells #[.pointer (some ⟨Q, 0, none⟩)] 25) = w' := by
  go_enter Try.func82, Try.ntmps82
  go_wp2_with fail
  go_ret
  exact ⟨rfl, rfl⟩
theorem collect_any (Q : Nat) (L : List Int) (f : Value) (w : World) (h : Calls Try.prog 136 #[.slice none 0 0, f] w (DR w Q L)) : Calls Try.prog 81 #[f] w (DR w Q L) := by
  have H := Lib.hid h
  clear h
  go_enter Try.func81, Try.ntmps81
  go_wp2_with fail
  refine H.out.mono ?_
  rintro e w1 ⟨v, rfl, ho, hM, hQ⟩
  obtain ⟨ao, cap, rfl⟩ := owns_slice ho
  have HO := Lib.hid ho
  have HQ := Lib.hid hQ
  clear ho hQ
  go_wp2_with fail
  go_ret
  exact ⟨_, rfl, HO.out, hM, HQ.out⟩
theorem drain_q (Q : Nat) (l : List (Nat × Nat)) (hok : OkL l) (w : World) (hQ : Boxed w Q 121 (.int .u64 (enc l))) :
    Calls Try.prog 32 #[.pointer (some ⟨Q, 0, none⟩)] w (DR w Q (slots l)) := by
  have hQlt := boxed_lt hQ
  have hN : New w (w.alloc (.cells #[.pointer (some ⟨Q, 0, none⟩)] 25)) := (Mods.refl _ _).alloc _
  have HA := Lib.hid (append_seq w.heap.size Q (by omega) l hok _ (Boxed.new w _ _) (hN.boxed hQ id))
  have HN := Lib.hid hN
  clear hok hQ hQlt hN
  go_enter Try.func32, Try.ntmps32
  go_wp2_with fail
  refine (taken_any Q _).mono ?_
  rintro e w1 ⟨rfl, rfl⟩
  go_wp2_with fail
  refine (collect_any _ _ _ _ HA.out).mono ?_
  rintro e w2 hD
  obtain ⟨v, rfl, ho, hM, hq⟩ := hD.base HN.out
  obtain ⟨ao, cap, rfl⟩ := owns_slice ho
  have HO := Lib.hid ho
  have HQ := Lib.hid hq
  clear ho hq hD
  go_wp2_with fail
  go_ret
  exact ⟨_, rfl, HO.out, hM, HQ.out⟩
end Go.Proofs.Ytkjloeefcaadlaa
