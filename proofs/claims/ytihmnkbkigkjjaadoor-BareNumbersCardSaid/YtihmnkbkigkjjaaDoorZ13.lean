/- Sixes (the program). -/
import Derived.Test.YtihmnkbkigkjjaaDoorZ12
namespace Go.Proofs.YtihmnkbkigkjjaaDoor
open Go.RowKit Go.Shelf Go.Cs
attribute [local go_sem] Oper.semAt_some
set_option linter.unusedVariables false
set_option linter.unusedSimpArgs false
abbrev TB : Nat := 45
theorem run_idx32 (s : ByteArray) (k : Nat) (h : k < s.size) (w : World) : (Instr.index 9 (.string s) (.int .u32 (k : Nat))).run Tryd.prog w = .ok (.int .u8 ((gb s k).toNat : Nat)) w := by
  have e := gb_eq s k h
  rw [← e]
  simp [go_sem, h]
theorem builder_keep {T e B b : Nat} {bs : List Value} {W W' : World} (h : Lib.IsBuilderF T e B b bs W) (hk : ∀ k c t fr, W.heap[k]? = some (.cells c t fr) → (k = b ∨ t = e) → W'.heap[k]? = some (.cells c t fr)) : Lib.IsBuilderF T e B b bs W' := by
  have one : ∀ p, Lib.BuilderAtF T e B b p bs W → Lib.BuilderAtF T e B b p bs W' := by
    rintro p ⟨h1, v, hb, hown, hne⟩
    refine ⟨h1, v, hk _ _ _ _ hb (.inl rfl), ⟨hown.1, hown.2.imp id ?_⟩, hne⟩
    rintro ⟨g, cap, cur, fz, hv, hg, hh, r⟩
    exact ⟨g, cap, cur, fz, hv, hg, hk _ _ _ _ hh (.inr rfl), r⟩
  exact h.imp (one _) (one _)
theorem builder_new (W : World) : Lib.IsBuilderF TB 5 W.heap.size W.heap.size [] (W.alloc (.cells #[.pointer none, .slice none 0 0] TB)) :=
  .inl ⟨Nat.le_refl _, .slice none 0 0, World.alloc_heap_new W _, ⟨rfl, .inl ⟨rfl, rfl⟩⟩, by simp [Value.ownBlock]⟩
/-- What a builder's writer leaves, but for a box beside it. -/
theorem kept_mods {B b X : Nat} {W W' : World} {v : Value} (hB : Below B W W') (hO : Lib.OthersKept 5 (some b) W W') (hb : ∃ c t fr, W.heap[b]? = some (.cells c t fr)) (hbX : X ≠ b) (hX : ∃ c fr, W.heap[X]? = some (.cells c 9 fr)) : Mods (fun k => B ≤ k ∧ k ≠ X) W W' :=
  ⟨hB.os, hB.tape, hB.output, hB.size, fun k o hk ho => by
    have hlt := (Array.getElem?_eq_some_iff.1 hk).1
    by_cases hkB : k < B
    · rw [hB.block k hkB]; exact hk
    · by_cases hkX : k = X
      · subst hkX
        obtain ⟨c, fr, hc⟩ := hX
        refine hO _ _ hk (fun e => hbX (by cases e; rfl)) (fun c' fz e => ?_)
        rw [hc] at hk
        cases hk
        cases e
      · rcases ho with ho | ho
        · exact absurd ⟨by omega, hkX⟩ ho
        · refine hO _ _ hk (fun e => ?_) (fun c' fz e => by subst e; cases ho)
          cases e
          obtain ⟨c, t, fr, hc⟩ := hb
          rw [hc] at hk
          cases hk
          cases ho⟩
theorem threes_any (s : ByteArray) (w : World) : Calls Tryd.prog 25 #[.string s] w fun e w' => e = .returned (.func (.func 43) #[] #[.pointer (some ⟨w.heap.size, 0, none⟩)]) ∧ w.alloc (.cells #[.string s] 9) = w' := by
  go_enter Tryd.func25, Tryd.ntmps25
  go_wp2
  go_ret
  exact ⟨rfl, rfl⟩
theorem four_get (p : Nat × Nat) (i : Nat) (h : i < 4) : (Bare.four p).take (i + 1) = (Bare.four p).take i ++ [Bare.letterOf p i] := by
  match i, h with
  | 0, _ => rfl
  | 1, _ => rfl
  | 2, _ => rfl
  | 3, _ => rfl
theorem cells_app (l : Bare.Bs) (c : UInt8) : Lib.byteCells (l ++ [c]) = Lib.byteCells l ++ [.int .u8 (c.toNat : Nat)] := by simp [Lib.byteCells]
theorem four_len (L : List (Nat × Nat)) : (L.flatMap Bare.four).length = 4 * L.length := by
  induction L with
  | nil => rfl
  | cons a L ih =>
    rw [List.flatMap_cons, List.length_append, ih]
    show 4 + _ = _
    simp
    omega
theorem chunks_len : ∀ l : Bare.Bs, (Bare.chunks l).length ≤ l.length
  | [] => by simp [Bare.chunks]
  | [_] => by simp [Bare.chunks]
  | [_, _] => by simp [Bare.chunks]
  | a :: b :: c :: r => by
    have := chunks_len r
    simp only [Bare.chunks, List.length_cons]
    omega
theorem chunks_lt : ∀ (l : Bare.Bs), ∀ p ∈ Bare.chunks l, p.1 < 16777216
  | [], p, h => by simp [Bare.chunks] at h
  | [_], p, h => by simp [Bare.chunks] at h; subst h; exact Bare.chunk_lt _
  | [_, _], p, h => by simp [Bare.chunks] at h; subst h; exact Bare.chunk_lt _
  | a :: b :: c :: r, p, h => by
    simp only [Bare.chunks, List.mem_cons] at h
    rcases h with rfl | h
    · exact Bare.chunk_lt _
    · exact chunks_lt r p h
/-- The builder, and the box of what is left, in a world behind w. -/
def SI (w : World) (b X : Nat) (l : Bare.Bs) (W : World) : Prop := Lib.IsBuilderF TB 5 b b (Lib.byteCells l) W ∧ (∃ c fr, W.heap[X]? = some (.cells c 9 fr)) ∧ Mods (fun k => b ≤ k) w W
theorem SI.stab {w : World} {b X B : Nat} {l : Bare.Bs} (hB : w.heap.size ≤ B) : Stab B (SI w b X l) := fun W W' h k =>
  ⟨builder_keep h.1 fun j c t fr hj _ => k.block j _ hj (.inr rfl), by obtain ⟨c, fr, hc⟩ := h.2.1; exact ⟨c, fr, k.block _ _ hc (.inr rfl)⟩, Stab.mods hB W W' h.2.2 k⟩
theorem SI.turn {w : World} {b X : Nat} {l : Bare.Bs} (hX : b ≤ X) (hne : X ≠ b) : ∀ A A', SI w b X l A → Kx X A A' → SI w b X l A' := fun A A' h k => by
  obtain ⟨h1, ⟨c, fr, hc⟩, h3⟩ := h
  refine ⟨builder_keep h1 fun j c' t fr' hj hor => k.1.heap hj ?_, k.2 _ _ _ hc |>.imp fun c' h => ⟨fr, h⟩, h3.trans (k.1.mono fun i hi => by omega)⟩
  rintro rfl
  rcases hor with e | e
  · exact hne e
  · rw [hc] at hj
    cases hj
    cases e
theorem SI.has {w W : World} {b X : Nat} {l : Bare.Bs} (h : SI w b X l W) : ∃ c t fr, W.heap[b]? = some (.cells c t fr) := by
  rcases h.1 with ⟨_, v, hb, _⟩ | ⟨_, v, hb, _⟩
  · exact ⟨_, _, _, hb⟩
  · exact ⟨_, _, _, hb⟩
/-- One byte more. -/
theorem write_any {w W : World} {b X : Nat} {l : Bare.Bs} (hbw : b = w.heap.size) (hne : X ≠ b) (h : SI w b X l W) (hl : l.length ≤ 10000000) (c : UInt8) :
    Calls Tryd.prog 26 #[.pointer (some ⟨b, 0, none⟩), .int .u8 (c.toNat : Nat)] W fun e W' => e = .returned .nilIface ∧ SI w b X (l ++ [c]) W' ∧ Mods (fun k => b ≤ k ∧ k ≠ X) W W' := by
  refine (Tryd.Builder_WriteByte_k b b (Lib.byteCells l) (c.toNat : Nat) W h.1 (by rw [Lib.byteCells_length]; omega) (by have := h.2.2.size; omega)).mono ?_
  rintro e W' ⟨rfl, h1, h2, h3⟩
  have hm := kept_mods (v := .nilIface) h2 h3 h.has hne h.2.1
  refine ⟨rfl, ⟨.inr (by rw [cells_app]; exact h1), ?_, h.2.2.trans (hm.mono fun k hk => hk.1)⟩, hm⟩
  obtain ⟨c', fr, hc⟩ := h.2.1
  exact ⟨c', fr, hm.heap hc (fun hh => hh.2 rfl)⟩
set_option maxHeartbeats 4000000 in
set_option maxRecDepth 100000 in
theorem sixes_any (s : ByteArray) (w : World) (hs : s.size ≤ 1000000) :
    Calls Tryd.prog 11 #[.string s] w fun e w' => e = .returned (.string (tx (Bare.sixes (bl s)))) ∧ New w w' := by
  rw [Bare.sixes_four]
  obtain ⟨L, hL⟩ : ∃ L, Bare.chunks (bl s) = L := ⟨_, rfl⟩
  have hLl : L.length ≤ 1000000 := by rw [← hL]; exact Nat.le_trans (chunks_len _) (by rw [bl_len]; exact hs)
  have hLt := Lib.hid (chunks_lt (bl s))
  have hit := fun (B : Nat) S hSB W hB => threes1_iter B (bl s) (by rw [bl_len]; exact hs) S hSB W hB
  rw [tx_bl, hL] at hit
  rw [hL] at hLt ⊢
  have HIt := Lib.hid hit
  clear hit hL
  have hb0 := builder_new w
  obtain ⟨b, hb⟩ : ∃ b, w.heap.size = b := ⟨_, rfl⟩
  have hN0 : New w (w.alloc (.cells #[.pointer none, .slice none 0 0] TB)) := (Mods.refl _ _).alloc _
  have hz0 : (w.alloc (.cells #[.pointer none, .slice none 0 0] TB)).heap.size = w.heap.size + 1 := by simp
  refine calls_of_marks Tryd.func11 rfl ?_
  simp only [Tryd.ntmps11, List.size_toArray, List.length_cons, List.length_nil, Nat.reduceAdd, Nat.reduceSub, Array.replicate_succ, Array.replicate_zero, List.push_toArray, List.append_toArray, List.nil_append, List.cons_append]
  go_upto_region 2 with fail
  obtain ⟨W0, hW0⟩ : ∃ W, w.alloc (.cells #[.pointer none, .slice none 0 0] TB) = W := ⟨_, rfl⟩
  rw [hW0] at hb0 hN0 hz0
  have hW0' : w.alloc (.cells #[.pointer none, .slice none 0 0] 45) = W0 := hW0
  rw [hW0']
  rw [hb] at hb0 hz0
  try rw [hb]
  go_wp2_with fail
  refine (threes_any s W0).mono ?_
  rintro e W1 ⟨rfl, hW1⟩
  have hX : Boxed W1 (b + 1) 9 (.string s) := by rw [← hW1, ← hz0]; exact Boxed.new W0 _ _
  have hN01 : New W0 W1 := by rw [← hW1]; exact (Mods.refl _ _).alloc _
  have hS1 : SI w b (b + 1) [] W1 := ⟨builder_keep hb0 fun k c t fr hk _ => hN01.heap hk id, ⟨_, _, hX⟩, Mods.ofNew (hN0.trans hN01)⟩
  have hNw1 := hN0.trans hN01
  rw [hz0]
  clear hW1 hW0 hW0' hb0 hN0 hz0 hN01
  have Hbw := Lib.hid (hb.symm : b = w.heap.size)
  have hW1z : w.heap.size ≤ W1.heap.size := hNw1.size
  clear hb
  go_wp2_with fail
  refine wp_rangeListK (gf := 43) (lb := #[.pointer (some ⟨b + 1, 0, none⟩)]) rfl (enters_of Tryd.func43 (by kernel_rfl) rfl) L encC (fun k => b ≤ k ∧ k ≠ b + 1) (Kx (b + 1)) (fun _ => True) (.pure _)
    (fun W hW => HIt.out (b + 1) _ (by omega) W (hW.boxed hX id)) (fun _ => rfl)
    (fun k W => SI w b (b + 1) ((L.take k).flatMap Bare.four) W)
    (fun c k W => False)
    Kx.keeps
    (fun k A A' h hm => SI.turn (by omega) (by omega) A A' h hm)
    (fun c k A A' h _ => h.elim)
    (fun k => SI.stab hW1z)
    (fun c k => .pure _)
    hS1
    (fun p t => (((t.setIfInBounds 9 (.int .u32 (p.1 : Nat))).setIfInBounds 10 (.int .i64 (p.2 : Nat))).setIfInBounds 4 (.int .u32 (p.1 : Nat))).setIfInBounds 5 (.int .i64 (p.2 : Nat))) ?assign ?body ?done ?stop
  case assign =>
    rintro lp p W K hK
    simp only [encC] at hK ⊢
    gi_wp2
    exact hK
  case body =>
    rintro lp k p W hp hl _ hS
    have hk : k < L.length := (List.getElem?_eq_some_iff.1 hp).1
    have hpm := List.mem_of_getElem? hp
    have hplt := hLt.out p hpm
    have ht : (L.take (k + 1)).flatMap Bare.four = (L.take k).flatMap Bare.four ++ Bare.four p := by
      obtain ⟨_, e⟩ := List.getElem?_eq_some_iff.1 hp
      rw [List.take_succ_eq_append_getElem hk, List.flatMap_append, e]
      simp
    have hal : ((L.take k).flatMap Bare.four).length ≤ 4000000 := by rw [four_len, List.length_take]; omega
    have HT := Lib.hid ht
    obtain ⟨acc, hacc⟩ : ∃ acc, (L.take k).flatMap Bare.four = acc := ⟨_, rfl⟩
    rw [hacc] at hS hal HT
    obtain ⟨n, h⟩ := p
    simp only at hplt ⊢
    clear ht hacc hp hpm
    gi_wp2
    gi_loopw [11] (fun c wr => ∃ i : Nat, i ≤ 4 ∧ c = .int .i64 i ∧ SI w b (b + 1) (acc ++ (Bare.four (n, h)).take i) wr ∧ Mods (fun k => b ≤ k ∧ k ≠ b + 1) W wr) (fun c _ => 4 - (intOf c).toNat)
    case atStart => exact ⟨0, by omega, rfl, by rw [List.take_zero, List.append_nil]; exact hS, Mods.refl _ _⟩
    case round =>
      obtain ⟨i, hi, rfl, hSr, hMr⟩ := hrel
      by_cases hi4 : i < 4
      · have hlen : (acc ++ (Bare.four (n, h)).take i).length ≤ 10000000 := by rw [List.length_append, List.length_take]; show acc.length + min i 4 ≤ _; omega
        have hfg := four_get (n, h) i hi4
        have HW := Lib.hid (write_any Hbw.out (by omega) hSr hlen (Bare.letterOf (n, h) i))
        rw [List.append_assoc, ← hfg] at HW
        clear hfg hlen hSr hal
        by_cases hgt : h < i
        · have hle : Bare.letterOf (n, h) i = 61 := by unfold Bare.letterOf; rw [if_pos hgt]
          rw [hle] at HW
          have hgd : decide ((h : Int) < (i : Int)) = true := decide_eq_true (by omega)
          clear hle
          gi_wp2
          refine at_round HW.out ?_
          rintro e W3 ⟨rfl, hS3, hM3⟩
          gi_wp2
          go_roundw
          case rel => exact ⟨i + 1, by omega, by go_num, hS3, hMr.trans hM3⟩
          case measure => simp [intOf]; omega
        · have hle : Bare.letterOf (n, h) i = Bare.s6 (n / 2 ^ (18 - 6 * i) % 64) := by unfold Bare.letterOf; rw [if_neg hgt]
          rw [hle] at HW
          have hgd : decide ((h : Int) < (i : Int)) = false := decide_eq_false (by omega)
          have hq : n / 2 ^ (18 - 6 * i) % 64 < 64 := Nat.mod_lt _ (by decide)
          have hidx := run_idx32 (tx Bare.sx) (n / 2 ^ (18 - 6 * i) % 64) hq
          have hgs : gb (tx Bare.sx) (n / 2 ^ (18 - 6 * i) % 64) = Bare.s6 (n / 2 ^ (18 - 6 * i) % 64) := rfl
          rw [hgs] at hidx
          have hand := u32_and_nat (n / 2 ^ (18 - 6 * i)) 63 (Nat.lt_of_le_of_lt (Nat.div_le_self _ _) (by omega)) (by decide)
          rw [show (63 : Nat) = 2 ^ 6 - 1 from rfl, Nat.and_two_pow_sub_one_eq_mod, show (2 : Nat) ^ 6 = 64 from rfl] at hand
          obtain ⟨q, hqq⟩ : ∃ q, n / 2 ^ (18 - 6 * i) % 64 = q := ⟨_, rfl⟩
          obtain ⟨z, hz⟩ : ∃ z, n / 2 ^ (18 - 6 * i) = z := ⟨_, rfl⟩
          rw [hqq] at hidx HW
          rw [hqq, hz] at hand
          obtain ⟨cc, hcc⟩ : ∃ cc, (Bare.s6 q).toNat = cc := ⟨_, rfl⟩
          rw [hcc] at hidx HW
          have hi' : i = 0 ∨ i = 1 ∨ i = 2 ∨ i = 3 := by omega
          clear hle hgs hqq hcc hq
          have hidx : ∀ W, (Instr.index 9 (.string ⟨#[65, 66, 67, 68, 69, 70, 71, 72, 73, 74, 75, 76, 77, 78, 79, 80, 81, 82, 83, 84, 85, 86, 87, 88, 89, 90, 97, 98, 99, 100, 101, 102, 103, 104, 105, 106, 107, 108, 109, 110, 111, 112, 113, 114, 115, 116, 117, 118, 119, 120, 121, 122, 48, 49, 50, 51, 52, 53, 54, 55, 56, 57, 43, 47]⟩) (.int .u32 (q : Nat))).run Tryd.prog W = .ok (.int .u8 (cc : Nat)) W := hidx
          have hand : bits BinOp.and IntKind.u32 (z : Int) 63 = (q : Int) := hand
          rcases hi' with rfl | rfl | rfl | rfl
          · have e : (n : Int) / 262144 = (z : Int) := by
              have : n / 262144 = z := hz
              omega
            have hgd : decide ((h : Int) < 0) = false := hgd
            rw [← e] at hand
            clear e hz hgt hi hi4
            gi_wp2
            refine at_round HW.out ?_
            rintro e W3 ⟨rfl, hS3, hM3⟩
            gi_wp2
            go_roundw
            case rel => exact ⟨1, by omega, rfl, hS3, hMr.trans hM3⟩
            case measure => simp [intOf]
          · have e : (n : Int) / 4096 = (z : Int) := by
              have : n / 4096 = z := hz
              omega
            have hgd : decide ((h : Int) < 1) = false := hgd
            rw [← e] at hand
            clear e hz hgt hi hi4
            gi_wp2
            refine at_round HW.out ?_
            rintro e W3 ⟨rfl, hS3, hM3⟩
            gi_wp2
            go_roundw
            case rel => exact ⟨2, by omega, rfl, hS3, hMr.trans hM3⟩
            case measure => simp [intOf]
          · have e : (n : Int) / 64 = (z : Int) := by
              have : n / 64 = z := hz
              omega
            have hgd : decide ((h : Int) < 2) = false := hgd
            rw [← e] at hand
            clear e hz hgt hi hi4
            gi_wp2
            refine at_round HW.out ?_
            rintro e W3 ⟨rfl, hS3, hM3⟩
            gi_wp2
            go_roundw
            case rel => exact ⟨3, by omega, rfl, hS3, hMr.trans hM3⟩
            case measure => simp [intOf]
          · have e : (n : Int) = (z : Int) := by
              have : n / 1 = z := hz
              omega
            have hgd : decide ((h : Int) < 3) = false := hgd
            rw [← e] at hand
            clear e hz hgt hi hi4
            gi_wp2
            refine at_round HW.out ?_
            rintro e W3 ⟨rfl, hS3, hM3⟩
            gi_wp2
            go_roundw
            case rel => exact ⟨4, by omega, rfl, hS3, hMr.trans hM3⟩
            case measure => simp [intOf]
      · obtain rfl : i = 4 := by omega
        rw [show (Bare.four (n, h)).take 4 = Bare.four (n, h) from rfl, ← HT.out] at hSr
        gi_wp2
        exact ⟨hMr.mono fun k hk => hk, hSr⟩
  case done =>
    rintro W hS _ hD
    rw [List.take_of_length_le (Nat.le_refl _)] at hS
    have HStr := Lib.hid (Tryd.Builder_String_any_k b b _ W hS.1 (by have h1 := hS.2.2.size; have h2 := Hbw.out; omega))
    have HM := Lib.hid (hS.2.2.new fun k hk => by have := Hbw.out; omega)
    go_wp2_with (go_at_call 27; refine HStr.out.mono ?_; rintro e W3 ⟨rfl, h3, hB3, hO3⟩)
    have hD3 : W3.heap[W1.heap.size]? = some (.deferred (some [])) := hO3 _ _ hD (fun e => by
      cases e
      obtain ⟨c, t, fr, hc⟩ := hS.has
      rw [hc] at hD
      cases hD) (fun c fz e => by cases e)
    have hM3 : Mods (fun k => b ≤ k) W W3 := ⟨hB3.os, hB3.tape, hB3.output, hB3.size, fun k o hk ho => by
      rcases ho with ho | ho
      · have ho : ¬ b ≤ k := ho
        rw [hB3.block k (by omega)]; exact hk
      · refine hO3 _ _ hk (fun e => ?_) (fun c fz e => by subst e; cases ho)
        cases e
        obtain ⟨c, t, fr, hc⟩ := hS.has
        rw [hc] at hk
        cases hk
        cases ho⟩
    have hN3 : New w W3 := (hS.2.2.trans hM3).new fun k hk => by have := Hbw.out; omega
    refine marks_one rfl hD3 (v := .string (tx (L.flatMap Bare.four))) ?_ ⟨rfl, hN3.putObj hW1z _⟩
    simp [results, Tryd.f11, go_sem]
  case stop =>
    rintro c k W hk h
    exact h.elim
end Go.Proofs.YtihmnkbkigkjjaaDoor
