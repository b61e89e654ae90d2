/- The places of a word, slots, urgencies; which words may be. -/
import Derived.Test.YtkjloeefcaadlaaProg
import Derived.Test.YtkjloeefcaadlaaBase
import Derived.Shelf.Abstract
import Derived.Shelf.RegionOpen
import Derived.OwnWalkIn
import Derived.TacticsInMore
import Derived.LoopNIn
import Derived.LoopIn
import Derived.WalkSpells
import Derived.Lib.Hide
import Derived.WalkLawsBesides
import Derived.Test.YtkjloeefcaadlaaNum
namespace Go.Proofs.Ytkjloeefcaadlaa
open Go.RowKit Go.Shelf Go.Cs
attribute [local go_sem] Oper.semAt_some
def place (x k : Nat) : Nat := x / 2 ^ (7 * k) % 128
def places (x : Nat) : List (Nat × Nat) := (List.range (x / 2 ^ 60)).map fun k => (k, place x k)
def encP (p : Nat × Nat) : Array Value := #[.int .i64 p.1, .int .u64 p.2]
theorem place_lt (x k : Nat) : place x k < 128 := Nat.mod_lt _ (by decide)
theorem places_len (x : Nat) : (places x).length = x / 2 ^ 60 := by simp [places]
set_option maxHeartbeats 400000 in
theorem places1_iter (B x : Nat) (hx : x < 18446744073709551616) (S : Nat → Prop) (hS : ¬ S B) (W : World) (hB : W.cell? ⟨B, 0, none⟩ = some (.int .u64 x)) :
    IterAt Try.prog 161 #[.pointer (some ⟨B, 0, none⟩)] ((places x).map encP) S W := by
  intro l J Jx hJ hJx hY h0
  refine (callsIn_wide (n := 0)).1 (callsIn_of_wp Try.func161 rfl trivial ?_ rfl)
  simp only [Try.ntmps161, List.size_toArray, List.length_cons, List.length_nil, Nat.reduceAdd, Nat.reduceSub, Array.replicate_succ, Array.replicate_zero, List.push_toArray, List.append_toArray, List.nil_append, List.cons_append]
  gi_wp2
  gi_loopw [7] (fun c wr => ∃ k : Nat, k ≤ x / 2 ^ 60 ∧ c = .int .i64 k ∧ J k wr ∧ Mods S W wr) (fun c _ => x / 2 ^ 60 - (intOf c).toNat)
  case atStart => exact ⟨0, Nat.zero_le _, rfl, h0, Mods.refl _ _⟩
  case round =>
    obtain ⟨k, hk, rfl, hJk, hM⟩ := hrel
    have hc := hM.cell hB hS
    by_cases hlt : k < x / 2 ^ 60
    · obtain ⟨fn, tmps, assign, body, hy, hR⟩ := hY k (encP (k, place x k)) wr (by simp [places, hlt]) hJk hM
      clear hY
      dsimp only [encP] at hy
      obtain ⟨q, hsh, hb⟩ : ∃ q : Nat, Op.shift .shr .u64 (x : Int) .i64 (7 * (k : Int)) = pure (.int .u64 (q : Int)) ∧ bits .and .u64 (q : Int) 127 = (place x k : Int) :=
        ⟨x / 2 ^ (7 * k), shr_u64 x (7 * k) hx .i64, and127 _ (div_lt64 _ _ hx)⟩
      gi_wp2
      refine ⟨rfl, hR.mono ?_⟩
      rintro e W3 (⟨rfl, hJ3, hm3⟩ | ⟨rfl, hJx3⟩)
      · gi_wp2
        go_roundw
        case rel => exact ⟨k + 1, by omega, by go_num, hJ3, hM.trans hm3⟩
        case measure => simp [intOf]; omega
      · gi_wp2
        refine bodyPost_ret (results_none rfl _ _ _) rfl ?_
        exact ⟨⟨_, rfl⟩, .inr ⟨k + 1, by simp [places_len]; omega, hJx3⟩⟩
    · gi_wp2
      go_end0
      obtain rfl : k = x / 2 ^ 60 := by omega
      exact ⟨⟨_, rfl⟩, .inl (by simpa [places_len] using hJk)⟩

theorem places_any (x : Nat) (w : World) : Calls Try.prog 124 #[.int .u64 x] w fun e w' => e = .returned (.func (.func 161) #[] #[.pointer (some ⟨w.heap.size, 0, none⟩)]) ∧ w.alloc (.cells #[.int .u64 x] 22) = w' := by
  go_enter Try.func124, Try.ntmps124
  go_wp2
  go_ret
  exact ⟨rfl, rfl⟩
theorem slot_any (p : Nat) (w : World) (h : p < 18446744073709551616) :
    Calls Try.prog 125 #[.int .u64 p] w fun e w' => e = .returned (.int .i64 (p % 8 : Nat)) ∧ w = w' := by
  have e1 := and7 p h
  obtain ⟨q, hq, hq8⟩ : ∃ q, p % 8 = q ∧ q < 8 := ⟨_, rfl, Nat.mod_lt _ (by decide)⟩
  rw [hq] at e1 ⊢
  clear hq
  go_enter Try.func125, Try.ntmps125
  go_wp2
  go_ret
  exact ⟨rfl, rfl⟩
theorem urgency_any (p : Nat) (w : World) (h : p < 18446744073709551616) :
    Calls Try.prog 130 #[.int .u64 p] w fun e w' => e = .returned (.int .i64 (p / 8 % 8 : Nat)) ∧ w = w' := by
  have e1 := and7 (p / 8) (by omega)
  have e3 : (p : Int) / 8 = ((p / 8 : Nat) : Int) := rfl
  obtain ⟨q', hq'⟩ : ∃ q, p / 8 = q := ⟨_, rfl⟩
  rw [hq'] at e1 e3 ⊢
  clear hq'
  obtain ⟨q, hq, hq8⟩ : ∃ q, q' % 8 = q ∧ q < 8 := ⟨_, rfl, Nat.mod_lt _ (by decide)⟩
  rw [hq] at e1 ⊢
  clear hq
  go_enter Try.func130, Try.ntmps130
  go_wp2
  go_ret
  exact ⟨rfl, rfl⟩
def stp : Option (Nat × Nat) → Nat → Option (Nat × Nat)
  | none, _ => none
  | some (s, l), p => if p / 64 % 2 = 0 ∨ s &&& 2 ^ (p % 8) ≠ 0 ∨ p / 8 % 8 < l then none else some (s ||| 2 ^ (p % 8), p / 8 % 8)
def stt (x : Nat) : Nat → Option (Nat × Nat)
  | 0 => some (0, 0)
  | k + 1 => stp (stt x k) (place x k)
theorem stt_none {x k : Nat} (h : stt x k = none) : ∀ n, k ≤ n → stt x n = none := by
  intro n hn
  induction n with
  | zero => obtain rfl : k = 0 := by omega
            exact h
  | succ n ih =>
    rcases Nat.lt_or_ge n k with h1 | h1
    · obtain rfl : k = n + 1 := by omega
      exact h
    · rw [stt, ih h1]; rfl
def rightB (x : Nat) : Bool := decide (x / 2 ^ 60 ≤ 8) && decide (x % 2 ^ 60 / 2 ^ (7 * (x / 2 ^ 60)) = 0) && (stt x (x / 2 ^ 60)).isSome
set_option maxHeartbeats 1000000 in
theorem right_any (x : Nat) (hx : x < 18446744073709551616) (w : World) : Calls Try.prog 65 #[.int .u64 x] w fun e w' => e = .returned (.bool (rightB x)) ∧ New w w' := by
  obtain ⟨n, hn, hn'⟩ : ∃ n : Nat, (x : Int) / 1152921504606846976 = (n : Int) ∧ x / 2 ^ 60 = n := ⟨x / 1152921504606846976, rfl, rfl⟩
  have Hn' := Lib.hid hn'
  clear hn'
  refine calls_of_marks Try.func65 rfl ?_
  simp only [Try.ntmps65, List.size_toArray, List.length_cons, List.length_nil, Nat.reduceAdd, Nat.reduceSub, Array.replicate_succ, Array.replicate_zero, List.push_toArray, List.append_toArray, List.nil_append, List.cons_append]
  go_wp2
  refine wp_scope_fwd 0 (fun a W => a.tmps.size = 50 ∧ (a.defers = [] ∨ ∃ D, a.defers = [{ target := .collected D, args := #[] }] ∧ w.heap.size ≤ D ∧ W.heap[D]? = some (.deferred (some []))) ∧ New w W ∧ rightB x = false) rfl ?first ?pass
  case pass =>
    rintro ⟨tmps, defers⟩ W ⟨hs, hd, hN, hR⟩
    go_wp2
    rcases hd with rfl | ⟨D, rfl, hD, hWD⟩
    · exact marks_none rfl (v := .bool false) (by simp [results, Try.f65, hs]) ⟨by rw [hR], hN⟩
    · exact marks_one rfl hWD (v := .bool false) (by simp [results, Try.f65, hs]) ⟨by rw [hR], hN.putObj hD _⟩
  case first =>
    by_cases h8 : 8 < n
    · have hR : rightB x = false := by have := Hn'.out; simp [rightB]; omega
      go_wp2
      exact wp_goto (And.intro rfl ⟨rfl, .inl rfl, ((Mods.refl _ _).alloc _).alloc _, hR⟩)
    have h8' : decide ((8 : Int) < n) = false := by simp; omega
    have e1 : bits .andNot .u64 (x : Int) 17293822569102704640 = ((x % 2 ^ 60 : Nat) : Int) := by
      rw [show (17293822569102704640 : Int) = ((17293822569102704640 : Nat) : Int) from rfl, andNot_u64 x _ hx (by decide)]
      congr 1
      exact nat_mask60 x
    obtain ⟨y, hy⟩ : ∃ y, x % 2 ^ 60 = y := ⟨_, rfl⟩
    have hy60 : y < 18446744073709551616 := by omega
    obtain ⟨z, hz⟩ : ∃ z, y / 2 ^ (7 * n) = z := ⟨_, rfl⟩
    have e2 : (y : Int) / 2 ^ (7 * n) = (z : Int) := by rw [← hz]; exact div_cast y (7 * n)
    rw [hy] at e1
    by_cases hz0 : z = 0
    · have hr : rightB x = (stt x n).isSome := by rw [rightB, Hn'.out, hy, hz]; simp [hz0]; omega
      subst hz0
      clear hz hy
      go_wp2_with (go_at_call 124; refine (places_any x _).mono ?_; rintro e w1 ⟨rfl, rfl⟩)
      obtain ⟨W0, hW0⟩ : ∃ W0, ((w.alloc (.cells #[.int .u64 0] 22)).alloc (.cells #[.int .u64 0] 22)).alloc (.cells #[.int .u64 x] 22) = W0 := ⟨_, rfl⟩
      have hN0 : New w W0 := by rw [← hW0]; exact (((Mods.refl _ _).alloc _).alloc _).alloc _
      have hsz : W0.heap.size = w.heap.size + 3 := by rw [← hW0]; simp
      have hb0 : Boxed W0 w.heap.size 22 (.int .u64 0) := by rw [← hW0]; exact ((Boxed.new w 22 _).alloc _).alloc _
      have hb1 : Boxed W0 (w.heap.size + 1) 22 (.int .u64 0) := by rw [← hW0]; have := Boxed.new (w.alloc (.cells #[.int .u64 0] 22)) 22 (.int .u64 0); rw [World.size_alloc] at this; exact this.alloc _
      have hb2 : Boxed W0 (w.heap.size + 2) 22 (.int .u64 x) := by rw [← hW0]; have := Boxed.new ((w.alloc (.cells #[.int .u64 0] 22)).alloc (.cells #[.int .u64 0] 22)) 22 (.int .u64 x); rwa [World.size_alloc, World.size_alloc] at this
      rw [hW0]
      refine wp_rangeList (gf := 161) (lb := #[.pointer (some ⟨w.heap.size + 2, 0, none⟩)]) rfl (enters_of Try.func161 (by kernel_rfl) rfl) (places x) encP (fun b => b = w.heap.size ∨ b = w.heap.size + 1)
        (fun W hW => places1_iter _ x hx _ (by omega) W (hW.boxed hb2 id).cell) (fun _ => rfl)
        (fun k W => ∃ s l, (stt x k = some (s, l) ∧ s < 256) ∧ Boxed W w.heap.size 22 (.int .u64 (s : Nat)) ∧ Boxed W (w.heap.size + 1) 22 (.int .u64 (l : Nat)) ∧ Mods (fun b => b = w.heap.size ∨ b = w.heap.size + 1) W0 W)
        (fun c k W => c = .goto 0 ∧ stt x k = none ∧ Mods (fun b => b = w.heap.size ∨ b = w.heap.size + 1) W0 W)
        (fun k => .ex fun s => .ex fun l => .and (.pure _) (.and (.boxed _ _ _) (.and (.boxed _ _ _) (.mods (Nat.le_refl _)))))
        (fun c k => .and (.pure _) (.and (.pure _) (.mods (Nat.le_refl _))))
        ⟨0, 0, ⟨rfl, by decide⟩, hb0, hb1, Mods.refl _ _⟩
        (fun p t => ((t.setIfInBounds 23 (.int .i64 p.1)).setIfInBounds 24 (.int .u64 p.2)).setIfInBounds 7 (.int .u64 p.2)) ?assign ?body ?done ?stop
      case assign =>
        rintro l ⟨p1, p2⟩ W K hK
        simp only [encP] at hK ⊢
        gi_wp2
        exact hK
      case body =>
        rintro l k p W hp hl _ ⟨s, la, ⟨hst, hs256⟩, hbs, hbl, hM⟩
        clear hr e1 e2 hy60 hN0 hb0 hb1 hb2 hW0
        obtain ⟨hk, rfl⟩ : k < x / 2 ^ 60 ∧ p = (k, place x k) := by
          rw [places, List.getElem?_map] at hp
          obtain ⟨j, hj, rfl⟩ := Option.map_eq_some_iff.1 hp
          obtain ⟨h1, h2⟩ := List.getElem?_eq_some_iff.1 hj
          simp at h1 h2
          subst h2
          exact ⟨h1, rfl⟩
        obtain ⟨q, hq⟩ : ∃ q, place x k = q := ⟨_, rfl⟩
        have hq128 : q < 128 := by rw [← hq]; exact place_lt x k
        have hst1 : stt x (k + 1) = stp (some (s, la)) q := by rw [stt, hst, hq]
        rw [hq]
        simp only [stp] at hst1
        have cs := hbs.cell
        have cl := hbl.cell
        have fs := hbs.frozen
        have fl := hbl.frozen
        have b64 := and64 q (by omega)
        obtain ⟨sl, hsl, hsl8⟩ : ∃ sl, q % 8 = sl ∧ sl < 8 := ⟨_, rfl, Nat.mod_lt _ (by decide)⟩
        obtain ⟨u, hu, hu8⟩ : ∃ u, q / 8 % 8 = u ∧ u < 8 := ⟨_, rfl, Nat.mod_lt _ (by decide)⟩
        obtain ⟨bt, hbt, hbt8⟩ : ∃ b, 2 ^ sl = b ∧ b ≤ 128 := ⟨_, rfl, Nat.pow_le_pow_right (n := 2) (by decide) (show sl ≤ 7 by omega)⟩
        have bu : bits .and .u64 ((q : Int) / 8) 7 = (u : Int) := by rw [← hu]; exact and7 (q / 8) (by omega)
        have bw : IntKind.u64.wrap (2 ^ sl) = (bt : Int) := by rw [IntKind.wrap_u64, cast_pow, hbt]; omega
        have hslot : ∀ w, Calls Try.prog 125 #[.int .u64 q] w fun e w' => e = .returned (.int .i64 (sl : Nat)) ∧ w = w' := fun w => by rw [← hsl]; exact slot_any q w (by omega)
        have Hslot := Lib.hid hslot
        clear hslot
        rw [hsl, hbt, hu] at hst1
        obtain ⟨m, hm⟩ : ∃ m, s &&& bt = m := ⟨_, rfl⟩
        have bm : bits .and .u64 (s : Int) (bt : Int) = (m : Int) := by rw [and_u64 s bt (by omega) (by omega), hm]
        obtain ⟨o, ho⟩ : ∃ m, s ||| bt = m := ⟨_, rfl⟩
        have bo : bits .or .u64 (s : Int) (bt : Int) = (o : Int) := by rw [or_u64 s bt (by omega) (by omega), ho]
        have ho256 : o < 256 := by rw [← ho]; exact Nat.or_lt_two_pow (n := 8) hs256 (by omega)
        rw [hm, ho] at hst1
        have hN1 : stt x (k + 1) = none → roundQ (fun b => b = w.heap.size ∨ b = w.heap.size + 1) (fun k W => ∃ s l, (stt x k = some (s, l) ∧ s < 256) ∧ Boxed W w.heap.size 22 (.int .u64 (s : Nat)) ∧ Boxed W (w.heap.size + 1) 22 (.int .u64 (l : Nat)) ∧ Mods (fun b => b = w.heap.size ∨ b = w.heap.size + 1) W0 W)
            (fun c k W => c = .goto 0 ∧ stt x k = none ∧ Mods (fun b => b = w.heap.size ∨ b = w.heap.size + 1) W0 W) (k + 1) W (.goto 0) { tmps := #[], defers := [] } W :=
          fun h => ⟨Mods.refl _ _, rfl, h, hM⟩
        clear hst hq hsl hbt hu hm ho
        by_cases c1 : q / 64 % 2 = 0
        · have HN := Lib.hid (hN1 (by rw [hst1, if_pos (.inl c1)]))
          have b64' : bits .and .u64 (q : Int) 64 = 0 := by rw [b64, c1]; rfl
          clear b64 hst1 hN1 bu bm bo
          gi_wp2_with (refine at_round (Hslot.out _) ?_; rintro e w' ⟨rfl, rfl⟩)
          exact wpIn_goto HN.out
        · have b64' : bits .and .u64 (q : Int) 64 = 64 := by rw [b64, show q / 64 % 2 = 1 by omega]; rfl
          clear b64
          by_cases c2 : m = 0
          · subst c2
            by_cases c3 : u < la
            · have HN := Lib.hid (hN1 (by rw [hst1, if_pos (.inr (.inr c3))]))
              clear hst1 hN1 bo
              gi_wp2_with (refine at_round (Hslot.out _) ?_; rintro e w' ⟨rfl, rfl⟩)
              exact wpIn_goto HN.out
            · have HI := Lib.hid (show stt x (k + 1) = some (o, u) by rw [hst1, if_neg (by omega)])
              clear hst1 hN1
              gi_wp2_with (refine at_round (Hslot.out _) ?_; rintro e w' ⟨rfl, rfl⟩)
              exact ⟨((Mods.refl _ _).setCell (p := ⟨w.heap.size, 0, none⟩) (.inr (.inl rfl)) _).setCell (p := ⟨w.heap.size + 1, 0, none⟩) (.inr (.inr rfl)) _, o, u, ⟨HI.out, ho256⟩, (hbs.set _).other (by omega) _, (hbl.other (by omega) _).set _,
                (hM.setCell (p := ⟨w.heap.size, 0, none⟩) (.inr (.inl rfl)) _).setCell (p := ⟨w.heap.size + 1, 0, none⟩) (.inr (.inr rfl)) _⟩
          · have HN := Lib.hid (hN1 (by rw [hst1, if_pos (.inr (.inl c2))]))
            have c2' : ((m : Int) != 0) = true := by simp; omega
            clear hst1 hN1 bo
            gi_wp2_with (refine at_round (Hslot.out _) ?_; rintro e w' ⟨rfl, rfl⟩)
            exact wpIn_goto HN.out
      case done =>
        rintro W ⟨s, la, ⟨hst, _⟩, _, _, hM⟩ hD
        have HR := Lib.hid hr
        have HS := Lib.hid hst
        clear hr hst
        go_wp2
        refine marks_one rfl hD (v := .bool true) (by simp [results, Try.f65]) ⟨?_, (((Mods.ofNew hN0).trans hM).new (by omega)).putObj (by omega) _⟩
        have := HS.out
        rw [places_len, Hn'.out] at this
        rw [HR.out, this]; rfl
      case stop =>
        rintro c k W hk ⟨rfl, hst, hM⟩ hD
        rw [places_len, Hn'.out] at hk
        exact wp_goto (And.intro rfl ⟨rfl, .inr ⟨_, rfl, by omega, hD⟩, ((Mods.ofNew hN0).trans hM).new (by omega), by rw [hr, stt_none hst n hk]; rfl⟩)
    · have hz1 : ((z : Int) != 0) = true := by simp; omega
      have hR : rightB x = false := by rw [rightB, Hn'.out, hy, hz]; simp [hz0]
      clear hz hy hz0
      go_wp2
      exact wp_goto (And.intro rfl ⟨rfl, .inl rfl, ((Mods.refl _ _).alloc _).alloc _, hR⟩)
end Go.Proofs.Ytkjloeefcaadlaa
