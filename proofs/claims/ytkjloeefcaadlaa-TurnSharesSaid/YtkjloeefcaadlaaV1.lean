/- The document's words of lists of places, for any list. -/
import Derived.Test.YtkjloeefcaadlaaC2
import Derived.Test.YtkjloeefcaadlaaE4
namespace Go.Proofs.Ytkjloeefcaadlaa
open Go.RowKit Go.Shelf Go.Cs
attribute [local go_sem] Oper.semAt_some
def cellsP (l : List (Nat × Nat)) : List Value := l.flatMap fun p => [.int .i64 (p.1 : Nat), .int .i64 (p.2 : Nat)]
theorem cells2_dec (x n : Nat) : cells2 x n = cellsP (dec x n) := by
  unfold cells2 cellsP dec
  rw [List.flatMap_map]
theorem dec_in (x n : Nat) : InL (dec x n) := fun p hp => by
  unfold dec at hp
  obtain ⟨k, _, rfl⟩ := List.mem_map.1 hp
  exact ⟨Nat.mod_lt _ (by decide), Nat.mod_lt _ (by decide)⟩
theorem dec_enc {l : List (Nat × Nat)} (h : InL l) (h8 : l.length ≤ 8) : dec (enc l) l.length = l := by
  refine List.ext_getElem (by simp [dec]) (fun k hk hk' => ?_)
  have hp := place_at h h8 hk'
  have hm := h (l.getD k (0, 0)) (by simp [List.getD, hk'])
  have e : (dec (enc l) l.length)[k] = (place (enc l) k % 8, place (enc l) k / 8 % 8) := by simp [dec]
  rw [e, hp, digit_slot hm, digit_urgency hm]
  simp [List.getD, hk']
theorem encT_take {l : List (Nat × Nat)} {k : Nat} (hk : k < l.length) : encT (l.take (k + 1)) = encT (l.take k) + 2 ^ (7 * k) * digit (l.getD k (0, 0)) := by
  rw [List.take_succ_eq_append_getElem hk, encT_append]
  simp [encT, List.getD, hk, Nat.min_eq_left (Nat.le_of_lt hk)]
theorem enc_next {l : List (Nat × Nat)} (h : InL l) (h8 : l.length ≤ 8) {k s u : Nat} (hk : k < l.length) (hs : (l.getD k (0, 0)).1 = s) (hu : (l.getD k (0, 0)).2 = u) :
    bits .or .u64 ((l.length * 2 ^ 60 + encT (l.take k) : Nat) : Int) (IntKind.u64.wrap ((64 + 8 * ((u : Nat) : Int) + ((s : Nat) : Int)) * 2 ^ (7 * k))) = ((l.length * 2 ^ 60 + encT (l.take (k + 1)) : Nat) : Int) := by
  have hm := h (l.getD k (0, 0)) (by simp [List.getD, hk])
  have hd := digit_lt hm
  have hdd : digit (l.getD k (0, 0)) = 64 + 8 * u + s := by unfold digit; rw [hs, hu]
  rw [hs, hu] at hm
  have hlow : encT (l.take k) < 2 ^ (7 * k) := by
    have := encT_lt (l := l.take k) (fun p hp => h p (List.mem_of_mem_take hp))
    rwa [List.length_take, Nat.min_eq_left (Nat.le_of_lt hk)] at this
  have hp : 2 ^ (7 * k) ≤ 2 ^ 49 := Nat.pow_le_pow_right (n := 2) (by decide) (by omega)
  have hmm : (64 + 8 * u + s) * 2 ^ (7 * k) ≤ 127 * 2 ^ 49 := Nat.mul_le_mul (by omega) hp
  have hn : l.length * 2 ^ 60 ≤ 8 * 2 ^ 60 := Nat.mul_le_mul h8 (Nat.le_refl _)
  have e1 : (64 + 8 * ((u : Nat) : Int) + ((s : Nat) : Int)) = ((64 + 8 * u + s : Nat) : Int) := by omega
  rw [e1, cast_pow, ← Int.natCast_mul, wrapN, Nat.mod_eq_of_lt (by omega), or_u64 _ _ (by omega) (by omega), encT_take hk, hdd]
  congr 1
  have j1 : l.length * 2 ^ 60 + encT (l.take k) = l.length * 2 ^ 60 ||| encT (l.take k) := (nat_join 60 _ _ (Nat.mul_mod_left _ _) (by omega)).symm
  rw [j1, Nat.or_assoc, Nat.or_comm (encT (l.take k)), nat_join (7 * k) _ _ (Nat.mul_mod_left _ _) hlow, Nat.add_comm _ (encT (l.take k)), Nat.mul_comm (64 + 8 * u + s)]
  exact nat_join 60 _ _ (Nat.mul_mod_left _ _) (by rw [Nat.mul_comm (2 ^ (7 * k))]; omega)
/-- A slice of places that reads as the list. -/
def ReadsP (l : List (Nat × Nat)) (W : World) (v : Value) : Prop :=
  ∃ ao cap, v = .slice ao l.length cap ∧ ∀ k, k < l.length → ∃ b, ao = some ⟨b, 0, none⟩ ∧ W.cell? ⟨b, k * 2, none⟩ = some (.int .i64 (l.getD k (0, 0)).1) ∧ W.cell? ⟨b, k * 2 + 1, none⟩ = some (.int .i64 (l.getD k (0, 0)).2)
theorem ReadsP.new {l : List (Nat × Nat)} {W W' : World} {v : Value} (h : ReadsP l W v) (hN : New W W') : ReadsP l W' v := by
  obtain ⟨ao, cap, e, hc⟩ := h
  refine ⟨ao, cap, e, fun k hk => ?_⟩
  obtain ⟨b, e2, h1, h2⟩ := hc k hk
  exact ⟨b, e2, hN.cell h1 id, hN.cell h2 id⟩
theorem cellsP_at (l : List (Nat × Nat)) (k : Nat) (hk : k < l.length) : (cellsP l)[k * 2]? = some (.int .i64 (l.getD k (0, 0)).1) ∧ (cellsP l)[k * 2 + 1]? = some (.int .i64 (l.getD k (0, 0)).2) := by
  induction l generalizing k with
  | nil => simp at hk
  | cons p t ih =>
    cases k with
    | zero => exact ⟨rfl, rfl⟩
    | succ k =>
      have := ih k (by simpa using hk)
      unfold cellsP at this ⊢
      rw [List.flatMap_cons]
      simpa [Nat.succ_mul] using this
theorem cellsP_len (l : List (Nat × Nat)) : (cellsP l).length = l.length * 2 := by
  induction l with
  | nil => rfl
  | cons p t ih =>
    unfold cellsP at ih ⊢
    rw [List.flatMap_cons]
    simp [ih]; omega
theorem ReadsP.ofOwns {base n : Nat} {l : List (Nat × Nat)} {W : World} {v : Value} (hn : n = l.length) (h : W.ownsRow base 126 2 v n (cellsP l)) : ReadsP l W v := by
  subst hn
  have hc := fun g => World.ownsRow.cells (g := g) h
  obtain ⟨_, ⟨rfl, h0⟩ | ⟨g, cap, cur, rfl, _⟩⟩ := h
  · exact ⟨none, 0, by rw [h0], fun k hk => by omega⟩
  · refine ⟨some ⟨g, 0, none⟩, cap, rfl, fun k hk => ⟨g, rfl, ?_⟩⟩
    obtain ⟨h1, h2⟩ := cellsP_at l k hk
    have a1 := hc g rfl _ _ h1
    have a2 := hc g rfl _ _ h2
    rw [Addr.add_lit, Nat.zero_add] at a1 a2
    exact ⟨a1, a2⟩
set_option maxRecDepth 100000 in
theorem list_over (x m : Nat) (hx : x < 18446744073709551616) (hm : x / 2 ^ 60 = m) (h9 : 8 < m) (w : World) :
    Calls Try.prog 67 #[.int .u64 x] w fun e w' => ∃ v, e = .returned v ∧ w'.ownsRow w.heap.size 126 2 v 8 (cells2 x 8) ∧ New w w' := by
  have HP := Lib.hid (place_ref x)
  have he : (x : Int) / 1152921504606846976 = (m : Int) := by simp only [Nat.reducePow] at hm; omega
  have h9' : (8 : Int) < (m : Int) := by omega
  clear hm
  obtain ⟨i0, hi, hz0, hz1, hz2⟩ := info_parts info55
  go_enter Try.func67, Try.ntmps67
  go_wp2
  go_loopw [3, 4, 5] (fun v c d wr => ∃ k : Nat, k ≤ 8 ∧ c = .int .i64 k ∧ wr.ownsRow w.heap.size 126 2 v k (cells2 x k) ∧ New w wr) (fun _ c _ _ => 8 - (intOf c).toNat)
  case atStart => exact ⟨0, Nat.zero_le _, rfl, World.ownsRow_nil _ _ _ _, Mods.refl _ _⟩
  case round =>
    obtain ⟨k, hk, rfl, hown, hN⟩ := hrel
    by_cases hlt : k < 8
    · have hq128 := place_lt x k
      have hcs := cells2_succ x k
      have HPk := HP.out k hx (by omega)
      obtain ⟨q, hq⟩ : ∃ q, place x k = q := ⟨_, rfl⟩
      rw [hq] at hq128 hcs HPk
      have e1 : ((q : Int).tmod 8) = ((q % 8 : Nat) : Int) := by rw [Int.tmod_eq_emod_of_nonneg (by omega)]; rfl
      have e2 : ((q : Int).tdiv 8) = ((q / 8 : Nat) : Int) := by rw [Int.tdiv_eq_ediv_of_nonneg (by omega)]; rfl
      have e3 : (((q / 8 : Nat) : Int).tmod 8) = ((q / 8 % 8 : Nat) : Int) := by rw [Int.tmod_eq_emod_of_nonneg (by omega)]; rfl
      obtain ⟨r, hr, hr8⟩ : ∃ r, q % 8 = r ∧ r < 8 := ⟨_, rfl, Nat.mod_lt _ (by decide)⟩
      obtain ⟨d, hd, hd16⟩ : ∃ r, q / 8 = r ∧ r < 16 := ⟨_, rfl, by omega⟩
      rw [hd] at e2 e3 hcs
      obtain ⟨t, ht, ht8⟩ : ∃ r, d % 8 = r ∧ r < 8 := ⟨_, rfl, Nat.mod_lt _ (by decide)⟩
      rw [hr] at e1 hcs
      rw [ht] at e3 hcs
      have HPk := Lib.hid HPk
      clear hq hr ht hd
      go_wp2_with fail
      refine (HPk.out _).mono ?_
      rintro e w1 ⟨rfl, rfl⟩
      go_wp2_with (at_builtin; refine wpList_append_own _ rfl _ _ 123 rfl w.heap.size 126 i0 _ 2 16 Try.underlying123 hi hz0 hz1 hz2 rfl (by decide) _ _ _ rfl (hown.alloc _) ⟨wr.heap.size, 0, none⟩ 1 1 [.int .i64 r, .int .i64 t] rfl rfl ?c1 ?c2 ?c3 ?c4 ?c5 ?_)
      case c1 =>
        intro j u hj
        match j, hj with
        | 0, hj => simp at hj; subst hj; simp [Addr.add]
        | 1, hj => simp at hj; subst hj; simp [Addr.add]
      case c2 => intro u hu; simp at hu; rcases hu with rfl | rfl <;> rfl
      case c3 => unfold maxLen; omega
      case c4 => omega
      case c5 => have := hN.size; simp; omega
      intro v' w2 hown' hgrow _
      rw [← hcs] at hown'
      have hN2 := (hN.alloc (.cells #[.int .i64 r, .int .i64 t] 126)).grown hgrow (by intro g hg; have := (hown.alloc (.cells #[.int .i64 r, .int .i64 t] 126)).lt g hg; omega)
      clear hgrow hown hN hcs
      go_wp2
      go_roundw
      case rel => exact ⟨k + 1, by omega, by go_num, hown', hN2⟩
      case measure => simp [intOf]; omega
    · go_wp2_with fail
      obtain rfl : k = 8 := by omega
      go_ret
      exact ⟨_, rfl, hown, hN⟩
theorem list_gen (x n : Nat) (hx : x < 18446744073709551616) (hn : min (x / 2 ^ 60) 8 = n) (w : World) :
    Calls Try.prog 67 #[.int .u64 x] w fun e w' => ∃ v, e = .returned v ∧ w'.ownsRow w.heap.size 126 2 v n (cellsP (dec x n)) ∧ New w w' := by
  rw [← cells2_dec]
  by_cases h : x / 2 ^ 60 ≤ 8
  · exact list_ref x n hx (by omega) (by omega) w
  · obtain rfl : n = 8 := by omega
    exact list_over x _ hx rfl (by omega) w
theorem word_gen (l : List (Nat × Nat)) (h : InL l) (h8 : l.length ≤ 8) (v : Value) (w : World) (hv : ReadsP l w v) :
    Calls Try.prog 68 #[v] w fun e w' => e = .returned (.int .u64 (enc l : Nat)) ∧ New w w' := by
  obtain ⟨ao, cap, rfl, hc⟩ := hv
  have Hnext := Lib.hid (fun k s u hk hs hu => enc_next h h8 (k := k) (s := s) (u := u) hk hs hu)
  have Hin := Lib.hid (fun k (hk : k < l.length) => h (l.getD k (0, 0)) (by simp [List.getD, hk]))
  have Hall := Lib.hid (show l.length * 2 ^ 60 + encT (l.take l.length) = enc l by rw [List.take_length]; rfl)
  have Hzero := Lib.hid (show l.length * 2 ^ 60 + encT (l.take 0) = l.length * 2 ^ 60 by simp [encT])
  obtain ⟨P, hP⟩ : ∃ P : Nat → Nat, ∀ k, l.length * 2 ^ 60 + encT (l.take k) = P k := ⟨_, fun _ => rfl⟩
  obtain ⟨n, hn⟩ : ∃ n, l.length = n := ⟨_, rfl⟩
  simp only [hP] at Hnext Hall Hzero
  rw [hn] at hc h8 Hin Hall Hzero Hnext ⊢
  have hs : IntKind.u64.wrap ((n : Int) * 1152921504606846976) = (P 0 : Int) := by
    rw [Hzero.out, show ((n : Int) * 1152921504606846976) = ((n * 2 ^ 60 : Nat) : Int) by simp, wrapN, Nat.mod_eq_of_lt (by omega)]
  have Hc := Lib.hid hc
  obtain ⟨p0, hp0⟩ : ∃ p, P 0 = p := ⟨_, rfl⟩
  rw [hp0] at hs
  have Hp0 := Lib.hid hp0
  clear hc h hP hn hp0
  go_enter Try.func68, Try.ntmps68
  go_wp2
  go_loopw [3, 4] (fun p i wr => ∃ k : Nat, k ≤ n ∧ i = .int .i64 k ∧ p = .int .u64 (P k) ∧ New w wr) (fun _ i _ => n - (intOf i).toNat)
  case atStart => exact ⟨0, Nat.zero_le _, rfl, by rw [Hp0.out], Mods.refl _ _⟩
  case round =>
    obtain ⟨k, hk, rfl, rfl, hN⟩ := hrel
    clear hs
    by_cases hlt : k < n
    · obtain ⟨b, rfl, h1, h2⟩ := Hc.out k hlt
      have h1 := hN.cell h1 id
      have h2 := hN.cell h2 id
      obtain ⟨hsl8, hu8⟩ := Hin.out k hlt
      have hnx := Hnext.out k _ _ hlt rfl rfl
      obtain ⟨sl, hsl⟩ : ∃ s, (l.getD k (0, 0)).1 = s := ⟨_, rfl⟩
      obtain ⟨u, hu⟩ : ∃ s, (l.getD k (0, 0)).2 = s := ⟨_, rfl⟩
      rw [hsl] at hsl8 h1 hnx
      rw [hu] at hu8 h2 hnx
      obtain ⟨p, hp⟩ : ∃ p, P k = p := ⟨_, rfl⟩
      obtain ⟨p', hp'⟩ : ∃ p, P (k + 1) = p := ⟨_, rfl⟩
      rw [hp, hp'] at hnx
      rw [hp]
      have Hp' := Lib.hid hp'
      clear hsl hu hp hp'
      go_wp2
      go_quiet (fail)
      go_wp2
      go_roundw
      case rel => exact ⟨k + 1, by omega, by go_num, by rw [Hp'.out], hN.drewN _⟩
      case measure => simp [intOf]; omega
    · obtain rfl : k = n := by omega
      go_wp2
      go_ret
      exact ⟨by rw [Hall.out]; rfl, hN⟩
end Go.Proofs.Ytkjloeefcaadlaa
