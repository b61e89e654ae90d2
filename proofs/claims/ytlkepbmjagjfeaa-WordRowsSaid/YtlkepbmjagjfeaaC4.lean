/- A row with a number more at its end, or without one. -/
import Derived.Test.YtlkepbmjagjfeaaC3
namespace Go.Proofs.Ytlkepbmjagjfeaa
open Go.RowKit Go.Shelf Go.Cs
attribute [local go_sem] Oper.semAt_some
def putL (l : List Int) (n : Int) (b : Bool) : List Int := l.filter (fun x => x != n) ++ if b then [n] else []
set_option maxHeartbeats 1000000 in
theorem put_any (v : Value) (l : List Int) (m : Int) (b : Bool) (hL : l.length ≤ 100) (w : World) (hr : ReadsI .i64 w v l) :
    Calls Try.prog 9 #[v, .int .i64 m, .bool b] w fun e w' => ∃ v', e = .returned v' ∧ w'.ownsRow w.heap.size 3 1 v' (putL l m b).length ((putL l m b).map (Value.int .i64)) ∧ New w w' := by
  obtain ⟨hlen, ao, cap, rfl, hc⟩ := hr
  obtain ⟨n, hn⟩ : ∃ n, l.length = n := ⟨_, rfl⟩
  rw [hn] at hlen hc hL ⊢
  have Hc := Lib.hid hc
  clear hc
  unfold putL
  obtain ⟨F, hF⟩ : ∃ L, l.filter (fun x => x != m) = L := ⟨_, rfl⟩
  rw [hF]
  have HF := Lib.hid hF
  clear hF
  obtain ⟨i0, hi, hz0, hz1, hz2⟩ := info_parts info3
  go_enter Try.func9, Try.ntmps9
  go_wp2
  go_loopw [7, 8] (fun v c wr => ∃ k : Nat, k ≤ n ∧ c = .int .i64 k ∧ wr.ownsRow w.heap.size 3 1 v ((l.take k).filter (fun x => x != m)).length (((l.take k).filter (fun x => x != m)).map (Value.int .i64)) ∧ New w wr) (fun _ c _ => n - (intOf c).toNat)
  case atStart => exact ⟨0, Nat.zero_le _, rfl, World.ownsRow_nil _ _ _ _, Mods.refl _ _⟩
  case round =>
    obtain ⟨k, hk, rfl, hown, hN⟩ := hrel
    by_cases hlt : k < n
    · obtain ⟨b1, o1, rfl, h1⟩ := Hc.out k hlt
      have h1 := hN.cell h1 id
      have hkl : k < l.length := by omega
      have htake : l.take (k + 1) = l.take k ++ [l.getD k 0] := by rw [List.take_succ_eq_append_getElem hkl]; simp [List.getD, hkl]
      have hsucc : (l.take (k + 1)).filter (fun x => x != m) = (l.take k).filter (fun x => x != m) ++ if (l.getD k 0 != m) = true then [l.getD k 0] else [] := by
        rw [htake, List.filter_append]
        congr 1
        simp only [List.filter_cons, List.filter_nil]
      have hle : ((l.take k).filter (fun x => x != m)).length ≤ k := Nat.le_trans (List.length_filter_le _ _) (by simp; omega)
      obtain ⟨z, hz⟩ : ∃ z, l.getD k 0 = z := ⟨_, rfl⟩
      rw [hz] at h1 hsucc
      obtain ⟨L, hLk⟩ : ∃ L, (l.take k).filter (fun x => x != m) = L := ⟨_, rfl⟩
      rw [hLk] at hsucc hown hle
      have Hs := Lib.hid hsucc
      clear hz htake hsucc hLk hkl
      by_cases hzm : z = m
      · have hq : (z == m) = true := by simp [hzm]
        have hs := Hs.out
        subst hzm
        simp only [bne_self_eq_false, Bool.false_eq_true, if_false, List.append_nil] at hs
        have hs := Lib.hid hs
        clear Hs hn
        go_wp2
        go_roundw
        case rel => exact ⟨k + 1, by omega, by go_num, by rw [hs.out]; exact hown, hN⟩
        case measure => simp [intOf]; omega
      · have hq : (z != m) = true := by simp [hzm]
        have hs := Hs.out
        rw [hq, if_pos rfl] at hs
        have hs := Lib.hid hs
        clear Hs hn
        go_wp2_with (at_builtin; refine wpList_append_own _ rfl _ _ 25 rfl w.heap.size 3 i0 _ 1 8 Try.underlying25 hi hz0 hz1 hz2 rfl (by decide) _ _ _ rfl (hown.alloc _) ⟨wr.heap.size, 0, none⟩ 1 1 [.int .i64 z] rfl rfl ?c1 ?c2 ?c3 ?c4 ?c5 ?_)
        case c1 =>
          intro j u hj
          match j, hj with
          | 0, hj => simp at hj; subst hj; simp [Addr.add]
        case c2 => intro u hu; simp at hu; subst hu; rfl
        case c3 => unfold maxLen; omega
        case c4 => omega
        case c5 => have := hN.size; simp; omega
        intro v' w2 hown' hgrow _
        rw [← List.map_singleton (f := Value.int .i64), ← List.map_append, ← hs.out, show L.length + 1 = (L ++ [z]).length by simp, ← hs.out] at hown'
        have hN2 := (hN.alloc (.cells #[.int .i64 z] 3)).grown hgrow (by intro g hg; have := (hown.alloc (.cells #[.int .i64 z] 3)).lt g hg; omega)
        clear hgrow hown hN
        go_wp2
        go_roundw
        case rel => exact ⟨k + 1, by omega, by go_num, hown', hN2⟩
        case measure => simp [intOf]; omega
    · obtain rfl : k = n := by omega
      rw [List.take_of_length_le (by omega)] at hown
      have hle : (l.filter (fun x => x != m)).length ≤ k := Nat.le_trans (List.length_filter_le _ _) (by omega)
      rw [HF.out] at hown hle
      clear hn
      cases b with
      | false =>
        go_wp2
        go_ret
        exact ⟨_, rfl, by simpa using hown, hN⟩
      | true =>
        go_wp2_with (at_builtin; refine wpList_append_own _ rfl _ _ 25 rfl w.heap.size 3 i0 _ 1 8 Try.underlying25 hi hz0 hz1 hz2 rfl (by decide) _ _ _ rfl (hown.alloc _) ⟨wr.heap.size, 0, none⟩ 1 1 [.int .i64 m] rfl rfl ?c1 ?c2 ?c3 ?c4 ?c5 ?_)
        case c1 =>
          intro j u hj
          match j, hj with
          | 0, hj => simp at hj; subst hj; simp [Addr.add]
        case c2 => intro u hu; simp at hu; subst hu; rfl
        case c3 => unfold maxLen; omega
        case c4 => omega
        case c5 => have := hN.size; simp; omega
        intro v' w2 hown' hgrow _
        rw [← List.map_singleton (f := Value.int .i64), ← List.map_append, show F.length + 1 = (F ++ [m]).length by simp] at hown'
        have hN2 := (hN.alloc (.cells #[.int .i64 m] 3)).grown hgrow (by intro g hg; have := (hown.alloc (.cells #[.int .i64 m] 3)).lt g hg; omega)
        clear hgrow hown hN
        go_wp2
        go_ret
        exact ⟨_, rfl, by simpa using hown', hN2⟩
end Go.Proofs.Ytlkepbmjagjfeaa
