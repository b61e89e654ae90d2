/- One that swaps. -/
import Derived.Test.YtkjloeefcaadlaaP16
set_option linter.unusedSimpArgs false
set_option linter.unusedVariables false
namespace Go.Proofs.Ytkjloeefcaadlaa
open Go.RowKit Go.Shelf Go.Cs
attribute [local go_sem] Oper.semAt_some
def DS (w : Nat) (p : Dn) : Nat × Nat × Bool := doesS w p.d p.s p.u
/-- While one swaps. -/
structure SI (O N x : Nat) (c : Int) (g cap n h hcap nh : Nat) (H : List Mo) (L : List Th) (lv : Nat → Value) (W0 W : World) : Prop where
  len : L.length = n ∧ H.length = nh
  mb : MB W O x c (.slice (some ⟨g, 0, none⟩) n cap) (.slice (some ⟨h, 0, none⟩) nh hcap)
  hist : W.ownsRow N 95 8 (.slice (some ⟨h, 0, none⟩) nh hcap) nh (flatF nh (mosF H))
  ths : W.ownsRow N 100 4 (.slice (some ⟨g, 0, none⟩) n cap) n (flatF n (thsF L lv))
  left : ∀ j, j < n → ReadsE W (lv j) (L.getD j .no).left
  apart : ∀ j, j < n → 0 < (L.getD j .no).left.length → ∀ b, (lv j).ownBlock = some b → b ≠ g ∧ b ≠ h
  mods : Mods (Wr O (.slice (some ⟨g, 0, none⟩) n cap) (.slice (some ⟨h, 0, none⟩) nh hcap)) W0 W
section
variable {O N x : Nat} {c : Int} {g cap n h hcap nh : Nat} {H : List Mo} {L : List Th} {lv : Nat → Value} {W0 W W' : World}
theorem SI.new (s : SI O N x c g cap n h hcap nh H L lv W0 W) (hN : New W W') : SI O N x c g cap n h hcap nh H L lv W0 W' :=
  ⟨s.len, s.mb.new hN, hN.ownsRow s.hist fun _ _ => id, hN.ownsRow s.ths fun _ _ => id, fun j hj => (s.left j hj).new hN, s.apart, s.mods.trans (Mods.ofNew hN)⟩
theorem SI.gO (s : SI O N x c g cap n h hcap nh H L lv W0 W) : g ≠ O := s.mb.apart s.ths (by decide) rfl
theorem SI.hO (s : SI O N x c g cap n h hcap nh H L lv W0 W) : h ≠ O := s.mb.apart s.hist (by decide) rfl
theorem SI.hg (s : SI O N x c g cap n h hcap nh H L lv W0 W) : h ≠ g := fun e => own_ne s.hist s.ths (by decide) (g := h) rfl (by rw [e]; rfl)
theorem SI.word (s : SI O N x c g cap n h hcap nh H L lv W0 W) (y : Nat) : SI O N y c g cap n h hcap nh H L lv W0 (W.setCell ⟨O, 0, none⟩ (.int .u64 y)) :=
  ⟨s.len, s.mb.set0 y, own_other s.hist (fun {_} e => s.mb.apart s.hist (by decide) e) _ _, own_other s.ths (fun {_} e => s.mb.apart s.ths (by decide) e) _ _, fun j hj => (s.left j hj).kept0 (setMods _ _ _ _) fun h0 _ hb => s.mb.left_ne (s.left j hj) h0 hb, s.apart, s.mods.setCell (p := ⟨O, 0, none⟩) (.inr (.inl rfl)) _⟩
/-- A thread's cell written. -/
theorem SI.thread (s : SI O N x c g cap n h hcap nh H L lv W0 W) {i : Nat} (hi : i < n) {t t' : Th} (ht : L.getD i .no = t) {lv' : Nat → Value} {r : Nat} (hr : r < 4) {u : Value} (hu : (t.cs (lv i)).set r u = t'.cs (lv' i)) (hlv : ∀ j, j ≠ i → lv' j = lv j)
    (hs : ReadsE (W.setCell ⟨g, i * 4 + r, none⟩ u) (lv' i) t'.left ∧ (0 < t'.left.length → ∀ b, (lv' i).ownBlock = some b → b ≠ g ∧ b ≠ h)) :
    SI O N x c g cap n h hcap nh H (L.set i t') lv' W0 (W.setCell ⟨g, i * 4 + r, none⟩ u) := by
  obtain ⟨l1, l2⟩ := s.len
  refine ⟨⟨by rw [List.length_set]; exact l1, l2⟩, s.mb.other (fun e => s.gO e.symm) _, own_other s.hist (fun {_} e e2 => s.hg (by cases e; exact e2)) _ _, ?_, ?_, ?_, s.mods.setCell (p := ⟨g, i * 4 + r, none⟩) (.inr (.inr (.inl rfl))) _⟩
  · have h1 := own_set (thsF_len _ _) s.ths hi hr u
    rw [flatF_congr (g := thsF (L.set i t') lv')] at h1
    · exact h1
    · intro k _
      exact ths_set (by omega) (by unfold thsF; rw [ht]; exact hu) hlv k
  · intro j hj
    rw [getD_set]
    by_cases hji : i = j
    · subst hji
      rw [if_pos ⟨rfl, by omega⟩]
      exact hs.1
    · rw [if_neg (fun e => hji e.1), hlv j (fun e => hji e.symm)]
      exact (s.left j hj).kept0 (setMods _ _ _ _) fun h0 b hb e => (s.apart j hj h0 b hb).1 e
  · intro j hj
    rw [getD_set]
    by_cases hji : i = j
    · subst hji
      rw [if_pos ⟨rfl, by omega⟩]
      exact hs.2
    · rw [if_neg (fun e => hji e.1), hlv j (fun e => hji e.symm)]
      exact s.apart j hj
theorem SI.thread' (s : SI O N x c g cap n h hcap nh H L lv W0 W) {i : Nat} (hi : i < n) {t t' : Th} (ht : L.getD i .no = t) {r : Nat} (hr : r < 4) {u : Value} (hu : (t.cs (lv i)).set r u = t'.cs (lv i)) (he : t'.left = t.left) :
    SI O N x c g cap n h hcap nh H (L.set i t') lv W0 (W.setCell ⟨g, i * 4 + r, none⟩ u) := by
  have h1 := s.left i hi
  have h2 := s.apart i hi
  rw [ht] at h1 h2
  refine s.thread hi ht hr hu (fun _ _ => rfl) ?_
  rw [he]
  exact ⟨h1.kept0 (setMods _ _ _ _) fun h0 b hb e => (h2 h0 b hb).1 e, h2⟩
/-- A moment's cell written. -/
theorem SI.moment (s : SI O N x c g cap n h hcap nh H L lv W0 W) {i : Nat} (hi : i < nh) {m m' : Mo} (ht : H.getD i .no = m) {r : Nat} (hr : r < 8) {u : Value} (hu : m.cs.set r u = m'.cs) :
    SI O N x c g cap n h hcap nh (H.set i m') L lv W0 (W.setCell ⟨h, i * 8 + r, none⟩ u) := by
  obtain ⟨l1, l2⟩ := s.len
  refine ⟨⟨l1, by rw [List.length_set]; exact l2⟩, s.mb.other (fun e => s.hO e.symm) _, ?_, own_other s.ths (fun {_} e e2 => s.hg (by cases e; exact e2.symm)) _ _, ?_, s.apart, s.mods.setCell (p := ⟨h, i * 8 + r, none⟩) (.inr (.inr (.inr rfl))) _⟩
  · have h1 := own_set (mosF_len _) s.hist hi hr u
    rw [flatF_congr (g := mosF (H.set i m'))] at h1
    · exact h1
    · intro k _
      exact mos_set (by omega) (by unfold mosF; rw [ht]; exact hu) k
  · intro j hj
    exact (s.left j hj).kept0 (setMods _ _ _ _) fun h0 b hb e => (s.apart j hj h0 b hb).2 e
theorem SI.th (s : SI O N x c g cap n h hcap nh H L lv W0 W) {i : Nat} (hi : i < n) {t : Th} (ht : L.getD i .no = t) (r : Nat) (hr : r < 4) : W.cell? ⟨g, i * 4 + r, none⟩ = (t.cs (lv i))[r]? ∧ W.frozen? ⟨g, i * 4 + r, none⟩ = false := by
  obtain ⟨rfl, _⟩ := s.len
  rw [← ht]
  exact own_thread s.ths hi r hr
theorem SI.mo (s : SI O N x c g cap n h hcap nh H L lv W0 W) {i : Nat} (hi : i < nh) {m : Mo} (ht : H.getD i .no = m) (r : Nat) (hr : r < 8) : W.cell? ⟨h, i * 8 + r, none⟩ = m.cs[r]? ∧ W.frozen? ⟨h, i * 8 + r, none⟩ = false := by
  obtain ⟨_, rfl⟩ := s.len
  rw [← ht]
  exact own_moment s.hist hi r hr
end
theorem MaO.hrow {W : World} {N : Nat} {m : Ma} {tv hh : Value} {lv : Nat → Value} (h : MaO W N m tv hh lv) {i : Nat} (hi : i < m.hist.length) : ∃ g cap, hh = .slice (some ⟨g, 0, none⟩) m.hist.length cap := by
  rcases h.hist.2 with ⟨_, h0⟩ | ⟨g, cap, cur, rfl, _⟩
  · omega
  · exact ⟨g, cap, rfl⟩
theorem MaO.si {W : World} {O N : Nat} {m : Ma} {g cap h hcap : Nat} {lv : Nat → Value} (hM : MaO W N m (.slice (some ⟨g, 0, none⟩) m.ths.length cap) (.slice (some ⟨h, 0, none⟩) m.hist.length hcap) lv) (hB : MB W O m.word m.clock (.slice (some ⟨g, 0, none⟩) m.ths.length cap) (.slice (some ⟨h, 0, none⟩) m.hist.length hcap)) :
    SI O N m.word m.clock g cap m.ths.length h hcap m.hist.length m.hist m.ths lv W W :=
  ⟨⟨rfl, rfl⟩, hB, hM.hist, hM.ths, hM.left, fun j hj h0 b hb => ⟨fun e => (hM.apart j hj h0 b hb).1 (by subst e; rfl), fun e => (hM.apart j hj h0 b hb).2 (by subst e; rfl)⟩, Mods.refl _ _⟩
theorem SI.back {O N x : Nat} {c : Int} {g cap n h hcap nh : Nat} {H : List Mo} {L : List Th} {lv : Nat → Value} {W0 W : World} (s : SI O N x c g cap n h hcap nh H L lv W0 W) (hsm : n ≤ 2000000 ∧ nh ≤ 2000000) (hc : ∀ j, j < n → ∃ ao cap, lv j = .slice ao (L.getD j .no).left.length cap ∧ (L.getD j .no).left.length ≤ cap) :
    MB W O x c (.slice (some ⟨g, 0, none⟩) n cap) (.slice (some ⟨h, 0, none⟩) nh hcap) ∧ MaO W N ⟨x, c, L, H⟩ (.slice (some ⟨g, 0, none⟩) n cap) (.slice (some ⟨h, 0, none⟩) nh hcap) lv ∧ Mods (Wr O (.slice (some ⟨g, 0, none⟩) n cap) (.slice (some ⟨h, 0, none⟩) nh hcap)) W0 W := by
  obtain ⟨l1, l2⟩ := s.len
  have h1 := s.ths
  have h2 := s.hist
  refine ⟨s.mb, ⟨?_, fun j hj => s.left j (by rw [← l1]; exact hj), fun j hj h0 b hb => ⟨fun e => (s.apart j (by rw [← l1]; exact hj) h0 b hb).1 (by cases e; rfl), fun e => (s.apart j (by rw [← l1]; exact hj) h0 b hb).2 (by cases e; rfl)⟩, fun j hj => hc j (by rw [← l1]; exact hj), ?_, ?_⟩, s.mods⟩
  · show W.ownsRow N 100 4 _ L.length (flatF L.length _)
    rw [l1]; exact h1
  · show W.ownsRow N 95 8 _ H.length (flatF H.length _)
    rw [l2]; exact h2
  · show L.length ≤ _ ∧ H.length ≤ _
    rw [l1, l2]; exact hsm
theorem SI.cast {O N x : Nat} {c : Int} {g cap n h hcap nh : Nat} {H : List Mo} {L L' : List Th} {lv : Nat → Value} {W0 W : World} (s : SI O N x c g cap n h hcap nh H L lv W0 W) (e : L = L') : SI O N x c g cap n h hcap nh H L' lv W0 W := e ▸ s
/-- What lies behind the swap. -/
def Swapped (W W6 : World) (O N : Nat) (m : Ma) (g cap h hcap x i j : Nat) (t : Th) (sl : Nat) (ok : Bool) (mo : Mo) (lv : Nat → Value) : Prop :=
  SI O N x m.clock g cap m.ths.length h hcap m.hist.length (m.hist.set j { mo with en := m.clock, slot := (sl : Nat), ok := ok }) (m.ths.set i { t with loaded := false, seen := 0 }) lv W W6
theorem swap_end {W W6 : World} {O N : Nat} {m : Ma} {g cap h hcap x i j : Nat} {t : Th} {sl : Nat} {ok : Bool} {mo : Mo} {lv : Nat → Value} (s6 : Swapped W W6 O N m g cap h hcap x i j t sl ok mo lv) (hi : i < m.ths.length) (hsm : m.ths.length ≤ 2000000 ∧ m.hist.length ≤ 2000000)
    (hcp : ∀ j, j < m.ths.length → ∃ ao cap, lv j = .slice ao (m.ths.getD j .no).left.length cap ∧ (m.ths.getD j .no).left.length ≤ cap)
    {lb lo lc : Nat} (hle : lv i = .slice (some ⟨lb, lo, none⟩) t.left.length lc) (hl : 0 < t.left.length) (hlc : t.left.length ≤ lc) (nv : Value) (hnv : (lc = 1 ∧ nv = .slice (some ⟨lb, lo, none⟩) 0 0) ∨ nv = .slice (some ⟨lb, lo + 3, none⟩) (t.left.length - 1) (lc - 1)) :
    ∃ lv', MB ((W6.setCell ⟨g, i * 4, none⟩ nv).setCell ⟨g, i * 4 + 3, none⟩ (.int .i64 (-1))) O x m.clock (.slice (some ⟨g, 0, none⟩) m.ths.length cap) (.slice (some ⟨h, 0, none⟩) m.hist.length hcap) ∧
      MaO ((W6.setCell ⟨g, i * 4, none⟩ nv).setCell ⟨g, i * 4 + 3, none⟩ (.int .i64 (-1))) N ⟨x, m.clock, m.ths.set i ⟨t.left.drop 1, false, 0, -1⟩, m.hist.set j { mo with en := m.clock, slot := (sl : Nat), ok := ok }⟩ (.slice (some ⟨g, 0, none⟩) m.ths.length cap) (.slice (some ⟨h, 0, none⟩) m.hist.length hcap) lv' ∧
      Mods (Wr O (.slice (some ⟨g, 0, none⟩) m.ths.length cap) (.slice (some ⟨h, 0, none⟩) m.hist.length hcap)) W ((W6.setCell ⟨g, i * 4, none⟩ nv).setCell ⟨g, i * 4 + 3, none⟩ (.int .i64 (-1))) := by
  have s6 : SI O N x m.clock g cap m.ths.length h hcap m.hist.length (m.hist.set j { mo with en := m.clock, slot := (sl : Nat), ok := ok }) (m.ths.set i { t with loaded := false, seen := 0 }) lv W W6 := s6
  have ht1 : (m.ths.set i { t with loaded := false, seen := 0 }).getD i .no = { t with loaded := false, seen := 0 } := by rw [getD_set, if_pos ⟨rfl, hi⟩]
  have hd1 : (t.left.drop 1).length = t.left.length - 1 := List.length_drop
  have hn : ∃ ao cp, nv = .slice ao (t.left.length - 1) cp ∧ t.left.length - 1 ≤ cp := by
    rcases hnv with ⟨e, rfl⟩ | rfl
    · exact ⟨_, 0, by rw [show t.left.length - 1 = 0 by omega], by omega⟩
    · exact ⟨_, lc - 1, rfl, by omega⟩
  have hap := s6.apart i hi
  have hlr := s6.left i hi
  rw [ht1] at hap hlr
  have hap : ∀ b, (lv i).ownBlock = some b → b ≠ g ∧ b ≠ h := hap hl
  have hnb : ∀ b, nv.ownBlock = some b → b ≠ g ∧ b ≠ h := by
    intro b hb
    apply hap b
    rw [hle]
    rcases hnv with ⟨e, rfl⟩ | rfl <;> exact hb
  have hrd : ReadsE W6 nv (t.left.drop 1) := by
    obtain ⟨h1, ao, cp, he, hr⟩ := hlr
    have h1 : t.left.length ≤ 5864062014805 := h1
    have hr : ∀ k, k < t.left.length → ∃ b o, ao = some ⟨b, o, none⟩ ∧ W6.rangeAt b (o + k * 3) (t.left.getD k .no).cs := hr
    rw [hle] at he
    have he : ao = some ⟨lb, lo, none⟩ := by cases he; rfl
    subst he
    rcases hnv with ⟨e, rfl⟩ | rfl
    · refine ⟨by omega, _, 0, by rw [hd1, show t.left.length - 1 = 0 by omega], fun k hk => by omega⟩
    · refine ⟨by omega, _, lc - 1, by rw [hd1], fun k hk => ⟨lb, lo + 3, rfl, ?_⟩⟩
      obtain ⟨b, o, e, hh⟩ := hr (k + 1) (by omega)
      cases e
      have e1 : (t.left.drop 1).getD k .no = t.left.getD (k + 1) .no := by simp [List.getD, Nat.add_comm]
      rw [e1, show lo + 3 + k * 3 = lo + (k + 1) * 3 by omega]
      exact hh
  have s7 := s6.thread hi ht1 (t' := { left := t.left.drop 1, loaded := false, seen := 0, moment := t.moment }) (lv' := fun q => if q = i then nv else lv q) (r := 0) (by decide) (u := nv) (by simp [Th.cs]) (fun q hq => if_neg hq) (by
    rw [if_pos rfl]
    exact ⟨hrd.kept (setMods _ _ _ _) fun b hb e => (hnb b hb).1 e, fun _ => hnb⟩)
  have s8 := s7.thread' hi (t := { left := t.left.drop 1, loaded := false, seen := 0, moment := t.moment }) (by rw [getD_set, if_pos ⟨rfl, by rw [List.length_set]; exact hi⟩]) (t' := ⟨t.left.drop 1, false, 0, -1⟩) (r := 3) (by decide) (u := .int .i64 (-1)) rfl rfl
  rw [List.set_set, List.set_set] at s8
  refine ⟨_, s8.back hsm ?_⟩
  intro q hq
  rw [getD_set]
  by_cases hqi : i = q
  · subst hqi
    rw [if_pos rfl, if_pos (⟨rfl, hq⟩ : i = i ∧ i < m.ths.length)]
    obtain ⟨ao, cp, e1, e2⟩ := hn
    exact ⟨ao, cp, by rw [e1, hd1], by rw [hd1]; exact e2⟩
  · rw [if_neg (fun e => hqi e.symm : ¬ q = i), if_neg (fun e => hqi e.1 : ¬ (i = q ∧ q < m.ths.length))]
    exact hcp q hq
set_option maxRecDepth 100000 in
set_option maxHeartbeats 4000000 in
theorem swaps_any (W : World) (O N : Nat) (m : Ma) (tv hh : Value) (lv : Nat → Value) (i j : Nat) (t : Th) (hi : i < m.ths.length) (ht : m.ths.getD i .no = t) (hl : 0 < t.left.length) (hj : t.moment = j) (hjl : j < m.hist.length) (hsn : t.seen < 18446744073709551616) (hin : InLs t.left)
    (hB : MB W O m.word m.clock tv hh) (hM : MaO W N m tv hh lv) :
    Calls Try.prog 99 #[.pointer (some ⟨O, 0, none⟩), .int .i64 i] W fun e W' => (∃ v, e = .returned v) ∧ ∃ lv', MB W' O (swapM DS m i t).word m.clock tv hh ∧ MaO W' N (swapM DS m i t) tv hh lv' ∧ Mods (Wr O tv hh) W W' := by
  obtain ⟨g, cap, rfl⟩ := hM.row hi
  obtain ⟨h, hcap, rfl⟩ := hM.hrow hjl
  have hsm := hM.small
  have Hcp := Lib.hid hM.caps
  have s0 := hM.si hB
  have s1 := (s0.thread' hi ht (t' := { t with loaded := false }) (r := 1) (u := .bool false) (by decide) rfl rfl).thread' hi (t := { t with loaded := false }) (t' := { t with loaded := false, seen := 0 }) (by rw [getD_set, if_pos ⟨rfl, hi⟩]) (r := 2) (u := .int .u64 0) (by decide) rfl rfl
  rw [List.set_set] at s1
  have hgO1 : ¬ g = O := s0.gO
  have hgO2 : ¬ O = g := fun e => s0.gO e.symm
  obtain ⟨a1, f1⟩ := s0.th hi ht 1 (by decide)
  obtain ⟨a2, f2⟩ := s0.th hi ht 2 (by decide)
  replace a1 : W.cell? ⟨g, i * 4 + 1, none⟩ = some (.bool t.loaded) := a1
  replace a2 : W.cell? ⟨g, i * 4 + 2, none⟩ = some (.int .u64 (t.seen : Nat)) := a2
  have c2 := hB.c2
  have i0 : (0 : Int) ≤ (i : Int) := by omega
  have i1 : (i : Int) < (m.ths.length : Int) := by omega
  have S1 := Lib.hid s1
  clear s1 s0 hM hB
  go_enter Try.func99, Try.ntmps99
  go_upto_region 3 with fail
  obtain ⟨W1, hW1⟩ : ∃ W1, (W.setCell ⟨g, i * 4 + 1, none⟩ (.bool false)).setCell ⟨g, i * 4 + 2, none⟩ (.int .u64 0) = W1 := ⟨_, rfl⟩
  have s1 := S1.out
  rw [hW1] at s1 ⊢
  clear hW1 S1 a1 f1 a2 f2 c2
  have ht1 : (m.ths.set i { t with loaded := false, seen := 0 }).getD i .no = { t with loaded := false, seen := 0 } := by rw [getD_set, if_pos ⟨rfl, hi⟩]
  have a0 := (s1.th hi ht1 0 (by decide)).1
  have hlf := s1.left i hi
  rw [ht1] at hlf
  obtain ⟨_, lao, lc, hle, hlr⟩ := hlf
  obtain ⟨lb, lo, rfl, hrd⟩ := hlr 0 hl
  rw [Nat.zero_mul, Nat.add_zero] at hrd
  replace a0 : W1.cell? ⟨g, i * 4, none⟩ = some (.slice (some ⟨lb, lo, none⟩) t.left.length lc) := a0.trans (congrArg some hle)
  have hl0 : (0 : Int) < (t.left.length : Int) := by omega
  obtain ⟨p, hp⟩ : ∃ p, t.left.getD 0 .no = p := ⟨_, rfl⟩
  have hpin : InD p := by rw [← hp]; exact hin 0 hl
  replace hrd : W1.rangeAt lb lo p.cs := by rw [← hp]; exact hrd
  have HD := Lib.hid (does_S t.seen p.d p.s p.u hsn hpin.1.1 hpin.1.2 hpin.2.1 hpin.2.2)
  obtain ⟨⟨y, sl, ok⟩, hy⟩ : ∃ y, DS t.seen p = y := ⟨_, rfl⟩
  have hy' : doesS t.seen p.d p.s p.u = (y, sl, ok) := hy
  rw [hy'] at HD
  have Hy := Lib.hid hy
  have Hp := Lib.hid hp
  have Ht1 := Lib.hid ht1
  have Hj := Lib.hid hj
  have Ht := Lib.hid ht
  have Hle := Lib.hid hle
  have S1 := Lib.hid s1
  clear hy hy' hp ht1 hlr hpin hin hsn hle hj ht s1
  go_wp2_with (refine op_value rfl (run_load_mid 93 (.tmp 31) rfl lb lo rfl p.cs _ hrd Try.underlying93 rfl info93) ?_)
  refine (HD.out _).mono ?_
  rintro e w1 ⟨rfl, hN1⟩
  have s2 := S1.out.new hN1
  have hA := World.alloc_heap_new w1 (.cells [.int .i64 (sl : Nat), .bool ok].toArray 89)
  have hNA : New w1 (w1.alloc (.cells [.int .i64 (sl : Nat), .bool ok].toArray 89)) := (Mods.refl _ _).alloc _
  have s3 := Lib.hid (s2.new hNA)
  clear s2 hN1 hrd a0 S1 HD
  unfold ansV
  go_upto_region 4 with (refine op_skip rfl (run_store_new 89 (.tmp 7) (.tmp 35) rfl 89 [.int .i64 0, .bool false] [.int .i64 (sl : Nat), .bool ok] rfl rfl info89 rfl (by simp [Value.oneCell'])) ?_)
  obtain ⟨W3, hW3⟩ : ∃ W, w1.alloc (.cells [.int .i64 (sl : Nat), .bool ok].toArray 89) = W := ⟨_, rfl⟩
  obtain ⟨A, hAA⟩ : ∃ A, w1.heap.size = A := ⟨_, rfl⟩
  rw [hW3] at hA s3 ⊢
  rw [hAA] at hA ⊢
  replace hA : W3.heap[A]? = some (.cells #[.int .i64 (sl : Nat), .bool ok] 89 (0, 0)) := hA
  clear hW3 hAA hNA
  have e1 : W3.cell? ⟨A, 1, none⟩ = some (.bool ok) := by rw [cell_of_row _ _ _ _ _ _ hA]; rfl
  have c0 := s3.out.mb.c0
  obtain ⟨mo, hmo⟩ : ∃ x, m.hist.getD j .no = x := ⟨_, rfl⟩
  have Hmo := Lib.hid hmo
  clear hmo
  have hAO : ¬ A = O := fun e => by
    have := s3.out.mb
    unfold MB at this
    rw [← e, hA] at this
    cases this
  have hOA : ¬ O = A := fun e => hAO e.symm
  cases ok with
  | true =>
    by_cases hw : m.word = t.seen
    · have d1 : ((m.word : Int) != (t.seen : Int)) = false := by rw [bne_eq_false_iff_eq, hw]
      have Hw := Lib.hid hw
      have f0 := s3.out.mb.frozen 0
      have s4 := s3.out.word y
      have hA4 : (W3.setCell ⟨O, 0, none⟩ (.int .u64 y)).heap[A]? = some (.cells #[.int .i64 (sl : Nat), .bool true] 89 (0, 0)) := (heap_setCell_other W3 ⟨O, 0, none⟩ A (.int .u64 y) hAO).trans hA
      have S4 := Lib.hid s4
      clear hw s4 s3 hA
      go_upto_region 7 with fail
      obtain ⟨W4, hW4⟩ : ∃ W, W3.setCell ⟨O, 0, none⟩ (.int .u64 y) = W := ⟨_, rfl⟩
      rw [hW4] at S4 hA4 ⊢
      clear hW4 e1 c0 f0
      have c3 := S4.out.mb.c3
      have b3 : W4.cell? ⟨g, i * 4 + 3, none⟩ = some (.int .i64 (j : Nat)) := by rw [← Hj.out]; exact (S4.out.th hi Ht1.out 3 (by decide)).1
      have j0 : (0 : Int) ≤ (j : Int) := by omega
      have j1 : (j : Int) < (m.hist.length : Int) := by omega
      go_quiet (fail)
      go_upto_region 8 with fail
      obtain ⟨W5, hW5⟩ : ∃ W, W4.drewN nq = W := ⟨_, rfl⟩
      have s5 := S4.out.new ((Mods.refl _ W4).drewN nq)
      have hA5 : (W4.drewN nq).heap[A]? = some (.cells #[.int .i64 (sl : Nat), .bool true] 89 (0, 0)) := hA4
      rw [hW5] at s5 hA5 ⊢
      clear hW5 c3 b3 S4
      have S4 := Lib.hid s5
      clear s5
      refine piece (fun a a' W' => a' = (a.put (some 61) (.pointer (some ⟨h, j * 8, none⟩)) |>.put (some 62) (.pointer (some ⟨h, j * 8, none⟩)) |>.put (some 63) (.pointer (some ⟨O, 0, none⟩)) |>.put (some 64) (.pointer (some ⟨O, 0, none⟩)) |>.put (some 65) (.pointer (some ⟨O, 1, none⟩)) |>.put (some 66) (.int .i64 m.clock) |>.put (some 67) (.agg #[.int .i64 (sl : Nat), .bool true]) |>.put (some 68) (.pointer (some ⟨h, j * 8, none⟩)) |>.put (some 69) (.pointer (some ⟨h, j * 8 + 5, none⟩)) |>.put (some 70) (.pointer (some ⟨h, j * 8, none⟩)) |>.put (some 71) (.pointer (some ⟨h, j * 8 + 6, none⟩))) ∧ W' = (((W5.drew.setCell ⟨h, j * 8 + 5, none⟩ (.int .i64 m.clock)).setCell ⟨h, j * 8 + 6, none⟩ (.int .i64 (sl : Nat))).setCell ⟨h, j * 8 + 7, none⟩ (.bool true))) ?_ ?_
      · refine (wpIn_wide (n := 0)).1 ?_
        refine wpIn_region_any (by kernel_rfl) ?_
        show wpAnyIn _ _ _ _ _ _ _ _ _ W5.drew
        have s5 := S4.out.new ((Mods.refl _ W5).drew)
        replace hA : W5.drew.heap[A]? = some (.cells #[.int .i64 (sl : Nat), .bool true] 89 (0, 0)) := hA5
        obtain ⟨Wd, hWd⟩ : ∃ Wd, W5.drew = Wd := ⟨_, rfl⟩
        rw [hWd] at s5 hA ⊢
        clear hWd
        have k1 := s5.mb.c1
        have k5 : Wd.cell? ⟨h, j * 8 + 5, none⟩ = some (.int .i64 mo.en) := (s5.mo hjl Hmo.out 5 (by decide)).1
        have l5 := (s5.mo hjl Hmo.out 5 (by decide)).2
        have hAh : A ≠ h := fun e => by
          have := s5.hist
          rcases this.2 with ⟨q, _⟩ | ⟨b, _, _, q, _, hb, _⟩
          · cases q
          · cases q
            rw [← e, hA] at hb
            cases hb
        have S5 := Lib.hid (s5.moment hjl Hmo.out (m' := { mo with en := m.clock }) (r := 5) (u := .int .i64 m.clock) (by decide) rfl)
        have hmo5 : (m.hist.set j { mo with en := m.clock }).getD j .no = { mo with en := m.clock } := by rw [getD_set, if_pos ⟨rfl, hjl⟩]
        clear s5
        refine any_take 0 (some 61) (.pointer (some ⟨h, j * 8, none⟩)) rfl rfl (by kernel_rfl) (by kernel_rfl) (by kernel_rfl) (fun _ _ _ h => h.elim) (.value rfl fun w => by go_simp) ?_
        simp only [Act.put, List.setIfInBounds_toArray, List.set_cons_succ, List.set_cons_zero]
        refine any_take 1 (some 62) (.pointer (some ⟨h, j * 8, none⟩)) rfl rfl (by kernel_rfl) (by kernel_rfl) (by kernel_rfl) (fun _ _ _ h => h.elim) (.value rfl fun w => by go_simp) ?_
        simp only [Act.put, List.setIfInBounds_toArray, List.set_cons_succ, List.set_cons_zero]
        refine any_take 2 (some 63) (.pointer (some ⟨O, 0, none⟩)) rfl rfl (by kernel_rfl) (by kernel_rfl) (by kernel_rfl) (fun _ _ _ h => h.elim) (.value rfl fun w => by go_simp) ?_
        simp only [Act.put, List.setIfInBounds_toArray, List.set_cons_succ, List.set_cons_zero]
        refine any_take 3 (some 64) (.pointer (some ⟨O, 0, none⟩)) rfl rfl (by kernel_rfl) (by kernel_rfl) (by kernel_rfl) (fun _ _ _ h => h.elim) (.value rfl fun w => by go_simp) ?_
        simp only [Act.put, List.setIfInBounds_toArray, List.set_cons_succ, List.set_cons_zero]
        refine any_take 4 (some 65) (.pointer (some ⟨O, 1, none⟩)) rfl rfl (by kernel_rfl) (by kernel_rfl) (by kernel_rfl) (fun _ _ _ h => h.elim) (.value rfl fun w => by go_simp) ?_
        simp only [Act.put, List.setIfInBounds_toArray, List.set_cons_succ, List.set_cons_zero]
        refine wpAnyIn_all (rs := [5, 6]) (by kernel_rfl) (by simp) ?_
        simp only [List.mem_cons, List.not_mem_nil, or_false, forall_eq_or_imp, forall_eq]
        refine ⟨?_, ?_⟩
        · refine opIn_value (some 66) (v := .int .i64 m.clock) (w' := Wd) rfl rfl rfl rfl (by go_simp) ?_
          simp only [Act.put, List.setIfInBounds_toArray, List.set_cons_succ, List.set_cons_zero]
          refine any_take 7 (some 68) (.pointer (some ⟨h, j * 8, none⟩)) rfl rfl (by kernel_rfl) (by kernel_rfl) (by kernel_rfl) (fun _ _ _ h => h.elim) (.value rfl fun w => by go_simp) ?_
          simp only [Act.put, List.setIfInBounds_toArray, List.set_cons_succ, List.set_cons_zero]
          refine any_take 8 (some 69) (.pointer (some ⟨h, j * 8 + 5, none⟩)) rfl rfl (by kernel_rfl) (by kernel_rfl) (by kernel_rfl) (fun _ _ _ h => h.elim) (.value rfl fun w => by go_simp) ?_
          simp only [Act.put, List.setIfInBounds_toArray, List.set_cons_succ, List.set_cons_zero]
          refine wpAnyIn_all (rs := [6, 9]) (by kernel_rfl) (by simp) ?_
          simp only [List.mem_cons, List.not_mem_nil, or_false, forall_eq_or_imp, forall_eq]
          refine ⟨?_, ?_⟩
          · refine opIn_value (some 67) (v := .agg #[.int .i64 (sl : Nat), .bool true]) (w' := Wd) rfl rfl rfl rfl (run_load_row 89 (.tmp 7) rfl A rfl 89 #[.int .i64 (sl : Nat), .bool true] (0, 0) _ hA Try.underlying89 rfl info89) ?_
            simp only [Act.put, List.setIfInBounds_toArray, List.set_cons_succ, List.set_cons_zero]
            refine wpAnyIn_all (rs := [9]) (by kernel_rfl) (by simp) ?_
            simp only [List.mem_cons, List.not_mem_nil, or_false, forall_eq_or_imp, forall_eq]
            refine opIn_skip none rfl rfl rfl rfl (w' := Wd.setCell ⟨h, j * 8 + 5, none⟩ (.int .i64 m.clock)) (by go_simp) ?_
            simp only [Act.put, List.setIfInBounds_toArray, List.set_cons_succ, List.set_cons_zero]
            have k6 : (Wd.setCell ⟨h, j * 8 + 5, none⟩ (.int .i64 m.clock)).cell? ⟨h, j * 8 + 6, none⟩ = some (.int .i64 mo.slot) := (S5.out.mo hjl hmo5 6 (by decide)).1
            have k7 : (Wd.setCell ⟨h, j * 8 + 5, none⟩ (.int .i64 m.clock)).cell? ⟨h, j * 8 + 7, none⟩ = some (.bool mo.ok) := (S5.out.mo hjl hmo5 7 (by decide)).1
            have l6 := (S5.out.mo hjl hmo5 6 (by decide)).2
            have l7 := (S5.out.mo hjl hmo5 7 (by decide)).2
            have hA := (heap_setCell_other Wd ⟨h, j * 8 + 5, none⟩ A (.int .i64 m.clock) hAh).trans hA
            obtain ⟨We, hWe⟩ : ∃ W, Wd.setCell ⟨h, j * 8 + 5, none⟩ (.int .i64 m.clock) = W := ⟨_, rfl⟩
            rw [hWe] at k6 k7 l6 l7 hA ⊢
            refine any_take 10 (some 70) (.pointer (some ⟨h, j * 8, none⟩)) rfl rfl (by kernel_rfl) (by kernel_rfl) (by kernel_rfl) (fun _ _ _ h => h.elim) (.value rfl fun w => by go_simp) ?_
            simp only [Act.put, List.setIfInBounds_toArray, List.set_cons_succ, List.set_cons_zero]
            refine any_take 11 (some 71) (.pointer (some ⟨h, j * 8 + 6, none⟩)) rfl rfl (by kernel_rfl) (by kernel_rfl) (by kernel_rfl) (fun _ _ _ h => h.elim) (.value rfl fun w => by go_simp) ?_
            simp only [Act.put, List.setIfInBounds_toArray, List.set_cons_succ, List.set_cons_zero]
            refine wpAnyIn_all (rs := [12]) (by kernel_rfl) (by simp) ?_
            simp only [List.mem_cons, List.not_mem_nil, or_false, forall_eq_or_imp, forall_eq]
            refine opIn_skip none rfl rfl rfl rfl (w' := (We.setCell ⟨h, j * 8 + 6, none⟩ (.int .i64 (sl : Nat))).setCell ⟨h, j * 8 + 7, none⟩ (.bool true)) (by go_simp) ?_
            simp only [Act.put, List.setIfInBounds_toArray, List.set_cons_succ, List.set_cons_zero]
            rw [← hWe]
            refine wpAnyIn_done (by kernel_rfl) ?_ _
            exact ⟨rfl, rfl⟩
          · refine opIn_skip none rfl rfl rfl rfl (w' := Wd.setCell ⟨h, j * 8 + 5, none⟩ (.int .i64 m.clock)) (by go_simp) ?_
            simp only [Act.put, List.setIfInBounds_toArray, List.set_cons_succ, List.set_cons_zero]
            have k6 : (Wd.setCell ⟨h, j * 8 + 5, none⟩ (.int .i64 m.clock)).cell? ⟨h, j * 8 + 6, none⟩ = some (.int .i64 mo.slot) := (S5.out.mo hjl hmo5 6 (by decide)).1
            have k7 : (Wd.setCell ⟨h, j * 8 + 5, none⟩ (.int .i64 m.clock)).cell? ⟨h, j * 8 + 7, none⟩ = some (.bool mo.ok) := (S5.out.mo hjl hmo5 7 (by decide)).1
            have l6 := (S5.out.mo hjl hmo5 6 (by decide)).2
            have l7 := (S5.out.mo hjl hmo5 7 (by decide)).2
            have hA := (heap_setCell_other Wd ⟨h, j * 8 + 5, none⟩ A (.int .i64 m.clock) hAh).trans hA
            obtain ⟨We, hWe⟩ : ∃ W, Wd.setCell ⟨h, j * 8 + 5, none⟩ (.int .i64 m.clock) = W := ⟨_, rfl⟩
            rw [hWe] at k6 k7 l6 l7 hA ⊢
            refine wpAnyIn_all (rs := [6]) (by kernel_rfl) (by simp) ?_
            simp only [List.mem_cons, List.not_mem_nil, or_false, forall_eq_or_imp, forall_eq]
            refine opIn_value (some 67) (v := .agg #[.int .i64 (sl : Nat), .bool true]) (w' := We) rfl rfl rfl rfl (run_load_row 89 (.tmp 7) rfl A rfl 89 #[.int .i64 (sl : Nat), .bool true] (0, 0) _ hA Try.underlying89 rfl info89) ?_
            simp only [Act.put, List.setIfInBounds_toArray, List.set_cons_succ, List.set_cons_zero]
            refine any_take 10 (some 70) (.pointer (some ⟨h, j * 8, none⟩)) rfl rfl (by kernel_rfl) (by kernel_rfl) (by kernel_rfl) (fun _ _ _ h => h.elim) (.value rfl fun w => by go_simp) ?_
            simp only [Act.put, List.setIfInBounds_toArray, List.set_cons_succ, List.set_cons_zero]
            refine any_take 11 (some 71) (.pointer (some ⟨h, j * 8 + 6, none⟩)) rfl rfl (by kernel_rfl) (by kernel_rfl) (by kernel_rfl) (fun _ _ _ h => h.elim) (.value rfl fun w => by go_simp) ?_
            simp only [Act.put, List.setIfInBounds_toArray, List.set_cons_succ, List.set_cons_zero]
            refine wpAnyIn_all (rs := [12]) (by kernel_rfl) (by simp) ?_
            simp only [List.mem_cons, List.not_mem_nil, or_false, forall_eq_or_imp, forall_eq]
            refine opIn_skip none rfl rfl rfl rfl (w' := (We.setCell ⟨h, j * 8 + 6, none⟩ (.int .i64 (sl : Nat))).setCell ⟨h, j * 8 + 7, none⟩ (.bool true)) (by go_simp) ?_
            simp only [Act.put, List.setIfInBounds_toArray, List.set_cons_succ, List.set_cons_zero]
            rw [← hWe]
            refine wpAnyIn_done (by kernel_rfl) ?_ _
            exact ⟨rfl, rfl⟩
        · refine opIn_value (some 67) (v := .agg #[.int .i64 (sl : Nat), .bool true]) (w' := Wd) rfl rfl rfl rfl (run_load_row 89 (.tmp 7) rfl A rfl 89 #[.int .i64 (sl : Nat), .bool true] (0, 0) _ hA Try.underlying89 rfl info89) ?_
          simp only [Act.put, List.setIfInBounds_toArray, List.set_cons_succ, List.set_cons_zero]
          refine wpAnyIn_all (rs := [5]) (by kernel_rfl) (by simp) ?_
          simp only [List.mem_cons, List.not_mem_nil, or_false, forall_eq_or_imp, forall_eq]
          refine opIn_value (some 66) (v := .int .i64 m.clock) (w' := Wd) rfl rfl rfl rfl (by go_simp) ?_
          simp only [Act.put, List.setIfInBounds_toArray, List.set_cons_succ, List.set_cons_zero]
          refine any_take 7 (some 68) (.pointer (some ⟨h, j * 8, none⟩)) rfl rfl (by kernel_rfl) (by kernel_rfl) (by kernel_rfl) (fun _ _ _ h => h.elim) (.value rfl fun w => by go_simp) ?_
          simp only [Act.put, List.setIfInBounds_toArray, List.set_cons_succ, List.set_cons_zero]
          refine any_take 8 (some 69) (.pointer (some ⟨h, j * 8 + 5, none⟩)) rfl rfl (by kernel_rfl) (by kernel_rfl) (by kernel_rfl) (fun _ _ _ h => h.elim) (.value rfl fun w => by go_simp) ?_
          simp only [Act.put, List.setIfInBounds_toArray, List.set_cons_succ, List.set_cons_zero]
          refine wpAnyIn_all (rs := [9]) (by kernel_rfl) (by simp) ?_
          simp only [List.mem_cons, List.not_mem_nil, or_false, forall_eq_or_imp, forall_eq]
          refine opIn_skip none rfl rfl rfl rfl (w' := Wd.setCell ⟨h, j * 8 + 5, none⟩ (.int .i64 m.clock)) (by go_simp) ?_
          simp only [Act.put, List.setIfInBounds_toArray, List.set_cons_succ, List.set_cons_zero]
          have k6 : (Wd.setCell ⟨h, j * 8 + 5, none⟩ (.int .i64 m.clock)).cell? ⟨h, j * 8 + 6, none⟩ = some (.int .i64 mo.slot) := (S5.out.mo hjl hmo5 6 (by decide)).1
          have k7 : (Wd.setCell ⟨h, j * 8 + 5, none⟩ (.int .i64 m.clock)).cell? ⟨h, j * 8 + 7, none⟩ = some (.bool mo.ok) := (S5.out.mo hjl hmo5 7 (by decide)).1
          have l6 := (S5.out.mo hjl hmo5 6 (by decide)).2
          have l7 := (S5.out.mo hjl hmo5 7 (by decide)).2
          have hA := (heap_setCell_other Wd ⟨h, j * 8 + 5, none⟩ A (.int .i64 m.clock) hAh).trans hA
          obtain ⟨We, hWe⟩ : ∃ W, Wd.setCell ⟨h, j * 8 + 5, none⟩ (.int .i64 m.clock) = W := ⟨_, rfl⟩
          rw [hWe] at k6 k7 l6 l7 hA ⊢
          refine any_take 10 (some 70) (.pointer (some ⟨h, j * 8, none⟩)) rfl rfl (by kernel_rfl) (by kernel_rfl) (by kernel_rfl) (fun _ _ _ h => h.elim) (.value rfl fun w => by go_simp) ?_
          simp only [Act.put, List.setIfInBounds_toArray, List.set_cons_succ, List.set_cons_zero]
          refine any_take 11 (some 71) (.pointer (some ⟨h, j * 8 + 6, none⟩)) rfl rfl (by kernel_rfl) (by kernel_rfl) (by kernel_rfl) (fun _ _ _ h => h.elim) (.value rfl fun w => by go_simp) ?_
          simp only [Act.put, List.setIfInBounds_toArray, List.set_cons_succ, List.set_cons_zero]
          refine wpAnyIn_all (rs := [12]) (by kernel_rfl) (by simp) ?_
          simp only [List.mem_cons, List.not_mem_nil, or_false, forall_eq_or_imp, forall_eq]
          refine opIn_skip none rfl rfl rfl rfl (w' := (We.setCell ⟨h, j * 8 + 6, none⟩ (.int .i64 (sl : Nat))).setCell ⟨h, j * 8 + 7, none⟩ (.bool true)) (by go_simp) ?_
          simp only [Act.put, List.setIfInBounds_toArray, List.set_cons_succ, List.set_cons_zero]
          rw [← hWe]
          refine wpAnyIn_done (by kernel_rfl) ?_ _
          exact ⟨rfl, rfl⟩
      · rintro a' W' ⟨rfl, rfl⟩
        simp only [Act.put, List.setIfInBounds_toArray, List.set_cons_succ, List.set_cons_zero]
        have s5 := S4.out.new ((Mods.refl _ W5).drew)
        have s6 := ((s5.moment hjl Hmo.out (m' := { mo with en := m.clock }) (r := 5) (u := .int .i64 m.clock) (by decide) rfl).moment hjl (m := { mo with en := m.clock }) (by rw [getD_set, if_pos ⟨rfl, hjl⟩]) (m' := { mo with en := m.clock, slot := (sl : Nat) }) (r := 6) (u := .int .i64 (sl : Nat)) (by decide) rfl).moment hjl (m := { mo with en := m.clock, slot := (sl : Nat) }) (by rw [getD_set, if_pos ⟨rfl, by rw [List.length_set]; exact hjl⟩]) (m' := { mo with en := m.clock, slot := (sl : Nat), ok := true }) (r := 7) (u := .bool true) (by decide) rfl
        rw [List.set_set, List.set_set] at s6
        obtain ⟨W6, hW6⟩ : ∃ W, ((W5.drew.setCell ⟨h, j * 8 + 5, none⟩ (.int .i64 m.clock)).setCell ⟨h, j * 8 + 6, none⟩ (.int .i64 (sl : Nat))).setCell ⟨h, j * 8 + 7, none⟩ (.bool true) = W := ⟨_, rfl⟩
        rw [hW6] at s6 ⊢
        clear hW6 s5 hA5 S4
        have S6 : Hid (Swapped W W6 O N m g cap h hcap (y) i j t sl true mo lv) := Lib.hid s6
        have a0 : W6.cell? ⟨g, i * 4, none⟩ = some (.slice (some ⟨lb, lo, none⟩) t.left.length lc) := (s6.th hi Ht1.out 0 (by decide)).1.trans (congrArg some Hle.out)
        have f0 : W6.frozen? ⟨g, i * 4, none⟩ = false := (s6.th hi Ht1.out 0 (by decide)).2
        have a3 : W6.cell? ⟨g, i * 4 + 3, none⟩ = some (.int .i64 t.moment) := (s6.th hi Ht1.out 3 (by decide)).1
        have f3 := (s6.th hi Ht1.out 3 (by decide)).2
        clear s6
        have hlc : t.left.length ≤ lc := by
          obtain ⟨x1, x2, x3, x4⟩ := Hcp.out i hi
          rw [Hle.out, Ht.out] at x3
          rw [Ht.out] at x4
          cases x3
          exact x4
        have q1 : (1 : Int) ≤ (t.left.length : Int) := by omega
        have q2 : (t.left.length : Int) ≤ (lc : Int) := by omega
        have hsw : Hid (swapM DS m i t = ⟨y, m.clock, m.ths.set i ⟨t.left.drop 1, false, 0, -1⟩, m.hist.set j { mo with en := m.clock, slot := (sl : Nat), ok := true }⟩) := Lib.hid (by
          unfold swapM
          rw [Hp.out, Hy.out, if_neg (fun e => e.2 Hw.out), Hj.out, Int.toNat_natCast, Hmo.out]
          rfl)
        by_cases h1 : lc = 1
        · have h2 : t.left.length = 1 := by omega
          have Hl1 := Lib.hid h2
          have Hlc := Lib.hid hlc
          have Hl0 := Lib.hid hl
          subst h1
          clear q1 q2 hl0 hlc hl
          rw [h2] at a0
          clear h2
          go_wp2_with fail
          refine bodyPost_end (v := .tuple #[]) (by simp [results, Try.results99, go_sem]) rfl ?_
          rw [hsw.out]
          exact ⟨⟨_, rfl⟩, swap_end S6.out hi hsm Hcp.out Hle.out Hl0.out Hlc.out _ (.inl ⟨rfl, rfl⟩)⟩
        · have h2 : ¬ (1 : Nat) = lc := fun e => h1 e.symm
          have Hlc := Lib.hid hlc
          have Hl0 := Lib.hid hl
          clear hlc hl
          go_wp2_with fail
          refine bodyPost_end (v := .tuple #[]) (by simp [results, Try.results99, go_sem]) rfl ?_
          rw [hsw.out]
          exact ⟨⟨_, rfl⟩, swap_end S6.out hi hsm Hcp.out Hle.out Hl0.out Hlc.out _ (.inr rfl)⟩
    · have d1 : ((m.word : Int) != (t.seen : Int)) = true := by rw [bne_iff_ne]; omega
      have Hw := Lib.hid hw
      clear hw
      have S3 := s3
      clear s3
      go_wp2_with fail
      refine bodyPost_ret (v := .tuple #[]) (by simp [results, Try.results99, go_sem]) rfl ?_
      have hq := S3.out.back hsm fun q hq => caps_set (t' := { t with loaded := false, seen := 0 }) Hcp.out hi Ht.out rfl q (by rw [List.length_set]; exact hq)
      have hsw : swapM DS m i t = ⟨m.word, m.clock, m.ths.set i { t with loaded := false, seen := 0 }, m.hist⟩ := by
        unfold swapM
        rw [Hp.out, Hy.out, if_pos ⟨rfl, Hw.out⟩]
      rw [hsw]
      exact ⟨⟨_, rfl⟩, _, hq⟩
  | false =>
    have S4 := s3
    have hA4 := hA
    clear s3 hA
    go_upto_region 7 with fail
    obtain ⟨W4, hW4⟩ : ∃ W, W3 = W := ⟨_, rfl⟩
    rw [hW4] at S4 hA4 ⊢
    clear hW4 e1 c0
    have c3 := S4.out.mb.c3
    have b3 : W4.cell? ⟨g, i * 4 + 3, none⟩ = some (.int .i64 (j : Nat)) := by rw [← Hj.out]; exact (S4.out.th hi Ht1.out 3 (by decide)).1
    have j0 : (0 : Int) ≤ (j : Int) := by omega
    have j1 : (j : Int) < (m.hist.length : Int) := by omega
    go_quiet (fail)
    go_upto_region 8 with fail
    obtain ⟨W5, hW5⟩ : ∃ W, W4.drewN nq = W := ⟨_, rfl⟩
    have s5 := S4.out.new ((Mods.refl _ W4).drewN nq)
    have hA5 : (W4.drewN nq).heap[A]? = some (.cells #[.int .i64 (sl : Nat), .bool false] 89 (0, 0)) := hA4
    rw [hW5] at s5 hA5 ⊢
    clear hW5 c3 b3 S4
    have S4 := Lib.hid s5
    clear s5
    refine piece (fun a a' W' => a' = (a.put (some 61) (.pointer (some ⟨h, j * 8, none⟩)) |>.put (some 62) (.pointer (some ⟨h, j * 8, none⟩)) |>.put (some 63) (.pointer (some ⟨O, 0, none⟩)) |>.put (some 64) (.pointer (some ⟨O, 0, none⟩)) |>.put (some 65) (.pointer (some ⟨O, 1, none⟩)) |>.put (some 66) (.int .i64 m.clock) |>.put (some 67) (.agg #[.int .i64 (sl : Nat), .bool false]) |>.put (some 68) (.pointer (some ⟨h, j * 8, none⟩)) |>.put (some 69) (.pointer (some ⟨h, j * 8 + 5, none⟩)) |>.put (some 70) (.pointer (some ⟨h, j * 8, none⟩)) |>.put (some 71) (.pointer (some ⟨h, j * 8 + 6, none⟩))) ∧ W' = (((W5.drew.setCell ⟨h, j * 8 + 5, none⟩ (.int .i64 m.clock)).setCell ⟨h, j * 8 + 6, none⟩ (.int .i64 (sl : Nat))).setCell ⟨h, j * 8 + 7, none⟩ (.bool false))) ?_ ?_
    · refine (wpIn_wide (n := 0)).1 ?_
      refine wpIn_region_any (by kernel_rfl) ?_
      show wpAnyIn _ _ _ _ _ _ _ _ _ W5.drew
      have s5 := S4.out.new ((Mods.refl _ W5).drew)
      replace hA : W5.drew.heap[A]? = some (.cells #[.int .i64 (sl : Nat), .bool false] 89 (0, 0)) := hA5
      obtain ⟨Wd, hWd⟩ : ∃ Wd, W5.drew = Wd := ⟨_, rfl⟩
      rw [hWd] at s5 hA ⊢
      clear hWd
      have k1 := s5.mb.c1
      have k5 : Wd.cell? ⟨h, j * 8 + 5, none⟩ = some (.int .i64 mo.en) := (s5.mo hjl Hmo.out 5 (by decide)).1
      have l5 := (s5.mo hjl Hmo.out 5 (by decide)).2
      have hAh : A ≠ h := fun e => by
        have := s5.hist
        rcases this.2 with ⟨q, _⟩ | ⟨b, _, _, q, _, hb, _⟩
        · cases q
        · cases q
          rw [← e, hA] at hb
          cases hb
      have S5 := Lib.hid (s5.moment hjl Hmo.out (m' := { mo with en := m.clock }) (r := 5) (u := .int .i64 m.clock) (by decide) rfl)
      have hmo5 : (m.hist.set j { mo with en := m.clock }).getD j .no = { mo with en := m.clock } := by rw [getD_set, if_pos ⟨rfl, hjl⟩]
      clear s5
      refine any_take 0 (some 61) (.pointer (some ⟨h, j * 8, none⟩)) rfl rfl (by kernel_rfl) (by kernel_rfl) (by kernel_rfl) (fun _ _ _ h => h.elim) (.value rfl fun w => by go_simp) ?_
      simp only [Act.put, List.setIfInBounds_toArray, List.set_cons_succ, List.set_cons_zero]
      refine any_take 1 (some 62) (.pointer (some ⟨h, j * 8, none⟩)) rfl rfl (by kernel_rfl) (by kernel_rfl) (by kernel_rfl) (fun _ _ _ h => h.elim) (.value rfl fun w => by go_simp) ?_
      simp only [Act.put, List.setIfInBounds_toArray, List.set_cons_succ, List.set_cons_zero]
      refine any_take 2 (some 63) (.pointer (some ⟨O, 0, none⟩)) rfl rfl (by kernel_rfl) (by kernel_rfl) (by kernel_rfl) (fun _ _ _ h => h.elim) (.value rfl fun w => by go_simp) ?_
      simp only [Act.put, List.setIfInBounds_toArray, List.set_cons_succ, List.set_cons_zero]
      refine any_take 3 (some 64) (.pointer (some ⟨O, 0, none⟩)) rfl rfl (by kernel_rfl) (by kernel_rfl) (by kernel_rfl) (fun _ _ _ h => h.elim) (.value rfl fun w => by go_simp) ?_
      simp only [Act.put, List.setIfInBounds_toArray, List.set_cons_succ, List.set_cons_zero]
      refine any_take 4 (some 65) (.pointer (some ⟨O, 1, none⟩)) rfl rfl (by kernel_rfl) (by kernel_rfl) (by kernel_rfl) (fun _ _ _ h => h.elim) (.value rfl fun w => by go_simp) ?_
      simp only [Act.put, List.setIfInBounds_toArray, List.set_cons_succ, List.set_cons_zero]
      refine wpAnyIn_all (rs := [5, 6]) (by kernel_rfl) (by simp) ?_
      simp only [List.mem_cons, List.not_mem_nil, or_false, forall_eq_or_imp, forall_eq]
      refine ⟨?_, ?_⟩
      · refine opIn_value (some 66) (v := .int .i64 m.clock) (w' := Wd) rfl rfl rfl rfl (by go_simp) ?_
        simp only [Act.put, List.setIfInBounds_toArray, List.set_cons_succ, List.set_cons_zero]
        refine any_take 7 (some 68) (.pointer (some ⟨h, j * 8, none⟩)) rfl rfl (by kernel_rfl) (by kernel_rfl) (by kernel_rfl) (fun _ _ _ h => h.elim) (.value rfl fun w => by go_simp) ?_
        simp only [Act.put, List.setIfInBounds_toArray, List.set_cons_succ, List.set_cons_zero]
        refine any_take 8 (some 69) (.pointer (some ⟨h, j * 8 + 5, none⟩)) rfl rfl (by kernel_rfl) (by kernel_rfl) (by kernel_rfl) (fun _ _ _ h => h.elim) (.value rfl fun w => by go_simp) ?_
        simp only [Act.put, List.setIfInBounds_toArray, List.set_cons_succ, List.set_cons_zero]
        refine wpAnyIn_all (rs := [6, 9]) (by kernel_rfl) (by simp) ?_
        simp only [List.mem_cons, List.not_mem_nil, or_false, forall_eq_or_imp, forall_eq]
        refine ⟨?_, ?_⟩
        · refine opIn_value (some 67) (v := .agg #[.int .i64 (sl : Nat), .bool false]) (w' := Wd) rfl rfl rfl rfl (run_load_row 89 (.tmp 7) rfl A rfl 89 #[.int .i64 (sl : Nat), .bool false] (0, 0) _ hA Try.underlying89 rfl info89) ?_
          simp only [Act.put, List.setIfInBounds_toArray, List.set_cons_succ, List.set_cons_zero]
          refine wpAnyIn_all (rs := [9]) (by kernel_rfl) (by simp) ?_
          simp only [List.mem_cons, List.not_mem_nil, or_false, forall_eq_or_imp, forall_eq]
          refine opIn_skip none rfl rfl rfl rfl (w' := Wd.setCell ⟨h, j * 8 + 5, none⟩ (.int .i64 m.clock)) (by go_simp) ?_
          simp only [Act.put, List.setIfInBounds_toArray, List.set_cons_succ, List.set_cons_zero]
          have k6 : (Wd.setCell ⟨h, j * 8 + 5, none⟩ (.int .i64 m.clock)).cell? ⟨h, j * 8 + 6, none⟩ = some (.int .i64 mo.slot) := (S5.out.mo hjl hmo5 6 (by decide)).1
          have k7 : (Wd.setCell ⟨h, j * 8 + 5, none⟩ (.int .i64 m.clock)).cell? ⟨h, j * 8 + 7, none⟩ = some (.bool mo.ok) := (S5.out.mo hjl hmo5 7 (by decide)).1
          have l6 := (S5.out.mo hjl hmo5 6 (by decide)).2
          have l7 := (S5.out.mo hjl hmo5 7 (by decide)).2
          have hA := (heap_setCell_other Wd ⟨h, j * 8 + 5, none⟩ A (.int .i64 m.clock) hAh).trans hA
          obtain ⟨We, hWe⟩ : ∃ W, Wd.setCell ⟨h, j * 8 + 5, none⟩ (.int .i64 m.clock) = W := ⟨_, rfl⟩
          rw [hWe] at k6 k7 l6 l7 hA ⊢
          refine any_take 10 (some 70) (.pointer (some ⟨h, j * 8, none⟩)) rfl rfl (by kernel_rfl) (by kernel_rfl) (by kernel_rfl) (fun _ _ _ h => h.elim) (.value rfl fun w => by go_simp) ?_
          simp only [Act.put, List.setIfInBounds_toArray, List.set_cons_succ, List.set_cons_zero]
          refine any_take 11 (some 71) (.pointer (some ⟨h, j * 8 + 6, none⟩)) rfl rfl (by kernel_rfl) (by kernel_rfl) (by kernel_rfl) (fun _ _ _ h => h.elim) (.value rfl fun w => by go_simp) ?_
          simp only [Act.put, List.setIfInBounds_toArray, List.set_cons_succ, List.set_cons_zero]
          refine wpAnyIn_all (rs := [12]) (by kernel_rfl) (by simp) ?_
          simp only [List.mem_cons, List.not_mem_nil, or_false, forall_eq_or_imp, forall_eq]
          refine opIn_skip none rfl rfl rfl rfl (w' := (We.setCell ⟨h, j * 8 + 6, none⟩ (.int .i64 (sl : Nat))).setCell ⟨h, j * 8 + 7, none⟩ (.bool false)) (by go_simp) ?_
          simp only [Act.put, List.setIfInBounds_toArray, List.set_cons_succ, List.set_cons_zero]
          rw [← hWe]
          refine wpAnyIn_done (by kernel_rfl) ?_ _
          exact ⟨rfl, rfl⟩
        · refine opIn_skip none rfl rfl rfl rfl (w' := Wd.setCell ⟨h, j * 8 + 5, none⟩ (.int .i64 m.clock)) (by go_simp) ?_
          simp only [Act.put, List.setIfInBounds_toArray, List.set_cons_succ, List.set_cons_zero]
          have k6 : (Wd.setCell ⟨h, j * 8 + 5, none⟩ (.int .i64 m.clock)).cell? ⟨h, j * 8 + 6, none⟩ = some (.int .i64 mo.slot) := (S5.out.mo hjl hmo5 6 (by decide)).1
          have k7 : (Wd.setCell ⟨h, j * 8 + 5, none⟩ (.int .i64 m.clock)).cell? ⟨h, j * 8 + 7, none⟩ = some (.bool mo.ok) := (S5.out.mo hjl hmo5 7 (by decide)).1
          have l6 := (S5.out.mo hjl hmo5 6 (by decide)).2
          have l7 := (S5.out.mo hjl hmo5 7 (by decide)).2
          have hA := (heap_setCell_other Wd ⟨h, j * 8 + 5, none⟩ A (.int .i64 m.clock) hAh).trans hA
          obtain ⟨We, hWe⟩ : ∃ W, Wd.setCell ⟨h, j * 8 + 5, none⟩ (.int .i64 m.clock) = W := ⟨_, rfl⟩
          rw [hWe] at k6 k7 l6 l7 hA ⊢
          refine wpAnyIn_all (rs := [6]) (by kernel_rfl) (by simp) ?_
          simp only [List.mem_cons, List.not_mem_nil, or_false, forall_eq_or_imp, forall_eq]
          refine opIn_value (some 67) (v := .agg #[.int .i64 (sl : Nat), .bool false]) (w' := We) rfl rfl rfl rfl (run_load_row 89 (.tmp 7) rfl A rfl 89 #[.int .i64 (sl : Nat), .bool false] (0, 0) _ hA Try.underlying89 rfl info89) ?_
          simp only [Act.put, List.setIfInBounds_toArray, List.set_cons_succ, List.set_cons_zero]
          refine any_take 10 (some 70) (.pointer (some ⟨h, j * 8, none⟩)) rfl rfl (by kernel_rfl) (by kernel_rfl) (by kernel_rfl) (fun _ _ _ h => h.elim) (.value rfl fun w => by go_simp) ?_
          simp only [Act.put, List.setIfInBounds_toArray, List.set_cons_succ, List.set_cons_zero]
          refine any_take 11 (some 71) (.pointer (some ⟨h, j * 8 + 6, none⟩)) rfl rfl (by kernel_rfl) (by kernel_rfl) (by kernel_rfl) (fun _ _ _ h => h.elim) (.value rfl fun w => by go_simp) ?_
          simp only [Act.put, List.setIfInBounds_toArray, List.set_cons_succ, List.set_cons_zero]
          refine wpAnyIn_all (rs := [12]) (by kernel_rfl) (by simp) ?_
          simp only [List.mem_cons, List.not_mem_nil, or_false, forall_eq_or_imp, forall_eq]
          refine opIn_skip none rfl rfl rfl rfl (w' := (We.setCell ⟨h, j * 8 + 6, none⟩ (.int .i64 (sl : Nat))).setCell ⟨h, j * 8 + 7, none⟩ (.bool false)) (by go_simp) ?_
          simp only [Act.put, List.setIfInBounds_toArray, List.set_cons_succ, List.set_cons_zero]
          rw [← hWe]
          refine wpAnyIn_done (by kernel_rfl) ?_ _
          exact ⟨rfl, rfl⟩
      · refine opIn_value (some 67) (v := .agg #[.int .i64 (sl : Nat), .bool false]) (w' := Wd) rfl rfl rfl rfl (run_load_row 89 (.tmp 7) rfl A rfl 89 #[.int .i64 (sl : Nat), .bool false] (0, 0) _ hA Try.underlying89 rfl info89) ?_
        simp only [Act.put, List.setIfInBounds_toArray, List.set_cons_succ, List.set_cons_zero]
        refine wpAnyIn_all (rs := [5]) (by kernel_rfl) (by simp) ?_
        simp only [List.mem_cons, List.not_mem_nil, or_false, forall_eq_or_imp, forall_eq]
        refine opIn_value (some 66) (v := .int .i64 m.clock) (w' := Wd) rfl rfl rfl rfl (by go_simp) ?_
        simp only [Act.put, List.setIfInBounds_toArray, List.set_cons_succ, List.set_cons_zero]
        refine any_take 7 (some 68) (.pointer (some ⟨h, j * 8, none⟩)) rfl rfl (by kernel_rfl) (by kernel_rfl) (by kernel_rfl) (fun _ _ _ h => h.elim) (.value rfl fun w => by go_simp) ?_
        simp only [Act.put, List.setIfInBounds_toArray, List.set_cons_succ, List.set_cons_zero]
        refine any_take 8 (some 69) (.pointer (some ⟨h, j * 8 + 5, none⟩)) rfl rfl (by kernel_rfl) (by kernel_rfl) (by kernel_rfl) (fun _ _ _ h => h.elim) (.value rfl fun w => by go_simp) ?_
        simp only [Act.put, List.setIfInBounds_toArray, List.set_cons_succ, List.set_cons_zero]
        refine wpAnyIn_all (rs := [9]) (by kernel_rfl) (by simp) ?_
        simp only [List.mem_cons, List.not_mem_nil, or_false, forall_eq_or_imp, forall_eq]
        refine opIn_skip none rfl rfl rfl rfl (w' := Wd.setCell ⟨h, j * 8 + 5, none⟩ (.int .i64 m.clock)) (by go_simp) ?_
        simp only [Act.put, List.setIfInBounds_toArray, List.set_cons_succ, List.set_cons_zero]
        have k6 : (Wd.setCell ⟨h, j * 8 + 5, none⟩ (.int .i64 m.clock)).cell? ⟨h, j * 8 + 6, none⟩ = some (.int .i64 mo.slot) := (S5.out.mo hjl hmo5 6 (by decide)).1
        have k7 : (Wd.setCell ⟨h, j * 8 + 5, none⟩ (.int .i64 m.clock)).cell? ⟨h, j * 8 + 7, none⟩ = some (.bool mo.ok) := (S5.out.mo hjl hmo5 7 (by decide)).1
        have l6 := (S5.out.mo hjl hmo5 6 (by decide)).2
        have l7 := (S5.out.mo hjl hmo5 7 (by decide)).2
        have hA := (heap_setCell_other Wd ⟨h, j * 8 + 5, none⟩ A (.int .i64 m.clock) hAh).trans hA
        obtain ⟨We, hWe⟩ : ∃ W, Wd.setCell ⟨h, j * 8 + 5, none⟩ (.int .i64 m.clock) = W := ⟨_, rfl⟩
        rw [hWe] at k6 k7 l6 l7 hA ⊢
        refine any_take 10 (some 70) (.pointer (some ⟨h, j * 8, none⟩)) rfl rfl (by kernel_rfl) (by kernel_rfl) (by kernel_rfl) (fun _ _ _ h => h.elim) (.value rfl fun w => by go_simp) ?_
        simp only [Act.put, List.setIfInBounds_toArray, List.set_cons_succ, List.set_cons_zero]
        refine any_take 11 (some 71) (.pointer (some ⟨h, j * 8 + 6, none⟩)) rfl rfl (by kernel_rfl) (by kernel_rfl) (by kernel_rfl) (fun _ _ _ h => h.elim) (.value rfl fun w => by go_simp) ?_
        simp only [Act.put, List.setIfInBounds_toArray, List.set_cons_succ, List.set_cons_zero]
        refine wpAnyIn_all (rs := [12]) (by kernel_rfl) (by simp) ?_
        simp only [List.mem_cons, List.not_mem_nil, or_false, forall_eq_or_imp, forall_eq]
        refine opIn_skip none rfl rfl rfl rfl (w' := (We.setCell ⟨h, j * 8 + 6, none⟩ (.int .i64 (sl : Nat))).setCell ⟨h, j * 8 + 7, none⟩ (.bool false)) (by go_simp) ?_
        simp only [Act.put, List.setIfInBounds_toArray, List.set_cons_succ, List.set_cons_zero]
        rw [← hWe]
        refine wpAnyIn_done (by kernel_rfl) ?_ _
        exact ⟨rfl, rfl⟩
    · rintro a' W' ⟨rfl, rfl⟩
      simp only [Act.put, List.setIfInBounds_toArray, List.set_cons_succ, List.set_cons_zero]
      have s5 := S4.out.new ((Mods.refl _ W5).drew)
      have s6 := ((s5.moment hjl Hmo.out (m' := { mo with en := m.clock }) (r := 5) (u := .int .i64 m.clock) (by decide) rfl).moment hjl (m := { mo with en := m.clock }) (by rw [getD_set, if_pos ⟨rfl, hjl⟩]) (m' := { mo with en := m.clock, slot := (sl : Nat) }) (r := 6) (u := .int .i64 (sl : Nat)) (by decide) rfl).moment hjl (m := { mo with en := m.clock, slot := (sl : Nat) }) (by rw [getD_set, if_pos ⟨rfl, by rw [List.length_set]; exact hjl⟩]) (m' := { mo with en := m.clock, slot := (sl : Nat), ok := false }) (r := 7) (u := .bool false) (by decide) rfl
      rw [List.set_set, List.set_set] at s6
      obtain ⟨W6, hW6⟩ : ∃ W, ((W5.drew.setCell ⟨h, j * 8 + 5, none⟩ (.int .i64 m.clock)).setCell ⟨h, j * 8 + 6, none⟩ (.int .i64 (sl : Nat))).setCell ⟨h, j * 8 + 7, none⟩ (.bool false) = W := ⟨_, rfl⟩
      rw [hW6] at s6 ⊢
      clear hW6 s5 hA5 S4
      have S6 : Hid (Swapped W W6 O N m g cap h hcap (m.word) i j t sl false mo lv) := Lib.hid s6
      have a0 : W6.cell? ⟨g, i * 4, none⟩ = some (.slice (some ⟨lb, lo, none⟩) t.left.length lc) := (s6.th hi Ht1.out 0 (by decide)).1.trans (congrArg some Hle.out)
      have f0 : W6.frozen? ⟨g, i * 4, none⟩ = false := (s6.th hi Ht1.out 0 (by decide)).2
      have a3 : W6.cell? ⟨g, i * 4 + 3, none⟩ = some (.int .i64 t.moment) := (s6.th hi Ht1.out 3 (by decide)).1
      have f3 := (s6.th hi Ht1.out 3 (by decide)).2
      clear s6
      have hlc : t.left.length ≤ lc := by
        obtain ⟨x1, x2, x3, x4⟩ := Hcp.out i hi
        rw [Hle.out, Ht.out] at x3
        rw [Ht.out] at x4
        cases x3
        exact x4
      have q1 : (1 : Int) ≤ (t.left.length : Int) := by omega
      have q2 : (t.left.length : Int) ≤ (lc : Int) := by omega
      have hsw : Hid (swapM DS m i t = ⟨m.word, m.clock, m.ths.set i ⟨t.left.drop 1, false, 0, -1⟩, m.hist.set j { mo with en := m.clock, slot := (sl : Nat), ok := false }⟩) := Lib.hid (by
        unfold swapM
        rw [Hp.out, Hy.out, if_neg (fun e => by cases e.1), Hj.out, Int.toNat_natCast, Hmo.out]
        rfl)
      by_cases h1 : lc = 1
      · have h2 : t.left.length = 1 := by omega
        have Hl1 := Lib.hid h2
        have Hlc := Lib.hid hlc
        have Hl0 := Lib.hid hl
        subst h1
        clear q1 q2 hl0 hlc hl
        rw [h2] at a0
        clear h2
        go_wp2_with fail
        refine bodyPost_end (v := .tuple #[]) (by simp [results, Try.results99, go_sem]) rfl ?_
        rw [hsw.out]
        exact ⟨⟨_, rfl⟩, swap_end S6.out hi hsm Hcp.out Hle.out Hl0.out Hlc.out _ (.inl ⟨rfl, rfl⟩)⟩
      · have h2 : ¬ (1 : Nat) = lc := fun e => h1 e.symm
        have Hlc := Lib.hid hlc
        have Hl0 := Lib.hid hl
        clear hlc hl
        go_wp2_with fail
        refine bodyPost_end (v := .tuple #[]) (by simp [results, Try.results99, go_sem]) rfl ?_
        rw [hsw.out]
        exact ⟨⟨_, rfl⟩, swap_end S6.out hi hsm Hcp.out Hle.out Hl0.out Hlc.out _ (.inr rfl)⟩
end Go.Proofs.Ytkjloeefcaadlaa
