/- Fields, lists of fields, requests that came in. -/
import Derived.Test.YtkjghojdfjhhkaaDoorM16
set_option linter.unusedSimpArgs false
set_option linter.unusedVariables false
namespace Go.Proofs.YtkjghojdfjhhkaaDoor
open Go.RowKit Go.Shelf Go.Cs Go.ChangeShapes Go.WideShapes Go.ChangeAt
theorem len_two {α : Type} : ∀ {l : List α}, l.length = 2 → ∃ a b, l = [a, b]
  | [a, b], _ => ⟨a, b, rfl⟩
section
variable {H : Type} {enc : TypeId × Value → H} {w : World} {base : Nat} {spare : Nat → Bool} {held : Bool} {fuel : Nat}
def Fd.d (p : Fd) : DataW H := .agg [.lit (.string p.name.data.toList), .lit (.string p.val.data.toList)]
theorem open_fd {cs : List Value} {x : DataW H × List MemPlace} (h : DataW.trod enc Tryd.prog w base spare held fuel 54 cs = some x) : ∃ p : Fd, cs = p.cs ∧ x = (p.d, []) := by
  obtain ⟨xs, n, rfl, rfl, hl, hn, hf⟩ := DataW.trod_struct Tryd.underlying54 h
  have h0 := hf 0 _ rfl
  have h1 := hf 1 _ rfl
  have c2 : Tryd.prog.cellsOf 54 = 2 := by kernel_rfl
  have c9 : Tryd.prog.cellsOf 9 = 1 := by kernel_rfl
  rw [c2] at hl
  have hn : xs.length = 2 := hn
  obtain ⟨a, b, rfl⟩ := len_two hl
  obtain ⟨x0, x1, rfl⟩ := len_two hn
  have g0 : DataW.trod enc Tryd.prog w base spare held n 9 [a] = some x0 := by
    have : (([a, b] : List Value).drop 0).take (Tryd.prog.cellsOf 9) = [a] := by rw [c9]; rfl
    rw [← this]; exact h0
  have g1 : DataW.trod enc Tryd.prog w base spare held n 9 [b] = some x1 := by
    have : (([a, b] : List Value).drop 1).take (Tryd.prog.cellsOf 9) = [b] := by rw [c9]; rfl
    rw [← this]; exact h1
  obtain ⟨s0, e0, y0, -⟩ := DataW.trod_string Tryd.underlying9 g0
  obtain ⟨s1, e1, y1, -⟩ := DataW.trod_string Tryd.underlying9 g1
  cases e0
  cases e1
  subst y0
  subst y1
  exact ⟨⟨s0, s1⟩, rfl, rfl⟩
theorem reach_fd {p : Fd} (h : ∀ n ∈ (Fd.d p : DataW H).weights Tryd.prog 54, n ≤ reachBytes) : ReachF p := by
  have e : (Fd.d p : DataW H).weights Tryd.prog 54 = [p.name.data.toList.length, p.val.data.toList.length] := by
    unfold Fd.d
    simp [DataW.weights, Tryd.underlying54, DataW.weightsEach]
  rw [e] at h
  have h0 := h _ (List.mem_cons_self ..)
  have h1 := h p.val.data.toList.length (by simp)
  have l0 : p.name.data.toList.length = p.name.size := by simp
  have l1 : p.val.data.toList.length = p.val.size := by simp
  have hr : reachBytes = 140737488351232 := rfl
  exact ⟨by omega, by omega⟩
theorem weightsAll_mem {P : Program} {e : TypeId} : ∀ {l : List (DataW H)} {d : DataW H}, d ∈ l → ∀ n ∈ d.weights P e, n ∈ DataW.weightsAll P e l
  | d' :: r, d, hd, n, hn => by
    simp only [DataW.weightsAll, List.mem_append]
    rcases List.mem_cons.1 hd with rfl | h
    · exact Or.inl hn
    · exact Or.inr (weightsAll_mem h n hn)
theorem cells54 : Tryd.prog.cellsOf 54 = 2 := by kernel_rfl
set_option maxRecDepth 100000 in
theorem open_fields {v : Value} {x : DataW H × List MemPlace} (h : DataW.trod enc Tryd.prog w base spare held fuel 25 [v] = some x) :
    ∃ L : List Fd, ReadsU w v L ∧ CapOk v ∧ ((∀ n ∈ x.1.weights Tryd.prog 25, n ≤ reachBytes) → ReachL L) := by
  rcases DataW.trod_slice Tryd.underlying25 h with ⟨hc, rfl⟩ | ⟨a, len, cap, elems, rest, n, rfl, hc, rfl, hb, hl, hm, hel, hi, -, -⟩
  · obtain rfl : v = .slice none 0 0 := by simpa using hc
    exact ⟨[], (ReadsL.nil _ _ _).wide, fun ao n cap e => by cases e; exact ⟨Nat.le_refl _, fun _ => rfl⟩, fun _ p hp => by cases hp⟩
  · obtain rfl : v = .slice (some a) len cap := by simpa using hc
    unfold maxLen at hm
    have hone : ∀ i, i < len → ∃ p : Fd, (∃ b o, some a = some ⟨b, o, none⟩ ∧ w.cell? ⟨b, o + i * 2, none⟩ = some (.string p.name) ∧ w.cell? ⟨b, o + i * 2 + 1, none⟩ = some (.string p.val)) ∧ elems[i]? = some (p.d, []) := by
      intro i hil
      have hE := hi i hil
      obtain ⟨y, hy⟩ := take_some hel hil
      rw [hy] at hE
      obtain ⟨cs', hcs, ht⟩ := Option.bind_eq_some_iff.1 hE
      obtain ⟨p, rfl, rfl⟩ := open_fd ht
      refine ⟨p, ?_, hy⟩
      obtain ⟨_, hcl, hat⟩ := World.cells?_some hcs
      rw [cells54] at hcl hat
      obtain ⟨b, o, sp⟩ := a
      obtain rfl : sp = none := by
        have hE0 := hi 0 (by omega)
        obtain ⟨y0, hy0⟩ := take_some hel (show 0 < len by omega)
        obtain ⟨cs0, hcs0, _⟩ := Option.bind_eq_some_iff.1 (hE0.trans hy0)
        obtain ⟨_, hcl0, hat0⟩ := World.cells?_some hcs0
        rw [cells54] at hcl0 hat0
        have hs0 := hat0 0 (by omega)
        rw [List.getElem?_eq_getElem (by omega)] at hs0
        have hsp := spot_none hs0
        simpa [Addr.add] using hsp
      have a0 := hat 0 (by omega)
      have a1 := hat 1 (by omega)
      rw [Addr.add_mid, Addr.add_mid] at a0 a1
      exact ⟨b, o, rfl, a0, a1⟩
    obtain ⟨L, hL, hR⟩ := choose_list len _ Fd.no hone
    refine ⟨L, ⟨by omega, some a, cap, by rw [hL], fun k hk => (hR k (by omega)).1⟩, fun ao n cap e => by cases e; exact ⟨hl, fun h => by cases h⟩, fun hw p hp => ?_⟩
    obtain ⟨k, hk⟩ := List.getElem?_of_mem hp
    have hkl := (List.getElem?_eq_some_iff.1 hk).1
    have e : L.getD k .no = p := by rw [List.getD_eq_getElem?_getD, hk]; rfl
    have hk2 := (hR k (by omega)).2
    rw [e] at hk2
    refine reach_fd (H := H) fun n hn => hw n ?_
    have hmem : (p.d : DataW H) ∈ elems.map (·.1) := List.mem_map.2 ⟨_, List.mem_of_getElem? hk2, rfl⟩
    have := weightsAll_mem (P := Tryd.prog) (e := 54) hmem n hn
    simp only [DataW.weights, Tryd.underlying25, List.mem_cons, List.mem_append]
    exact .inr (.inl this)
theorem len_five {α : Type} : ∀ {l : List α}, l.length = 5 → ∃ a b c d e, l = [a, b, c, d, e]
  | [a, b, c, d, e], _ => ⟨a, b, c, d, e, rfl⟩
set_option maxRecDepth 100000 in
theorem open_req {cs : List Value} {x : DataW H × List MemPlace} (h : DataW.trod enc Tryd.prog w base spare held fuel 56 cs = some x) :
    ∃ r : Rq, ReadsRU w (.agg cs.toArray) r ∧ ((∀ n ∈ x.1.weights Tryd.prog 56, n ≤ reachBytes) → ReachL r.fields) := by
  obtain ⟨xs, n, rfl, rfl, hl, hn, hf⟩ := DataW.trod_struct Tryd.underlying56 h
  have c5 : Tryd.prog.cellsOf 56 = 5 := by kernel_rfl
  have c9 : Tryd.prog.cellsOf 9 = 1 := by kernel_rfl
  have c25 : Tryd.prog.cellsOf 25 = 1 := by kernel_rfl
  rw [c5] at hl
  have hn : xs.length = 5 := hn
  obtain ⟨a, b, c, d, f, rfl⟩ := len_five hl
  obtain ⟨x0, x1, x2, x3, x4, rfl⟩ := len_five hn
  have g0 : DataW.trod enc Tryd.prog w base spare held n 9 [a] = some x0 := by
    have : (([a, b, c, d, f] : List Value).drop 0).take (Tryd.prog.cellsOf 9) = [a] := by rw [c9]; rfl
    rw [← this]; exact hf 0 _ rfl
  have g1 : DataW.trod enc Tryd.prog w base spare held n 9 [b] = some x1 := by
    have : (([a, b, c, d, f] : List Value).drop 1).take (Tryd.prog.cellsOf 9) = [b] := by rw [c9]; rfl
    rw [← this]; exact hf 1 _ rfl
  have g2 : DataW.trod enc Tryd.prog w base spare held n 9 [c] = some x2 := by
    have : (([a, b, c, d, f] : List Value).drop 2).take (Tryd.prog.cellsOf 9) = [c] := by rw [c9]; rfl
    rw [← this]; exact hf 2 _ rfl
  have g3 : DataW.trod enc Tryd.prog w base spare held n 9 [d] = some x3 := by
    have : (([a, b, c, d, f] : List Value).drop 3).take (Tryd.prog.cellsOf 9) = [d] := by rw [c9]; rfl
    rw [← this]; exact hf 3 _ rfl
  have g4 : DataW.trod enc Tryd.prog w base spare held n 25 [f] = some x4 := by
    have : (([a, b, c, d, f] : List Value).drop 4).take (Tryd.prog.cellsOf 25) = [f] := by rw [c25]; rfl
    rw [← this]; exact hf 4 _ rfl
  obtain ⟨s0, e0, -, -⟩ := DataW.trod_string Tryd.underlying9 g0
  obtain ⟨s1, e1, -, -⟩ := DataW.trod_string Tryd.underlying9 g1
  obtain ⟨s2, e2, -, -⟩ := DataW.trod_string Tryd.underlying9 g2
  obtain ⟨s3, e3, -, -⟩ := DataW.trod_string Tryd.underlying9 g3
  cases e0
  cases e1
  cases e2
  cases e3
  obtain ⟨L, hL, _, hr⟩ := open_fields g4
  refine ⟨⟨s0, s1, s2, s3, L⟩, ⟨f, rfl, hL⟩, fun hw => hr fun n hn => hw n ?_⟩
  simp only [DataW.weights, Tryd.underlying56]
  simp [DataW.weightsEach]
  right; right; right; right
  first | exact hn | simpa using hn
end
end Go.Proofs.YtkjghojdfjhhkaaDoor
