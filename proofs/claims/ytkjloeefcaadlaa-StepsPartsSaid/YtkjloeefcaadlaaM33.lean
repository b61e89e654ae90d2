/- The way from a law's walk to its row: what was there reads as it did, for of it nothing has turned. -/
import Derived.Test.YtkjloeefcaadlaaM01
import Derived.ProofKit
import Derived.Deep.Slices
import Derived.Deep.Fields
import Derived.Test.YtkjloeefcaadlaaM32
import Derived.OpenShut
import Derived.Conc.Holds
set_option linter.unusedSimpArgs false
set_option linter.unusedVariables false
namespace Go.Cs
open Go.RowKit Go.ChangeAt
variable {H : Type} {enc : TypeId × Value → H} {P : Program}
theorem post_new {f : Func} {s : ChangeSpec} {apart fresh handsOn : Bool} {W W' : World} {args : Array Value} {v : Value} {ds gs : List (DataW H)} {before pa pv : List MemPlace}
    (hW : DataW.Whole enc P f.params.toList s.vars apart W args.toList ds gs before)
    (hres : ∀ (b : Nat) (sp : Nat → Bool) (hd : Bool), DataW.TrodAll enc P W' b sp hd f.resultTypes.toList (v.resultList f.resultTypes.size) (s.fn H (ds ++ gs)).results [])
    (hargs : ∀ sp : Nat → Bool, (∀ p ∈ before, sp p.block = true) → DataW.TrodAll enc P W' 0 sp true f.params.toList args.toList (s.fn H (ds ++ gs)).args pa)
    (hvars : ∀ sp : Nat → Bool, (∀ p ∈ before, sp p.block = true) → DataW.TrodVars enc P W' sp s.vars (s.fn H (ds ++ gs)).vars pv)
    (hps : before = pa ++ pv) (hN : New W W') : s.post enc P f apart fresh handsOn false W args v W' := by
  have hold : ∀ p ∈ before, (fun b => decide (b < W.heap.size)) p.block = true := fun p hp => by simpa using hW.lt p hp
  refine ⟨ds, gs, before, [], pa, pv, hW, hres _ _ _, hargs _ hold, hvars _ hold, World.keptBut_mono (fun p hp => ⟨hp, ?_⟩) (hN.toBelow.frame (may := (· ∈ before))), fun h => by cases h⟩
  rw [hps, List.mem_append] at hp
  exact Or.inr hp
end Go.Cs
/- A law's row, whatever its parameters: true is answered, and of what was there nothing has turned. Slices of structs opened. -/
namespace Go.Cs
open Go.RowKit Go.ChangeAt Go.ChangeShapes Go.WideShapes Go.Deep
variable {H : Type} {enc : TypeId × Value → H} {P : Program}
/-- What was read reads as it did. -/
theorem trodAll_new (hl : laidOutB P = true) {sp : Nat → Bool} {W W' : World} (hN : New W W') : ∀ {ts : List TypeId} {vs : List Value} {ds : List (DataW H)} {ps : List MemPlace}, (∀ t ∈ ts, P.readableRec t = true ∧ t < P.types.size) →
    DataW.TrodAll enc P W 0 (fun _ => true) true ts vs ds ps → (∀ p ∈ ps, p.block < W.heap.size) → (∀ p ∈ ps, sp p.block = true) → DataW.TrodAll enc P W' 0 sp true ts vs ds ps
  | [], [], [], _, _, h, _, _ => h
  | t :: ts, v :: vs, d :: ds, _, hr, ⟨p, q, h, hs, e⟩, hlt, hsp => by
    subst e
    have h1 := hr t (by simp)
    exact ⟨p, q, WideElems.Trod_stays hl h1.1 h1.2 h (fun x hx => hN.toBelow.same (hlt x (by simp [hx]))) (fun x hx => hsp x (by simp [hx])),
      trodAll_new hl hN (fun t ht => hr t (by simp [ht])) hs (fun x hx => hlt x (by simp [hx])) (fun x hx => hsp x (by simp [hx])), rfl⟩
theorem post_law {f : Func} {s : ChangeSpec} {apart fresh handsOn : Bool} {W W' : World} {args : Array Value} {v : Value} {ds gs : List (DataW H)} {before : List MemPlace}
    (hW : DataW.Whole enc P f.params.toList s.vars apart W args.toList ds gs before) (hv : s.vars = []) (hl : laidOutB P = true) (hr : (f.params.toList.all fun t => P.readableRec t && decide (t < P.types.size)) = true)
    (hres : ∀ (b : Nat) (sp : Nat → Bool) (hd : Bool), DataW.TrodAll enc P W' b sp hd f.resultTypes.toList (v.resultList f.resultTypes.size) (s.fn H (ds ++ gs)).results [])
    (hfa : (s.fn H (ds ++ gs)).args = ds) (hfv : (s.fn H (ds ++ gs)).vars = []) (hN : New W W') : s.post enc P f apart fresh handsOn false W args v W' := by
  have hW' := hW
  obtain ⟨p, q, hA, hV, rfl, hfz, hnd⟩ := hW
  rw [hv] at hV
  obtain ⟨rfl, rfl⟩ := trodVars_none hV
  refine post_new (pa := p) (pv := []) hW' hres (fun sp hsp => ?_) (fun sp hsp => ?_) rfl hN
  · rw [hfa]
    refine trodAll_new hl hN (fun t ht => ?_) hA (fun x hx => hW'.lt x (by simp [hx])) (fun x hx => hsp x (by simp [hx]))
    have := List.all_eq_true.1 hr t ht
    simpa using this
  · rw [hv, hfv]
    exact hV
/-- A slice of structs, each field of one cell: nil, or its cells. -/
theorem open_structs {w : World} {base : Nat} {spare : Nat → Bool} {held : Bool} {t e : TypeId} {fs : Array Field} {fuel : Nat} {cs : List Value} {x : DataW H × List MemPlace} (ht : P.underlying t = some (.slice e)) (he : P.underlying e = some (.struct fs))
    (hone : oneCellFields P fs = true) (hC : P.cellsOf e = fs.size) (h : DataW.trod enc P w base spare held fuel t cs = some x) :
    cs = [.slice none 0 0] ∨ ∃ (a : Addr) (len cap : Nat), cs = [.slice (some a) len cap] ∧ len ≤ cap ∧ cap ≤ maxLen ∧
      ∀ i, i < len → ∀ (j : Nat) (f : Field), fs[j]? = some f → ∃ (v : Value) (y : DataW H × List MemPlace) (n : Nat), w.cell? (a.add (i * fs.size + j)) = some v ∧ DataW.trod enc P w base spare held n f.type [v] = some y := by
  rcases open_slice ht h with h0 | ⟨a, len, cap, m, n, D, Pl, hcs, hb, hl, hm, hmm, hx, hi⟩
  · exact .inl h0.1
  · refine .inr ⟨a, len, cap, hcs, hl, hm, fun i hil j f hj => ?_⟩
    obtain ⟨cs', hc, ht'⟩ := hi i (by rw [hmm]; split <;> omega)
    obtain ⟨ys, n', _, _, hlen, hys, hf⟩ := DataW.trod_struct he ht'
    obtain ⟨_, hcl, hat⟩ := World.cells?_some hc
    obtain ⟨ho, hk⟩ := hone_of hone j f hj
    have hjl : j < fs.size := (Array.getElem?_eq_some_iff.1 hj).1
    have hj' : j < cs'.length := by omega
    have hv := hat j (by omega)
    rw [List.getElem?_eq_getElem hj', Go.Deep.add_add, hC] at hv
    have hft := hf j f hj
    rw [ho, hk, show (cs'.drop j).take 1 = [cs'[j]] by rw [List.drop_eq_getElem_cons hj']; rfl, List.getElem?_eq_getElem (by omega)] at hft
    exact ⟨_, _, _, hv, hft⟩
end Go.Cs
/- Machines, deeds, that came in as arguments: opened. -/
namespace Go.Proofs.Ytkjloeefcaadlaa
open Go.RowKit Go.Shelf Go.Cs Go.ChangeShapes Go.WideShapes Go.ChangeAt Go.Deep
theorem c22 : Try.prog.cellsOf 22 = 1 := by kernel_rfl
theorem c3 : Try.prog.cellsOf 3 = 1 := by kernel_rfl
theorem c4 : Try.prog.cellsOf 4 = 1 := by kernel_rfl
theorem c5 : Try.prog.cellsOf 5 = 1 := by kernel_rfl
theorem c85 : Try.prog.cellsOf 85 = 1 := by kernel_rfl
theorem c74 : Try.prog.cellsOf 74 = 1 := by kernel_rfl
theorem c75 : Try.prog.cellsOf 75 = 1 := by kernel_rfl
theorem c93 : Try.prog.cellsOf 93 = 3 := by kernel_rfl
theorem c89 : Try.prog.cellsOf 89 = 2 := by kernel_rfl
theorem c95 : Try.prog.cellsOf 95 = 8 := by kernel_rfl
theorem c100 : Try.prog.cellsOf 100 = 4 := by kernel_rfl
theorem c77 : Try.prog.cellsOf 77 = 4 := by kernel_rfl
section
variable {H : Type} {enc : TypeId × Value → H} {w : World} {base : Nat} {spare : Nat → Bool} {held : Bool}
theorem spot_none {a : Addr} {v : Value} (h : w.cell? a = some v) : a.spot = none := by
  obtain ⟨b, o, sp⟩ := a
  cases sp with
  | none => rfl
  | some x =>
    unfold World.cell? at h
    split at h <;> simp_all
set_option maxRecDepth 100000 in
/-- A slice's elements, each by its cells. -/
theorem open_elems {t e C : Nat} {v : Value} {fuel : Nat} {x : DataW H × List MemPlace} (ht : Try.prog.underlying t = some (.slice e)) (hC : Try.prog.cellsOf e = C) (h0 : 0 < C) (h : DataW.trod enc Try.prog w base spare held fuel t [v] = some x) :
    ∃ (ao : Option Addr) (len cap : Nat), v = .slice ao len cap ∧ len ≤ cap ∧ cap ≤ 9223372036854775807 ∧ ∀ i, i < len → ∃ b o, ao = some ⟨b, o, none⟩ ∧ ∃ (cs : List Value) (y : DataW H × List MemPlace) (n : Nat), cs.length = C ∧ w.rangeAt b (o + i * C) cs ∧ DataW.trod enc Try.prog w base spare held n e cs = some y := by
  rcases open_slice ht h with hn | ⟨a, len, cap, m, n, D, Pl, hcs, hb, hl, hm, hmm, hx, hi⟩
  · obtain rfl : v = .slice none 0 0 := by simpa using hn.1
    exact ⟨none, 0, 0, rfl, Nat.le_refl _, by omega, fun i hi => by omega⟩
  · obtain rfl : v = .slice (some a) len cap := by simpa using hcs
    unfold maxLen at hm
    refine ⟨some a, len, cap, rfl, hl, by omega, fun i hil => ?_⟩
    obtain ⟨cs', hc, ht'⟩ := hi i (by rw [hmm]; split <;> omega)
    obtain ⟨_, hcl, hat⟩ := World.cells?_some hc
    rw [hC] at hcl hat
    obtain ⟨cs0, hc0, _⟩ := hi 0 (by rw [hmm]; split <;> omega)
    obtain ⟨_, hcl0, hat0⟩ := World.cells?_some hc0
    rw [hC] at hcl0 hat0
    obtain ⟨b, o, sp⟩ := a
    have hs := hat0 0 h0
    rw [List.getElem?_eq_getElem (by omega)] at hs
    have hsp := spot_none hs
    obtain rfl : sp = none := by simpa [Addr.add] using hsp
    refine ⟨b, o, rfl, cs', _, n, hcl, fun j u hj => ?_, ht'⟩
    have hjl : j < C := by
      rcases Nat.lt_or_ge j C with h | h
      · exact h
      · rw [List.getElem?_eq_none (by omega)] at hj; cases hj
    have := hat j hjl
    rw [hj, Addr.add_mid, Addr.add_mid] at this
    exact this
theorem three {l : List Value} (h : l.length = 3) : ∃ a b c, l = [a, b, c] := by
  match l, h with
  | [a, b, c], _ => exact ⟨a, b, c, rfl⟩
theorem four {l : List Value} (h : l.length = 4) : ∃ a b c d, l = [a, b, c, d] := by
  match l, h with
  | [a, b, c, d], _ => exact ⟨a, b, c, d, rfl⟩
theorem eight {l : List Value} (h : l.length = 8) : ∃ a b c d e f g i, l = [a, b, c, d, e, f, g, i] := by
  match l, h with
  | [a, b, c, d, e, f, g, i], _ => exact ⟨a, b, c, d, e, f, g, i, rfl⟩
theorem take_some {α : Type} {xs : List α} {k n : Nat} (h : xs.length = n) (hk : k < n) : ∃ y, xs[k]? = some y := ⟨_, List.getElem?_eq_getElem (by omega)⟩
set_option maxRecDepth 100000 in
theorem open_deed {cs : List Value} {n : Nat} {y : DataW H × List MemPlace} (hl : cs.length = 3) (h : DataW.trod enc Try.prog w base spare held n 93 cs = some y) : ∃ p : Dn, cs = p.cs ∧ InD p := by
  obtain ⟨xs, m, _, _, _, hxl, hg⟩ := DataW.trod_struct Try.underlying93 h
  obtain ⟨a, b, c, rfl⟩ := three hl
  have h0 : DataW.trod enc Try.prog w base spare held m 5 ((([a, b, c] : List Value).drop 0).take (Try.prog.cellsOf 5)) = xs[0]? := hg 0 _ rfl
  have h1 : DataW.trod enc Try.prog w base spare held m 3 ((([a, b, c] : List Value).drop 1).take (Try.prog.cellsOf 3)) = xs[1]? := hg 1 _ rfl
  have h2 : DataW.trod enc Try.prog w base spare held m 3 ((([a, b, c] : List Value).drop 2).take (Try.prog.cellsOf 3)) = xs[2]? := hg 2 _ rfl
  obtain ⟨y0, e0⟩ := take_some hxl (show 0 < _ by decide)
  obtain ⟨y1, e1⟩ := take_some hxl (show 1 < _ by decide)
  obtain ⟨y2, e2⟩ := take_some hxl (show 2 < _ by decide)
  rw [c5, e0] at h0
  rw [c3, e1] at h1
  rw [c3, e2] at h2
  obtain ⟨z0, q0, _, w0⟩ := DataW.trod_int Try.underlying5 h0
  obtain ⟨z1, q1, _, w1⟩ := DataW.trod_int Try.underlying3 h1
  obtain ⟨z2, q2, _, w2⟩ := DataW.trod_int Try.underlying3 h2
  obtain rfl : a = .int .u8 z0 := by simpa using q0
  obtain rfl : b = .int .i64 z1 := by simpa using q1
  obtain rfl : c = .int .i64 z2 := by simpa using q2
  have b0 : 0 ≤ z0 := by
    have := bounds_u8 w0
    omega
  obtain ⟨d, rfl⟩ := Int.eq_ofNat_of_zero_le b0
  exact ⟨⟨d, z1, z2⟩, rfl, bounds_i64 w1, bounds_i64 w2⟩
theorem choose_list {α : Type} (n : Nat) (R : Nat → α → Prop) (d : α) (h : ∀ i, i < n → ∃ a, R i a) : ∃ L : List α, L.length = n ∧ ∀ i, i < n → R i (L.getD i d) := by
  induction n with
  | zero => exact ⟨[], rfl, fun i hi => by omega⟩
  | succ n ih =>
    obtain ⟨L, hL, hR⟩ := ih fun i hi => h i (by omega)
    obtain ⟨a, ha⟩ := h n (by omega)
    refine ⟨L ++ [a], by simp [hL], fun i hi => ?_⟩
    by_cases e : i < n
    · have : (L ++ [a]).getD i d = L.getD i d := by simp [List.getD, List.getElem?_append_left (by omega : i < L.length)]
      rw [this]
      exact hR i e
    · obtain rfl : i = n := by omega
      have : (L ++ [a]).getD i d = a := by simp [List.getD, ← hL]
      rw [this]
      exact ha
set_option maxRecDepth 100000 in
/-- A slice of deeds. -/
theorem open_deeds {v : Value} {fuel : Nat} {x : DataW H × List MemPlace} (h : DataW.trod enc Try.prog w base spare held fuel 85 [v] = some x) :
    ∃ (ao : Option Addr) (L : List Dn) (cap : Nat), v = .slice ao L.length cap ∧ L.length ≤ cap ∧ cap ≤ 9223372036854775807 ∧ (L.length ≤ 5864062014805 → ReadsE w v L) ∧ InLs L := by
  obtain ⟨ao, len, cap, rfl, h1, h2, hi⟩ := open_elems Try.underlying85 c93 (by decide) h
  obtain ⟨L, rfl, hR⟩ := choose_list len (fun i p => (∃ b o, ao = some ⟨b, o, none⟩ ∧ w.rangeAt b (o + i * 3) p.cs) ∧ InD p) Dn.no (fun i hil => by
    obtain ⟨b, o, hao, cs, y, n, hcl, hra, ht⟩ := hi i hil
    obtain ⟨p, rfl, hp⟩ := open_deed hcl ht
    exact ⟨p, ⟨b, o, hao, hra⟩, hp⟩)
  exact ⟨ao, L, cap, rfl, h1, h2, fun hl => ⟨hl, ao, cap, rfl, fun i hi => (hR i hi).1⟩, fun i hi => (hR i hi).2⟩
set_option maxRecDepth 100000 in
theorem open_answer {cs : List Value} {n : Nat} {y : DataW H × List MemPlace} (hl : cs.length = 2) (h : DataW.trod enc Try.prog w base spare held n 89 cs = some y) : ∃ (s : Int) (o : Bool), cs = [.int .i64 s, .bool o] := by
  obtain ⟨xs, m, _, _, _, hxl, hg⟩ := DataW.trod_struct Try.underlying89 h
  obtain ⟨a, b, rfl⟩ : ∃ a b, cs = [a, b] := by
    match cs, hl with
    | [a, b], _ => exact ⟨a, b, rfl⟩
  have h0 : DataW.trod enc Try.prog w base spare held m 3 ((([a, b] : List Value).drop 0).take (Try.prog.cellsOf 3)) = xs[0]? := hg 0 _ rfl
  have h1 : DataW.trod enc Try.prog w base spare held m 4 ((([a, b] : List Value).drop 1).take (Try.prog.cellsOf 4)) = xs[1]? := hg 1 _ rfl
  obtain ⟨y0, e0⟩ := take_some hxl (show 0 < _ by decide)
  obtain ⟨y1, e1⟩ := take_some hxl (show 1 < _ by decide)
  rw [c3, e0] at h0
  rw [c4, e1] at h1
  obtain ⟨z0, q0, _, w0⟩ := DataW.trod_int Try.underlying3 h0
  obtain ⟨z1, q1, _⟩ := DataW.trod_bool Try.underlying4 h1
  obtain rfl : a = .int .i64 z0 := by simpa using q0
  obtain rfl : b = .bool z1 := by simpa using q1
  exact ⟨z0, z1, rfl⟩
set_option maxRecDepth 100000 in
theorem open_moment {cs : List Value} {n : Nat} {y : DataW H × List MemPlace} (hl : cs.length = 8) (h : DataW.trod enc Try.prog w base spare held n 95 cs = some y) : ∃ p : Mo, cs = p.cs ∧ InD p.deed := by
  obtain ⟨xs, m, _, _, _, hxl, hg⟩ := DataW.trod_struct Try.underlying95 h
  obtain ⟨a, b, c, d, e, f, g, i, rfl⟩ := eight hl
  have h0 : DataW.trod enc Try.prog w base spare held m 3 ((([a, b, c, d, e, f, g, i] : List Value).drop 0).take (Try.prog.cellsOf 3)) = xs[0]? := hg 0 _ rfl
  have h1 : DataW.trod enc Try.prog w base spare held m 93 ((([a, b, c, d, e, f, g, i] : List Value).drop 1).take (Try.prog.cellsOf 93)) = xs[1]? := hg 1 _ rfl
  have h2 : DataW.trod enc Try.prog w base spare held m 3 ((([a, b, c, d, e, f, g, i] : List Value).drop 4).take (Try.prog.cellsOf 3)) = xs[2]? := hg 2 _ rfl
  have h3 : DataW.trod enc Try.prog w base spare held m 3 ((([a, b, c, d, e, f, g, i] : List Value).drop 5).take (Try.prog.cellsOf 3)) = xs[3]? := hg 3 _ rfl
  have h4 : DataW.trod enc Try.prog w base spare held m 89 ((([a, b, c, d, e, f, g, i] : List Value).drop 6).take (Try.prog.cellsOf 89)) = xs[4]? := hg 4 _ rfl
  obtain ⟨y0, e0⟩ := take_some hxl (show 0 < _ by decide)
  obtain ⟨y1, e1⟩ := take_some hxl (show 1 < _ by decide)
  obtain ⟨y2, e2⟩ := take_some hxl (show 2 < _ by decide)
  obtain ⟨y3, e3⟩ := take_some hxl (show 3 < _ by decide)
  obtain ⟨y4, e4⟩ := take_some hxl (show 4 < _ by decide)
  rw [c3, e0] at h0
  rw [c93, e1] at h1
  rw [c3, e2] at h2
  rw [c3, e3] at h3
  rw [c89, e4] at h4
  obtain ⟨z0, q0, _, w0⟩ := DataW.trod_int Try.underlying3 h0
  obtain ⟨p, hp, hin⟩ := open_deed (cs := [b, c, d]) rfl h1
  obtain ⟨z2, q2, _, w2⟩ := DataW.trod_int Try.underlying3 h2
  obtain ⟨z3, q3, _, w3⟩ := DataW.trod_int Try.underlying3 h3
  obtain ⟨s, o, q4⟩ := open_answer (cs := [g, i]) rfl h4
  obtain rfl : a = .int .i64 z0 := by simpa using q0
  obtain rfl : e = .int .i64 z2 := by simpa using q2
  obtain rfl : f = .int .i64 z3 := by simpa using q3
  simp only [Dn.cs, List.cons.injEq, and_true] at hp q4
  obtain ⟨rfl, rfl, rfl⟩ := hp
  obtain ⟨rfl, rfl⟩ := q4
  exact ⟨⟨z0, p, z2, z3, s, o⟩, rfl, hin⟩
set_option maxRecDepth 100000 in
/-- A thread. -/
theorem open_thread {cs : List Value} {n : Nat} {y : DataW H × List MemPlace} (hl : cs.length = 4) (h : DataW.trod enc Try.prog w base spare held n 100 cs = some y) :
    ∃ (t : Th) (lv : Value) (la : Option Addr) (cap : Nat), cs = t.cs lv ∧ lv = .slice la t.left.length cap ∧ (t.left.length ≤ 5864062014805 → ReadsE w lv t.left) ∧ InLs t.left ∧ t.seen < 18446744073709551616 := by
  obtain ⟨xs, m, _, _, _, hxl, hg⟩ := DataW.trod_struct Try.underlying100 h
  obtain ⟨a, b, c, d, rfl⟩ := four hl
  have h0 : DataW.trod enc Try.prog w base spare held m 85 ((([a, b, c, d] : List Value).drop 0).take (Try.prog.cellsOf 85)) = xs[0]? := hg 0 _ rfl
  have h1 : DataW.trod enc Try.prog w base spare held m 4 ((([a, b, c, d] : List Value).drop 1).take (Try.prog.cellsOf 4)) = xs[1]? := hg 1 _ rfl
  have h2 : DataW.trod enc Try.prog w base spare held m 22 ((([a, b, c, d] : List Value).drop 2).take (Try.prog.cellsOf 22)) = xs[2]? := hg 2 _ rfl
  have h3 : DataW.trod enc Try.prog w base spare held m 3 ((([a, b, c, d] : List Value).drop 3).take (Try.prog.cellsOf 3)) = xs[3]? := hg 3 _ rfl
  obtain ⟨y0, e0⟩ := take_some hxl (show 0 < _ by decide)
  obtain ⟨y1, e1⟩ := take_some hxl (show 1 < _ by decide)
  obtain ⟨y2, e2⟩ := take_some hxl (show 2 < _ by decide)
  obtain ⟨y3, e3⟩ := take_some hxl (show 3 < _ by decide)
  rw [c85, e0] at h0
  rw [c4, e1] at h1
  rw [c22, e2] at h2
  rw [c3, e3] at h3
  obtain ⟨la, L, cap, rfl, k1, k2, k3, k4⟩ := open_deeds (v := a) h0
  obtain ⟨z1, q1, _⟩ := DataW.trod_bool Try.underlying4 h1
  obtain ⟨z2, q2, _, w2⟩ := DataW.trod_int Try.underlying22 h2
  obtain ⟨z3, q3, _, w3⟩ := DataW.trod_int Try.underlying3 h3
  obtain rfl : b = .bool z1 := by simpa using q1
  obtain rfl : c = .int .u64 z2 := by simpa using q2
  obtain rfl : d = .int .i64 z3 := by simpa using q3
  have b2 := bounds_u64 w2
  obtain ⟨s, rfl⟩ := Int.eq_ofNat_of_zero_le b2.1
  exact ⟨⟨L, z1, s, z3⟩, _, la, cap, rfl, rfl, k3, k4, by show s < _; omega⟩
set_option maxRecDepth 100000 in
/-- A machine, of any size: what is asked of one that may be too great; and one that is not is read whole. -/
theorem open_mach {v : Value} {d : DataW H} {ps : List MemPlace} {r : Reach} {b0 : Nat} (hv : Value.okWide Try.prog w r b0 77 v) (h : DataW.Trod enc Try.prog w base spare held 77 v d ps) :
    ∃ (x : Nat) (c : Int) (ta : Option Addr) (n tc : Nat) (ha : Option Addr) (k hc : Nat) (Ls : Nat → Nat), v = .agg #[.int .u64 x, .int .i64 c, .slice ta n tc, .slice ha k hc] ∧ n ≤ 9223372036854775807 ∧ (∀ i, i < n → i < 6 → ∃ b o la lc, ta = some ⟨b, o, none⟩ ∧ w.cell? ⟨b, o + i * 4, none⟩ = some (.slice la (Ls i) lc)) ∧
      (greatN n k Ls = false → ∃ m : Ma, ReadsM w v m ∧ InM m ∧ greatB m = false) := by
  obtain ⟨⟨vs⟩, rfl, hs⟩ := okWide_struct Try.underlying77 hv
  rw [c77] at hs
  obtain ⟨fuel, hf⟩ := h
  obtain ⟨xs, m, _, _, _, hxl, hg⟩ := DataW.trod_struct Try.underlying77 hf
  obtain ⟨a, b, c, d, rfl⟩ := four hs
  have h0 : DataW.trod enc Try.prog w base spare held m 22 ((([a, b, c, d] : List Value).drop 0).take (Try.prog.cellsOf 22)) = xs[0]? := hg 0 _ rfl
  have h1 : DataW.trod enc Try.prog w base spare held m 3 ((([a, b, c, d] : List Value).drop 1).take (Try.prog.cellsOf 3)) = xs[1]? := hg 1 _ rfl
  have h2 : DataW.trod enc Try.prog w base spare held m 74 ((([a, b, c, d] : List Value).drop 2).take (Try.prog.cellsOf 74)) = xs[2]? := hg 2 _ rfl
  have h3 : DataW.trod enc Try.prog w base spare held m 75 ((([a, b, c, d] : List Value).drop 3).take (Try.prog.cellsOf 75)) = xs[3]? := hg 3 _ rfl
  obtain ⟨y0, e0⟩ := take_some hxl (show 0 < _ by decide)
  obtain ⟨y1, e1⟩ := take_some hxl (show 1 < _ by decide)
  obtain ⟨y2, e2⟩ := take_some hxl (show 2 < _ by decide)
  obtain ⟨y3, e3⟩ := take_some hxl (show 3 < _ by decide)
  rw [c22, e0] at h0
  rw [c3, e1] at h1
  rw [c74, e2] at h2
  rw [c75, e3] at h3
  obtain ⟨z0, q0, _, w0⟩ := DataW.trod_int Try.underlying22 h0
  obtain ⟨z1, q1, _, w1⟩ := DataW.trod_int Try.underlying3 h1
  obtain ⟨ta, n, tc, rfl, t1, t2, hti⟩ := open_elems (v := c) Try.underlying74 c100 (by decide) h2
  obtain ⟨ha, k, hc, rfl, r1, r2, hri⟩ := open_elems (v := d) Try.underlying75 c95 (by decide) h3
  obtain rfl : a = .int .u64 z0 := by simpa using q0
  obtain rfl : b = .int .i64 z1 := by simpa using q1
  have b0' := bounds_u64 w0
  obtain ⟨x, rfl⟩ := Int.eq_ofNat_of_zero_le b0'.1
  obtain ⟨T, rfl, hT⟩ := choose_list n (fun i (p : Th × Value) => (∃ b o, ta = some ⟨b, o, none⟩ ∧ w.rangeAt b (o + i * 4) (p.1.cs p.2)) ∧ (∃ la cap, p.2 = .slice la p.1.left.length cap) ∧ (p.1.left.length ≤ 5864062014805 → ReadsE w p.2 p.1.left) ∧ InLs p.1.left ∧ p.1.seen < 18446744073709551616) (Th.no, .slice none 0 0) (fun i hil => by
    obtain ⟨b, o, hao, cs, y, nn, hcl, hra, ht⟩ := hti i hil
    obtain ⟨t, lv, la, cap, rfl, hlv, k1, k2, k3⟩ := open_thread hcl ht
    exact ⟨(t, lv), ⟨b, o, hao, hra⟩, ⟨la, cap, hlv⟩, k1, k2, k3⟩)
  obtain ⟨M, rfl, hM⟩ := choose_list k (fun i (p : Mo) => (∃ b o, ha = some ⟨b, o, none⟩ ∧ w.rangeAt b (o + i * 8) p.cs) ∧ InD p.deed) Mo.no (fun i hil => by
    obtain ⟨b, o, hao, cs, y, nn, hcl, hra, ht⟩ := hri i hil
    obtain ⟨p, rfl, hp⟩ := open_moment hcl ht
    exact ⟨p, ⟨b, o, hao, hra⟩, hp⟩)
  refine ⟨x, z1, ta, T.length, tc, ha, M.length, hc, fun i => (T.getD i (Th.no, .slice none 0 0)).1.left.length, rfl, by omega, fun i hi _ => ?_, fun hg => ?_⟩
  · obtain ⟨⟨b, o, hao, hra⟩, ⟨la, cap, hlv⟩, _⟩ := hT i hi
    refine ⟨b, o, la, cap, hao, ?_⟩
    have := hra 0 _ rfl
    rw [← hlv]
    exact this
  · unfold greatN at hg
    simp only [Bool.or_eq_false_iff, decide_eq_false_iff_not, List.any_eq_false, List.mem_range, decide_eq_true_eq] at hg
    obtain ⟨g1, g2, g3⟩ := hg
    have hl : (T.map Prod.fst).length = T.length := by simp
    have hget : ∀ i, i < T.length → (T.map Prod.fst).getD i .no = (T.getD i (Th.no, .slice none 0 0)).1 := fun i hi => by simp [List.getD, hi]
    have h20 : ∀ i, i < T.length → (T.getD i (Th.no, .slice none 0 0)).1.left.length ≤ 20 := fun i hi => by have := g1 i (by omega); omega
    refine ⟨⟨x, z1, T.map Prod.fst, M⟩, ⟨.slice ta T.length tc, .slice ha M.length hc, fun i => (T.getD i (Th.no, .slice none 0 0)).2, rfl, ⟨?_, ?_, ?_⟩⟩, ⟨by show x < _; omega, ?_, ?_⟩, ?_⟩
    · show ReadsF w _ (T.map Prod.fst).length 4 (thsF (T.map Prod.fst) _)
      rw [hl]
      refine ⟨by omega, ta, tc, rfl, fun i hi => ?_⟩
      obtain ⟨⟨b, o, hao, hra⟩, _⟩ := hT i hi
      refine ⟨b, o, hao, ?_⟩
      unfold thsF
      rw [hget i hi]
      exact hra
    · intro i hi
      have hi : i < T.length := by rw [← hl]; exact hi
      show ReadsE w _ ((T.map Prod.fst).getD i .no).left
      rw [hget i hi]
      have := h20 i hi
      exact (hT i hi).2.2.1 (by omega)
    · show ReadsF w _ M.length 8 (mosF M)
      exact ⟨by omega, ha, hc, rfl, fun i hi => (hM i hi).1⟩
    · intro i hi
      have hi : i < T.length := by rw [← hl]; exact hi
      show ((T.map Prod.fst).getD i .no).seen < _
      rw [hget i hi]
      exact (hT i hi).2.2.2.2
    · intro i hi
      have hi : i < T.length := by rw [← hl]; exact hi
      show InLs ((T.map Prod.fst).getD i .no).left
      rw [hget i hi]
      exact (hT i hi).2.2.2.1
    · unfold greatB
      simp only [Bool.or_eq_false_iff, decide_eq_false_iff_not, List.any_eq_false, List.mem_range, decide_eq_true_eq]
      refine ⟨fun i hi => ?_, by rw [hl]; exact g2, g3⟩
      rw [hl] at hi
      rw [hget i (by omega)]
      have := h20 i (by omega)
      omega
set_option maxRecDepth 100000 in
/-- A slice of numbers. -/
theorem open_list44 {v : Value} {d : DataW H} {ps : List MemPlace} {r : Reach} {b0 : Nat} (hv : Value.okWide Try.prog w r b0 44 v) (h : DataW.Trod enc Try.prog w base spare held 44 v d ps) :
    ∃ (ao : Option Addr) (is : List Int) (cap : Nat), v = .slice ao is.length cap ∧ is.length ≤ cap ∧ ReadsI .i64 w v is ∧ ∀ n ∈ is, -9223372036854775808 ≤ n ∧ n ≤ 9223372036854775807 := by
  obtain ⟨a0, len0, cap0, rfl⟩ := okWide_slice Try.underlying44 hv
  obtain ⟨fuel, hf⟩ := h
  obtain ⟨ao, len, cap, he, h1, h2, hi⟩ := open_elems (v := .slice a0 len0 cap0) Try.underlying44 c3 (by decide) hf
  cases he
  obtain ⟨L, rfl, hR⟩ := choose_list len0 (fun i (z : Int) => (∃ b o, a0 = some ⟨b, o, none⟩ ∧ w.cell? ⟨b, o + i, none⟩ = some (.int .i64 z)) ∧ -9223372036854775808 ≤ z ∧ z ≤ 9223372036854775807) 0 (fun i hil => by
    obtain ⟨b, o, hao, cs, y, n, hcl, hra, ht⟩ := hi i hil
    obtain ⟨z, rfl, _, wz⟩ := DataW.trod_int Try.underlying3 ht
    refine ⟨z, ⟨b, o, hao, ?_⟩, bounds_i64 wz⟩
    have := hra 0 _ rfl
    rw [Nat.mul_one] at this
    exact this)
  refine ⟨a0, L, cap0, rfl, h1, ⟨by omega, a0, cap0, rfl, fun i hi => (hR i hi).1⟩, fun n hn => ?_⟩
  obtain ⟨i, hi, rfl⟩ := List.getElem_of_mem hn
  have := (hR i hi).2
  simpa [List.getD, hi] using this
end
end Go.Proofs.Ytkjloeefcaadlaa
/- A row that says 'leaving', from a run of one goroutine. -/
namespace Go.Cs
open Go.RowKit
/-- Nobody else is there: so everybody else is only leaving. -/
theorem leaving_of_handed {a : Assume} {C : Checked} {os : Os} {f : FuncId} {r : Reach} {Pre : World → Array Value → Prop} {Post : World → Array Value → Value → World → Prop} (h : ReturnsInHanded a C os f r Pre Post) : ReturnsInLeavingWide a C os f r Pre Post := fun enter => by
  obtain ⟨e, o, s, wit, runs⟩ := h enter
  refine ⟨e, o, s, wit, fun w tape i hf => ?_⟩
  obtain ⟨n, v, w', h1, h2, h3, h4, ⟨j, last, h5, h6, hq, hh, he⟩, h7⟩ := runs w tape i hf
  refine ⟨n, v, w', h1, h2, h3, h4, ⟨j, last, h5, h6, hh, ⟨fun g hg => ⟨0, ?_⟩, hq.2⟩, he⟩, h7⟩
  have := hq.1
  unfold Machine.othersDone at this
  rw [List.all_eq_true] at this
  exact eq_of_beq (this g hg)
end Go.Cs
