/- An item is read: what is told; tokens, answers (the program). -/
import Derived.Test.YtihmnkbkigkjjaaDoorZ4
import Derived.BigRegion
namespace Go.Proofs.YtihmnkbkigkjjaaDoor
open Go.RowKit Go.Shelf Go.Cs
attribute [local go_sem] Oper.semAt_some
set_option linter.unusedVariables false
set_option linter.unusedSimpArgs false
theorem results_row3 {P : Program} {fn : Func} {p q r : Tmp} {ty : TypeId} (h : fn.results = #[.cell p ty, .tmp q, .tmp r]) (tmps : Array Value) (w : World) (g : Nat) (t : TypeId) (cs : Array Value) (fr : Nat × Nat) (d : TypeDesc)
    (hp : tmps.getD p undef = .pointer (some ⟨g, 0, none⟩)) (hg : w.heap[g]? = some (.cells cs t fr))
    (hu : P.underlying ty = some d) (hd : (match d with | .struct _ | .array _ _ => true | _ => false) = true) (hi : (P.info? ty).map (·.size) = some cs.size) {v v2 : Value} (hq : tmps.getD q undef = v) (hr : tmps.getD r undef = v2) :
    (results fn tmps).run P w = .ok (.tuple #[.agg cs, v, v2]) w := by
  subst hq
  subst hr
  have hp' : tmps[p]?.getD undef = .pointer (some ⟨g, 0, none⟩) := by simpa using hp
  simp [results, h, hp', asAddr, run_loadVar_row w g t ty cs fr d hg hu hd hi]
theorem read_end {fn : Func} {R : Ending → World → Prop} {tmps : Array Value} {W : World} {B : Nat} {a b c d v v2 : Value} (hf : fn.results = #[.cell 2 23, .tmp 3, .tmp 4]) (hp : tmps.getD 2 undef = .pointer (some ⟨B, 0, none⟩)) (hq : tmps.getD 3 undef = v) (hr : tmps.getD 4 undef = v2)
    (hg : W.heap[B]? = some (.cells #[a, b, c, d] 23 (0, 0))) (hR : R (.returned (.tuple #[.agg #[a, b, c, d], v, v2])) W) : bodyPost Tryd.prog fn R .ret ⟨tmps, []⟩ W :=
  bodyPost_ret (results_row3 (p := 2) (q := 3) (r := 4) hf tmps W B 23 #[a, b, c, d] (0, 0) _ hp hg Tryd.underlying23 rfl info_bare hq hr) rfl hR
theorem range_lit (t : Array Value) (n : Nat) (h : t.size = n) : t = ((List.range n).map fun i => t.getD i undef).toArray := by
  apply Array.ext
  · simp [h]
  · intro i h1 h2
    simp [h1]
def u8s (l : Bare.Bs) : List Value := l.map fun c => .int .u8 (c.toNat : Nat)
theorem u8s_len (l : Bare.Bs) : (u8s l).length = l.length := by simp [u8s]
theorem u8s_get {l : Bare.Bs} {i : Nat} {c : UInt8} (h : l[i]? = some c) : (u8s l)[i]? = some (.int .u8 (c.toNat : Nat)) := by
  unfold u8s
  rw [List.getElem?_map, h]
  rfl
theorem u8s_snoc (l : Bare.Bs) (c : UInt8) : u8s (l ++ [c]) = u8s l ++ [.int .u8 (c.toNat : Nat)] := by simp [u8s]
theorem byte_val (m : Nat) : ((UInt8.ofNat (m % 256)).toNat : Int) = (m : Int) % 256 := by
  rw [UInt8.toNat_ofNat']
  omega
theorem nums_tx (l : Bare.Bs) : strOfNums (l.map fun c => ((c.toNat : Nat) : Int)) = tx l := by
  unfold strOfNums tx
  congr 2
  rw [List.map_map]
  conv => rhs; rw [← List.map_id l]
  apply List.map_congr_left
  intro c _
  simp
/-- A row of bytes of the call's own, as a text. -/
theorem conv_own {w : World} {base : Nat} {v : Value} {l : Bare.Bs} (h : w.ownsRow base 5 1 v l.length (u8s l)) : (convert 43 9 v).run Tryd.prog w = .ok (.string (tx l)) w := by
  rcases h.2 with ⟨rfl, h0⟩ | ⟨g, cap, cur, rfl, hb, hg, h1, h2, h3, h4⟩
  · rw [run_convert_bytes_nil w 43 5 Tryd.underlying43 Tryd.underlying5 0 0 9 Tryd.underlying9]
    obtain rfl : l = [] := List.length_eq_zero_iff.1 h0
    rfl
  · rw [run_convert_bytes_arg w 43 5 Tryd.underlying43 Tryd.underlying5 g 0 l.length cap (l.map fun c => ((c.toNat : Nat) : Int)) (by simp) (fun i hi => ?_) 9 Tryd.underlying9, nums_tx]
    have e : (u8s l)[i]? = some (.int .u8 (((l[i]'hi).toNat : Nat) : Int)) := u8s_get (List.getElem?_eq_getElem hi)
    rw [Nat.zero_add]
    have hc : w.cell? ⟨g, i, none⟩ = cur[i]? := cell_of_row _ _ _ _ _ _ hg
    rw [hc]
    rw [← h4, List.getElem?_take] at e
    rw [if_pos (by omega)] at e
    rw [← Array.getElem?_toList, e, List.getD_eq_getElem?_getD, List.getElem?_map, List.getElem?_eq_getElem hi]
    rfl
theorem infoB' : (Tryd.prog.info? 5).map (fun i => (i.zero, i.size, i.bytes)) = some (some (.int .u8 0), 1, 1) := by kernel_rfl
def noIt : Bare.It := ⟨0, 0, [], false⟩
/-- What a reading tells. -/
def ReadP (r : Option (Bare.It × Bare.Bs)) (w : World) (e : Ending) (w' : World) : Prop :=
  e = .returned (match r with | some (b, rest) => .tuple #[bv b, .string (tx rest), .int .i64 0] | none => .tuple #[bv noIt, .string ⟨#[]⟩, .int .i64 120]) ∧ New w w'
theorem one4 (k n : Int) (s : ByteArray) (y : Bool) : ∀ v ∈ ([.int .u8 k, .int .i64 n, .string s, .bool y] : List Value), v.oneCell' = true := by
  intro v hv
  simp at hv
  rcases hv with rfl | rfl | rfl | rfl <;> rfl
theorem no_row (w : World) : New w (w.alloc (.cells #[.int .u8 0, .int .i64 0, .string ⟨#[]⟩, .bool false] 23)) ∧ (w.alloc (.cells #[.int .u8 0, .int .i64 0, .string ⟨#[]⟩, .bool false] 23)).heap[w.heap.size]? = some (.cells #[.int .u8 0, .int .i64 0, .string ⟨#[]⟩, .bool false] 23 (0, 0)) :=
  ⟨(Mods.refl _ _).alloc _, World.alloc_heap_new w _⟩
/-- What the walk asks of an item's row that is written. -/
theorem row_facts {W : World} {B : Nat} {a b c d : Value} (h : W.heap[B]? = some (.cells #[a, b, c, d] 23 (0, 0))) :
    (W.cell? ⟨B, 0, none⟩ = some a ∧ W.cell? ⟨B, 1, none⟩ = some b ∧ W.cell? ⟨B, 2, none⟩ = some c ∧ W.cell? ⟨B, 3, none⟩ = some d) ∧ (W.frozen? ⟨B, 0, none⟩ = false ∧ W.frozen? ⟨B, 1, none⟩ = false ∧ W.frozen? ⟨B, 2, none⟩ = false ∧ W.frozen? ⟨B, 3, none⟩ = false) :=
  ⟨⟨cell_of_row _ _ 0 _ _ _ h, cell_of_row _ _ 1 _ _ _ h, cell_of_row _ _ 2 _ _ _ h, cell_of_row _ _ 3 _ _ _ h⟩, frozen_row (i := 0) h, frozen_row (i := 1) h, frozen_row (i := 2) h, frozen_row (i := 3) h⟩
theorem set4 {w W : World} {B : Nat} {a b c d : Value} (hN : New w W) (hB : w.heap.size ≤ B) (h : W.heap[B]? = some (.cells #[a, b, c, d] 23 (0, 0))) (a' b' c' d' : Value) :
    New w ((((W.setCell ⟨B, 0, none⟩ a').setCell ⟨B, 1, none⟩ b').setCell ⟨B, 2, none⟩ c').setCell ⟨B, 3, none⟩ d') ∧ ((((W.setCell ⟨B, 0, none⟩ a').setCell ⟨B, 1, none⟩ b').setCell ⟨B, 2, none⟩ c').setCell ⟨B, 3, none⟩ d').heap[B]? = some (.cells #[a', b', c', d'] 23 (0, 0)) := by
  refine ⟨(((hN.setCell (p := ⟨B, 0, none⟩) (.inl hB) _).setCell (p := ⟨B, 1, none⟩) (.inl hB) _).setCell (p := ⟨B, 2, none⟩) (.inl hB) _).setCell (p := ⟨B, 3, none⟩) (.inl hB) _, ?_⟩
  have h1 := heap_setCell_same W B 0 _ 23 a' h
  have h2 := heap_setCell_same _ B 1 _ 23 b' h1
  have h3 := heap_setCell_same _ B 2 _ 23 c' h2
  have h4 := heap_setCell_same _ B 3 _ 23 d' h3
  exact h4
theorem geq_marks (c : UInt8) : decide (0 ≤ Lib.indexByte Bare.marks c) = Bare.marks.contains c := (Lib.contains_iff_indexByte Bare.marks c).symm
theorem tok1_p : PredB 41 #[] Bare.inTok := by
  intro c w
  have HL := Lib.hid (letter_p c)
  have HD := Lib.hid (digit_p c)
  have Ho := geq_marks c
  have hback : ((c.toNat : Nat) : Int).toNat.toUInt8 = c := by simp
  have HK : ∀ W, Calls Tryd.prog 29 #[.string ⟨#[33, 35, 36, 37, 38, 39, 42, 43, 45, 46, 94, 95, 96, 124, 126, 58, 47]⟩, .int .u8 (c.toNat : Nat)] W fun e w' => e = .returned (.int .i64 (Lib.indexByte Bare.marks c)) ∧ w' = W := fun W =>
    (Tryd.strings_IndexByte _ _ W).mono (by rintro e w' ⟨rfl, hw⟩; rw [hback]; exact ⟨rfl, hw⟩)
  have HK := Lib.hid HK
  unfold Bare.inTok
  obtain ⟨o, ho⟩ : ∃ o, Lib.indexByte Bare.marks c = o := ⟨_, rfl⟩
  rw [ho] at HK Ho
  obtain ⟨L, hL⟩ : ∃ x, Bare.letB c = x := ⟨_, rfl⟩
  obtain ⟨D, hD⟩ : ∃ x, Bare.digB c = x := ⟨_, rfl⟩
  obtain ⟨M, hM⟩ : ∃ x, Bare.marks.contains c = x := ⟨_, rfl⟩
  rw [hL] at HL ⊢
  rw [hD] at HD ⊢
  rw [hM] at Ho ⊢
  obtain ⟨n, hn⟩ : ∃ x, c.toNat = x := ⟨_, rfl⟩
  rw [hn] at HL HD HK ⊢
  clear ho hL hD hM hn hback
  have hcase : (L = true) ∨ (L = false ∧ D = true) ∨ (L = false ∧ D = false) := by cases L <;> cases D <;> simp
  rcases hcase with rfl | ⟨rfl, rfl⟩ | ⟨rfl, rfl⟩
  all_goals
    go_enter Tryd.func41, Tryd.ntmps41
    go_wp2_with (first | (go_at_call 20; refine (HL.out _).mono ?_; rintro e w' ⟨rfl, rfl⟩) | (go_at_call 18; refine (HD.out _).mono ?_; rintro e w' ⟨rfl, rfl⟩) | (go_at_call 29; refine (HK.out _).mono ?_; rintro e w' ⟨rfl, rfl⟩))
    go_ret
    first | exact ⟨rfl, rfl⟩ | exact ⟨by simp [Ho], rfl⟩
theorem token_read (s : ByteArray) (w : World) (hs : s.size ≤ 1000000) :
    Calls Tryd.prog 21 #[.string s] w (ReadP (some (⟨4, 0, (bl s).takeWhile Bare.inTok, false⟩, (bl s).drop ((bl s).takeWhile Bare.inTok).length)) w) := by
  have HR := Lib.hid (fun W => run_any 41 #[] _ tok1_p (enters_of Tryd.func41 (by kernel_rfl) rfl) s W (by omega))
  have hle := Bare.takeWhile_len Bare.inTok (bl s)
  have htk := Bare.takeWhile_take Bare.inTok (bl s)
  unfold ReadP bv bcs
  simp only
  rw [← htk]
  rw [htk]
  obtain ⟨n, hn⟩ : ∃ n, ((bl s).takeWhile Bare.inTok).length = n := ⟨_, rfl⟩
  rw [hn] at HR hle htk ⊢
  rw [bl_len] at hle
  rw [← htk]
  have h1 := run_sl_h s n hle
  have h2 := run_sl_l s n hle
  obtain ⟨x, hx⟩ : ∃ x, tx ((bl s).take n) = x := ⟨_, rfl⟩
  obtain ⟨y, hy⟩ : ∃ x, tx ((bl s).drop n) = x := ⟨_, rfl⟩
  rw [hx] at h1 ⊢
  rw [hy] at h2 ⊢
  clear hx hy hn htk
  obtain ⟨hN, hr⟩ := no_row w
  go_enter Tryd.func21, Tryd.ntmps21
  go_upto_region 2 with (go_at_call 39; refine (HR.out _).mono ?_; rintro e w' ⟨rfl, rfl⟩)
  obtain ⟨W, hW⟩ : ∃ W, w.alloc (.cells #[.int .u8 0, .int .i64 0, .string ⟨#[]⟩, .bool false] 23) = W := ⟨_, rfl⟩
  rw [hW] at hN hr ⊢
  obtain ⟨B, hB⟩ : ∃ B, w.heap.size = B := ⟨_, rfl⟩
  have hBw : w.heap.size ≤ B := by omega
  rw [hB] at hr ⊢
  clear hW hB
  obtain ⟨⟨c0, c1, c2, c3⟩, f0, f1, f2, f3⟩ := row_facts hr
  go_region
  obtain ⟨hN2, hr2⟩ := set4 hN hBw hr (.int .u8 4) (.int .i64 0) (.string x) (.bool false)
  have hN2 := hN2.drew
  have hr2 : ((((W.setCell ⟨B, 0, none⟩ (.int .u8 4)).setCell ⟨B, 1, none⟩ (.int .i64 0)).setCell ⟨B, 2, none⟩ (.string x)).setCell ⟨B, 3, none⟩ (.bool false)).drew.heap[B]? = some (.cells #[(.int .u8 4), (.int .i64 0), (.string x), (.bool false)] 23 (0, 0)) := hr2
  obtain ⟨W2, hW2⟩ : ∃ W2, ((((W.setCell ⟨B, 0, none⟩ (.int .u8 4)).setCell ⟨B, 1, none⟩ (.int .i64 0)).setCell ⟨B, 2, none⟩ (.string x)).setCell ⟨B, 3, none⟩ (.bool false)).drew = W2 := ⟨_, rfl⟩
  rw [hW2] at hN2 hr2 ⊢
  go_wp2_with fail
  exact read_end (by kernel_rfl) rfl rfl rfl hr2 ⟨rfl, hN2⟩
/-- What reading an answer tells. -/
def ansR (l : Bare.Bs) : Option (Bare.It × Bare.Bs) := match l with
  | _ :: d :: r => if d = 48 ∨ d = 49 then some (⟨6, 0, [], d == 49⟩, r) else none
  | _ => none
theorem half_facts : ∀ k : Fin 256, (decide (((k.1 : Nat) : Int) / 2 = 24) = (decide (UInt8.ofNat k.1 = 48) || decide (UInt8.ofNat k.1 = 49))) ∧ ((decide (UInt8.ofNat k.1 = 48) || decide (UInt8.ofNat k.1 = 49)) = true → decide (bits BinOp.and IntKind.u8 ((k.1 : Nat) : Int) 1 = 1) = (UInt8.ofNat k.1 == 49)) := by decide +kernel
theorem half_fact (c : UInt8) : (decide ((c.toNat : Int) / 2 = 24) = (decide (c = 48) || decide (c = 49))) ∧ ((decide (c = 48) || decide (c = 49)) = true → decide (bits BinOp.and IntKind.u8 (c.toNat : Int) 1 = 1) = (c == 49)) := by
  have h := half_facts ⟨c.toNat, UInt8.toNat_lt c⟩
  simp only [UInt8.ofNat_toNat] at h
  exact h
set_option maxHeartbeats 1000000 in
theorem answer_read (s : ByteArray) (w : World) (hs : s.size ≤ 1000000) :
    Calls Tryd.prog 24 #[.string s] w (ReadP (ansR (bl s)) w) := by
  unfold ReadP
  obtain ⟨hN, hr⟩ := no_row w
  have hl := bl_len s
  by_cases h2 : s.size < 2
  · have hlt : decide ((s.size : Int) < 2) = true := decide_eq_true (by omega)
    have e : ansR (bl s) = none := by
      unfold ansR
      match hb : bl s with
      | [] => rfl
      | [_] => rfl
      | _ :: _ :: _ => rw [hb] at hl; simp at hl; omega
    rw [e]
    unfold bv bcs noIt
    simp only
    go_enter Tryd.func24, Tryd.ntmps24
    go_upto_region 2 with fail
    obtain ⟨W, hW⟩ : ∃ W, w.alloc (.cells #[.int .u8 0, .int .i64 0, .string ⟨#[]⟩, .bool false] 23) = W := ⟨_, rfl⟩
    rw [hW] at hN hr ⊢
    obtain ⟨B, hB⟩ : ∃ B, w.heap.size = B := ⟨_, rfl⟩
    have hBw : w.heap.size ≤ B := by omega
    rw [hB] at hr ⊢
    clear hW hB
    obtain ⟨⟨c0, c1, c2, c3⟩, f0, f1, f2, f3⟩ := row_facts hr
    go_wp2_with fail
    obtain ⟨hN2, hr2⟩ := set4 hN hBw hr (.int .u8 0) (.int .i64 0) (.string ⟨#[]⟩) (.bool false)
    obtain ⟨W2, hW2⟩ : ∃ W2, ((((W.setCell ⟨B, 0, none⟩ (.int .u8 0)).setCell ⟨B, 1, none⟩ (.int .i64 0)).setCell ⟨B, 2, none⟩ (.string ⟨#[]⟩)).setCell ⟨B, 3, none⟩ (.bool false)) = W2 := ⟨_, rfl⟩
    rw [hW2] at hN2 hr2 ⊢
    exact read_end (by kernel_rfl) rfl rfl rfl hr2 ⟨rfl, hN2⟩
  · have hlt : decide ((s.size : Int) < 2) = false := decide_eq_false (by omega)
    have hix : ∀ W, (Instr.index 9 (.string s) (.int .i64 1)).run Tryd.prog W = .ok (.int .u8 ((gb s 1).toNat : Nat)) W := run_idx s 1 (by omega)
    obtain ⟨c, r, hcr⟩ : ∃ c r, bl s = c :: gb s 1 :: r := by
      match hb : bl s with
      | [] => rw [hb] at hl; simp at hl; omega
      | [_] => rw [hb] at hl; simp at hl; omega
      | c :: d :: r =>
        refine ⟨c, r, ?_⟩
        have := gb_get s 1 (by omega)
        rw [hb] at this
        simp at this
        rw [this]
    have h2 : ∀ W, (Instr.slice 9 (.string s) (some (.int .i64 2)) none none).run Tryd.prog W = .ok (.string (tx ((bl s).drop 2))) W := run_sl_l s 2 (by omega)
    have hf := half_fact (gb s 1)
    have hd : (bl s).drop 2 = r := by rw [hcr]; rfl
    have e : ansR (bl s) = if gb s 1 = 48 ∨ gb s 1 = 49 then some (⟨6, 0, [], gb s 1 == 49⟩, r) else none := by rw [hcr]; rfl
    rw [e]
    rw [hd] at h2
    obtain ⟨hf1, hf2⟩ := hf
    by_cases hok : gb s 1 = 48 ∨ gb s 1 = 49
    · rw [if_pos hok]
      have hb : (decide (gb s 1 = 48) || decide (gb s 1 = 49)) = true := by simpa using hok
      have hf2 := hf2 hb
      rw [hb] at hf1
      unfold bv bcs
      simp only
      obtain ⟨y, hy⟩ : ∃ y, (gb s 1 == 49) = y := ⟨_, rfl⟩
      rw [hy] at hf2 ⊢
      obtain ⟨n, hn⟩ : ∃ n, (gb s 1).toNat = n := ⟨_, rfl⟩
      rw [hn] at hix hf1 hf2
      have hf3 : ((n : Int) / 2 != 24) = false := by
        have : ((n : Int) / 2 == 24) = true := hf1
        simp [bne, this]
      obtain ⟨q, hq⟩ : ∃ q, bits BinOp.and IntKind.u8 (n : Int) 1 = q := ⟨_, rfl⟩
      rw [hq] at hf2
      have hf4 : (q == 1) = y := hf2
      obtain ⟨x, hx⟩ : ∃ x, tx r = x := ⟨_, rfl⟩
      rw [hx] at h2 ⊢
      clear hn hb hy hx hcr hd e hok hl
      go_enter Tryd.func24, Tryd.ntmps24
      go_upto_region 3 with fail
      obtain ⟨W, hW⟩ : ∃ W, w.alloc (.cells #[.int .u8 0, .int .i64 0, .string ⟨#[]⟩, .bool false] 23) = W := ⟨_, rfl⟩
      rw [hW] at hN hr ⊢
      obtain ⟨B, hB⟩ : ∃ B, w.heap.size = B := ⟨_, rfl⟩
      have hBw : w.heap.size ≤ B := by omega
      rw [hB] at hr ⊢
      clear hW hB
      obtain ⟨⟨c0, c1, c2, c3⟩, f0, f1, f2, f3⟩ := row_facts hr
      go_region
      obtain ⟨hN2, hr2⟩ := set4 hN hBw hr (.int .u8 6) (.int .i64 0) (.string (tx [])) (.bool y)
      have hN2 := hN2.drew
      have hr2 : ((((W.setCell ⟨B, 0, none⟩ (.int .u8 6)).setCell ⟨B, 1, none⟩ (.int .i64 0)).setCell ⟨B, 2, none⟩ (.string (tx []))).setCell ⟨B, 3, none⟩ (.bool y)).drew.heap[B]? = some (.cells #[(.int .u8 6), (.int .i64 0), (.string (tx [])), (.bool y)] 23 (0, 0)) := hr2
      obtain ⟨W2, hW2⟩ : ∃ W2, ((((W.setCell ⟨B, 0, none⟩ (.int .u8 6)).setCell ⟨B, 1, none⟩ (.int .i64 0)).setCell ⟨B, 2, none⟩ (.string (tx []))).setCell ⟨B, 3, none⟩ (.bool y)).drew = W2 := ⟨_, rfl⟩
      rw [hW2] at hN2 hr2 ⊢
      go_wp2_with fail
      exact read_end (by kernel_rfl) rfl rfl rfl hr2 ⟨rfl, hN2⟩
    · rw [if_neg hok]
      have hb : (decide (gb s 1 = 48) || decide (gb s 1 = 49)) = false := by
        rw [Bool.eq_false_iff]; simpa using hok
      rw [hb] at hf1
      unfold bv bcs noIt
      simp only
      obtain ⟨n, hn⟩ : ∃ n, (gb s 1).toNat = n := ⟨_, rfl⟩
      rw [hn] at hix hf1
      have hf3 : ((n : Int) / 2 != 24) = true := by
        have : ((n : Int) / 2 == 24) = false := hf1
        simp [bne, this]
      clear hn hb hcr hd e hok hl hf2
      go_enter Tryd.func24, Tryd.ntmps24
      go_upto_region 2 with fail
      obtain ⟨W, hW⟩ : ∃ W, w.alloc (.cells #[.int .u8 0, .int .i64 0, .string ⟨#[]⟩, .bool false] 23) = W := ⟨_, rfl⟩
      rw [hW] at hN hr ⊢
      obtain ⟨B, hB⟩ : ∃ B, w.heap.size = B := ⟨_, rfl⟩
      have hBw : w.heap.size ≤ B := by omega
      rw [hB] at hr ⊢
      clear hW hB
      obtain ⟨⟨c0, c1, c2, c3⟩, f0, f1, f2, f3⟩ := row_facts hr
      go_wp2_with fail
      obtain ⟨hN2, hr2⟩ := set4 hN hBw hr (.int .u8 0) (.int .i64 0) (.string ⟨#[]⟩) (.bool false)
      obtain ⟨W2, hW2⟩ : ∃ W2, ((((W.setCell ⟨B, 0, none⟩ (.int .u8 0)).setCell ⟨B, 1, none⟩ (.int .i64 0)).setCell ⟨B, 2, none⟩ (.string ⟨#[]⟩)).setCell ⟨B, 3, none⟩ (.bool false)) = W2 := ⟨_, rfl⟩
      rw [hW2] at hN2 hr2 ⊢
      exact read_end (by kernel_rfl) rfl rfl rfl hr2 ⟨rfl, hN2⟩
end Go.Proofs.YtihmnkbkigkjjaaDoor
