/- The document's answer of answers. -/
import Derived.Test.YtkjghojdfjhhkaaDoorM10
set_option linter.unusedSimpArgs false
set_option linter.unusedVariables false
namespace Go.Proofs.YtkjghojdfjhhkaaDoor
open Go.RowKit Go.Shelf Go.Cs
attribute [local go_sem] Oper.semAt_some
theorem digs_all : ∀ k : Fin 400, strOfNums [48 + ((k.1 + 200 : Nat) : Int) / 100, 48 + ((k.1 + 200 : Nat) : Int) / 10 % 10, 48 + ((k.1 + 200 : Nat) : Int) % 10] = digs ((k.1 + 200 : Nat) : Int) := by decide +kernel
theorem digs_ref (n : Int) (h0 : ¬ n < 200) (h1 : n ≤ 599) : strOfNums [48 + n / 100, 48 + n / 10 % 10, 48 + n % 10] = digs n := by
  obtain ⟨k, rfl⟩ : ∃ k : Nat, n = ((k + 200 : Nat) : Int) := ⟨(n - 200).toNat, by omega⟩
  exact digs_all ⟨k, by omega⟩
set_option maxHeartbeats 2000000 in
set_option maxRecDepth 100000 in
theorem answer_ref (n : Int) (h0 : -9223372036854775808 ≤ n) (h1 : n ≤ 9223372036854775807) (v : Value) (L : List Fd) (w : World) (hR : ReadsL w v L) (hS : SmallL L) (hc : CapOk v) (hL : L.length ≤ 1000000) :
    Calls Tryd.prog 34 #[.int .i64 n, v] w (AnsRet w (answerL n L)) := by
  have HTr := Lib.hid (trailers_ref v L w hR hS)
  unfold AnsRet
  by_cases hlo : n < 200
  · have hA : answerL n L = none := by rw [answerL, if_pos (.inl hlo)]
    rw [hA]
    obtain ⟨ao, cap, rfl⟩ := hR.slice
    go_enter Tryd.func34, Tryd.ntmps34
    go_wp2_with fail
    go_ret2
    exact ⟨_, rfl, ⟨ReadsL.nil _ _ _, fun g hg => by cases hg⟩, (fun ao n cap h => by cases h; exact ⟨Nat.le_refl _, fun _ => rfl⟩), Mods.refl _ _⟩
  by_cases hhi : 599 < n
  · have hA : answerL n L = none := by rw [answerL, if_pos (.inr (.inl (by omega)))]
    rw [hA]
    obtain ⟨ao, cap, rfl⟩ := hR.slice
    go_enter Tryd.func34, Tryd.ntmps34
    go_wp2_with fail
    go_ret2
    exact ⟨_, rfl, ⟨ReadsL.nil _ _ _, fun g hg => by cases hg⟩, (fun ao n cap h => by cases h; exact ⟨Nat.le_refl _, fun _ => rfl⟩), Mods.refl _ _⟩
  have d1 : decide (n < 200) = false := decide_eq_false hlo
  have d2 : decide (599 < n) = false := decide_eq_false hhi
  cases htb : trailersB L with
  | false =>
    have hA : answerL n L = none := by rw [answerL, if_pos (.inr (.inr htb))]
    rw [hA]
    rw [htb] at HTr
    obtain ⟨ao, cap, rfl⟩ := hR.slice
    clear htb
    go_enter Tryd.func34, Tryd.ntmps34
    go_wp2_with (go_at_call 49; refine HTr.out.mono ?_; rintro e w1 ⟨rfl, hN⟩)
    go_ret2
    exact ⟨_, rfl, ⟨ReadsL.nil _ _ _, fun g hg => by cases hg⟩, (fun ao n cap h => by cases h; exact ⟨Nat.le_refl _, fun _ => rfl⟩), hN⟩
  | true =>
    have hA : answerL n L = some (⟨nStatus, digs n⟩ :: L) := by
      rw [answerL, if_neg]
      rintro (h | h | h)
      · exact hlo h
      · omega
      · rw [htb] at h; cases h
    rw [hA]
    rw [htb] at HTr
    obtain ⟨ao, cap, rfl⟩ := hR.slice
    obtain ⟨hcap, hnil⟩ := hc _ _ _ rfl
    have HR := Lib.hid hR
    clear hA hR hc htb h0 h1
    go_enter Tryd.func34, Tryd.ntmps34
    have hdg := digs_ref n hlo (by omega)
    go_wp2_with fail
    refine HTr.out.mono ?_
    rintro e w1 ⟨rfl, hN1⟩
    have hcv := run_convert_bytes_arg (P := Tryd.prog) (w1.alloc (.cells #[.int .u8 (48 + n / 100), .int .u8 (48 + n / 10 % 10), .int .u8 (48 + n % 10)] 5)) 22 5 Tryd.underlying22 Tryd.underlying5 w1.heap.size 0 3 3 [48 + n / 100, 48 + n / 10 % 10, 48 + n % 10] rfl (by
      intro i hi
      rw [Nat.zero_add]
      have e := World.alloc_heap_new w1 (.cells #[.int .u8 (48 + n / 100), .int .u8 (48 + n / 10 % 10), .int .u8 (48 + n % 10)] 5)
      match i, hi with
      | 0, _ => exact cell_of_row _ _ _ _ _ _ e
      | 1, _ => exact cell_of_row _ _ _ _ _ _ e
      | 2, _ => exact cell_of_row _ _ _ _ _ _ e) 9 Tryd.underlying9
    rw [hdg] at hcv
    obtain ⟨w2, hw2⟩ : ∃ W, w1.alloc (.cells #[.int .u8 (48 + n / 100), .int .u8 (48 + n / 10 % 10), .int .u8 (48 + n % 10)] 5) = W := ⟨_, rfl⟩
    have hN2 : New w1 w2 := by rw [← hw2]; exact (Mods.refl _ _).alloc _
    have hw2' := Lib.hid hw2
    rw [hw2] at hcv
    have hNw := hN1.trans hN2
    obtain ⟨i0, hi, hz0, hz1, hz2⟩ := info_parts info54'
    have hown : (w2.alloc (.cells #[.string nStatus, .string (digs n)] 54)).ownsRow w2.heap.size 54 2 (.slice (some ⟨w2.heap.size, 0, none⟩) 1 1) 1 [.string nStatus, .string (digs n)] :=
      ⟨rfl, .inr ⟨w2.heap.size, 1, _, rfl, Nat.le_refl _, World.alloc_heap_new w2 _, Nat.le_refl _, by unfold maxLen; omega, rfl, rfl⟩⟩
    unfold nStatus at hown
    have hN3 : New w (w2.alloc (.cells #[.string ⟨#[58, 115, 116, 97, 116, 117, 115]⟩, .string (digs n)] 54)) := hNw.alloc _
    have hcells := (show ReadsF w (.slice ao L.length cap) L.length 2 (fun i => (L.getD i .no).cs) from HR.out).cells (sz := 2) (by decide) (fun i => rfl)
    have hlen := flatF_len (sz := 2) (f := fun i => (L.getD i .no).cs) (fun i => rfl) L.length
    have hone := flat_one L L.length
    have hcons := flatF_cons ⟨nStatus, digs n⟩ L
    obtain ⟨F, hF⟩ : ∃ F, flatF L.length (fun i => (L.getD i .no).cs) = F := ⟨_, rfl⟩
    rw [hF] at hcells hlen hone hcons
    have HO : Hid (∀ (w' : World) v', w'.ownsRow w2.heap.size 54 2 v' (1 + L.length) ([.string ⟨#[58, 115, 116, 97, 116, 117, 115]⟩, .string (digs n)] ++ F) → New w w' → OwnL w.heap.size w' v' (⟨nStatus, digs n⟩ :: L) ∧ CapOk v') := Lib.hid fun w' v' hown hN => by
      have hown' : w'.ownsRow w2.heap.size 54 2 v' (⟨nStatus, digs n⟩ :: L).length (flatF (⟨nStatus, digs n⟩ :: L).length (fun i => ((⟨nStatus, digs n⟩ :: L).getD i .no).cs)) := by
        rw [hcons, List.length_cons, Nat.add_comm]; exact hown
      refine ⟨⟨ReadsF.ofOwns (by decide) (fun i => rfl) (by rw [List.length_cons]; omega) hown', fun g hg => Nat.le_trans hNw.size (World.ownsRow.lt hown' g hg).1⟩, ?_⟩
      rintro ao n cap rfl
      rcases hown'.2 with ⟨h, _⟩ | ⟨g, c, cur, h, _, _, hnc, _⟩
      · cases h
        exact ⟨Nat.le_refl _, fun _ => rfl⟩
      · cases h
        exact ⟨hnc, fun h => by cases h⟩
    clear hF hcons HTr hdg
    cases ao with
    | none =>
      obtain rfl : cap = 0 := hnil rfl
      have hl0 : L.length = 0 := hcells.1 rfl
      rw [hl0] at HO hlen
      rw [hl0]
      obtain rfl : F = [] := List.length_eq_zero_iff.1 (by omega)
      go_wp2_with (at_builtin; refine wpList_append_own_none rfl _ _ 25 rfl w2.heap.size 54 i0 2 Tryd.underlying25 hi _ _ _ rfl hown rfl ?_)
      go_ret2
      obtain ⟨h1, h2⟩ := HO.out _ _ hown hN3
      exact ⟨_, rfl, h1, h2, hN3⟩
    | some a =>
      have hnews := hcells.2 a rfl
      have hnews' : ∀ j u, F[j]? = some u → (w2.alloc (.cells #[.string ⟨#[58, 115, 116, 97, 116, 117, 115]⟩, .string (digs n)] 54)).cell? (a.add j) = some u := fun j u hj => hN3.cell (hnews j u hj) id
      go_wp2_with (at_builtin; refine wpList_append_own _ rfl _ _ 25 rfl w2.heap.size 54 i0 _ 2 32 Tryd.underlying25 hi hz0 hz1 hz2 rfl (by decide) _ _ _ rfl hown a L.length cap F rfl hlen hnews' hone ?c3 ?c4 ?c5 ?_)
      case c3 => unfold maxLen; omega
      case c4 => omega
      case c5 => simp
      intro v' w4 hown' hgrow _
      have hN4 : New w w4 := hN3.grown hgrow (by intro g hg; have := hown.lt g hg; have := hNw.size; omega)
      have hh := Lib.hid (HO.out _ _ hown' hN4)
      clear hown'
      go_wp2_with fail
      go_ret2
      exact ⟨_, rfl, hh.out.1, hh.out.2, hN4⟩
end Go.Proofs.YtkjghojdfjhhkaaDoor
/- The document's answer of urgencies' texts. -/
namespace Go.Proofs.YtkjghojdfjhhkaaDoor
open Go.RowKit Go.Shelf Go.Cs
attribute [local go_sem] Oper.semAt_some
theorem fsz_le : ∀ (L : List Fd) (k : Nat), k < L.length → fsz (L.getD k .no) ≤ sumZ L
  | [], k, h => by simp at h
  | p :: L, 0, _ => by unfold sumZ; simp
  | p :: L, k + 1, h => by
    have := fsz_le L k (by simpa using h)
    unfold sumZ at this ⊢
    simp only [List.map_cons, List.sum_cons, List.getD_cons_succ]
    omega
theorem join_snoc (sep y : List UInt8) : ∀ xs : List (List UInt8), Lib.join (xs ++ [y]) sep = if xs.isEmpty then y else Lib.join xs sep ++ sep ++ y
  | [] => by rw [List.nil_append, Lib.join_one]; rfl
  | x :: r => by
    rw [List.cons_append, Lib.join_cons, Lib.join_cons]
    simp [Lib.joinTail]
theorem sum_take (f : Fd → Nat) : ∀ (L : List Fd) (k : Nat), ((L.take k).map f).sum ≤ (L.map f).sum
  | [], k => by simp
  | p :: L, 0 => by simp
  | p :: L, k + 1 => by
    have := sum_take f L k
    simp only [List.take_succ_cons, List.map_cons, List.sum_cons]
    omega
theorem urg_take {L : List Fd} {n : Nat} (hn : L.length = n) (hl : n ≤ 140) (hz : sumZ L ≤ 5000) (k : Nat) : (⟨(urgL (L.take k)).toArray⟩ : ByteArray).size ≤ 10000 := by
  have := urg_le (L := L.take k) (n := (L.take k).length) rfl (by rw [List.length_take]; omega) (Nat.le_trans (sum_take fsz L k) hz)
  show (urgL (L.take k)).toArray.size ≤ 10000
  simpa using this
theorem urg_next {L : List Fd} {k : Nat} {pv S : ByteArray} {B : Bool} (hv : valsOf (L.take (k + 1)) = valsOf (L.take k) ++ [pv]) (hS : S = ⟨(urgL (L.take k)).toArray⟩) (hB : B = !(valsOf (L.take k)).isEmpty) :
    (if B then S ++ ⟨#[44, 32]⟩ ++ pv else S ++ pv) = ⟨(urgL (L.take (k + 1))).toArray⟩ := by
  unfold urgL at hS ⊢
  rw [hv, List.map_append, List.map_cons, List.map_nil, join_snoc, List.isEmpty_map]
  subst hB
  cases hx : valsOf (L.take k) with
  | nil =>
    rw [hx] at hS
    subst hS
    apply ByteArray.ext
    simp [Lib.join_nil]
  | cons a r =>
    rw [hx] at hS
    subst hS
    apply ByteArray.ext
    simp
set_option maxHeartbeats 2000000 in
set_option maxRecDepth 100000 in
theorem urgency_ref (v : Value) (L : List Fd) (w : World) (hR : ReadsL w v L) (hl : L.length ≤ 140) (hz : sumZ L ≤ 5000) :
    Calls Tryd.prog 40 #[v] w fun e w' => e = .returned (.tuple #[.string ⟨(urgL L).toArray⟩, .bool (!(valsOf L).isEmpty)]) ∧ New w w' := by
  obtain ⟨ao, cap, rfl⟩ := hR.slice
  have HR := Lib.hid hR
  obtain ⟨n, hn⟩ : ∃ n, L.length = n := ⟨_, rfl⟩
  have Hn := Lib.hid hn
  rw [hn] at HR hl ⊢
  clear hn hR
  have HZ := Lib.hid hz
  clear hz
  go_enter Tryd.func40, Tryd.ntmps40
  go_wp2_with fail
  go_loopw [4, 5, 6] (fun s b c wr => ∃ (k : Nat) (S : ByteArray) (B : Bool), k ≤ n ∧ s = .string S ∧ b = .bool B ∧ c = .int .i64 k ∧ Hid (S = ⟨(urgL (L.take k)).toArray⟩) ∧ Hid (B = !(valsOf (L.take k)).isEmpty) ∧ New w wr) (fun _ _ c _ => n - (intOf c).toNat)
  case atStart => exact ⟨0, _, _, Nat.zero_le _, rfl, rfl, rfl, Lib.hid (by rw [List.take_zero]; rfl), Lib.hid (by rw [List.take_zero]; rfl), Mods.refl _ _⟩
  case round =>
    obtain ⟨k, S, B, hk, rfl, rfl, rfl, HS, HB, hN⟩ := hrel
    by_cases hkn : k < n
    · have hkd : decide ((k : Int) < (n : Int)) = true := decide_eq_true (by omega)
      obtain ⟨b, o, rfl, hc1, hc2⟩ := (HR.out.new hN).at hkn
      have hvt := vals_take L k (by rw [Hn.out]; exact hkn)
      obtain ⟨p, hp⟩ : ∃ p, L.getD k .no = p := ⟨_, rfl⟩
      have hpz := Nat.le_trans (fsz_le L k (by rw [Hn.out]; exact hkn)) HZ.out
      rw [hp] at hc1 hc2 hvt hpz
      clear hp
      obtain ⟨pn, pv⟩ := p
      simp only at hc1 hc2 hvt
      have hpz : pv.size ≤ 5000 := by unfold fsz at hpz; simp only at hpz; omega
      by_cases hpr : pn = nPriority
      · rw [if_pos hpr] at hvt
        have Hvt := Lib.hid hvt
        have e1 := is_const hpr
        have hsz : S.size ≤ 10000 := by rw [HS.out]; exact urg_take Hn.out hl HZ.out k
        clear hpr hvt
        cases B with
        | true =>
          have hun := urg_next Hvt.out HS.out HB.out
          have hbn := Lib.hid (show true = !(valsOf (L.take (k + 1))).isEmpty by rw [Hvt.out]; simp)
          simp at hun
          have Hun := Lib.hid hun
          clear hun
          go_wp2_with fail
          go_roundw
          case rel => exact ⟨k + 1, _, true, by omega, rfl, rfl, by go_num, Hun, hbn, hN⟩
          case measure => simp [intOf]; omega
        | false =>
          have hun := urg_next Hvt.out HS.out HB.out
          have hbn := Lib.hid (show true = !(valsOf (L.take (k + 1))).isEmpty by rw [Hvt.out]; simp)
          simp at hun
          have Hun := Lib.hid hun
          clear hun
          go_wp2_with fail
          go_roundw
          case rel => exact ⟨k + 1, _, true, by omega, rfl, rfl, by go_num, Hun, hbn, hN⟩
          case measure => simp [intOf]; omega
      · rw [if_neg hpr, List.append_nil] at hvt
        have Hvt := Lib.hid hvt
        have e1 := ne_const hpr
        clear hpr hvt
        go_wp2_with fail
        go_roundw
        case rel => exact ⟨k + 1, S, B, by omega, rfl, rfl, by go_num, Lib.hid (by rw [HS.out]; unfold urgL; rw [Hvt.out]), Lib.hid (by rw [HB.out, Hvt.out]), hN⟩
        case measure => simp [intOf]; omega
    · obtain rfl : k = n := by omega
      have hkd : decide ((k : Int) < (k : Int)) = false := decide_eq_false (by omega)
      have ht : L.take k = L := List.take_of_length_le (by rw [Hn.out]; exact Nat.le_refl _)
      rw [ht] at HS HB
      go_wp2_with fail
      go_ret2
      exact ⟨by rw [HS.out, HB.out]; rfl, hN⟩
end Go.Proofs.YtkjghojdfjhhkaaDoor
/- What the wakes of request see. -/
namespace Go.Proofs.YtkjghojdfjhhkaaDoor
open Go.RowKit Go.Shelf Go.Cs
attribute [local go_sem] Oper.semAt_some
theorem own_reads {W : World} {base : Nat} {v : Value} {L : List Fd} (hown : W.ownsRow base 54 2 v L.length (flatF L.length fun i => (L.getD i .no).cs)) (hl : L.length ≤ 2000000) : OwnL base W v L ∧ CapOk v := by
  refine ⟨⟨ReadsF.ofOwns (by decide) (fun i => rfl) hl hown, fun g hg => (World.ownsRow.lt hown g hg).1⟩, ?_⟩
  rintro ao n cap rfl
  rcases hown.2 with ⟨h, _⟩ | ⟨g, c, cur, h, _, _, hnc, _⟩
  · cases h
    exact ⟨Nat.le_refl _, fun _ => rfl⟩
  · cases h
    exact ⟨hnc, fun h => by cases h⟩
theorem small_of_all {L : List Fd} (h : (L.all fun p => decide (p.name.size ≤ 100) && decide (p.val.size ≤ 100)) = true) : SmallL L := fun p hp => by
  have := List.all_eq_true.1 h p hp
  simp at this
  exact ⟨by omega, by omega⟩
def fd (a b : Array UInt8) : Fd := ⟨⟨a⟩, ⟨b⟩⟩
def threeL : List Fd := [fd #[58, 109, 101, 116, 104, 111, 100] #[71, 69, 84], fd #[58, 115, 99, 104, 101, 109, 101] #[104, 116, 116, 112], fd #[58, 112, 97, 116, 104] #[47]]
def three6 : List Value := [.string ⟨#[58, 109, 101, 116, 104, 111, 100]⟩, .string ⟨#[71, 69, 84]⟩, .string ⟨#[58, 115, 99, 104, 101, 109, 101]⟩, .string ⟨#[104, 116, 116, 112]⟩, .string ⟨#[58, 112, 97, 116, 104]⟩, .string ⟨#[47]⟩]
set_option maxHeartbeats 2000000 in
set_option maxRecDepth 100000 in
theorem three_any (w : World) : Calls Tryd.prog 67 #[] w fun e w' => e = .returned (.slice (some ⟨w.heap.size, 0, none⟩) 3 3) ∧ w.alloc (.cells three6.toArray 54) = w' := by
  go_enter Tryd.func67, Tryd.ntmps67
  go_wp2_with fail
  go_ret
  exact ⟨rfl, rfl⟩
def wR : List Fd := [fd #[112, 114, 105, 111, 114, 105, 116, 121] #[117, 61, 49], fd #[97] #[], fd #[112, 114, 105, 111, 114, 105, 116, 121] #[105]]
def wL1 : List Fd := threeL ++ wR
def wL2 : List Fd := threeL ++ [fd #[65, 99, 99, 101, 112, 116] #[97]]
def wL3 : List Fd := threeL ++ [fd #[58, 109, 101, 116, 104, 111, 100] #[71, 69, 84]]
def wL4 : List Fd := [fd #[115, 101, 114, 118, 101, 114] #[]]
theorem of1 : ofR wL1 = some ⟨⟨#[71, 69, 84]⟩, ⟨#[104, 116, 116, 112]⟩, ⟨#[47]⟩, ⟨#[]⟩, wR⟩ := by rfl
theorem of2 : ofR wL2 = none := by rfl
theorem of3 : ofR wL3 = none := by rfl
theorem of0 : ofR [] = none := by rfl
theorem ans4 : answerL 204 wL4 = some ([fd #[58, 115, 116, 97, 116, 117, 115] #[50, 48, 52], fd #[115, 101, 114, 118, 101, 114] #[]]) := by decide +kernel
theorem ans0 : answerL 199 [] = none := by rfl
theorem urg1 : (⟨(urgL wR).toArray⟩ : ByteArray) = ⟨#[117, 61, 49, 44, 32, 105]⟩ := by rfl
theorem urg1b : (!(valsOf wR).isEmpty) = true := by rfl
theorem urg0 : (⟨(urgL []).toArray⟩ : ByteArray) = ⟨#[]⟩ := by rfl
theorem urg0b : (!(valsOf []).isEmpty) = false := by rfl
def A4 : List Fd := [fd #[58, 115, 116, 97, 116, 117, 115] #[50, 48, 52], fd #[115, 101, 114, 118, 101, 114] #[]]
theorem c_plainT (w : World) : Calls Tryd.prog 46 #[.agg #[.string ⟨#[116, 101]⟩, .string ⟨#[116, 114, 97, 105, 108, 101, 114, 115]⟩]] w fun e w' => e = .returned (.bool true) ∧ New w w' := plain_any ⟨⟨#[116, 101]⟩, ⟨#[116, 114, 97, 105, 108, 101, 114, 115]⟩⟩ w (by show (2 : Nat) ≤ _; omega) (by show (8 : Nat) < _; omega)
theorem c_plainF (w : World) : Calls Tryd.prog 46 #[.agg #[.string ⟨#[116, 101]⟩, .string ⟨#[103, 122, 105, 112]⟩]] w fun e w' => e = .returned (.bool false) ∧ New w w' := plain_any ⟨⟨#[116, 101]⟩, ⟨#[103, 122, 105, 112]⟩⟩ w (by show (2 : Nat) ≤ _; omega) (by show (4 : Nat) < _; omega)
theorem c_nameT (w : World) : Calls Tryd.prog 42 #[.string ⟨#[120, 45, 49]⟩] w fun e w' => e = .returned (.bool true) ∧ New w w' := name_any ⟨#[120, 45, 49]⟩ w (by show (3 : Nat) ≤ _; omega)
theorem c_nameF (w : World) : Calls Tryd.prog 42 #[.string ⟨#[]⟩] w fun e w' => e = .returned (.bool false) ∧ New w w' := name_any ⟨#[]⟩ w (by show (0 : Nat) ≤ _; omega)
theorem c_valueT (w : World) : Calls Tryd.prog 44 #[.string ⟨#[97, 32, 98]⟩] w fun e w' => e = .returned (.bool true) ∧ New w w' := value_any ⟨#[97, 32, 98]⟩ w (by show (3 : Nat) < _; omega)
theorem c_valueF (w : World) : Calls Tryd.prog 44 #[.string ⟨#[32, 97]⟩] w fun e w' => e = .returned (.bool false) ∧ New w w' := value_any ⟨#[32, 97]⟩ w (by show (2 : Nat) < _; omega)
theorem c_trailT (v : Value) (w : World) (h : ReadsL w v wR) : Calls Tryd.prog 48 #[v] w fun e w' => e = .returned (.bool true) ∧ New w w' := trailers_any v wR w h (small_of_all rfl)
theorem c_trailF (v : Value) (w : World) (h : ReadsL w v threeL) : Calls Tryd.prog 48 #[v] w fun e w' => e = .returned (.bool false) ∧ New w w' := trailers_any v threeL w h (small_of_all rfl)
theorem c_fields (v v' : Value) (w : World) (h : ReadsL w v A4) (h' : ReadsL w v' A4) : Calls Tryd.prog 18 #[v, v'] w fun e w' => e = .returned (.bool true) ∧ New w w' := (fields_any v v' A4 A4 w h h').mono fun e w' h => ⟨by rw [h.1, decide_eq_true rfl], h.2⟩
def rqW : Rq := ⟨⟨#[71, 69, 84]⟩, ⟨#[104, 116, 116, 112]⟩, ⟨#[47]⟩, ⟨#[]⟩, wR⟩
theorem c_sameT (fv : Value) (w : World) (h : ReadsL w fv wR) : Calls Tryd.prog 50 #[.agg #[.string ⟨#[71, 69, 84]⟩, .string ⟨#[104, 116, 116, 112]⟩, .string ⟨#[47]⟩, .string ⟨#[]⟩, fv], .agg #[.string ⟨#[71, 69, 84]⟩, .string ⟨#[104, 116, 116, 112]⟩, .string ⟨#[47]⟩, .string ⟨#[]⟩, fv]] w fun e w' => e = .returned (.bool true) ∧ New w w' :=
  (same_any _ _ rqW rqW w ⟨fv, rfl, h⟩ ⟨fv, rfl, h⟩).mono fun e w' h => ⟨by rw [h.1, show sameR rqW rqW = true by simp [sameR]], h.2⟩
theorem c_sameF (fv : Value) (w : World) (h : ReadsL w fv wR) : Calls Tryd.prog 50 #[.agg #[.string ⟨#[71, 69, 84]⟩, .string ⟨#[104, 116, 116, 112]⟩, .string ⟨#[47]⟩, .string ⟨#[]⟩, fv], .agg #[.string ⟨#[]⟩, .string ⟨#[]⟩, .string ⟨#[]⟩, .string ⟨#[]⟩, .slice none 0 0]] w fun e w' => e = .returned (.bool false) ∧ New w w' :=
  (same_any _ _ rqW .no w ⟨fv, rfl, h⟩ ⟨_, rfl, ReadsL.nil _ _ _⟩).mono fun e w' h => ⟨by rw [h.1, show sameR rqW .no = false by rfl], h.2⟩
/-- A request of three pseudo-fields and three more. -/
theorem of1_any (v : Value) (b : Nat) (W : World) (h : OwnL b W v wL1 ∧ CapOk v) : Calls Tryd.prog 36 #[v] W fun e w' => ∃ fv, e = .returned (.tuple #[.agg #[.string ⟨#[71, 69, 84]⟩, .string ⟨#[104, 116, 116, 112]⟩, .string ⟨#[47]⟩, .string ⟨#[]⟩, fv], .bool true]) ∧ OwnL W.heap.size w' fv wR ∧ New W w' := by
  refine (of_any v wL1 W h.1.1 (small_of_all rfl) (fun ao n cap e => (h.2 ao n cap e).1)).mono ?_
  rw [of1]
  exact fun e w' h => h
theorem no_any (v : Value) (b : Nat) (L : List Fd) (hL : ofR L = none) (hS : SmallL L) (W : World) (h : OwnL b W v L ∧ CapOk v) : Calls Tryd.prog 36 #[v] W fun e w' => ∃ na nc, e = .returned (.tuple #[.agg #[.string ⟨#[]⟩, .string ⟨#[]⟩, .string ⟨#[]⟩, .string ⟨#[]⟩, .slice na 0 nc], .bool false]) ∧ New W w' := by
  refine (of_any v L W h.1.1 hS (fun ao n cap e => (h.2 ao n cap e).1)).mono ?_
  rw [hL]
  rintro e w' ⟨fv, he, hO, hN⟩
  obtain ⟨na, nc, rfl⟩ := hO.1.slice
  exact ⟨na, nc, he, hN⟩
theorem own_three (w w1 : World) (h : w.alloc (.cells three6.toArray 54) = w1) : w1.ownsRow w.heap.size 54 2 (.slice (some ⟨w.heap.size, 0, none⟩) 3 3) 3 three6 := by
  rw [← h]
  exact ⟨rfl, .inr ⟨w.heap.size, 3, _, rfl, Nat.le_refl _, World.alloc_heap_new w _, Nat.le_refl _, by unfold maxLen; omega, rfl, rfl⟩⟩
end Go.Proofs.YtkjghojdfjhhkaaDoor
