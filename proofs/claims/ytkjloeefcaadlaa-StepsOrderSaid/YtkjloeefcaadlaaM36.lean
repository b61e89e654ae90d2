/- StepsAlone, walked. -/
import Derived.Test.YtkjloeefcaadlaaM35
import Derived.Test.YtkjloeefcaadlaaM30
import Derived.Test.YtkjloeefcaadlaaM31
import Derived.Test.YtkjloeefcaadlaaM32
set_option linter.unusedSimpArgs false
set_option linter.unusedVariables false
namespace Go.Proofs.Ytkjloeefcaadlaa
open Go.RowKit Go.Shelf Go.Cs
attribute [local go_sem] Oper.semAt_some
theorem wrap_small {z : Int} (h1 : -9223372036854775808 ≤ z) (h2 : z ≤ 9223372036854775807) : IntKind.i64.wrap z = z := by
  rw [IntKind.wrap_i64]
  omega
theorem info3n : (Try.prog.info? 3).map (fun i => (i.zero, i.size, i.bytes)) = some (some (.int .i64 0), 1, 8) := by kernel_rfl
set_option maxRecDepth 100000 in
/-- Noughts, made. -/
theorem made_noughts (W : World) (n : Nat) (hn : n ≤ 1000) : ∃ w', (Instr.makeSlice 44 (.int .i64 (n : Int)) (.int .i64 (n : Int))).run Try.prog W = .ok (.slice (some ⟨W.heap.size, 0, none⟩) n n) w' ∧ ReadsI .i64 w' (.slice (some ⟨W.heap.size, 0, none⟩) n n) (List.replicate n 0) ∧ New W w' := by
  obtain ⟨i3, hi3, hz0, hz1, hz2⟩ := info_parts info3n
  obtain ⟨w', hr, hown, hg⟩ := run_makeSlice_full (P := Try.prog) (w := W) W.heap.size 44 3 i3 _ 1 Try.underlying44 hi3 hz0 hz1 .i64 .i64 n (by omega) (by rw [hz2]; omega) (by unfold maxLen; omega) (Nat.le_refl _)
  refine ⟨w', hr, ?_, (Mods.refl _ W).grown hg (fun k hk => by cases hk)⟩
  have e : (madeCells (Value.cells (.int .i64 0)) (n * 1)).toList = (List.replicate n (0 : Int)).map (Value.int .i64) := by
    rw [Nat.mul_one]
    apply List.ext_getElem (by simp [madeCells])
    intro j h1 h2
    simp [madeCells, Value.cells, Nat.mod_one]
  rw [e] at hown
  have hl : (List.replicate n (0 : Int)).length = n := List.length_replicate
  have := ReadsI.ofOwns (k := .i64) (xs := List.replicate n 0) (by rw [hl]; exact hown)
  exact this
/-- A slice of one slice, made just now. -/
theorem made_list {W : World} {lv : Value} {l : List Dn} (h : ReadsE W lv l) : ReadsLs (W.alloc (.cells #[lv] 85)) (.slice (some ⟨W.heap.size, 0, none⟩) 1 1) [l] ∧ New W (W.alloc (.cells #[lv] 85)) := by
  have hN : New W (W.alloc (.cells #[lv] 85)) := (Mods.refl _ _).alloc _
  refine ⟨⟨by simp, _, 1, rfl, fun i hi => ?_⟩, hN⟩
  obtain rfl : i = 0 := by simpa using hi
  refine ⟨W.heap.size, 0, lv, rfl, ?_, h.new hN⟩
  rw [cell_of_row _ _ _ _ _ _ (World.alloc_heap_new W _)]
  rfl
theorem many_one {l : List Dn} (hl : l.length ≤ 5864062014805) : ∀ k, k ≤ [l].length → manyTo [l] k ≤ 4000000000000000000 := by
  intro k hk
  unfold manyTo manyL
  match k, hk with
  | 0, _ => simp
  | 1, _ => simp; omega
def momV (p : Dn) (i sl : Nat) (ok : Bool) : Mo := ⟨0, p, 2 * i + 1, 2 * i + 2, sl, ok⟩
theorem word_right {x : Nat} {l : List Dn} (h : rightB x = true) : ∀ i, rightB (wordA DS x l i) = true
  | 0 => h
  | i + 1 => DS_right _ _ (word_right h i)
theorem newOk_one {x : Nat} {l : List Dn} (h : newOk rightB x [l] = true) : rightB x = true ∧ allD l = true ∧ l.length ≤ 8 := by
  unfold newOk manyL at h
  simpa using h
set_option maxRecDepth 100000 in
set_option maxHeartbeats 4000000 in
theorem alone_no (x : Nat) (la : Option Addr) (lc : Nat) (l : List Dn) (w : World) (hx : x < 18446744073709551616) (hv : ReadsE w (.slice la l.length lc) l) (hno : newOk rightB x [l] = false) :
    Calls Try.prog 10 #[.int .u64 x, .slice la l.length lc] w fun e w' => e = .returned (.bool true) ∧ New w w' := by
  obtain ⟨hL, hN0⟩ := made_list hv
  have HC := Lib.hid (begun_S x _ [l] _ hx hL (many_one hv.1))
  rw [hno] at HC
  have HK := Lib.hid wakes_any
  obtain ⟨n, hn⟩ : ∃ n, l.length = n := ⟨_, rfl⟩
  rw [hn] at HC hN0 ⊢
  have HN0 := Lib.hid hN0
  clear hL hN0 hno hv hn
  go_enter Try.func10, Try.ntmps10
  go_wp2_with fail
  refine HC.out.mono ?_
  rintro e w1 ⟨v', rfl, hR, hN1⟩
  rw [if_neg (by decide : ¬ (false = true))] at hR
  obtain ⟨ata, atc, aha, ahc, alv, rfl, hR'⟩ := hR.slices
  clear hR
  have hone := mach_ones noneM.word noneM.clock ata aha noneM.ths.length atc noneM.hist.length ahc
  have hA2 : (w1.alloc (.cells #[.int .u64 0, .int .i64 0, .slice none 0 0, .slice none 0 0] 77)).heap[w1.heap.size]? = some (.cells #[.int .u64 0, .int .i64 0, .slice none 0 0, .slice none 0 0] 77 (0, 0)) := World.alloc_heap_new w1 _
  obtain ⟨hNm, hBm, _⟩ := made_mach hR'
  unfold Z77 at hNm hBm
  have HN := Lib.hid (HN0.out.trans (hN1.trans hNm))
  clear hN1 HC HN0 hNm hBm hR'
  unfold noneM at *
  go_wp2_with (refine op_skip rfl (run_store_row 77 (.tmp 5) (.tmp 23) rfl w1.heap.size rfl 77 [.int .u64 0, .int .i64 0, .slice none 0 0, .slice none 0 0] [.int .u64 (noneM.word : Nat), .int .i64 noneM.clock, .slice ata noneM.ths.length atc, .slice aha noneM.hist.length ahc] rfl hA2 info77 rfl hone) ?_)
  refine (HK.out _).mono ?_
  rintro e w2 ⟨rfl, hN2⟩
  have HN2 := Lib.hid (HN.out.trans hN2)
  clear hN2 hA2
  go_wp2_with fail
  go_ret
  exact ⟨rfl, HN2.out⟩
set_option maxRecDepth 100000 in
set_option maxHeartbeats 8000000 in
theorem alone_yes (x : Nat) (la : Option Addr) (lc : Nat) (l : List Dn) (w : World) (hx : x < 18446744073709551616) (hv : ReadsE w (.slice la l.length lc) l) (hin : InLs l) (hok : newOk rightB x [l] = true) :
    Calls Try.prog 10 #[.int .u64 x, .slice la l.length lc] w fun e w' => e = .returned (.bool true) ∧ New w w' := by
  obtain ⟨hL, hN0⟩ := made_list hv
  have HC := Lib.hid (begun_S x _ [l] _ hx hL (many_one hv.1))
  rw [hok, if_pos rfl] at HC
  obtain ⟨hrx, hall, h8⟩ := newOk_one hok
  have HK := Lib.hid wakes_any
  have HV := Lib.hid hv
  have Hin := Lib.hid hin
  have Hfacts := Lib.hid (And.intro hrx hall)
  have HNEW : Hid (∀ W, New w W → Calls Try.prog 48 #[.int .u64 x, .slice (some ⟨W.heap.size, 0, none⟩) 1 1] (W.alloc (.cells #[.slice la l.length lc] 85)) fun e w' => ∃ v', e = .returned (.tuple #[v', .bool true]) ∧ ReadsM w' v' (newM x [l]) ∧ New (W.alloc (.cells #[.slice la l.length lc] 85)) w') := Lib.hid (fun W hW => by
    have := new_S x _ [l] _ hx (made_list (hv.new hW)).1 (many_one hv.1)
    rw [hok, if_pos rfl] at this
    exact this)
  obtain ⟨n, hn⟩ : ∃ n, l.length = n := ⟨_, rfl⟩
  have Hn := Lib.hid hn
  rw [hn] at HC hN0 HNEW HV h8 ⊢
  have HN0 := Lib.hid hN0
  obtain ⟨m0, hm0⟩ : ∃ m, newM x [l] = m := ⟨_, rfl⟩
  have Hm0 := Lib.hid hm0
  rw [hm0] at HC HNEW
  clear hL hN0 hok hv hn hrx hall hm0 hin
  go_enter Try.func10, Try.ntmps10
  go_upto_region 2 with fail
  refine HC.out.mono ?_
  rintro e w1 ⟨v', rfl, hR, hN1⟩
  obtain ⟨ata, atc, aha, ahc, alv, rfl, hR'⟩ := hR.slices
  clear hR
  have hone := mach_ones m0.word m0.clock ata aha m0.ths.length atc m0.hist.length ahc
  have hA2 : (w1.alloc (.cells #[.int .u64 0, .int .i64 0, .slice none 0 0, .slice none 0 0] 77)).heap[w1.heap.size]? = some (.cells #[.int .u64 0, .int .i64 0, .slice none 0 0, .slice none 0 0] 77 (0, 0)) := World.alloc_heap_new w1 _
  obtain ⟨hNm, hBm, _⟩ := made_mach hR'
  unfold Z77 at hNm hBm
  have HNw := Lib.hid (HN0.out.trans hN1)
  clear hN1 HC HN0
  have hRm := hR'.new hNm
  clear hR'
  go_upto_region 2 with (refine op_skip rfl (run_store_row 77 (.tmp 5) (.tmp 23) rfl w1.heap.size rfl 77 [.int .u64 0, .int .i64 0, .slice none 0 0, .slice none 0 0] [.int .u64 (m0.word : Nat), .int .i64 m0.clock, .slice ata m0.ths.length atc, .slice aha m0.hist.length ahc] rfl hA2 info77 rfl hone) ?_)
  clear hA2 hone
  obtain ⟨W1, hW2⟩ : ∃ W, (w1.alloc (.cells #[.int .u64 0, .int .i64 0, .slice none 0 0, .slice none 0 0] 77)).setRow w1.heap.size #[.int .u64 (m0.word : Nat), .int .i64 m0.clock, .slice ata m0.ths.length atc, .slice aha m0.hist.length ahc] = W := ⟨_, rfl⟩
  obtain ⟨A, hB⟩ : ∃ B, w1.heap.size = B := ⟨_, rfl⟩
  rw [hW2] at hBm hRm hNm ⊢
  rw [hB] at hBm ⊢
  clear hW2 hB
  have HN := Lib.hid (HNw.out.trans hNm)
  clear hRm hNm hBm HNw
  go_wp2_with fail
  refine (HNEW.out _ HN.out).mono ?_
  rintro e w2 ⟨v', rfl, hR, hN1⟩
  obtain ⟨bta, btc, bha, bhc, blv, rfl, hR'⟩ := hR.slices
  clear hR
  have hone := mach_ones m0.word m0.clock bta bha m0.ths.length btc m0.hist.length bhc
  have hA2 : (w2.alloc (.cells #[.int .u64 0, .int .i64 0, .slice none 0 0, .slice none 0 0] 77)).heap[w2.heap.size]? = some (.cells #[.int .u64 0, .int .i64 0, .slice none 0 0, .slice none 0 0] 77 (0, 0)) := World.alloc_heap_new w2 _
  obtain ⟨hNm, hBm, _⟩ := made_mach hR'
  unfold Z77 at hNm hBm
  have HNw := Lib.hid (HN.out.trans (((Mods.refl _ _).alloc _).trans hN1))
  clear hN1 HNEW HN
  have hRm := hR'.new hNm
  clear hR'
  go_upto_region 5 with (refine op_skip rfl (run_store_row 77 (.tmp 7) (.tmp 33) rfl w2.heap.size rfl 77 [.int .u64 0, .int .i64 0, .slice none 0 0, .slice none 0 0] [.int .u64 (m0.word : Nat), .int .i64 m0.clock, .slice bta m0.ths.length btc, .slice bha m0.hist.length bhc] rfl hA2 info77 rfl hone) ?_)
  clear hA2 hone
  obtain ⟨W2, hW2⟩ : ∃ W, (w2.alloc (.cells #[.int .u64 0, .int .i64 0, .slice none 0 0, .slice none 0 0] 77)).setRow w2.heap.size #[.int .u64 (m0.word : Nat), .int .i64 m0.clock, .slice bta m0.ths.length btc, .slice bha m0.hist.length bhc] = W := ⟨_, rfl⟩
  obtain ⟨B, hB⟩ : ∃ B, w2.heap.size = B := ⟨_, rfl⟩
  rw [hW2] at hBm hRm hNm ⊢
  rw [hB] at hBm ⊢
  clear hW2 hB
  have HN := Lib.hid (HNw.out.trans hNm)
  clear hNm HNw
  have n0 : (0 : Int) ≤ 2 * (n : Int) := by omega
  have n1 : 2 * (n : Int) ≤ 16 := by omega
  obtain ⟨WP, hms, hPi, hNP⟩ := made_noughts W2 (2 * n) (by omega)
  have e2n : ((2 * n : Nat) : Int) = 2 * (n : Int) := by simp
  rw [e2n] at hms
  have HP := Lib.hid hPi
  have hBP := hBm.new hNP
  have HRP := Lib.hid (hRm.new hNP)
  have HNP := Lib.hid (HN.out.trans hNP)
  clear hPi hNP hBm hRm HN e2n
  unfold MB at hBP
  go_upto_region 6 with fail
  clear hms
  have HRUN : Hid (Calls Try.prog 53 #[.agg #[.int .u64 (m0.word : Nat), .int .i64 m0.clock, .slice bta m0.ths.length btc, .slice bha m0.hist.length bhc], .slice (some ⟨W2.heap.size, 0, none⟩) (2 * n) (2 * n)] WP fun e w' => ∃ v', e = .returned (.tuple #[v', .int .i64 ((2 * n : Nat) : Int)]) ∧ ReadsM w' v' (aloneM DS x l n) ∧ New WP w') := Lib.hid (by
    have hz : RunPost WP (aloneM DS x l n, 2 * n) = fun e w' => ∃ v', e = .returned (.tuple #[v', .int .i64 ((2 * n : Nat) : Int)]) ∧ ReadsM w' v' (aloneM DS x l n) ∧ New WP w' := rfl
    have hr := alone_run (D := DS) (R := rightB) DS_right DS_no Hfacts.out.1 Hfacts.out.2 (by rw [Hn.out]; exact h8) n 0 (by rw [Hn.out]; omega)
    rw [Hn.out] at hr
    have h0 : aloneM DS x l 0 = m0 := by rw [← Hm0.out]; rfl
    rw [← hz, ← hr, h0]
    refine run_S _ _ m0 _ WP ⟨_, _, _, rfl, HRP.out⟩ HP.out ?_ ?_
    · rw [← Hm0.out]
      exact (InMH.new hx (fun l' hl' => by simp at hl'; subst hl'; exact Hin.out)).1
    · rw [← Hm0.out, List.length_replicate]
      show 0 + _ < _
      omega)
  obtain ⟨m1, hm1⟩ : ∃ m, aloneM DS x l n = m := ⟨_, rfl⟩
  have Hm1 := Lib.hid hm1
  rw [hm1] at HRUN
  clear hm1 HP HRP
  go_upto_region 7 with (refine op_value rfl (run_load_row 77 (.tmp 7) rfl B rfl 77 #[.int .u64 (m0.word : Nat), .int .i64 m0.clock, .slice bta m0.ths.length btc, .slice bha m0.hist.length bhc] (0, 0) _ hBP Try.underlying77 rfl info77) ?_)
  refine HRUN.out.mono ?_
  rintro e w3 ⟨v', rfl, hR, hN1⟩
  obtain ⟨cta, ctc, cha, chc, clv, rfl, hR'⟩ := hR.slices
  clear hR
  have hone := mach_ones m1.word m1.clock cta cha m1.ths.length ctc m1.hist.length chc
  have hA2 : (w3.alloc (.cells #[.int .u64 0, .int .i64 0, .slice none 0 0, .slice none 0 0] 77)).heap[w3.heap.size]? = some (.cells #[.int .u64 0, .int .i64 0, .slice none 0 0, .slice none 0 0] 77 (0, 0)) := World.alloc_heap_new w3 _
  obtain ⟨hNm, hBm, _⟩ := made_mach hR'
  unfold Z77 at hNm hBm
  have HNw := Lib.hid (HNP.out.trans hN1)
  clear hN1 HRUN HNP hBP
  have hRm := hR'.new hNm
  clear hR'
  go_upto_region 7 with (refine op_skip rfl (run_store_row 77 (.tmp 10) (.tmp 43) rfl w3.heap.size rfl 77 [.int .u64 0, .int .i64 0, .slice none 0 0, .slice none 0 0] [.int .u64 (m1.word : Nat), .int .i64 m1.clock, .slice cta m1.ths.length ctc, .slice cha m1.hist.length chc] rfl hA2 info77 rfl hone) ?_)
  clear hA2 hone
  obtain ⟨W3, hW2⟩ : ∃ W, (w3.alloc (.cells #[.int .u64 0, .int .i64 0, .slice none 0 0, .slice none 0 0] 77)).setRow w3.heap.size #[.int .u64 (m1.word : Nat), .int .i64 m1.clock, .slice cta m1.ths.length ctc, .slice cha m1.hist.length chc] = W := ⟨_, rfl⟩
  obtain ⟨C, hB⟩ : ∃ B, w3.heap.size = B := ⟨_, rfl⟩
  rw [hW2] at hBm hRm hNm ⊢
  rw [hB] at hBm ⊢
  clear hW2 hB
  have HN := Lib.hid (HNw.out.trans hNm)
  have HR1 := Lib.hid hRm
  have eh : m1.hist.length = n := by rw [← Hm1.out]; exact seqH_len _ _ _ _
  have ec : m1.clock = 2 * (n : Int) := by rw [← Hm1.out]; rfl
  have et : m1.ths.length = 1 := by rw [← Hm1.out]; rfl
  have ew : m1.word = wordA DS x l n := by rw [← Hm1.out]; rfl
  have HB1 := Lib.hid hBm
  have k1 := hBm.c1
  have k3 := hBm.c3
  rw [ec] at k1
  rw [eh] at k3
  have Hm1f := Lib.hid (And.intro eh (And.intro ec (And.intro et ew)))
  clear hNm HNw hBm hRm eh ec et ew
  go_upto_region 9 with fail
  go_wp2_with fail
  clear k1
  go_loopw [12, 13] (fun c12 c13 wr => ∃ i : Nat, i ≤ n ∧ c12 = .int .u64 (wordA DS x l i : Nat) ∧ c13 = .int .i64 (i : Nat) ∧ New W3 wr) (fun _ c _ => n - (intOf c).toNat)
  case atStart => exact ⟨0, Nat.zero_le _, rfl, rfl, Mods.refl _ _⟩
  case round =>
    obtain ⟨i, hi, rfl, rfl, hNr⟩ := hrel
    replace k3 := hNr.cell k3 id
    by_cases hin' : i < n
    · have hid : decide ((i : Int) < (n : Int)) = true := decide_eq_true (by omega)
      have i0 : (0 : Int) ≤ (i : Int) := by omega
      have i1 : (i : Int) < (n : Int) := by omega
      obtain ⟨_, a0, c0, he, hc⟩ := (HV.out.new HN.out).new hNr
      injection he with he1 he2 he3
      subst he1
      obtain ⟨b, o, rfl, hrd⟩ := hc i (by rw [Hn.out]; exact hin')
      obtain ⟨p, hp⟩ : ∃ p, l.getD i .no = p := ⟨_, rfl⟩
      rw [hp] at hrd
      obtain ⟨y, hy⟩ : ∃ y, wordA DS x l i = y := ⟨_, rfl⟩
      have hyr : rightB y = true := by rw [← hy]; exact word_right Hfacts.out.1 i
      have HD := Lib.hid (does_refR y hyr p)
      obtain ⟨⟨z, sl, ok⟩, hr⟩ : ∃ r, DS y p = r := ⟨_, rfl⟩
      rw [hr] at HD
      have hword : wordA DS x l (i + 1) = z := by
        show (DS (wordA DS x l i) (l.getD i .no)).1 = z
        rw [hp, hy, hr]
      have hmom : m1.hist.getD i .no = momV p i sl ok := by
        rw [← Hm1.out]
        show (seqH DS x l n).getD i .no = _
        rw [seqH_at (D := DS) x l hin']
        unfold momA momV
        rw [hp, hy, hr]
      have Hw := Lib.hid (And.intro hword hmom)
      rw [hy]
      obtain ⟨_, ha0, hc0, hhe, hhc⟩ := (HR1.out.new hNr).hist
      injection hhe with hhe1 hhe2 hhe3
      subst hhe1
      obtain ⟨hb, ho, rfl, hrh⟩ := hhc i (by rw [Hm1f.out.1]; exact hin')
      unfold mosF at hrh
      rw [hmom] at hrh
      have Hrh := Lib.hid hrh
      have Hrd := Lib.hid hrd
      clear hp hy hyr hr hword hmom hc hhc hrh he2 he3 hhe2 hhe3
      unfold ansV at HD
      go_upto_region 13 with fail
      go_wp2_with (refine op_value rfl (run_load_mid 93 (.tmp 78) rfl b (o + i * 3) rfl p.cs _ hrd Try.underlying93 rfl info93) ?_)
      refine (HD.out _).mono ?_
      rintro e wd ⟨rfl, hNd⟩
      have hA9 : (wd.alloc (.cells #[.int .i64 0, .bool false] 89)).heap[wd.heap.size]? = some (.cells #[.int .i64 0, .bool false] 89 (0, 0)) := World.alloc_heap_new wd _
      have hone9 : ∀ u ∈ ([.int .i64 (sl : Nat), .bool ok] : List Value), u.oneCell' = true := by
        intro u hu
        simp only [List.mem_cons, List.not_mem_nil, or_false] at hu
        rcases hu with rfl | rfl <;> rfl
      have hNl : New wd ((wd.alloc (.cells #[.int .i64 0, .bool false] 89)).setRow wd.heap.size #[.int .i64 (sl : Nat), .bool ok]) := ((Mods.refl _ wd).alloc _).setRow (Nat.le_refl _) _
      have hL9 := setRow_heap _ wd.heap.size _ #[.int .i64 (sl : Nat), .bool ok] 89 (0, 0) hA9
      go_upto_region 15 with (refine op_skip rfl (run_store_row 89 (.tmp 15) (.tmp 82) rfl wd.heap.size rfl 89 [.int .i64 0, .bool false] [.int .i64 (sl : Nat), .bool ok] rfl hA9 info89 rfl hone9) ?_)
      clear hA9 hone9
      replace k3 := (hNd.trans hNl).cell k3 id
      have hH : ((wd.alloc (.cells #[.int .i64 0, .bool false] 89)).setRow wd.heap.size #[.int .i64 (sl : Nat), .bool ok]).rangeAt hb (ho + i * 8) (momV p i sl ok).cs := fun j v hj => (hNd.trans hNl).cell (Hrh.out j v hj) id
      have hD : ((wd.alloc (.cells #[.int .i64 0, .bool false] 89)).setRow wd.heap.size #[.int .i64 (sl : Nat), .bool ok]).rangeAt b (o + i * 3) p.cs := fun j v hj => (hNd.trans hNl).cell (Hrd.out j v hj) id
      have hNw := hNr.trans (hNd.trans hNl)
      obtain ⟨W5, hW5⟩ : ∃ W, (wd.alloc (.cells #[.int .i64 0, .bool false] 89)).setRow wd.heap.size #[.int .i64 (sl : Nat), .bool ok] = W := ⟨_, rfl⟩
      obtain ⟨D, hD9⟩ : ∃ D, wd.heap.size = D := ⟨_, rfl⟩
      rw [hW5] at k3 hH hD hNw hL9 ⊢
      rw [hD9] at hL9 ⊢
      clear hW5 hD9 hNd hNl HD hrd Hrh Hrd hNr
      have q1 : IntKind.i64.wrap (2 * (i : Int)) = 2 * (i : Int) := wrap_small (by omega) (by omega)
      have q2 : IntKind.i64.wrap (2 * (i : Int) + 1) = 2 * (i : Int) + 1 := wrap_small (by omega) (by omega)
      have q3 : IntKind.i64.wrap (2 * (i : Int) + 2) = 2 * (i : Int) + 2 := wrap_small (by omega) (by omega)
      refine piece (fun a a' W' => a' = (a.put (some 84) (.pointer (some ⟨C, 3, none⟩)) |>.put (some 85) (.slice (some ⟨hb, ho, none⟩) n chc) |>.put (some 86) (.int .i64 (i : Nat)) |>.put (some 87) (.pointer (some ⟨hb, ho + i * 8, none⟩)) |>.put (some 88) (.agg #[.int .i64 0, .int .u8 (p.d : Nat), .int .i64 p.s, .int .i64 p.u, .int .i64 (2 * (i : Int) + 1), .int .i64 (2 * (i : Int) + 2), .int .i64 (sl : Nat), .bool ok]) |>.put (some 89) (.slice (some ⟨b, o, none⟩) n lc) |>.put (some 90) (.int .i64 (i : Nat)) |>.put (some 91) (.pointer (some ⟨b, o + i * 3, none⟩)) |>.put (some 92) (.agg p.cs.toArray) |>.put (some 93) (.int .i64 (i : Nat)) |>.put (some 94) (.int .i64 (2 * (i : Int))) |>.put (some 95) (.int .i64 (2 * (i : Int) + 1)) |>.put (some 96) (.int .i64 (i : Nat)) |>.put (some 97) (.int .i64 (2 * (i : Int))) |>.put (some 98) (.int .i64 (2 * (i : Int) + 2)) |>.put (some 99) (.agg #[.int .i64 (sl : Nat), .bool ok]) |>.put (some 100) (.agg #[.int .i64 0, .int .u8 (p.d : Nat), .int .i64 p.s, .int .i64 p.u, .int .i64 (2 * (i : Int) + 1), .int .i64 (2 * (i : Int) + 2), .int .i64 (sl : Nat), .bool ok]) |>.put (some 101) (.bool (!(mEq (momV p i sl ok) (momV p i sl ok))))) ∧ W' = W5.drew) ?_ ?_
      · refine wp_region_held (by kernel_rfl) (S := fun W => W = W5.drew) ?_
        show wpAnyH _ _ _ _ _ _ _ _ W5.drew
        replace k3 := (Mods.refl (fun _ => False) W5).drew.cell k3 id
        replace hH : W5.drew.rangeAt hb (ho + i * 8) (momV p i sl ok).cs := fun j v hj => (Mods.refl (fun _ => False) W5).drew.cell (hH j v hj) id
        replace hD : W5.drew.rangeAt b (o + i * 3) p.cs := fun j v hj => (Mods.refl (fun _ => False) W5).drew.cell (hD j v hj) id
        have hA9 := (Mods.refl (fun _ => False) W5).drew.heap hL9 id
        obtain ⟨Wd, hWd⟩ : ∃ Wd, W5.drew = Wd := ⟨_, rfl⟩
        rw [hWd] at k3 hH hD hA9 ⊢
        have hS : Wd = Wd := rfl
        clear hWd hNw hL9
        refine anyH_take 0 (some 84) (.pointer (some ⟨C, 3, none⟩)) rfl rfl (by kernel_rfl) (by kernel_rfl) (by kernel_rfl) (fun _ _ _ h => h.elim) (.inl ⟨by rfl, fun W hW => by go_simp⟩) hS ?_
        simp only [Act.put, List.setIfInBounds_toArray, List.set_cons_succ, List.set_cons_zero]
        refine anyH_take 1 (some 85) (.slice (some ⟨hb, ho, none⟩) n chc) rfl rfl (by kernel_rfl) (by kernel_rfl) (by kernel_rfl) (fun _ _ _ h => h.elim) (.inl ⟨by rfl, fun W hW => by have e : W = Wd := hW; subst e; have := k3; go_simp⟩) hS ?_
        simp only [Act.put, List.setIfInBounds_toArray, List.set_cons_succ, List.set_cons_zero]
        refine anyH_take 2 (some 86) (.int .i64 (i : Nat)) rfl rfl (by kernel_rfl) (by kernel_rfl) (by kernel_rfl) (fun _ _ _ h => h.elim) (.inl ⟨by rfl, fun W hW => by go_simp⟩) hS ?_
        simp only [Act.put, List.setIfInBounds_toArray, List.set_cons_succ, List.set_cons_zero]
        refine anyH_take 3 (some 87) (.pointer (some ⟨hb, ho + i * 8, none⟩)) rfl rfl (by kernel_rfl) (by kernel_rfl) (by kernel_rfl) (fun _ _ _ h => h.elim) (.inl ⟨by rfl, fun W hW => by go_simp⟩) hS ?_
        simp only [Act.put, List.setIfInBounds_toArray, List.set_cons_succ, List.set_cons_zero]
        refine anyH_take 4 (some 88) (.agg #[.int .i64 0, .int .u8 (p.d : Nat), .int .i64 p.s, .int .i64 p.u, .int .i64 (2 * (i : Int) + 1), .int .i64 (2 * (i : Int) + 2), .int .i64 (sl : Nat), .bool ok]) rfl rfl (by kernel_rfl) (by kernel_rfl) (by kernel_rfl) (fun _ _ _ h => h.elim) (.inl ⟨by rfl, fun W hW => by have e : W = Wd := hW; subst e; exact run_load_mid 95 (.tmp 87) rfl hb (ho + i * 8) rfl (momV p i sl ok).cs _ hH Try.underlying95 rfl info95⟩) hS ?_
        simp only [Act.put, List.setIfInBounds_toArray, List.set_cons_succ, List.set_cons_zero]
        refine anyH_take 5 (some 89) (.slice (some ⟨b, o, none⟩) n lc) rfl rfl (by kernel_rfl) (by kernel_rfl) (by kernel_rfl) (fun _ _ _ h => h.elim) (.inl ⟨by rfl, fun W hW => by go_simp⟩) hS ?_
        simp only [Act.put, List.setIfInBounds_toArray, List.set_cons_succ, List.set_cons_zero]
        refine anyH_take 6 (some 90) (.int .i64 (i : Nat)) rfl rfl (by kernel_rfl) (by kernel_rfl) (by kernel_rfl) (fun _ _ _ h => h.elim) (.inl ⟨by rfl, fun W hW => by go_simp⟩) hS ?_
        simp only [Act.put, List.setIfInBounds_toArray, List.set_cons_succ, List.set_cons_zero]
        refine anyH_take 7 (some 91) (.pointer (some ⟨b, o + i * 3, none⟩)) rfl rfl (by kernel_rfl) (by kernel_rfl) (by kernel_rfl) (fun _ _ _ h => h.elim) (.inl ⟨by rfl, fun W hW => by go_simp⟩) hS ?_
        simp only [Act.put, List.setIfInBounds_toArray, List.set_cons_succ, List.set_cons_zero]
        refine anyH_take 8 (some 92) (.agg p.cs.toArray) rfl rfl (by kernel_rfl) (by kernel_rfl) (by kernel_rfl) (fun _ _ _ h => h.elim) (.inl ⟨by rfl, fun W hW => by have e : W = Wd := hW; subst e; exact run_load_mid 93 (.tmp 91) rfl b (o + i * 3) rfl p.cs _ hD Try.underlying93 rfl info93⟩) hS ?_
        simp only [Act.put, List.setIfInBounds_toArray, List.set_cons_succ, List.set_cons_zero]
        refine anyH_take 9 (some 93) (.int .i64 (i : Nat)) rfl rfl (by kernel_rfl) (by kernel_rfl) (by kernel_rfl) (fun _ _ _ h => h.elim) (.inl ⟨by rfl, fun W hW => by go_simp⟩) hS ?_
        simp only [Act.put, List.setIfInBounds_toArray, List.set_cons_succ, List.set_cons_zero]
        refine anyH_take 10 (some 94) (.int .i64 (2 * (i : Int))) rfl rfl (by kernel_rfl) (by kernel_rfl) (by kernel_rfl) (fun _ _ _ h => h.elim) (.inl ⟨by rfl, fun W hW => by go_simp⟩) hS ?_
        simp only [Act.put, List.setIfInBounds_toArray, List.set_cons_succ, List.set_cons_zero]
        refine anyH_take 11 (some 95) (.int .i64 (2 * (i : Int) + 1)) rfl rfl (by kernel_rfl) (by kernel_rfl) (by kernel_rfl) (fun _ _ _ h => h.elim) (.inl ⟨by rfl, fun W hW => by go_simp⟩) hS ?_
        simp only [Act.put, List.setIfInBounds_toArray, List.set_cons_succ, List.set_cons_zero]
        refine anyH_take 12 (some 96) (.int .i64 (i : Nat)) rfl rfl (by kernel_rfl) (by kernel_rfl) (by kernel_rfl) (fun _ _ _ h => h.elim) (.inl ⟨by rfl, fun W hW => by go_simp⟩) hS ?_
        simp only [Act.put, List.setIfInBounds_toArray, List.set_cons_succ, List.set_cons_zero]
        refine anyH_take 13 (some 97) (.int .i64 (2 * (i : Int))) rfl rfl (by kernel_rfl) (by kernel_rfl) (by kernel_rfl) (fun _ _ _ h => h.elim) (.inl ⟨by rfl, fun W hW => by go_simp⟩) hS ?_
        simp only [Act.put, List.setIfInBounds_toArray, List.set_cons_succ, List.set_cons_zero]
        refine anyH_take 14 (some 98) (.int .i64 (2 * (i : Int) + 2)) rfl rfl (by kernel_rfl) (by kernel_rfl) (by kernel_rfl) (fun _ _ _ h => h.elim) (.inl ⟨by rfl, fun W hW => by go_simp⟩) hS ?_
        simp only [Act.put, List.setIfInBounds_toArray, List.set_cons_succ, List.set_cons_zero]
        refine anyH_take 15 (some 99) (.agg #[.int .i64 (sl : Nat), .bool ok]) rfl rfl (by kernel_rfl) (by kernel_rfl) (by kernel_rfl) (fun _ _ _ h => h.elim) (.inl ⟨by rfl, fun W hW => by have e : W = Wd := hW; subst e; exact run_load_row 89 (.tmp 15) rfl D rfl 89 #[.int .i64 (sl : Nat), .bool ok] (0, 0) _ hA9 Try.underlying89 rfl info89⟩) hS ?_
        simp only [Act.put, List.setIfInBounds_toArray, List.set_cons_succ, List.set_cons_zero]
        refine anyH_take 16 (some 100) (.agg #[.int .i64 0, .int .u8 (p.d : Nat), .int .i64 p.s, .int .i64 p.u, .int .i64 (2 * (i : Int) + 1), .int .i64 (2 * (i : Int) + 2), .int .i64 (sl : Nat), .bool ok]) rfl rfl (by kernel_rfl) (by kernel_rfl) (by kernel_rfl) (fun _ _ _ h => h.elim) (.inl ⟨by rfl, fun W hW => by unfold Dn.cs; go_simp⟩) hS ?_
        simp only [Act.put, List.setIfInBounds_toArray, List.set_cons_succ, List.set_cons_zero]
        refine anyH_take 17 (some 101) (.bool (!(mEq (momV p i sl ok) (momV p i sl ok)))) rfl rfl (by kernel_rfl) (by kernel_rfl) (by kernel_rfl) (fun _ _ _ h => h.elim) (.inl ⟨by rfl, fun W hW => by exact run_neq_moment (.tmp 88) (.tmp 100) rfl (momV p i sl ok) (momV p i sl ok) rfl rfl⟩) hS ?_
        simp only [Act.put, List.setIfInBounds_toArray, List.set_cons_succ, List.set_cons_zero]
        refine wpAnyH_done (by kernel_rfl) ?_ _
        exact ⟨rfl, rfl⟩
      · rintro a' W' ⟨rfl, rfl⟩
        simp only [Act.put, List.setIfInBounds_toArray, List.set_cons_succ, List.set_cons_zero]
        rw [mEq_refl]
        have hnx : New W3 W5.drew := hNw.drew
        clear hNw hH hD hL9 k3 q1 q2 q3
        go_wp2_with fail
        go_roundw
        case rel => exact ⟨i + 1, by omega, by rw [Hw.out.1], by go_num, hnx⟩
        case measure => simp [intOf]; omega
    · obtain rfl : n = i := by omega
      have hid : decide ((n : Int) < (n : Int)) = false := decide_eq_false (by omega)
      have hNf := HN.out.trans hNr
      have hB1 := HB1.out.new hNr
      have HST : Hid (∀ W, New wr W → Calls Try.prog 49 #[.agg #[.int .u64 (m1.word : Nat), .int .i64 m1.clock, .slice cta m1.ths.length ctc, .slice cha m1.hist.length chc], .int .i64 0] W fun e w' => ∃ v', e = .returned (.tuple #[v', .bool false]) ∧ ReadsM w' v' m1 ∧ New W w') := Lib.hid (fun W hW => by
        have hno : stepM DS rightB m1 0 = (m1, false) := by
          rw [← Hm1.out]
          have := alone_end (R := rightB) (D := DS) (w := x) (l := l)
          rw [Hn.out] at this
          unfold stepM
          rw [this]
          simp
        have hz : StepPost W m1 (m1, false) = fun e w' => ∃ v', e = .returned (.tuple #[v', .bool false]) ∧ ReadsM w' v' m1 ∧ New W w' := rfl
        rw [← hz, ← hno]
        refine step_S _ m1 0 W ⟨_, _, _, rfl, (HR1.out.new hNr).new hW⟩ ?_ (by rw [Hm1f.out.1]; omega)
        have h0 := alone_run (D := DS) (R := rightB) DS_right DS_no Hfacts.out.1 Hfacts.out.2 (by rw [Hn.out]; exact h8) n 0 (by rw [Hn.out]; omega)
        rw [Hn.out] at h0
        have := (InMH.new hx (fun l' hl' => by simp at hl'; subst hl'; exact Hin.out) : InMH (newM x [l])).1.run (List.replicate (2 * n) 0)
        rw [show newM x [l] = aloneM DS x l 0 from rfl, h0] at this
        rw [← Hm1.out]
        exact this)
      have k0 := hB1.c0
      have HNf := Lib.hid hNf
      have HB1' := Lib.hid hB1
      rw [Hm1f.out.2.2.2] at k0
      obtain ⟨y, hy⟩ : ∃ y, wordA DS x l n = y := ⟨_, rfl⟩
      rw [hy] at k0 ⊢
      have hB1r : wr.heap[C]? = some (.cells #[.int .u64 (m1.word : Nat), .int .i64 m1.clock, .slice cta m1.ths.length ctc, .slice cha m1.hist.length chc] 77 (0, 0)) := hB1
      clear hNf hB1 k3 hy hNr
      go_upto_region 17 with fail
      go_wp2_with (refine op_value rfl (run_load_row 77 (.tmp 10) rfl C rfl 77 #[.int .u64 (m1.word : Nat), .int .i64 m1.clock, .slice cta m1.ths.length ctc, .slice cha m1.hist.length chc] (0, 0) _ hB1r Try.underlying77 rfl info77) ?_)
      refine (HST.out _ (Mods.refl _ _)).mono ?_
      rintro e w8 ⟨v', rfl, hR, hN1⟩
      obtain ⟨dta, dtc, dha, dhc, dlv, rfl, hR'⟩ := hR.slices
      clear hR
      have hone := mach_ones m1.word m1.clock dta dha m1.ths.length dtc m1.hist.length dhc
      have hA2 : (w8.alloc (.cells #[.int .u64 0, .int .i64 0, .slice none 0 0, .slice none 0 0] 77)).heap[w8.heap.size]? = some (.cells #[.int .u64 0, .int .i64 0, .slice none 0 0, .slice none 0 0] 77 (0, 0)) := World.alloc_heap_new w8 _
      obtain ⟨hNm, hBm, _⟩ := made_mach hR'
      unfold Z77 at hNm hBm
      have HNw := Lib.hid (HNf.out.trans hN1)
      replace k0 := hN1.cell k0 id
      clear hN1 HST HNf hB1r
      have hRm := hR'.new hNm
      clear hR'
      go_upto_region 18 with (refine op_skip rfl (run_store_row 77 (.tmp 16) (.tmp 105) rfl w8.heap.size rfl 77 [.int .u64 0, .int .i64 0, .slice none 0 0, .slice none 0 0] [.int .u64 (m1.word : Nat), .int .i64 m1.clock, .slice dta m1.ths.length dtc, .slice dha m1.hist.length dhc] rfl hA2 info77 rfl hone) ?_)
      clear hA2 hone
      obtain ⟨W8, hW2⟩ : ∃ W, (w8.alloc (.cells #[.int .u64 0, .int .i64 0, .slice none 0 0, .slice none 0 0] 77)).setRow w8.heap.size #[.int .u64 (m1.word : Nat), .int .i64 m1.clock, .slice dta m1.ths.length dtc, .slice dha m1.hist.length dhc] = W := ⟨_, rfl⟩
      obtain ⟨E, hB⟩ : ∃ B, w8.heap.size = B := ⟨_, rfl⟩
      rw [hW2] at hBm hRm hNm ⊢
      rw [hB] at hBm ⊢
      clear hW2 hB
      have HN8 := Lib.hid (HNw.out.trans hNm)
      replace k0 := hNm.cell k0 id
      clear hNm HNw hBm hRm
      go_wp2_with fail
      refine (HK.out _).mono ?_
      rintro e w9 ⟨rfl, hN9⟩
      have HN9 := Lib.hid (HN8.out.trans hN9)
      clear hN9 k0
      go_wp2_with fail
      go_ret
      exact ⟨rfl, HN9.out⟩
end Go.Proofs.Ytkjloeefcaadlaa
